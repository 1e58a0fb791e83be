/-
  THE EXECUTOR IS SOUND: arithmetic, plain and symbolic.
-/
import Derived.Test.YtdngmncaohgacaaDoorAm8
import Derived.Test.YtdngmncaohgacaaDoorAm5i
set_option linter.unusedSectionVars false
set_option linter.unusedSimpArgs false
set_option linter.unusedVariables false
set_option linter.constructorNameAsVariable false
namespace Go.Am

section
variable [Val] {ρ : List Int}

/-- The meaning of symbolic numbers, by the values of the variables. -/
def Means (ρ : List Int) : Prop := ∀ cs, Val.num cs = Lin.eval (coefs cs) ρ

theorem linOf_ok (hv : Means ρ) {v : Value} {l : Lin} (h : linOf v = some l) : plain v = true ∧ ∃ k, kindV v = some k ∧ den v = .int k (l.eval ρ) := by
  unfold linOf at h
  split at h
  · rename_i k n
    cases h
    exact ⟨rfl, k, rfl, by simp [den, den1, Lin.eval, dot]⟩
  · rename_i vs
    split at h
    · rename_i cs e
      split at h
      · rename_i hk
        cases h
        obtain ⟨k, hk⟩ := Option.isSome_iff_exists.1 hk
        refine ⟨by simp [plain, plain1, isSym, e, hk], k, by simp [kindV, e, hk], ?_⟩
        simp [den, den1, e, hk, hv cs]
      · cases h
    · cases h
  · cases h

theorem coefs_mk (k : IntKind) (l : Lin) : coefs ⟨l.map (.int k)⟩ = l := by
  simp [coefs, Function.comp_def]

theorem fits_between {k : IntKind} {a b c : Int} (ha : fits k a = true) (hb : fits k b = true) (h1 : a ≤ c) (h2 : c ≤ b) : k.wrap c = c := by
  obtain ⟨a1, a2, _⟩ := fits_iff ha
  obtain ⟨_, _, b3⟩ := fits_iff hb
  refine fits_wrap ?_
  cases c with
  | ofNat n => simp only [fits, Nat.ble_eq]; have : (Int.ofNat n) = (n : Int) := rfl; omega
  | negSucc n =>
    have hs : k.signed = true := by
      cases hk : k.signed with
      | true => rfl
      | false =>
        have := a2 hk
        have : (0 : Int) ≤ Int.negSucc n := Int.le_trans this h1
        simp at this
    have := a1 hs
    simp only [fits, hs, Bool.true_and, Nat.ble_eq]
    have e : Int.negSucc n = -((n : Int) + 1) := by rw [Int.negSucc_eq]
    omega

/-- A value that stands for a number of a kind. -/
def Num (v : Value) (k : IntKind) (n : Int) : Prop := plain v = true ∧ den v = .int k n

theorem finK_ok (hv : Means ρ) {Γ : Ctx} {k : IntKind} {l : Lin} {K : Ctx → Value → Bool} (h : finK Γ k l K = true) (hs : Sat Γ ρ) :
    ∃ v, K Γ v = true ∧ Num v k (l.eval ρ) ∧ k.wrap (l.eval ρ) = l.eval ρ := by
  unfold finK at h
  rw [forceL_eq] at h
  rw [← eval_trim l ρ]
  generalize trim l = m at h ⊢
  split at h
  · refine ⟨_, h, ⟨rfl, rfl⟩, ?_⟩
    exact fits_wrap (by simp [Lin.eval, fits])
  · rename_i c
    split at h
    · rename_i hf
      refine ⟨_, h, ⟨rfl, ?_⟩, ?_⟩
      · simp [den, den1, Lin.eval, dot]
      · simp only [Lin.eval, dot, Int.add_zero]; exact fits_wrap hf
    · cases h
  · rename_i c m hm
    split at h
    · rename_i hf
      simp only [Bool.and_eq_true] at hf
      have hi := ivOf_ok hs (c :: m)
      have hk : symKind ⟨(c :: m).map (.int k)⟩ = some k := rfl
      refine ⟨_, h, ⟨?_, ?_⟩, fits_between hf.1 hf.2 hi.1 hi.2⟩
      · simp [plain, plain1, isSym, Am.scalar, symKind]
      · have hn := hv ⟨(c :: m).map (.int k)⟩
        rw [coefs_mk] at hn
        simp only [den, den1, hk]
        rw [hn]
    · cases h

theorem signK_ok {Γ : Ctx} {l : Lin} {K : Ctx → Bool → Bool} (h : signK Γ l K = true) (hs : Sat Γ ρ) : ∃ Γ', Sat Γ' ρ ∧ K Γ' (decide (l.eval ρ < 0)) = true := by
  have hi := ivOf_ok hs l
  unfold signK at h
  simp only at h
  split at h
  · rename_i h1
    have := leI_iff.1 h1
    rw [decide_eq_true (by omega)]
    exact ⟨Γ, hs, h⟩
  · rename_i h1 _
    have := leI_iff.1 h1
    rw [decide_eq_false (by omega)]
    exact ⟨Γ, hs, h⟩
  · split at h
    · rename_i h1
      by_cases hl : l.eval ρ < 0
      · rw [decide_eq_true hl]
        exact refineK_ok h1 hs hi.1 (by omega)
      · rw [decide_eq_false hl]
        exact refineK_ok h hs (by omega) hi.2
    · cases h

theorem zeroK_ok {Γ : Ctx} {l : Lin} {K : Ctx → Bool → Bool} (h : zeroK Γ l K = true) (hs : Sat Γ ρ) : ∃ Γ', Sat Γ' ρ ∧ K Γ' (decide (l.eval ρ = 0)) = true := by
  have hi := ivOf_ok hs l
  unfold zeroK at h
  simp only at h
  split at h
  · rename_i h1
    simp only [Bool.or_eq_true, leI_iff] at h1
    rw [decide_eq_false (by omega)]
    exact ⟨Γ, hs, h⟩
  · split at h
    · rename_i h1
      simp only [Bool.and_eq_true, leI_iff] at h1
      rw [decide_eq_true (by omega)]
      exact ⟨Γ, hs, h⟩
    · split at h
      · rename_i h1
        split at h
        · rename_i h2
          by_cases hl : l.eval ρ = 0
          · rw [decide_eq_true hl]
            exact refineK_ok h2 hs (by omega) (by omega)
          · rw [decide_eq_false hl]
            by_cases hn : l.eval ρ < 0
            · exact refineK_ok h1 hs hi.1 (by omega)
            · exact refineK_ok h hs (by omega) hi.2
        · cases h
      · cases h

/-- What a comparison tells. -/
def cmpRes (op : BinOp) (x y : Int) : Option Bool :=
  match op with
  | .eql => some (x == y)
  | .neq => some (x != y)
  | .lss => some (decide (x < y))
  | .leq => some (decide (x ≤ y))
  | .gtr => some (decide (x > y))
  | .geq => some (decide (x ≥ y))
  | _ => none

theorem cmpK_ok {op : BinOp} {a b : Int} {t : Bool} (h : cmpK op a b = some t) : cmpRes op a b = some t := by
  have e1 : ∀ x y : Int, leI x y = decide (x ≤ y) := fun x y => by
    rw [Bool.eq_iff_iff, leI_iff, decide_eq_true_iff]
  have e2 : ∀ x y : Int, eqI x y = (x == y) := fun x y => by
    rw [Bool.eq_iff_iff, eqI_iff, beq_iff_eq]
  cases op <;> simp only [cmpK, cmpRes, e1, e2, Option.some.injEq, reduceCtorEq] at h ⊢
  · exact h
  · exact h
  · rw [← h, Bool.eq_iff_iff, decide_eq_true_iff, Bool.not_eq_true', decide_eq_false_iff_not]; omega
  · exact h
  · rw [← h, Bool.eq_iff_iff, decide_eq_true_iff, Bool.not_eq_true', decide_eq_false_iff_not]; omega
  · exact h

theorem symCmp_ok {op : BinOp} {Γ : Ctx} {a b : Lin} {K : Ctx → Value → Bool} (h : symCmp op Γ a b K = true) (hs : Sat Γ ρ) :
    ∃ Γ' t, Sat Γ' ρ ∧ K Γ' (.bool t) = true ∧ cmpRes op (a.eval ρ) (b.eval ρ) = some t := by
  cases op <;> simp only [symCmp, forceL_eq, Bool.false_eq_true] at h
  · obtain ⟨Γ', h1, h2⟩ := zeroK_ok h hs
    refine ⟨Γ', _, h1, h2, ?_⟩
    simp only [cmpRes, eval_lsub, Option.some.injEq]
    rw [Bool.eq_iff_iff, beq_iff_eq, decide_eq_true_iff]; omega
  · obtain ⟨Γ', h1, h2⟩ := zeroK_ok h hs
    refine ⟨Γ', _, h1, h2, ?_⟩
    simp only [cmpRes, eval_lsub, Option.some.injEq]
    rw [Bool.eq_iff_iff, bne_iff_ne, Bool.not_eq_true', decide_eq_false_iff_not]; omega
  · obtain ⟨Γ', h1, h2⟩ := signK_ok h hs
    refine ⟨Γ', _, h1, h2, ?_⟩
    simp only [cmpRes, eval_lsub, Option.some.injEq]
    rw [Bool.eq_iff_iff, decide_eq_true_iff, decide_eq_true_iff]; omega
  · obtain ⟨Γ', h1, h2⟩ := signK_ok h hs
    refine ⟨Γ', _, h1, h2, ?_⟩
    simp only [cmpRes, eval_lsub, Option.some.injEq]
    rw [Bool.eq_iff_iff, decide_eq_true_iff, Bool.not_eq_true', decide_eq_false_iff_not]; omega
  · obtain ⟨Γ', h1, h2⟩ := signK_ok h hs
    refine ⟨Γ', _, h1, h2, ?_⟩
    simp only [cmpRes, eval_lsub, Option.some.injEq]
    rw [Bool.eq_iff_iff, decide_eq_true_iff, decide_eq_true_iff]; omega
  · obtain ⟨Γ', h1, h2⟩ := signK_ok h hs
    refine ⟨Γ', _, h1, h2, ?_⟩
    simp only [cmpRes, eval_lsub, Option.some.injEq]
    rw [Bool.eq_iff_iff, decide_eq_true_iff, Bool.not_eq_true', decide_eq_false_iff_not]; omega

theorem dot_tdiv {c : Int} (hc : c ≠ 0) : ∀ (m ρ : List Int), divides c m = true → dot m ρ = c * dot (m.map (Int.tdiv · c)) ρ
  | [], ρ, _ => by simp [dot]
  | a :: m, [], _ => by simp [dot]
  | a :: m, x :: ρ, h => by
    simp only [divides, List.all_cons, Bool.and_eq_true, eqI_iff] at h
    have ih := dot_tdiv hc m ρ h.2
    have ha : a = c * a.tdiv c := by
      have := Int.mul_tdiv_add_tmod a c
      omega
    simp only [List.map_cons, dot, ih, Int.mul_add]
    conv => lhs; rw [ha]
    rw [Int.mul_assoc]

theorem symDiv_ok {Γ : Ctx} {l : Lin} {c : Int} {K : Ctx → Lin → Lin → Bool} (h : symDiv Γ l c K = true) (hs : Sat Γ ρ) :
    c ≠ 0 ∧ ∃ Γ' q r, Sat Γ' ρ ∧ K Γ' q r = true ∧ Lin.eval q ρ = (l.eval ρ).tdiv c ∧ Lin.eval r ρ = (l.eval ρ).tmod c := by
  unfold symDiv at h
  split at h
  · rename_i c0 m hc
    have hc := leI_iff.1 hc
    refine ⟨by omega, ?_⟩
    split at h
    · rename_i hd
      have hD := dot_tdiv (ρ := ρ) (by omega : c ≠ 0) m hd
      generalize hDD : dot (m.map (Int.tdiv · c)) ρ = D at hD
      split at h
      · rename_i h0
        have h0 := eqI_iff.1 h0
        have hc0 : c0 = c * c0.tdiv c := by
          have := Int.mul_tdiv_add_tmod c0 c
          omega
        have hl : Lin.eval (c0 :: m) ρ = c * (c0.tdiv c + D) := by
          simp only [Lin.eval, hD, Int.mul_add]
          omega
        refine ⟨Γ, _, _, hs, h, ?_, ?_⟩
        · rw [hl, Int.mul_tdiv_cancel_left _ (by omega)]
          simp only [List.map_cons, Lin.eval, hDD]
        · rw [hl, Int.mul_tmod_right]
          simp [Lin.eval, dot]
      · obtain ⟨Γ', h1, h2⟩ := signK_ok h hs
        have hl : Lin.eval (c0 :: m) ρ = c0 + c * D := by simp only [Lin.eval, hD]
        split at h2
        · rename_i hn
          have hn := of_decide_eq_false hn
          refine ⟨Γ', _, _, h1, h2, ?_, ?_⟩
          · rw [Int.tdiv_eq_ediv_of_nonneg (by omega), hl, Int.add_mul_ediv_left _ _ (by omega)]
            simp only [Lin.eval, hDD]
            rfl
          · rw [Int.tmod_eq_emod_of_nonneg (by omega), hl, Int.add_mul_emod_self_left]
            simp [Lin.eval, dot]
            rfl
        · rename_i hn
          have hn := of_decide_eq_true hn
          have hneg : -(Lin.eval (c0 :: m) ρ) = -c0 + c * (-D) := by rw [hl, Int.mul_neg]; omega
          refine ⟨Γ', _, _, h1, h2, ?_, ?_⟩
          · have : (Lin.eval (c0 :: m) ρ).tdiv c = -((-(Lin.eval (c0 :: m) ρ)).tdiv c) := by rw [Int.neg_tdiv, Int.neg_neg]
            rw [this, Int.tdiv_eq_ediv_of_nonneg (by omega), hneg, Int.add_mul_ediv_left _ _ (by omega)]
            simp only [Lin.eval, hDD]
            show -(-c0 / c) + D = _
            omega
          · have : (Lin.eval (c0 :: m) ρ).tmod c = -((-(Lin.eval (c0 :: m) ρ)).tmod c) := by rw [Int.neg_tmod, Int.neg_neg]
            rw [this, Int.tmod_eq_emod_of_nonneg (by omega), hneg, Int.add_mul_emod_self_left]
            simp [Lin.eval, dot]
            rfl
    · cases h
  · cases h

theorem dot_even : ∀ (m ρ : List Int), divides 2 m = true → dot m ρ % 2 = 0 := by
  intro m ρ h
  have := dot_tdiv (ρ := ρ) (by omega : (2 : Int) ≠ 0) m h
  omega

/-- What an operation on numbers gives. -/
def ArRun (op : BinOp) (k : IntKind) (x y n : Int) : Prop := ∀ (P : Program) (t : TypeId) (w : World), (binOp op t (.int k x) (.int k y)).run P w = .ok (.int k n) w

theorem bits_one {k : IntKind} (x : Int) : ((BitVec.ofInt k.bits x &&& BitVec.ofInt k.bits 1).toNat : Int) = x % 2 := by
  have hb : k.bits = k.bits - 1 + 1 := by cases k <;> rfl
  generalize k.bits - 1 = n at hb
  rw [hb]
  have h1 : (BitVec.ofInt (n + 1) 1).toNat = 1 := by
    simp
  rw [BitVec.toNat_and, h1, Nat.and_one_is_mod, BitVec.toNat_ofInt]
  have hp : (0 : Int) < 2 ^ (n + 1) := Int.pow_pos (by omega)
  have e : (2 : Int) ^ (n + 1) = 2 * 2 ^ n := by rw [Int.pow_succ]; omega
  have h0 : 0 ≤ x % (2 ^ (n + 1) : Int) := Int.emod_nonneg _ (by omega)
  have : ((x % ((2 ^ (n + 1) : Nat) : Int)).toNat % 2 : Nat) = ((x % (2 ^ (n + 1) : Int)) % 2 : Int) := by
    have e2 : ((2 ^ (n + 1) : Nat) : Int) = (2 ^ (n + 1) : Int) := by simp
    rw [e2]
    omega
  rw [this, e, Int.emod_emod_of_dvd _ ⟨2 ^ n, rfl⟩]

theorem run_and_one {k : IntKind} {x n : Int} (hn : x % 2 = n) : ArRun .and k x 1 n := by
  intro P t w
  have hw : k.wrap n = n := fits_wrap (by
    have h0 : 0 ≤ n := by omega
    have h1 : n ≤ 1 := by omega
    obtain ⟨m, rfl⟩ : ∃ m : Nat, n = m := ⟨n.toNat, by omega⟩
    show Nat.ble m (kmax k) = true
    rw [Nat.ble_eq]
    cases k <;> simp only [kmax] <;> omega)
  have hb := bits_one (k := k) x
  simp only [binOp, ne_eq, not_true_eq_false, if_false, Op.intBits]
  show Result.ok (Value.int k (k.wrap _)) w = _
  rw [hb, hn, hw]

theorem symAr_ok (hv : Means ρ) {op : BinOp} {Γ : Ctx} {k : IntKind} {a b : Lin} {K : Ctx → Value → Bool} (h : symAr op Γ k a b K = true) (hs : Sat Γ ρ) :
    ∃ Γ' v n, Sat Γ' ρ ∧ K Γ' v = true ∧ Num v k n ∧ ArRun op k (a.eval ρ) (b.eval ρ) n := by
  cases op <;> simp only [symAr, Bool.false_eq_true] at h
  · obtain ⟨v, h1, h2, h3⟩ := finK_ok hv h hs
    rw [eval_ladd] at h2 h3
    exact ⟨Γ, v, _, hs, h1, h2, fun P t w => by simp [binOp, Op.intArith, h3]⟩
  · obtain ⟨v, h1, h2, h3⟩ := finK_ok hv h hs
    rw [eval_lsub] at h2 h3
    exact ⟨Γ, v, _, hs, h1, h2, fun P t w => by simp [binOp, Op.intArith, h3]⟩
  · split at h
    · rename_i c
      obtain ⟨v, h1, h2, h3⟩ := finK_ok hv h hs
      rw [eval_lscale] at h2 h3
      have e : Lin.eval [c] ρ = c := by simp [Lin.eval, dot]
      exact ⟨Γ, v, _, hs, h1, h2, fun P t w => by rw [e]; simp [binOp, Op.intArith, h3]⟩
    · rename_i _ _ a c _
      obtain ⟨v, h1, h2, h3⟩ := finK_ok hv h hs
      rw [eval_lscale] at h2 h3
      have e : Lin.eval [c] ρ = c := by simp [Lin.eval, dot]
      exact ⟨Γ, v, _, hs, h1, h2, fun P t w => by rw [e, Int.mul_comm] at *; simp [binOp, Op.intArith, h3]⟩
    · cases h
  · split at h
    · rename_i c
      obtain ⟨hc, Γ', q, r, h1, h2, h3, h4⟩ := symDiv_ok h hs
      obtain ⟨v, k1, k2, k3⟩ := finK_ok hv h2 h1
      rw [h3] at k2 k3
      have e : Lin.eval [c] ρ = c := by simp [Lin.eval, dot]
      exact ⟨Γ', v, _, h1, k1, k2, fun P t w => by rw [e]; simp [binOp, Op.intDiv, hc, k3]⟩
    · cases h
  · split at h
    · rename_i c
      obtain ⟨hc, Γ', q, r, h1, h2, h3, h4⟩ := symDiv_ok h hs
      obtain ⟨v, k1, k2, k3⟩ := finK_ok hv h2 h1
      rw [h4] at k2 k3
      have e : Lin.eval [c] ρ = c := by simp [Lin.eval, dot]
      exact ⟨Γ', v, _, h1, k1, k2, fun P t w => by rw [e]; simp [binOp, Op.intDiv, hc]⟩
    · cases h
  · split at h
    · rename_i c0 m c
      split at h
      · rename_i hc
        simp only [Bool.and_eq_true, eqI_iff] at hc
        obtain ⟨rfl, hd⟩ := hc
        obtain ⟨v, k1, k2, k3⟩ := finK_ok hv h hs
        have e : Lin.eval [1] ρ = 1 := by simp [Lin.eval, dot]
        have e2 : Lin.eval [c0.emod 2] ρ = c0 % 2 := by
          simp only [Lin.eval, dot, Int.add_zero]; rfl
        rw [e2] at k2
        refine ⟨Γ, v, _, hs, k1, k2, ?_⟩
        rw [e]
        have := dot_even m ρ hd
        exact run_and_one (by simp only [Lin.eval]; omega)
      · cases h
    · cases h

end
end Go.Am
