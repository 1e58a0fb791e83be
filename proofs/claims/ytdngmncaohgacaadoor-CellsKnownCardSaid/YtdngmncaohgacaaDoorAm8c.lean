/-
  THE EXECUTOR IS SOUND: instructions that give a value.
-/
import Derived.Test.YtdngmncaohgacaaDoorAm8b
set_option linter.unusedSectionVars false
set_option linter.unusedSimpArgs false
set_option linter.unusedVariables false
set_option linter.constructorNameAsVariable false
namespace Go.Am

section
variable [Val] {ρ : List Int}

/-- The executor's state shows what the abstract state holds. -/
structure Rep (pts : List Nat) (nt : Nat) (tm : TV) (lc : TL) (σ : St) : Prop where
  len : σ.tmps.length = nt
  val : ∀ (i : Nat) v, σ.tmps[i]? = some v → (pathOf i).get undef tm = v
  llen : pts ≠ [] → σ.loc.length = nt
  loc : ∀ (i : Nat) x, σ.loc[i]? = some x → (pathOf i).get none lc = x

theorem rd_ok {pts : List Nat} {nt : Nat} {tm : TV} {lc : TL} {σ : St} (h : Rep pts nt tm lc σ) (x : Operand) : rd tm (compX nt x) = oval σ.tmps x := by
  cases x with
  | tmp t =>
    simp only [compX, oval]
    split
    · rename_i ht
      have ht : t < nt := by simpa [Nat.blt_eq] using ht
      have hi : t < σ.tmps.length := by rw [h.len]; exact ht
      simp only [rd]
      rw [h.val t σ.tmps[t] (by simp [hi])]
      simp [hi]
    · rename_i ht
      have ht : ¬ t < nt := by simpa [Nat.blt_eq] using ht
      simp only [rd]
      rw [List.getD_eq_getElem?_getD, List.getElem?_eq_none (by rw [h.len]; exact Nat.le_of_not_lt ht)]
      rfl
  | const v => rfl
  | global g => rfl
  | func f => rfl

theorem put_rep {pts : List Nat} {nt : Nat} {tm : TV} {lc : TL} {σ : St} (h : Rep pts nt tm lc σ) (d : Nat) (v : Value) (hd : d < nt) : Rep pts nt ((pathOf d).set undef tm v) lc (σ.put (some d) v) := by
  refine ⟨by simp [St.put, h.len], fun i w hw => ?_, h.llen, h.loc⟩
  simp only [St.put, List.getElem?_set] at hw
  split at hw
  · rename_i hi
    subst hi
    split at hw
    · cases hw; exact Pth.get_set _ _ _ _
    · cases hw
  · rename_i hi
    rw [Pth.get_set_ne _ _ _ _ _ (fun e => hi (pathOf_inj e).symm)]
    exact h.val i w hw

theorem setV_ok {pts : List Nat} {nt : Nat} {tm : TV} {lc : TL} {σ : St} (h : Rep pts nt tm lc σ) {dst : Option Tmp} {v : Value} {Γ : Ctx} {hp : List HObj} {k : KS} (hk : setV dst nt v Γ tm lc hp k = true) :
    ∃ tm', Rep pts nt tm' lc (σ.put dst v) ∧ k Γ tm' lc hp = true := by
  unfold setV at hk
  split at hk
  · exact ⟨tm, h, hk⟩
  · rename_i d
    split at hk
    · rename_i hd
      rw [Pth.setK_eq] at hk
      exact ⟨_, put_rep h d v (by simpa [Nat.blt_eq] using hd), hk⟩
    · rename_i hd
      have hd : ¬ d < nt := by
        intro hlt
        rw [← Bool.not_eq_true, Nat.blt_eq] at hd
        exact hd hlt
      have : σ.put (some d) v = σ := by
        simp only [St.put]
        rw [List.set_eq_of_length_le (by rw [h.len]; exact Nat.le_of_not_lt hd)]
      rw [this]
      exact ⟨tm, h, hk⟩

/-- An operation gives a value and leaves the rest as it was. -/
def ValStep (C : Cfg) (pts : List Nat) (σ : St) (o : Oper) (v : Value) : Prop :=
  (∃ e, effOf C pts (oval σ.tmps) o = some e ∧ applyEff σ e = some (σ, v)) ∨ symRel C σ.tmps o v

theorem ValStep.val {C : Cfg} {pts : List Nat} {σ : St} {o : Oper} {v : Value} (h : effOf C pts (oval σ.tmps) o = some (.val v)) : ValStep C pts σ o v := .inl ⟨_, h, rfl⟩

theorem intT_ok {P : Program} {t : TypeId} {k : IntKind} (h : intT P t = some k) : P.underlying t = some (.int k) := by
  unfold intT at h
  split at h
  · rename_i k' e; cases h; exact e
  · cases h

theorem plain_int (k : IntKind) (n : Int) : plain (.int k n) = true := rfl

/-- Arithmetic and comparisons are steps without memory. -/
theorem sym_bin {C : Cfg} {σ : St} {dst : Option Tmp} {op : BinOp} {t yt ty : TypeId} {x y : Operand} {pos : String} {after : Array Edge} {guard : Option (Nat × Bool)} {u v : Value} {k k' : IntKind} {a b : Int}
    (hx : plain (oval σ.tmps x) = true) (hy : plain (oval σ.tmps y) = true) (hdx : den (oval σ.tmps x) = .int k a) (hdy : den (oval σ.tmps y) = .int k' b) (hv : plain v = true)
    (hr : ∀ w, (binOp op t (.int k a) (.int k' b)).run C.P w = .ok (den v) w) :
    symRel C σ.tmps { dst, op := .binOp op t x y yt, type := ty, pos, after, guard } v := by
  refine ⟨rfl, ?_, hv, fun w => ?_⟩
  · simp [Op.operands, hx, hy]
  · have hg : (eqGuard op t x y (.int k a) (.int k' b)).run C.P w = .ok () w := by
      unfold eqGuard
      split <;> rfl
    simp only [execOp, hdx, hdy, Sem.run_bind, hg, Result.andThen_ok, hr w, Sem.run_pure]

theorem kEq_eq {a b : IntKind} (h : kEq a b = true) : a = b := by
  cases a <;> cases b <;> first | rfl | cases h

theorem arI_ok {k : IntKind} {c : Int} {K : Value → Bool} (h : arI k c K = true) : K (.int k (k.wrap c)) = true := by
  unfold arI at h
  rw [forceI_eq] at h
  split at h
  · rename_i hf; rw [fits_wrap hf]; exact h
  · exact h

theorem wrap_emod (k : IntKind) (x : Int) : k.wrap (x % (2 ^ k.bits : Int)) = k.wrap x := by
  unfold IntKind.wrap
  rw [Int.emod_emod_of_dvd _ (Int.dvd_refl _)]

theorem run_and_nat {k : IntKind} (m n : Nat) : ArRun .and k m n (k.wrap (Nat.land m n : Nat)) := by
  intro P t w
  simp only [binOp, ne_eq, not_true_eq_false, if_false, Op.intBits]
  show Result.ok (Value.int k (k.wrap _)) w = _
  rw [← wrap_emod k (Nat.land m n : Nat)]
  congr 3
  have h2 : ∀ x : Nat, (BitVec.ofInt k.bits (x : Int)).toNat = x % 2 ^ k.bits := fun x => by
    rw [BitVec.toNat_ofInt]
    have : ((x : Int) % ((2 ^ k.bits : Nat) : Int)) = ((x % 2 ^ k.bits : Nat) : Int) := by simp
    rw [this, Int.toNat_natCast]
  have h3 : (BitVec.ofInt k.bits (m : Int) &&& BitVec.ofInt k.bits (n : Int)).toNat = (m &&& n) % 2 ^ k.bits := by
    rw [BitVec.toNat_and, h2, h2, Nat.and_mod_two_pow]
  rw [h3]
  simp

theorem arK_ok {op : BinOp} {k : IntKind} {a b : Int} {K : Value → Bool} (h : arK op k a b K = true) : ∃ n, K (.int k n) = true ∧ ArRun op k a b n := by
  cases op <;> simp only [arK, Bool.false_eq_true] at h
  · have h : arI k (a + b) K = true := h
    exact ⟨_, arI_ok h, fun P t w => by simp [binOp, Op.intArith]⟩
  · have h : arI k (a - b) K = true := h
    exact ⟨_, arI_ok h, fun P t w => by simp [binOp, Op.intArith]⟩
  · have h : arI k (a * b) K = true := h
    exact ⟨_, arI_ok h, fun P t w => by simp [binOp, Op.intArith]⟩
  · split at h
    · cases h
    · rename_i hb
      have hb := eqI_false.1 hb
      exact ⟨_, arI_ok h, fun P t w => by simp [binOp, Op.intDiv, hb]⟩
  · split at h
    · cases h
    · rename_i hb
      have hb := eqI_false.1 hb
      rw [forceI_eq] at h
      exact ⟨_, h, fun P t w => by simp [binOp, Op.intDiv, hb]⟩
  · split at h
    · rename_i hb
      have hb := eqI_iff.1 hb
      subst hb
      rw [forceI_eq] at h
      exact ⟨_, h, run_and_one rfl⟩
    · split at h
      · exact ⟨_, arI_ok h, run_and_nat _ _⟩
      · cases h

end
end Go.Am
