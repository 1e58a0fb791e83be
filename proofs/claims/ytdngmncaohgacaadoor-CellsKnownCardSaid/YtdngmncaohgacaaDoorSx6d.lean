/-
  OPERATIONS, fourth part: numbers, truth values, comparisons, conversions.
-/
import Derived.Test.YtdngmncaohgacaaDoorSx6c
import Derived.Test.YtdngmncaohgacaaDoorSxE
set_option linter.unusedSectionVars false
set_option linter.unusedSimpArgs false
set_option linter.unusedVariables false
set_option linter.constructorNameAsVariable false
namespace Go.Am

section
variable [Val] [Kno] {R HT : Type} {A : Alg R HT} {X : Ctxt} {Sg : FuncId → Option Sig} {holds : R → Prop} {abs : HT → List HObj}
variable {ev : Env} {σ : St} {h : HT} {o : Oper} {K : KN R HT}

/-- No leaf is anything else than a number or a truth value. -/
def SL.nv : SL → Prop
  | .v _ => False
  | _ => True
theorem SL.nv_scalar {l : SL} (h : l.nv) : scalar l.val = true := by cases l <;> first | rfl | exact h.elim
theorem SL.nv_den {l : SL} (h : l.nv) : den1 l.val = l.val := by cases l <;> first | rfl | exact h.elim
theorem nv_plain {x : S0} (h : ∀ l ∈ x.cells, l.nv) : plain x.val = true ∧ den x.val = x.val := by
  cases x with
  | leaf l =>
    have hl := h l (by simp [S0.cells])
    cases l <;> first | exact ⟨rfl, rfl⟩ | exact hl.elim
  | agg cs =>
    refine ⟨?_, ?_⟩
    · simp only [S0.val, plain, List.all_eq_true, List.mem_map]
      rintro _ ⟨l, hl, rfl⟩
      simp [plain1, SL.nv_scalar (h l hl)]
    · simp only [S0.val, den, Value.agg.injEq]
      apply Array.toList_inj.1
      rw [Array.toList_map, List.map_map]
      refine List.map_congr_left fun l hl => ?_
      exact SL.nv_den (h l hl)
theorem allIs_nv : ∀ {cs : List SL} {ks : List LK}, allIs cs ks = true → allPlain ks = true → ∀ l ∈ cs, l.nv
  | [], [], _, _, l, hl => by cases hl
  | c :: cs, k :: ks, h1, h2, l, hl => by
    simp only [allIs, Bool.and_eq_true] at h1
    simp only [allPlain, List.all_cons, Bool.and_eq_true] at h2
    rcases List.mem_cons.1 hl with rfl | hl
    · cases l <;> first | trivial | (cases k <;> first | (simp at h2; done) | (simp [SL.is] at h1; done))
    · exact allIs_nv h1.2 h2.2 l hl
  | [], _ :: _, h, _, _, _ => by cases h
  | _ :: _, [], h, _, _, _ => by cases h

/-- An operation on two values without addresses. -/
theorem bin_sym {op : BinOp} {t yt : TypeId} {x y : Operand} {a b u : Value} (ho : o.op = .binOp op t x y yt) (hx : oval σ.tmps x = a) (hy : oval σ.tmps y = b) (pa : plain a = true ∧ den a = a) (pb : plain b = true ∧ den b = b)
    (pu : plain u = true ∧ den u = u) (hg : ∀ w, (eqGuard op t x y a b).run X.C.P w = .ok () w) (hr : ∀ w, (binOp op t a b).run X.C.P w = .ok u w) : symRel X.C σ.tmps o u := by
  refine ⟨by rw [ho]; rfl, ?_, pu.1, fun w => ?_⟩
  · rw [ho]; simp [Op.operands, hx, hy, pa.1, pb.1]
  · simp only [execOp, ho, hx, hy, pa.2, pb.2, Sem.run_bind, hg w, Result.andThen_ok, hr w, Sem.run_pure, pu.2]

theorem guard_int {op : BinOp} {t : TypeId} {x y : Operand} {k k' : IntKind} {a b : Int} {P : Program} (w : World) : (eqGuard op t x y (.int k a) (.int k' b)).run P w = .ok () w := by
  unfold eqGuard
  split <;> rfl
theorem guard_bool {op : BinOp} {t : TypeId} {x y : Operand} {a b : Bool} {P : Program} (w : World) : (eqGuard op t x y (.bool a) (.bool b)).run P w = .ok () w := by
  unfold eqGuard
  split <;> rfl

theorem cmp_run {P : Program} {op : BinOp} {k : IntKind} {a b : Int} {t : Bool} (h : cmpRes op a b = some t) (hs : isShift op = false) (ty : TypeId) (w : World) : (binOp op ty (.int k a) (.int k b)).run P w = .ok (.bool t) w := by
  cases op <;> simp only [cmpRes, reduceCtorEq, Option.some.injEq] at h <;> subst h <;> simp [binOp, Op.intCmp]

theorem leaf_good {l : SL} (h : l.good) : (S0.leaf l).good := fun m hm => by
  simp only [S0.cells, List.mem_singleton] at hm
  subst hm; exact h

theorem bin_ok (hA : AlgOk A X.C Sg X.T holds abs) (hR : Rp ev σ) (ha : abs h = σ.heap) {op : BinOp} {t yt : TypeId} {x y : Operand} {a b : S0} (ho : o.op = .binOp op t x y yt)
    (hx : sval0 ev x = some a) (hy : sval0 ev y = some b) (hk : holds (binE A X o.dst op t a b ev h K)) : Done X holds abs o σ K := by
  obtain ⟨h1, ga⟩ := hR.sval0 hx
  obtain ⟨h2, gb⟩ := hR.sval0 hy
  unfold binE at hk
  split at hk
  · rename_i k n k' m
    simp only [S0.val, SL.val] at h1 h2
    have pi : ∀ (k : IntKind) (n : Int), plain (.int k n) = true ∧ den (.int k n) = .int k n := fun _ _ => ⟨rfl, rfl⟩
    split at hk
    · obtain ⟨r, hr, hk1⟩ := hA.shf _ _ _ _ _ _ hk
      exact done_sym hR ha (s := .st (.leaf (.i k r))) (leaf_good trivial) (bin_sym ho h1 h2 (pi _ _) (pi _ _) (pi _ _) (fun w => guard_int w) (fun w => hr _ _ w)) hk1
    · rename_i hs hk' hc
      have e := kNo_inj hk'
      subst e
      obtain ⟨r, hr, hk1⟩ := hA.cmp _ _ _ _ hk
      exact done_sym hR ha (s := .st (.leaf (.b r))) (leaf_good trivial) (bin_sym ho h1 h2 (pi _ _) (pi _ _) ⟨rfl, rfl⟩ (fun w => guard_int w) (fun w => cmp_run hr hs _ w)) hk1
    · rename_i hs hk' hc
      have e := kNo_inj hk'
      subst e
      obtain ⟨r, hr, hk1⟩ := hA.ari _ _ _ _ _ hk
      exact done_sym hR ha (s := .st (.leaf (.i k r))) (leaf_good trivial) (bin_sym ho h1 h2 (pi _ _) (pi _ _) (pi _ _) (fun w => guard_int w) (fun w => hr _ _ w)) hk1
    · exact absurd hk hA.fail
  · rename_i cs es
    split at hk
    · rename_i ks hf hgt hga
      split at hk
      · rename_i hc
        simp only [Bool.and_eq_true] at hc
        obtain ⟨⟨hc1, hc2⟩, hc3⟩ := hc
        have hp1 := nv_plain (x := .agg cs) (allIs_nv hc1 hc3)
        have hp2 := nv_plain (x := .agg es) (allIs_nv hc2 hc3)
        obtain ⟨ag, g1, g2, g3⟩ := flatK_ok 10000 t ks hf
        have hgd : ∀ w, (eqGuard op t x y (S0.val (.agg cs)) (S0.val (.agg es))).run X.C.P w = .ok () w := fun w => run_eqGuard_agg w op t x y _ _ hgt
        have hag : ag = true := by
          rw [hga] at g1; exact (Option.some.inj g1).symm
        subst hag
        have heq := g3 cs es _ _ hc1 hc2 (.inl ⟨rfl, rfl⟩) (.inl ⟨rfl, rfl⟩)
        split at hk
        · have hk1 := hA.eqs _ _ hk
          refine done_sym hR ha (s := .st (.leaf (.b _))) (leaf_good trivial) (bin_sym ho h1 h2 hp1 hp2 ⟨rfl, rfl⟩ hgd fun w => ?_) hk1
          rw [S0.val, S0.val, run_eql_struct, pev_run heq]
          rfl
        · have hk1 := hA.eqs _ _ hk
          refine done_sym hR ha (s := .st (.leaf (.b _))) (leaf_good trivial) (bin_sym ho h1 h2 hp1 hp2 ⟨rfl, rfl⟩ hgd fun w => ?_) hk1
          rw [S0.val, S0.val, run_neq_struct, pev_run heq]
          rfl
        · exact absurd hk hA.fail
      · exact absurd hk hA.fail
    · exact absurd hk hA.fail
  · rename_i u v
    simp only [S0.val, SL.val] at h1 h2
    split at hk
    · exact absurd hk hA.fail
    · split at hk
      · obtain ⟨t', hn, hk1⟩ := hA.opt _ _ hk
        split at hk1
        · rename_i hok
          refine done_val hR ha (s := .st (.leaf (.b t'))) (leaf_good trivial) ?_ hk1
          simp only [effOf, ho, h1, h2, hn, hok, if_true]; rfl
        · exact absurd hk1 hA.fail
      · obtain ⟨t', hn, hk1⟩ := hA.opt _ _ hk
        split at hk1
        · rename_i hok
          refine done_val hR ha (s := .st (.leaf (.b (!t')))) (leaf_good trivial) ?_ hk1
          simp only [effOf, ho, h1, h2, hn, hok, if_true]; rfl
        · exact absurd hk1 hA.fail
      · exact absurd hk hA.fail
  · rename_i u v _ _
    split at hk
    · rename_i hb hu
      simp only [Bool.and_eq_true] at hb
      have hval : ∀ {l : SL}, l.is .b = true → ∃ c, l.val = .bool c ∧ l.lf = .b c := by
        intro l hl
        cases l <;> simp only [SL.is, Bool.false_eq_true] at hl <;> exact ⟨_, rfl, rfl⟩
      obtain ⟨c, c1, c2⟩ := hval hb.1
      obtain ⟨d, d1, d2⟩ := hval hb.2
      simp only [S0.val] at h1 h2
      rw [c1] at h1
      rw [d1] at h2
      have hq : ∀ w, (Op.equal t (.bool c) (.bool d)).run X.C.P w = .ok (c == d) w := fun w => run_equal_bool w t c d hu
      split at hk
      · have hk1 := hA.eqs _ _ hk
        rw [c2, d2] at hk1
        refine done_sym hR ha (s := .st (.leaf (.b _))) (leaf_good trivial) (bin_sym ho h1 h2 ⟨rfl, rfl⟩ ⟨rfl, rfl⟩ ⟨rfl, rfl⟩ (fun w => guard_bool w) fun w => ?_) hk1
        simp only [binOp, Sem.run_bind, hq w, Result.andThen_ok, Sem.run_pure]
        simp [SV.val, S0.val, SL.val, eqAll, eqLfD]
      · have hk1 := hA.eqs _ _ hk
        rw [c2, d2] at hk1
        refine done_sym hR ha (s := .st (.leaf (.b _))) (leaf_good trivial) (bin_sym ho h1 h2 ⟨rfl, rfl⟩ ⟨rfl, rfl⟩ ⟨rfl, rfl⟩ (fun w => guard_bool w) fun w => ?_) hk1
        simp only [binOp, Sem.run_bind, hq w, Result.andThen_ok, Sem.run_pure]
        simp [SV.val, S0.val, SL.val, eqAll, eqLfD]
      · exact absurd hk hA.fail
    · exact absurd hk hA.fail
  · exact absurd hk hA.fail

theorem un_ok (hA : AlgOk A X.C Sg X.T holds abs) (hR : Rp ev σ) (ha : abs h = σ.heap) {op : UnOp} {t : TypeId} {x : Operand} (ho : o.op = .unOp op t x)
    (hk : holds (match (generalizing := false) op, sval ev x with
    | .not, .st (.leaf (.b t)) => setD o.dst (.st (.leaf (.b (!t)))) ev h K
    | .not, .st (.leaf (.l t)) => setD o.dst (.st (.leaf (.l (!t)))) ev h K
    | .neg, .st (.leaf (.i k n)) => A.ari .sub k 0 n fun n => setD o.dst (.st (.leaf (.i k n))) ev h K
    | _, _ => A.fail)) : Done X holds abs o σ K := by
  have hsym : ∀ {a u : Value}, oval σ.tmps x = a → (plain a = true ∧ den a = a) → (plain u = true ∧ den u = u) → (∀ w, (Op.unary op a).run X.C.P w = .ok u w) → symRel X.C σ.tmps o u := by
    intro a u hx pa pu hr
    refine ⟨by rw [ho]; rfl, by rw [ho]; simp [Op.operands, hx, pa.1], pu.1, fun w => ?_⟩
    simp only [execOp, ho, hx, pa.2, Sem.run_bind, hr w, Result.andThen_ok, Sem.run_pure, pu.2]
  split at hk
  · rename_i t' e
    obtain ⟨h1, _⟩ := hR.sval e (by simp)
    refine done_sym hR ha (s := .st (.leaf (.b (!t')))) (leaf_good trivial) (hsym h1 ⟨rfl, rfl⟩ ⟨rfl, rfl⟩ fun w => ?_) hk
    simp [SV.val, S0.val, SL.val, Op.unary]
  · rename_i t' e
    obtain ⟨h1, _⟩ := hR.sval e (by simp)
    refine done_sym hR ha (s := .st (.leaf (.l (!t')))) (leaf_good trivial) (hsym h1 ⟨rfl, rfl⟩ ⟨rfl, rfl⟩ fun w => ?_) hk
    simp [SV.val, S0.val, SL.val, Op.unary]
  · rename_i k n e
    obtain ⟨h1, _⟩ := hR.sval e (by simp)
    obtain ⟨r, hr, hk1⟩ := hA.ari _ _ _ _ _ hk
    refine done_sym hR ha (s := .st (.leaf (.i k r))) (leaf_good trivial) (hsym h1 ⟨rfl, rfl⟩ ⟨rfl, rfl⟩ fun w => ?_) hk1
    have := hr X.C.P t w
    simp [SV.val, S0.val, SL.val, Op.unary, binOp, Op.intArith] at this ⊢
    exact this
  · exact absurd hk hA.fail

theorem conv_ok (hA : AlgOk A X.C Sg X.T holds abs) (hR : Rp ev σ) (ha : abs h = σ.heap) {sT dT : TypeId} {x : Operand} (ho : o.op = .convert sT dT x)
    (hk : holds (match X.C.P.underlying sT, X.C.P.underlying dT, sval ev x with
    | some (.int _), some (.int k), .st (.leaf (.i _ n)) => A.conv k n fun n => setD o.dst (.st (.leaf (.i k n))) ev h K
    | _, _, _ => A.fail)) : Done X holds abs o σ K := by
  split at hk
  · rename_i ks k k' n hs hu e
    obtain ⟨h1, _⟩ := hR.sval e (by simp)
    have hk1 := hA.conv _ _ _ hk
    simp only [SV.val, S0.val, SL.val] at h1
    refine done_sym hR ha (s := .st (.leaf (.i k _))) (leaf_good trivial) ⟨by rw [ho]; rfl, by rw [ho]; simp [Op.operands, h1]; rfl, rfl, fun w => ?_⟩ hk1
    simp only [execOp, ho, h1]
    simp [den, den1, convert, run_underlying hs, run_underlying hu, Conv.intToInt, SV.val, S0.val, SL.val]
  · exact absurd hk hA.fail

end
end Go.Am
