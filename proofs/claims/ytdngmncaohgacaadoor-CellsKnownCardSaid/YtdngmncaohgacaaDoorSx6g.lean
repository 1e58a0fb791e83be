/-
  OPERATIONS, seventh part: builtin functions, calls; every operation.
-/
import Derived.Test.YtdngmncaohgacaaDoorSx6f
set_option linter.unusedSectionVars false
set_option linter.unusedSimpArgs false
set_option linter.unusedVariables false
set_option linter.constructorNameAsVariable false
namespace Go.Am
namespace Sx

section
variable [Val] [Kno] {R HT : Type} {A : Alg R HT} {X : Ctxt} {Sg : FuncId → Option Sig} {holds : R → Prop} {abs : HT → List HObj}
variable {ev : Env} {σ : St} {h : HT} {o : Oper} {K : KN R HT}

theorem slG_at (C : Cfg) (esz : Nat) (H : List HObj) (x : Value) : slG C esz (fun i => H[i]?) x = cellsOfVal C H esz x := rfl

theorem apG_ok {C : Cfg} {t e : TypeId} {info : TypeInfo} {s x : Value} {H : List HObj} {acts : List Act1} {cs : List Value} (hu : C.P.underlying t = some (.slice e)) (hi : C.P.info? e = some info) (h0 : ¬ info.size = 0)
    (hz : (zeroI info).isNone = false) (hl : apG C info.size info.bytes s x (fun i => H[i]?) H.length = some (acts, cs)) : ∃ v, cs = [v] ∧ appendA C t s x H = some (actsOn H acts, v) := by
  unfold apG at hl
  unfold appendA
  simp only [hu, hi, if_neg h0, hz, Bool.false_eq_true, if_false]
  rw [slG_at] at hl
  split at hl
  · cases hl
  · rename_i new n hc
    simp only [hc]
    split at hl
    · split at hl
      · rename_i hn
        simp only [if_pos hn]
        cases hl
        exact ⟨_, rfl, rfl⟩
      · rename_i hn
        simp only [if_neg hn]
        split at hl
        · rename_i hs
          simp only [if_pos hs]
          cases hl
          exact ⟨_, rfl, rfl⟩
        · cases hl
    · rename_i a len cx
      split at hl
      · cases hl
      · rename_i hsp
        simp only [if_neg hsp]
        split at hl
        · rename_i vs e' rw' hg
          simp only [hg]
          split at hl
          · cases hl
          · rename_i he
            simp only [if_neg he]
            split at hl
            · cases hl
            · rename_i old hcut
              simp only [hcut]
              split at hl
              · split at hl
                · rename_i hn
                  simp only [if_pos hn]
                  cases hl
                  exact ⟨_, rfl, rfl⟩
                · rename_i hn
                  simp only [if_neg hn]
                  split at hl
                  · rename_i hb
                    simp only [if_pos hb]
                    cases hl
                    refine ⟨_, rfl, ?_⟩
                    simp [actsOn, Act1.on]
                  · cases hl
              · rename_i cap
                split at hl
                · rename_i hle
                  simp only [if_pos hle]
                  split at hl
                  · rename_i hrw
                    simp only [if_pos hrw]
                    obtain ⟨vs', q1, q2⟩ := Option.map_eq_some_iff.1 hl
                    cases q2
                    exact ⟨_, rfl, by simp only [q1]; rfl⟩
                  · rename_i hrw
                    simp only [if_neg hrw]
                    split at hl
                    · rename_i hn
                      simp only [if_pos hn]
                      cases hl
                      exact ⟨_, rfl, rfl⟩
                    · cases hl
                · rename_i hle
                  simp only [if_neg hle]
                  split at hl
                  · rename_i hb
                    simp only [if_pos hb]
                    cases hl
                    exact ⟨_, rfl, rfl⟩
                  · cases hl
        · cases hl
    · cases hl

theorem cpG_ok {C : Cfg} {t e : TypeId} {d x : Value} {H : List HObj} {n : Nat} {acts : List Act1} {cs : List Value} (hu : C.P.underlying t = some (.slice e)) (h0 : ¬ C.P.cellsOf e = 0)
    (hl : cpG C (C.P.cellsOf e) d x (fun i => H[i]?) n = some (acts, cs)) : ∃ v, cs = [v] ∧ copyA C t d x H = some (actsOn H acts, v) := by
  unfold cpG at hl
  unfold copyA
  rw [hu]
  split at hl
  · simp only [if_neg h0]
    rw [slG_at] at hl
    obtain ⟨y, q1, q2⟩ := Option.map_eq_some_iff.1 hl
    cases q2
    exact ⟨_, rfl, by simp only [q1]; rfl⟩
  · rename_i a dlen cx
    simp only [if_neg h0]
    split at hl
    · cases hl
    · rename_i hsp
      simp only [if_neg hsp]
      rw [slG_at] at hl
      split at hl
      · rename_i new m vs e' hc hg
        simp only [hc, hg]
        split at hl
        · cases hl
        · rename_i he
          simp only [if_neg he]
          obtain ⟨y, q1, q2⟩ := Option.map_eq_some_iff.1 hl
          cases q2
          exact ⟨_, rfl, by simp only [q1]; rfl⟩
      · cases hl
  · cases hl

theorem one_cell {x : S0} {sk : SK} (h : x.is sk = true) (hs : skAgg sk = false) {v : Value} (hc : [v] = x.cells.map SL.val) : x.val = v :=
  mkV_is h (.inr ⟨hs, hc.symm⟩)

theorem setC_one (hA : AlgOk A X.C Sg X.T holds abs) {dst : Option Tmp} {sk : SK} (hs : skAgg sk = false) {v : Value} (hk : holds (setC A dst sk [v] ev h K)) : ∃ x : S0, x.val = v ∧ x.good ∧ holds (setD dst (.st x) ev h K) :=
  setC_ok hA (.inr ⟨hs, rfl⟩) hk

theorem builtin_ok (hA : AlgOk A X.C Sg X.T holds abs) (hR : Rp ev σ) (ha : abs h = σ.heap) {c : Call} {b : Builtin} {xs : List S0} {sk : SK} (ho : o.op = .call c) (hb : c.callee = .builtin b) (hx : svals ev c.args.toList = some xs)
    (hk : holds (builtinE A X o.dst sk b xs c.argTypes ev h K)) : Done X holds abs o σ K := by
  obtain ⟨hv, hg⟩ := hR.svals hx
  have heff : effOf X.C X.pts (oval σ.tmps) o = builtinEff X.C (oval σ.tmps) b (valsOf xs) c.argTypes o := by
    simp only [effOf, ho, callEff, hb, hv]
  have hargs : ∀ ys : List S0, (∀ y ∈ ys, ∀ l ∈ y.cells, l.nv) → ys = xs → c.args.toList.all (fun x => plain (oval σ.tmps x)) = true ∧ c.args.map (fun x => den (oval σ.tmps x)) = ⟨valsOf xs⟩ := by
    intro ys hy e
    subst e
    have h1 : ∀ v ∈ c.args.toList.map (oval σ.tmps), plain v = true ∧ den v = v := by
      rw [hv]
      intro v hm
      simp only [valsOf, List.mem_map] at hm
      obtain ⟨y, hm, rfl⟩ := hm
      exact nv_plain (hy y hm)
    refine ⟨?_, ?_⟩
    · rw [List.all_eq_true]
      intro x hx
      exact (h1 _ (List.mem_map.2 ⟨x, hx, rfl⟩)).1
    · apply Array.toList_inj.1
      rw [Array.toList_map, ← hv]
      exact List.map_congr_left fun x hx => (h1 _ (List.mem_map.2 ⟨x, hx, rfl⟩)).2
  unfold builtinE at hk
  split at hk
  · rename_i s x t ht
    split at hk
    · rename_i e hu
      split at hk
      · rename_i info hi
        split at hk
        · exact absurd hk hA.fail
        · rename_i hc
          simp only [Bool.or_eq_false_iff] at hc
          obtain ⟨⟨⟨c1, c2⟩, c3⟩, c4⟩ := hc
          have c1 : ¬ info.size = 0 := fun e => by rw [e] at c1; cases c1
          obtain ⟨acts, cs, h', q1, q2, hk1⟩ := hA.heap _ _ _ hk
          rw [ha] at q1 q2
          obtain ⟨v, rfl, q3⟩ := apG_ok hu hi c1 c2 q1
          obtain ⟨y, rfl, g, hk2⟩ := setC_one hA rfl hk1
          refine done_hop hR q2 (s := .st y) g (f := appendA X.C t s x) ?_ q3 hk2
          rw [heff]
          simp only [builtinEff, valsOf, List.map_cons, List.map_nil, S0.val, SL.val, ht]
          refine if_neg fun hcon => ?_
          have hcon : ((c.argTypes[1]?.any fun u => (X.C.P.underlying u) matches some (.int _) | none) || c.argTypes[1]?.isNone) = true := hcon
          rw [Bool.or_eq_true] at hcon
          rcases hcon with hcon | hcon
          · exact absurd (hcon.symm.trans c3) (by simp)
          · exact absurd (hcon.symm.trans c4) (by simp)
      · exact absurd hk hA.fail
    · exact absurd hk hA.fail
  · rename_i x t ht
    split at hk
    · rename_i e x' hu
      obtain ⟨n, hn, hk1⟩ := hA.opt _ _ hk
      unfold lenS at hn
      split at hn
      · rename_i a m cx
        cases hn
        refine done_val hR ha (s := .st (.leaf (.i .i64 _))) (leaf_good trivial) ?_ hk1
        rw [heff]
        simp only [builtinEff, valsOf, List.map_cons, List.map_nil, S0.val, SL.val, ht, hu]; rfl
      · cases hn
    · rename_i kt et x' hu
      obtain ⟨cs, hl, hk1⟩ := hA.peek _ _ _ hk
      rw [ha] at hl
      unfold lenM at hl
      split at hl
      · rename_i id
        split at hl
        · rename_i es ck hgt
          cases hl
          obtain ⟨y, hy, g, hk2⟩ := setC_one hA rfl hk1
          refine done_hget hR ha (s := .st y) g (f := fun H => (hmap H id).map fun p => .int .i64 p.1.length) ?_ ?_ hk2
          · rw [heff]
            simp only [builtinEff, valsOf, List.map_cons, List.map_nil, S0.val, SL.val, ht, hu]
          · simp only [hmap, hgt, Option.map_some, SV.val, hy]
        · cases hl
      · cases hl
    · rename_i n el hu
      refine done_val hR ha (s := .st (.leaf (.i .i64 _))) (leaf_good trivial) ?_ hk
      rw [heff]
      simp only [builtinEff, valsOf, List.map_cons, List.map_nil, ht, hu]; rfl
    · exact absurd hk hA.fail
  · rename_i x t ht
    split at hk
    · rename_i e x' hu
      obtain ⟨n, hn, hk1⟩ := hA.opt _ _ hk
      unfold capS at hn
      split at hn
      · cases hn
        refine done_val hR ha (s := .st (.leaf (.i .i64 _))) (leaf_good trivial) ?_ hk1
        rw [heff]
        simp only [builtinEff, valsOf, List.map_cons, List.map_nil, S0.val, SL.val, ht, hu]; rfl
      · cases hn
        refine done_val hR ha (s := .st (.leaf (.i .i64 _))) (leaf_good trivial) ?_ hk1
        rw [heff]
        simp only [builtinEff, valsOf, List.map_cons, List.map_nil, S0.val, SL.val, ht, hu]; rfl
      · cases hn
    · rename_i n el hu
      refine done_val hR ha (s := .st (.leaf (.i .i64 _))) (leaf_good trivial) ?_ hk
      rw [heff]
      simp only [builtinEff, valsOf, List.map_cons, List.map_nil, ht, hu]; rfl
    · exact absurd hk hA.fail
  · rename_i s x t ht
    split at hk
    · rename_i e hu
      split at hk
      · exact absurd hk hA.fail
      · rename_i hz
        have hz : ¬ X.C.P.cellsOf e = 0 := fun e => by rw [e] at hz; cases hz
        obtain ⟨acts, cs, h', q1, q2, hk1⟩ := hA.heap _ _ _ hk
        rw [ha] at q1 q2
        obtain ⟨v, rfl, q3⟩ := cpG_ok hu hz q1
        obtain ⟨y, rfl, g, hk2⟩ := setC_one hA rfl hk1
        refine done_hop hR q2 (s := .st y) g (f := copyA X.C t s x) ?_ q3 hk2
        rw [heff]
        simp only [builtinEff, valsOf, List.map_cons, List.map_nil, S0.val, SL.val, ht]
    · exact absurd hk hA.fail
  · rename_i m k t ht
    split at hk
    · rename_i kt et hu
      obtain ⟨acts, cs, h', q1, q2, hk1⟩ := hA.heap _ _ _ hk
      rw [ha] at q1 q2
      refine done_hop hR q2 (s := .un) trivial (f := deleteA X.C t m k.val) ?_ (deG_ok hu q1) hk1
      rw [heff]
      simp only [builtinEff, valsOf, List.map_cons, List.map_nil, S0.val, SL.val, ht]
    · exact absurd hk hA.fail
  · rename_i k a k' b'
    split at hk
    · rename_i hkk
      have hkk := kNo_inj hkk
      subst hkk
      obtain ⟨t, h1, hk1⟩ := hA.cmp _ _ _ _ hk
      have hk2 := hA.sel _ _ _ _ hk1
      simp only [cmpRes, Option.some.injEq] at h1
      subst h1
      obtain ⟨p1, p2⟩ := hargs _ (fun y hy l hl => by
        simp only [List.mem_cons, List.not_mem_nil, or_false] at hy
        rcases hy with rfl | rfl <;> (simp only [S0.cells, List.mem_singleton] at hl; subst hl; trivial)) rfl
      refine done_sym hR ha (s := .st (.leaf (.i k _))) (leaf_good trivial) ⟨by rw [ho]; rfl, ?_, rfl, fun w => ?_⟩ hk2
      · rw [ho]; simp only [Op.operands, Call.operands, hb]; simpa using p1
      · simp only [execOp, ho, resolve, hb, Sem.run_bind, p2]
        simp only [Sem.run_pure, Result.andThen_ok, invoke, builtin, valsOf, List.map_cons, List.map_nil, S0.val, SL.val, Sem.run_bind]
        rw [show (⟨[Value.int k a, Value.int k b']⟩ : Array Value) = #[Value.int k a, Value.int k b'] from rfl, run_min_int2]
        simp [SV.val, S0.val, SL.val, den, den1]
    · exact absurd hk hA.fail
  · rename_i k a k' b'
    split at hk
    · rename_i hkk
      have hkk := kNo_inj hkk
      subst hkk
      obtain ⟨t, h1, hk1⟩ := hA.cmp _ _ _ _ hk
      have hk2 := hA.sel _ _ _ _ hk1
      simp only [cmpRes, Option.some.injEq] at h1
      subst h1
      obtain ⟨p1, p2⟩ := hargs _ (fun y hy l hl => by
        simp only [List.mem_cons, List.not_mem_nil, or_false] at hy
        rcases hy with rfl | rfl <;> (simp only [S0.cells, List.mem_singleton] at hl; subst hl; trivial)) rfl
      refine done_sym hR ha (s := .st (.leaf (.i k _))) (leaf_good trivial) ⟨by rw [ho]; rfl, ?_, rfl, fun w => ?_⟩ hk2
      · rw [ho]; simp only [Op.operands, Call.operands, hb]; simpa using p1
      · simp only [execOp, ho, resolve, hb, Sem.run_bind, p2]
        simp only [Sem.run_pure, Result.andThen_ok, invoke, builtin, valsOf, List.map_cons, List.map_nil, S0.val, SL.val, Sem.run_bind]
        rw [show (⟨[Value.int k a, Value.int k b']⟩ : Array Value) = #[Value.int k a, Value.int k b'] from rfl, run_max_int2]
        simp [SV.val, S0.val, SL.val, den, den1]
    · exact absurd hk hA.fail
  · exact absurd hk hA.fail

end
end Sx
end Go.Am
