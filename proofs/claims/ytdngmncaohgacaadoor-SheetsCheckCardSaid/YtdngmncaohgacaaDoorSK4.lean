/-
  PART 4 OF THE PROOF: Sx6g Sx6h Sx7 Sx7b Sx8 Sx9m Sx9 Sx9b Sx9c Sx10 Sx11 Gq Gr Sx12 Sx13 (no conditions).
-/
import Derived.Test.YtdngmncaohgacaaDoorSK3
import Derived.Calls
import Derived.LaidMore
import Derived.MakeChecks
import Derived.OpenShut
import Derived.ProofKit
import Derived.Stop.Joined
import Derived.Test.YtdngmncaohgacaaDoorRows
import GoSem.ClaimJoined
set_option linter.unusedSectionVars false
set_option linter.unusedSimpArgs false
set_option linter.unusedVariables false
set_option linter.constructorNameAsVariable false
set_option linter.defProp false
/-
  OPERATIONS, seventh part: builtin functions, calls; every operation.
-/
namespace Go.Am
namespace Sx

section
variable [Val] [Kno] {R HT : Type} {A : Alg R HT} {X : Ctxt} {Sg : FuncId → Option Sig} {holds : R → Prop} {abs : HT → List HObj}
variable {ev : Env} {σ : St} {h : HT} {o : Oper} {K : KN R HT}

theorem slG_at (C : Cfg) (esz : Nat) (H : List HObj) (x : Value) : slG C esz (fun i => H[i]?) x = cellsOfVal C H esz x := rfl

theorem apG_ok {C : Cfg} {t e : TypeId} {info : TypeInfo} {s x : Value} {H : List HObj} {acts : List Act1} {cs : List Value} (hu : C.P.underlying t = some (.slice e)) (hi : C.P.info? e = some info) (h0 : ¬ info.size = 0)
    (hz : (zeroI info).isNone = false) (hl : apG C info.size info.bytes s x (fun i => H[i]?) H.length = some (acts, cs)) : ∃ v, cs = [v] ∧ appendA C t s x H = some (actsOn H acts, v) := by
  unfold apG at hl
  unfold appendA
  simp only [hu, hi, if_neg h0, hz, Bool.false_eq_true, if_false]
  rw [slG_at] at hl
  split at hl
  · cases hl
  · rename_i new n hc
    simp only [hc]
    split at hl
    · split at hl
      · rename_i hn
        simp only [if_pos hn]
        cases hl
        exact ⟨_, rfl, rfl⟩
      · rename_i hn
        simp only [if_neg hn]
        split at hl
        · rename_i hs
          simp only [if_pos hs]
          cases hl
          exact ⟨_, rfl, rfl⟩
        · cases hl
    · rename_i a len cx
      split at hl
      · cases hl
      · rename_i hsp
        simp only [if_neg hsp]
        split at hl
        · rename_i vs e' rw' hg
          simp only [hg]
          split at hl
          · cases hl
          · rename_i he
            simp only [if_neg he]
            split at hl
            · cases hl
            · rename_i old hcut
              simp only [hcut]
              split at hl
              · split at hl
                · rename_i hn
                  simp only [if_pos hn]
                  cases hl
                  exact ⟨_, rfl, rfl⟩
                · rename_i hn
                  simp only [if_neg hn]
                  split at hl
                  · rename_i hb
                    simp only [if_pos hb]
                    cases hl
                    refine ⟨_, rfl, ?_⟩
                    simp [actsOn, Act1.on]
                  · cases hl
              · rename_i cap
                split at hl
                · rename_i hle
                  simp only [if_pos hle]
                  split at hl
                  · rename_i hrw
                    simp only [if_pos hrw]
                    obtain ⟨vs', q1, q2⟩ := Option.map_eq_some_iff.1 hl
                    cases q2
                    exact ⟨_, rfl, by simp only [q1]; rfl⟩
                  · rename_i hrw
                    simp only [if_neg hrw]
                    split at hl
                    · rename_i hn
                      simp only [if_pos hn]
                      cases hl
                      exact ⟨_, rfl, rfl⟩
                    · cases hl
                · rename_i hle
                  simp only [if_neg hle]
                  split at hl
                  · rename_i hb
                    simp only [if_pos hb]
                    cases hl
                    exact ⟨_, rfl, rfl⟩
                  · cases hl
        · cases hl
    · cases hl

theorem cpG_ok {C : Cfg} {t e : TypeId} {d x : Value} {H : List HObj} {n : Nat} {acts : List Act1} {cs : List Value} (hu : C.P.underlying t = some (.slice e)) (h0 : ¬ C.P.cellsOf e = 0)
    (hl : cpG C (C.P.cellsOf e) d x (fun i => H[i]?) n = some (acts, cs)) : ∃ v, cs = [v] ∧ copyA C t d x H = some (actsOn H acts, v) := by
  unfold cpG at hl
  unfold copyA
  rw [hu]
  split at hl
  · simp only [if_neg h0]
    rw [slG_at] at hl
    obtain ⟨y, q1, q2⟩ := Option.map_eq_some_iff.1 hl
    cases q2
    exact ⟨_, rfl, by simp only [q1]; rfl⟩
  · rename_i a dlen cx
    simp only [if_neg h0]
    split at hl
    · cases hl
    · rename_i hsp
      simp only [if_neg hsp]
      rw [slG_at] at hl
      split at hl
      · rename_i new m vs e' hc hg
        simp only [hc, hg]
        split at hl
        · cases hl
        · rename_i he
          simp only [if_neg he]
          obtain ⟨y, q1, q2⟩ := Option.map_eq_some_iff.1 hl
          cases q2
          exact ⟨_, rfl, by simp only [q1]; rfl⟩
      · cases hl
  · cases hl

theorem one_cell {x : S0} {sk : SK} (h : x.is sk = true) (hs : skAgg sk = false) {v : Value} (hc : [v] = x.cells.map SL.val) : x.val = v :=
  mkV_is h (.inr ⟨hs, hc.symm⟩)

theorem setC_one (hA : AlgOk A X.C Sg X.T holds abs) {dst : Option Tmp} {sk : SK} (hs : skAgg sk = false) {v : Value} (hk : holds (setC A dst sk [v] ev h K)) : ∃ x : S0, x.val = v ∧ x.good ∧ holds (setD dst (.st x) ev h K) :=
  setC_ok hA (.inr ⟨hs, rfl⟩) hk

theorem builtin_ok (hA : AlgOk A X.C Sg X.T holds abs) (hR : Rp ev σ) (ha : abs h = σ.heap) {c : Call} {b : Builtin} {xs : List S0} {sk : SK} (ho : o.op = .call c) (hb : c.callee = .builtin b) (hx : svals ev c.args.toList = some xs)
    (hk : holds (builtinE A X o.dst sk b xs c.argTypes ev h K)) : Done X holds abs o σ K := by
  obtain ⟨hv, hg⟩ := hR.svals hx
  have heff : effOf X.C X.pts (oval σ.tmps) o = builtinEff X.C (oval σ.tmps) b (valsOf xs) c.argTypes o := by
    simp only [effOf, ho, callEff, hb, hv]
  have hargs : ∀ ys : List S0, (∀ y ∈ ys, ∀ l ∈ y.cells, l.nv) → ys = xs → c.args.toList.all (fun x => plain (oval σ.tmps x)) = true ∧ c.args.map (fun x => den (oval σ.tmps x)) = ⟨valsOf xs⟩ := by
    intro ys hy e
    subst e
    have h1 : ∀ v ∈ c.args.toList.map (oval σ.tmps), plain v = true ∧ den v = v := by
      rw [hv]
      intro v hm
      simp only [valsOf, List.mem_map] at hm
      obtain ⟨y, hm, rfl⟩ := hm
      exact nv_plain (hy y hm)
    refine ⟨?_, ?_⟩
    · rw [List.all_eq_true]
      intro x hx
      exact (h1 _ (List.mem_map.2 ⟨x, hx, rfl⟩)).1
    · apply Array.toList_inj.1
      rw [Array.toList_map, ← hv]
      exact List.map_congr_left fun x hx => (h1 _ (List.mem_map.2 ⟨x, hx, rfl⟩)).2
  unfold builtinE at hk
  split at hk
  · rename_i s x t ht
    split at hk
    · rename_i e hu
      split at hk
      · rename_i info hi
        split at hk
        · exact absurd hk hA.fail
        · rename_i hc
          simp only [Bool.or_eq_false_iff] at hc
          obtain ⟨⟨⟨c1, c2⟩, c3⟩, c4⟩ := hc
          have c1 : ¬ info.size = 0 := fun e => by rw [e] at c1; cases c1
          obtain ⟨acts, cs, h', q1, q2, hk1⟩ := hA.heap _ _ _ hk
          rw [ha] at q1 q2
          obtain ⟨v, rfl, q3⟩ := apG_ok hu hi c1 c2 q1
          obtain ⟨y, rfl, g, hk2⟩ := setC_one hA rfl hk1
          refine done_hop hR q2 (s := .st y) g (f := appendA X.C t s x) ?_ q3 hk2
          rw [heff]
          simp only [builtinEff, valsOf, List.map_cons, List.map_nil, S0.val, SL.val, ht]
          refine if_neg fun hcon => ?_
          have hcon : ((c.argTypes[1]?.any fun u => (X.C.P.underlying u) matches some (.int _) | none) || c.argTypes[1]?.isNone) = true := hcon
          rw [Bool.or_eq_true] at hcon
          rcases hcon with hcon | hcon
          · exact absurd (hcon.symm.trans c3) (by simp)
          · exact absurd (hcon.symm.trans c4) (by simp)
      · exact absurd hk hA.fail
    · exact absurd hk hA.fail
  · rename_i x t ht
    split at hk
    · rename_i e x' hu
      obtain ⟨n, hn, hk1⟩ := hA.opt _ _ hk
      unfold lenS at hn
      split at hn
      · rename_i a m cx
        cases hn
        refine done_val hR ha (s := .st (.leaf (.i .i64 _))) (leaf_good trivial) ?_ hk1
        rw [heff]
        simp only [builtinEff, valsOf, List.map_cons, List.map_nil, S0.val, SL.val, ht, hu]; rfl
      · cases hn
    · rename_i kt et x' hu
      obtain ⟨cs, hl, hk1⟩ := hA.peek _ _ _ hk
      rw [ha] at hl
      unfold lenM at hl
      split at hl
      · rename_i id
        split at hl
        · rename_i es ck hgt
          cases hl
          obtain ⟨y, hy, g, hk2⟩ := setC_one hA rfl hk1
          refine done_hget hR ha (s := .st y) g (f := fun H => (hmap H id).map fun p => .int .i64 p.1.length) ?_ ?_ hk2
          · rw [heff]
            simp only [builtinEff, valsOf, List.map_cons, List.map_nil, S0.val, SL.val, ht, hu]
          · simp only [hmap, hgt, Option.map_some, SV.val, hy]
        · cases hl
      · cases hl
    · rename_i n el hu
      refine done_val hR ha (s := .st (.leaf (.i .i64 _))) (leaf_good trivial) ?_ hk
      rw [heff]
      simp only [builtinEff, valsOf, List.map_cons, List.map_nil, ht, hu]; rfl
    · exact absurd hk hA.fail
  · rename_i x t ht
    split at hk
    · rename_i e x' hu
      obtain ⟨n, hn, hk1⟩ := hA.opt _ _ hk
      unfold capS at hn
      split at hn
      · cases hn
        refine done_val hR ha (s := .st (.leaf (.i .i64 _))) (leaf_good trivial) ?_ hk1
        rw [heff]
        simp only [builtinEff, valsOf, List.map_cons, List.map_nil, S0.val, SL.val, ht, hu]; rfl
      · cases hn
        refine done_val hR ha (s := .st (.leaf (.i .i64 _))) (leaf_good trivial) ?_ hk1
        rw [heff]
        simp only [builtinEff, valsOf, List.map_cons, List.map_nil, S0.val, SL.val, ht, hu]; rfl
      · cases hn
    · rename_i n el hu
      refine done_val hR ha (s := .st (.leaf (.i .i64 _))) (leaf_good trivial) ?_ hk
      rw [heff]
      simp only [builtinEff, valsOf, List.map_cons, List.map_nil, ht, hu]; rfl
    · exact absurd hk hA.fail
  · rename_i s x t ht
    split at hk
    · rename_i e hu
      split at hk
      · exact absurd hk hA.fail
      · rename_i hz
        have hz : ¬ X.C.P.cellsOf e = 0 := fun e => by rw [e] at hz; cases hz
        obtain ⟨acts, cs, h', q1, q2, hk1⟩ := hA.heap _ _ _ hk
        rw [ha] at q1 q2
        obtain ⟨v, rfl, q3⟩ := cpG_ok hu hz q1
        obtain ⟨y, rfl, g, hk2⟩ := setC_one hA rfl hk1
        refine done_hop hR q2 (s := .st y) g (f := copyA X.C t s x) ?_ q3 hk2
        rw [heff]
        simp only [builtinEff, valsOf, List.map_cons, List.map_nil, S0.val, SL.val, ht]
    · exact absurd hk hA.fail
  · rename_i m k t ht
    split at hk
    · rename_i kt et hu
      obtain ⟨acts, cs, h', q1, q2, hk1⟩ := hA.heap _ _ _ hk
      rw [ha] at q1 q2
      refine done_hop hR q2 (s := .un) trivial (f := deleteA X.C t m k.val) ?_ (deG_ok hu q1) hk1
      rw [heff]
      simp only [builtinEff, valsOf, List.map_cons, List.map_nil, S0.val, SL.val, ht]
    · exact absurd hk hA.fail
  · rename_i k a k' b'
    split at hk
    · rename_i hkk
      have hkk := kNo_inj hkk
      subst hkk
      obtain ⟨t, h1, hk1⟩ := hA.cmp _ _ _ _ hk
      have hk2 := hA.sel _ _ _ _ hk1
      simp only [cmpRes, Option.some.injEq] at h1
      subst h1
      obtain ⟨p1, p2⟩ := hargs _ (fun y hy l hl => by
        simp only [List.mem_cons, List.not_mem_nil, or_false] at hy
        rcases hy with rfl | rfl <;> (simp only [S0.cells, List.mem_singleton] at hl; subst hl; trivial)) rfl
      refine done_sym hR ha (s := .st (.leaf (.i k _))) (leaf_good trivial) ⟨by rw [ho]; rfl, ?_, rfl, fun w => ?_⟩ hk2
      · rw [ho]; simp only [Op.operands, Call.operands, hb]; simpa using p1
      · simp only [execOp, ho, resolve, hb, Sem.run_bind, p2]
        simp only [Sem.run_pure, Result.andThen_ok, invoke, builtin, valsOf, List.map_cons, List.map_nil, S0.val, SL.val, Sem.run_bind]
        rw [show (⟨[Value.int k a, Value.int k b']⟩ : Array Value) = #[Value.int k a, Value.int k b'] from rfl, run_min_int2]
        simp [SV.val, S0.val, SL.val, den, den1]
    · exact absurd hk hA.fail
  · rename_i k a k' b'
    split at hk
    · rename_i hkk
      have hkk := kNo_inj hkk
      subst hkk
      obtain ⟨t, h1, hk1⟩ := hA.cmp _ _ _ _ hk
      have hk2 := hA.sel _ _ _ _ hk1
      simp only [cmpRes, Option.some.injEq] at h1
      subst h1
      obtain ⟨p1, p2⟩ := hargs _ (fun y hy l hl => by
        simp only [List.mem_cons, List.not_mem_nil, or_false] at hy
        rcases hy with rfl | rfl <;> (simp only [S0.cells, List.mem_singleton] at hl; subst hl; trivial)) rfl
      refine done_sym hR ha (s := .st (.leaf (.i k _))) (leaf_good trivial) ⟨by rw [ho]; rfl, ?_, rfl, fun w => ?_⟩ hk2
      · rw [ho]; simp only [Op.operands, Call.operands, hb]; simpa using p1
      · simp only [execOp, ho, resolve, hb, Sem.run_bind, p2]
        simp only [Sem.run_pure, Result.andThen_ok, invoke, builtin, valsOf, List.map_cons, List.map_nil, S0.val, SL.val, Sem.run_bind]
        rw [show (⟨[Value.int k a, Value.int k b']⟩ : Array Value) = #[Value.int k a, Value.int k b'] from rfl, run_max_int2]
        simp [SV.val, S0.val, SL.val, den, den1]
    · exact absurd hk hA.fail
  · exact absurd hk hA.fail

end
end Sx
end Go.Am

/-
  OPERATIONS, last part: calls; every operation; lists of operations.
-/
namespace Go.Am
namespace Sx

section
variable [Val] [Kno] {R HT : Type} {A : Alg R HT} {X : Ctxt} {Sg : FuncId → Option Sig} {holds : R → Prop} {abs : HT → List HObj}
variable {ev : Env} {σ : St} {h : HT} {o : Oper} {K : KN R HT}

theorem lfsOf_one (x : S0) : lfsOf [x] = x.cells.map SL.lf := by simp [lfsOf]

/-- Results into a temporary. -/
theorem setR_ok (hA : AlgOk A X.C Sg X.T holds abs) (hR : Rp ev σ) {sks : List SK} {rs : List Lf} {ys : List S0} (hy : Told sks rs ys) {H' : List HObj} (ha : abs h = H')
    (hst : StepO X.C X.pts o σ (({ σ with heap := H' } : St).put o.dst (packA (valsOf ys)))) (hk : holds (setR A o.dst sks rs ev h K)) : Done X holds abs o σ K := by
  obtain ⟨y1, rfl, y3⟩ := hy
  unfold setR at hk
  split at hk
  · rename_i sk
    obtain ⟨x, r, e1, e2, hk1⟩ := unS_ok hA hk
    obtain ⟨hr, hk2⟩ := hA.un0 _ _ hk1
    rw [hr, List.append_nil] at e1
    match ys, y1 with
    | [y], y1 =>
      simp only [areIs, Bool.and_true] at y1
      rw [lfsOf_one] at e1
      obtain ⟨v1, v2⟩ := S0.is_val y1 e2 e1
      refine done_heap hR H' ha (s := .st x) (v2 (y3 y (by simp))) ?_ hk2
      rw [show (SV.st x).val = packA (valsOf [y]) from by simp [SV.val, valsOf, packA, v1]]
      exact hst
    | [], y1 => cases y1
    | _ :: _ :: _, y1 => simp [areIs] at y1
  · obtain ⟨hr, hk1⟩ := hA.un0 _ _ hk
    match ys, y1 with
    | [], _ => exact done_heap hR H' ha (s := .un) trivial hst hk1
    | _ :: _, y1 => cases y1
  · rename_i h1 h2
    obtain ⟨xs, r, e1, e2, hk1⟩ := unSs_ok hA hk
    obtain ⟨hr, hk2⟩ := hA.un0 _ _ hk1
    rw [hr, List.append_nil] at e1
    obtain ⟨v1, v2⟩ := areIs_val y1 e2 e1
    have hlen : 2 ≤ xs.length := by
      match xs, e2 with
      | [], e2 => cases sks with
        | nil => exact absurd rfl h2
        | cons _ _ => cases e2
      | [x], e2 => cases sks with
        | nil => exact absurd rfl h2
        | cons a l => cases l with
          | nil => exact absurd rfl (h1 _)
          | cons _ _ => simp [areIs] at e2
      | _ :: _ :: _, _ => simp
    refine done_heap hR H' ha (s := .tup xs) ⟨v2 y3, hlen⟩ ?_ hk2
    have : (SV.tup xs).val = packA (valsOf ys) := by
      rw [v1]
      match xs, hlen with
      | a :: b :: l, _ => rfl
    rw [this]
    exact hst

theorem all_noLoc {xs : List S0} (hg : ∀ x ∈ xs, x.good) : (valsOf xs).all noLoc = true := by
  simp only [valsOf, List.all_eq_true, List.mem_map]
  rintro _ ⟨x, hx, rfl⟩
  exact S0.noLoc (hg x hx)

theorem call_ok (hA : AlgOk A X.C Sg X.T holds abs) (hR : Rp ev σ) (ha : abs h = σ.heap) {c : Call} {hs : List SK} (ho : o.op = .call c)
    (hk : holds (match svals ev c.args.toList with
    | some xs => match c.callee with
      | .builtin b => builtinE A X o.dst (resSK hs) b xs c.argTypes ev h K
      | .value f => match sval ev f with
        | .st (.leaf (.v v)) => match f with
          | .func g => match Sg g with
            | some sg => match areIs xs sg.ps with
              | true => A.call g (lfsOf xs) h fun rs h => setR A o.dst sg.rs rs ev h K
              | false => A.fail
            | none => A.fail
          | _ => A.callv v (valsOf xs) hs h fun rs h => setR A o.dst hs rs ev h K
        | _ => A.fail
      | _ => A.fail
    | none => A.fail)) : Done X holds abs o σ K := by
  split at hk
  · rename_i xs hx
    obtain ⟨hv, hg⟩ := hR.svals hx
    have hnl := all_noLoc hg
    split at hk
    · rename_i b hb
      exact builtin_ok hA hR ha ho hb hx hk
    · rename_i f hc
      split at hk
      · rename_i v hf
        obtain ⟨h1, g1⟩ := hR.sval hf (by simp)
        simp only [SV.val, S0.val, SL.val] at h1
        have gv : goodV v = true := g1 (.v v) (by simp [S0.cells])
        have heff : ∀ {g : FuncId} {first cap : Array Value}, v = .func (.func g) first cap → effOf X.C X.pts (oval σ.tmps) o = some (.call g (first.toList ++ valsOf xs ++ cap.toList)) := by
          intro g first cap e
          subst e
          simp only [effOf, ho, callEff, hc, hv, hnl, h1, (goodV_iff.1 gv).1, Bool.not_true, Bool.false_eq_true, if_false, if_true]
        split at hk
        · rename_i g
          have e : v = .func (.func g) #[] #[] := by
            have := h1
            simp only [oval] at this
            exact this.symm
          split at hk
          · rename_i sg hsg
            split at hk
            · rename_i hps
              obtain ⟨rs, h', ⟨sg', xs', ys, c1, ⟨c2, c3, c4⟩, c5, c6⟩, hk1⟩ := hA.call _ _ _ _ hk
              rw [hsg] at c1
              cases c1
              obtain ⟨v1, _⟩ := areIs_val hps c2 c3.symm
              rw [ha] at c6
              refine setR_ok hA hR c5 rfl (.inl ⟨_, heff e, packA (valsOf ys), abs h', ?_, rfl⟩) hk1
              rw [v1]
              show uCall X.C g _ _ _ _
              simpa using c6
            · exact absurd hk hA.fail
          · exact absurd hk hA.fail
        · obtain ⟨rs, h', ⟨ys, c1, c2⟩, hk1⟩ := hA.callv _ _ _ _ _ hk
          rw [ha] at c2
          rcases c2 with ⟨g, first, cap, e, c2⟩ | ⟨l, e, c2⟩
          · exact setR_ok hA hR c1 rfl (.inl ⟨_, heff e, packA (valsOf ys), abs h', c2, rfl⟩) hk1
          · have heff2 : effOf X.C X.pts (oval σ.tmps) o = some (.yield l (valsOf xs)) := by
              subst e
              simp only [effOf, ho, callEff, hc, hv, hnl, h1, Bool.not_true, Bool.false_eq_true, if_false]
              rfl
            exact setR_ok hA hR c1 rfl (.inl ⟨_, heff2, packA (valsOf ys), abs h', c2, rfl⟩) hk1
      · exact absurd hk hA.fail
    · exact absurd hk hA.fail
  · exact absurd hk hA.fail

/-- EVERY OPERATION. -/
theorem opE_ok (hA : AlgOk A X.C Sg X.T holds abs) (hR : Rp ev σ) (ha : abs h = σ.heap) {hs : List SK} (hk : holds (opE A X Sg o hs ev h K)) : Done X holds abs o σ K := by
  unfold opE at hk
  split at hk
  · rename_i x ho
    split at hk
    · exact absurd hk hA.fail
    · rename_i hn; exact move_ok hR ha (.inl ho) rfl (fun e => hn e) hk
  · rename_i x ho
    split at hk
    · exact absurd hk hA.fail
    · rename_i hn; exact move_ok hR ha (.inr ho) rfl (fun e => hn e) hk
  · rename_i c a b ho; exact pick_ok hA hR ha ho hk
  · rename_i t ho
    split at hk
    · rename_i x hx
      obtain ⟨z, h1, h2, h3⟩ := zeroS_ok hx
      exact newV_ok hA hR ha h3 (by simp only [effOf, ho, h1, Option.bind_some, h2]) (.inr ho) hk
    · exact absurd hk hA.fail
  · rename_i t y ho
    split at hk
    · rename_i x hx
      obtain ⟨h1, h2⟩ := hR.sval hx (by simp)
      exact newV_ok hA hR ha h2 (by simp only [effOf, ho, h1]; rfl) (.inl ⟨y, ho⟩) hk
    · exact absurd hk hA.fail
  · rename_i t ps ho; exact build_ok hA hR ha ho hk
  · rename_i t n ps ho; exact buildSlice_ok hA hR ha ho hk
  · rename_i t a ho
    split at hk
    · rename_i agg hag
      split at hk
      · rename_i hb; exact load_ok hA hR ha ho hag (eqB_eq hb) hk
      · exact absurd hk hA.fail
    · exact absurd hk hA.fail
  · rename_i t a y ho
    split at hk
    · rename_i x hx; exact store_ok hA hR ha ho hx hk
    · exact absurd hk hA.fail
  · rename_i x ho; exact nilCheck_ok hA hR ha ho hk
  · rename_i op t x y yt ho
    split at hk
    · rename_i a b e1 e2; exact bin_ok hA hR ha ho e1 e2 hk
    · exact absurd hk hA.fail
  · rename_i op t x ho; exact un_ok hA hR ha ho hk
  · rename_i sT dT x ho; exact conv_ok hA hR ha ho hk
  · rename_i fn first cap ho; exact makeFunc_ok hA hR ha ho hk
  · rename_i t r ho; exact makeMap_ok hA hR ha ho hk
  · rename_i t l c ho; exact makeSlice_ok hA hR ha ho hk
  · rename_i t x lo hi mx ho; exact sliceE_ok hA hR ha ho hk
  · rename_i t x f ho; exact fieldAddr_ok hA hR ha ho hk
  · rename_i t x i ho; exact indexAddr_ok hA hR ha ho hk
  · rename_i t x f ho; exact field_ok hA hR ha ho hk
  · rename_i t x i ho; exact index_ok hA hR ha ho hk
  · rename_i t m k ok ho; exact look_ok hA hR ha ho hk
  · rename_i t m k v ho; exact mapUp_ok hA hR ha (.inl ho) hk
  · rename_i t m k v ho; exact mapUp_ok hA hR ha (.inr ho) hk
  · rename_i t m k ho; exact mapEn_ok hA hR ha ho hk
  · rename_i t m s v ho; exact entSt_ok hA hR ha ho hk
  · rename_i t i ho; exact extract_ok hA hR ha ho hk
  · rename_i c ho; exact call_ok hA hR ha ho hk
  · exact absurd hk hA.fail

/-- A step of a region. -/
def DoneI (X : Ctxt) (holds : R → Prop) (abs : HT → List HObj) (ops : Array Oper) (i : Nat) (o : Oper) (σ : St) (K : KN R HT) : Prop :=
  ∃ σ' ev' h', stepRel X.C (uB X.C) X.pts ops i σ σ' ∧ Rp ev' σ' ∧ abs h' = σ'.heap ∧ Fr o.dst.toList (opKey X.pts o).toList (opRow X.pts o).toList σ σ' ∧ holds (K ev' h')

theorem rp_guard (hR : Rp ev σ) {d : Nat} {t : Bool} (hd : ev.tm.getD d .no = .st (.leaf (.b t))) : Rp ⟨ev.tm.set d (.st (.leaf (.l t))), ev.lc⟩ σ := by
  obtain ⟨h1, _⟩ := hR.at hd (by simp)
  refine ⟨by simp [hR.len], fun i x hx => ?_, hR.llen, hR.row⟩
  simp only [List.getElem?_set] at hx
  split at hx
  · rename_i hi
    subst hi
    split at hx
    · cases hx; exact ⟨h1, leaf_good trivial⟩
    · cases hx
  · exact hR.val i x hx

theorem opG_ok (hA : AlgOk A X.C Sg X.T holds abs) (hR : Rp ev σ) (ha : abs h = σ.heap) {ops : Array Oper} {i : Nat} {hs : List SK} (hi : ops[i]? = some o) (hk : holds (opG A X Sg ops o hs ev h K)) : DoneI X holds abs ops i o σ K := by
  have wanted : ∀ {ev : Env}, Rp ev σ → wantedA ops σ.tmps o = some true → holds (opE A X Sg o hs ev h K) → DoneI X holds abs ops i o σ K := by
    intro ev hR hw hk
    obtain ⟨σ', ev', h', q1, q2, q3, q4, q5⟩ := opE_ok hA hR ha hk
    exact ⟨σ', ev', h', by unfold stepRel; simp only [hi, hw]; exact q1, q2, q3, q4, q5⟩
  have unwanted : ∀ {ev : Env}, Rp ev σ → wantedA ops σ.tmps o = some false → holds (setD o.dst .un ev h K) → DoneI X holds abs ops i o σ K := by
    intro ev hR hw hk
    obtain ⟨ev', h1, h2⟩ := setD_ok hR (s := .un) trivial hk
    refine ⟨σ.put o.dst undef, ev', h, by unfold stepRel; simp only [hi, hw], h1, ?_, .put _ _ _ _, h2⟩
    rw [ha]; cases o.dst <;> rfl
  unfold opG at hk
  split at hk
  · rename_i hg
    exact wanted hR (by simp only [wantedA, hg]) hk
  · rename_i j want hg
    split at hk
    · rename_i d hd
      split at hk
      · rename_i b hb
        obtain ⟨h1, _⟩ := hR.at hb (by simp)
        have hw : wantedA ops σ.tmps o = some (b == want) := by
          simp only [wantedA, hg, hd, Option.bind_some, h1]; rfl
        split at hk
        · rename_i e; exact wanted hR (by rw [hw, e]) hk
        · rename_i e; exact unwanted hR (by rw [hw, e]) hk
      · rename_i hb
        obtain ⟨h1, _⟩ := hR.at hb (by simp)
        have hw : wantedA ops σ.tmps o = some false := by
          simp only [wantedA, hg, hd, Option.bind_some, h1]; rfl
        exact unwanted hR hw hk
      · rename_i t hb
        obtain ⟨h1, _⟩ := hR.at hb (by simp)
        have hw : wantedA ops σ.tmps o = some (t == want) := by
          simp only [wantedA, hg, hd, Option.bind_some, h1]; rfl
        have hR' := rp_guard hR hb
        split at hk
        · rcases hA.cond _ _ _ hk with ⟨ht, hk1⟩ | ⟨ht, hk1⟩
          · rw [setK_eq] at hk1
            subst ht
            exact wanted hR' hw hk1
          · rw [setK_eq] at hk1
            subst ht
            exact unwanted hR' hw hk1
        · rcases hA.cond _ _ _ hk with ⟨ht, hk1⟩ | ⟨ht, hk1⟩
          · rw [setK_eq] at hk1
            subst ht
            exact unwanted hR' hw hk1
          · rw [setK_eq] at hk1
            subst ht
            exact wanted hR' hw hk1
      · exact absurd hk hA.fail
    · exact absurd hk hA.fail

/-- What operations write. -/
def wsOf (l : List Oper) : List Nat := l.filterMap (·.dst)
def ksOf (pts : List Nat) (l : List Oper) : List Nat := l.filterMap (opKey pts)
def rsOf (pts : List Nat) (l : List Oper) : List Nat := l.filterMap (opRow pts)

theorem mem_toList_filterMap {f : Oper → Option Nat} {o : Oper} {l : List Oper} (ho : o ∈ l) : ∀ i ∈ (f o).toList, i ∈ l.filterMap f := by
  intro i hi
  rw [List.mem_filterMap]
  exact ⟨o, ho, by simpa using hi⟩

theorem opsE_ok (hA : AlgOk A X.C Sg X.T holds abs) {ops : Array Oper} : ∀ (l : List Oper) (i : Nat) (hs : List (List SK)) (ev : Env) (h : HT) (σ : St), ops.toList.drop i = l → Rp ev σ → abs h = σ.heap → holds (opsE A X Sg ops l hs ev h K) →
    ∃ σ' ev' h', opsRel X.C (uB X.C) X.pts ops (List.range' i l.length) σ σ' ∧ Rp ev' σ' ∧ abs h' = σ'.heap ∧ Fr (wsOf l) (ksOf X.pts l) (rsOf X.pts l) σ σ' ∧ holds (K ev' h')
  | [], i, hs, ev, h, σ, _, hR, ha, hk => ⟨σ, ev, h, rfl, hR, ha, .refl _ _ _ _, hk⟩
  | o :: l, i, hs, ev, h, σ, hl, hR, ha, hk => by
    have hi : ops[i]? = some o := by
      have : (ops.toList.drop i)[0]? = some o := by rw [hl]; rfl
      simpa using this
    obtain ⟨σ₁, ev₁, h₁, q1, q2, q3, q4, q5⟩ := opG_ok (K := fun ev h => opsE A X Sg ops l hs.tail ev h K) hA hR ha hi hk
    have hl' : ops.toList.drop (i + 1) = l := by
      rw [← List.drop_drop, hl]; rfl
    obtain ⟨σ', ev', h', p1, p2, p3, p4, p5⟩ := opsE_ok hA l (i + 1) hs.tail ev₁ h₁ σ₁ hl' q2 q3 q5
    refine ⟨σ', ev', h', ⟨σ₁, q1, p1⟩, p2, p3, ?_, p5⟩
    have f1 : Fr (wsOf (o :: l)) (ksOf X.pts (o :: l)) (rsOf X.pts (o :: l)) σ σ₁ := q4.mono (mem_toList_filterMap (by simp)) (mem_toList_filterMap (by simp)) (mem_toList_filterMap (by simp))
    have sub : ∀ (f : Oper → Option Nat) (i : Nat), i ∈ l.filterMap f → i ∈ (o :: l).filterMap f := by
      intro f i hi
      rw [List.mem_filterMap] at hi ⊢
      obtain ⟨x, hx, e⟩ := hi
      exact ⟨x, by simp [hx], e⟩
    exact f1.trans (p4.mono (sub _) (sub _) (sub _))

end
end Sx
end Go.Am

/-
  CODE: what the algebra says of it, the abstract machine does.
-/
namespace Go.Am
namespace Sx

section
variable [Val] [Kno] {R HT : Type} {A : Alg R HT} {X : Ctxt} {Sg : FuncId → Option Sig} {holds : R → Prop} {abs : HT → List HObj}

/-! ### Environments behind code -/

theorem clrT_eq (ws ks : List Nat) : ∀ (l : List SV) (i : Nat) (K : List SV → R), ∃ l', clrT ws ks l i K = K l' ∧ l'.length = l.length ∧
    ∀ (j : Nat) s, l'[j]? = some s → s = .no ∨ (l[j]? = some s ∧ ¬ ws.contains (i + j) = true ∧ s.inRows ks = false)
  | [], i, K => ⟨[], rfl, rfl, fun j s h => by simp at h⟩
  | x :: l, i, K => by
    obtain ⟨l', h1, h2, h3⟩ := clrT_eq ws ks l (i + 1) fun l => match ws.contains i || x.inRows ks with
      | true => K (.no :: l)
      | false => K (x :: l)
    have hr : ∀ (j : Nat) s, l'[j]? = some s → s = .no ∨ ((x :: l)[j + 1]? = some s ∧ ¬ ws.contains (i + (j + 1)) = true ∧ s.inRows ks = false) := by
      intro j s hs
      have := h3 j s hs
      rw [show i + 1 + j = i + (j + 1) by omega] at this
      simpa using this
    have h1' : clrT ws ks (x :: l) i K = (match ws.contains i || x.inRows ks with
      | true => K (.no :: l')
      | false => K (x :: l')) := h1
    cases hc : ws.contains i || x.inRows ks with
    | true =>
      refine ⟨.no :: l', by rw [h1', hc], by simp [h2], fun j s hs => ?_⟩
      cases j with
      | zero => simp at hs; exact .inl hs.symm
      | succ j => exact hr j s (by simpa using hs)
    | false =>
      simp only [Bool.or_eq_false_iff] at hc
      refine ⟨x :: l', by rw [h1']; simp only [hc, Bool.or_self], by simp [h2], fun j s hs => ?_⟩
      cases j with
      | zero =>
        simp at hs
        subst hs
        exact .inr ⟨rfl, by rw [Nat.add_zero, hc.1]; exact Bool.false_ne_true, hc.2⟩
      | succ j => exact hr j s (by simpa using hs)

/-- What is known of a row behind code that writes it. -/
def rowLike (r r0 : LR) : Prop := r = .unk ∨ (∃ n, r = .any n ∧ (r0 = .any n ∨ ∃ cs, r0 = .row cs ∧ cs.length = n))

theorem clrR_eq (ws ks : List Nat) (nw : LR) : ∀ (l : List LR) (i : Nat) (K : List LR → R), ∃ l', clrR ws ks nw l i K = K l' ∧ l'.length = l.length ∧
    ∀ (j : Nat) r, l'[j]? = some r → (ks.contains (i + j) = true ∧ r = nw) ∨ (ks.contains (i + j) = false ∧ ws.contains (i + j) = true ∧ ∃ r0, l[j]? = some r0 ∧ rowLike r r0) ∨
      (ks.contains (i + j) = false ∧ ws.contains (i + j) = false ∧ l[j]? = some r)
  | [], i, K => ⟨[], rfl, rfl, fun j s h => by simp at h⟩
  | x :: l, i, K => by
    obtain ⟨l', h1, h2, h3⟩ := clrR_eq ws ks nw l (i + 1) fun l => match ks.contains i, ws.contains i with
      | true, _ => K (nw :: l)
      | false, true => (match x with
        | .row cs => forceLen cs.length fun n => K (.any n :: l)
        | .any n => K (.any n :: l)
        | _ => K (.unk :: l))
      | false, false => K (x :: l)
    have hr : ∀ (j : Nat) r, l'[j]? = some r → (ks.contains (i + (j + 1)) = true ∧ r = nw) ∨ (ks.contains (i + (j + 1)) = false ∧ ws.contains (i + (j + 1)) = true ∧ ∃ r0, (x :: l)[j + 1]? = some r0 ∧ rowLike r r0) ∨
      (ks.contains (i + (j + 1)) = false ∧ ws.contains (i + (j + 1)) = false ∧ (x :: l)[j + 1]? = some r) := by
      intro j s hs
      have := h3 j s hs
      rw [show i + 1 + j = i + (j + 1) by omega] at this
      simpa using this
    have fin : ∀ y : LR, clrR ws ks nw (x :: l) i K = K (y :: l') → ((ks.contains i = true ∧ y = nw) ∨ (ks.contains i = false ∧ ws.contains i = true ∧ rowLike y x) ∨ (ks.contains i = false ∧ ws.contains i = false ∧ y = x)) →
        ∃ l', clrR ws ks nw (x :: l) i K = K l' ∧ l'.length = (x :: l).length ∧ ∀ (j : Nat) r, l'[j]? = some r → (ks.contains (i + j) = true ∧ r = nw) ∨ (ks.contains (i + j) = false ∧ ws.contains (i + j) = true ∧ ∃ r0, (x :: l)[j]? = some r0 ∧ rowLike r r0) ∨
          (ks.contains (i + j) = false ∧ ws.contains (i + j) = false ∧ (x :: l)[j]? = some r) := by
      intro y hy hc
      refine ⟨y :: l', hy, by simp [h2], fun j r hs => ?_⟩
      cases j with
      | zero =>
        simp at hs
        subst hs
        rcases hc with hc | ⟨a, b, c⟩ | ⟨a, b, c⟩
        · exact .inl hc
        · exact .inr (.inl ⟨a, b, x, rfl, c⟩)
        · exact .inr (.inr ⟨a, b, by rw [c]; rfl⟩)
      | succ j => exact hr j r (by simpa using hs)
    cases hk : ks.contains i with
    | true => exact fin nw (by show _ = _; refine h1.trans ?_; simp only [hk]) (.inl ⟨hk, rfl⟩)
    | false =>
      cases hw : ws.contains i with
      | false => exact fin x (by refine h1.trans ?_; simp only [hk, hw]) (.inr (.inr ⟨hk, hw, rfl⟩))
      | true =>
        cases x with
        | row cs => exact fin (.any cs.length) (by refine h1.trans ?_; simp only [hk, hw, forceLen_eq]) (.inr (.inl ⟨hk, hw, .inr ⟨_, rfl, .inr ⟨cs, rfl, rfl⟩⟩⟩))
        | any n => exact fin (.any n) (by refine h1.trans ?_; simp only [hk, hw]) (.inr (.inl ⟨hk, hw, .inr ⟨_, rfl, .inl rfl⟩⟩))
        | unk => exact fin .unk (by refine h1.trans ?_; simp only [hk, hw]) (.inr (.inl ⟨hk, hw, .inl rfl⟩))
        | nil => exact fin .unk (by refine h1.trans ?_; simp only [hk, hw]) (.inr (.inl ⟨hk, hw, .inl rfl⟩))

theorem upT_ok {C : Cfg} {T : Nat → Site} (hA : AlgOk A C Sg T holds abs) : ∀ (lv : List (Nat × SK)) (xs : List S0) (tm : List SV) (K : List SV → R), holds (upT A lv xs tm K) → areIs xs (lv.map (·.2)) = true →
    ∃ tm', holds (K tm') ∧ tm'.length = tm.length ∧ ∀ (j : Nat) s, tm'[j]? = some s → tm[j]? = some s ∨ ∃ sk x, (j, sk) ∈ lv ∧ s = .st x ∧ ((j, sk), x) ∈ lv.zip xs
  | [], xs, tm, K, hk, _ => ⟨tm, hk, rfl, fun j s hs => .inl hs⟩
  | p :: lv, [], tm, K, hk, h => by cases h
  | p :: lv, x :: xs, tm, K, hk, h => by
    simp only [List.map_cons, areIs, Bool.and_eq_true] at h
    have hk' : holds (setK (.st x) tm p.1 fun tm => upT A lv xs tm K) := hk
    rw [setK_eq] at hk'
    obtain ⟨tm', h1, h2, h3⟩ := upT_ok hA lv xs _ K hk' h.2
    refine ⟨tm', h1, by rw [h2]; simp, fun j s hs => ?_⟩
    rcases h3 j s hs with h4 | ⟨sk, y, h4, h5, h6⟩
    · simp only [List.getElem?_set] at h4
      split at h4
      · rename_i hj
        split at h4
        · cases h4
          subst hj
          exact .inr ⟨p.2, x, by simp, rfl, by simp⟩
        · cases h4
      · exact .inl h4
    · exact .inr ⟨sk, y, by simp [h4], h5, by simp [h6]⟩

theorem upR_ok {C : Cfg} {T : Nat → Site} (hA : AlgOk A C Sg T holds abs) : ∀ (lv : List (Nat × List LK)) (ls : List Lf) (lc : List LR) (K : List LR → List Lf → R), holds (upR A lv ls lc K) →
    ∃ (lc' : List LR) (r : List Lf) (css : List (List SL)), holds (K lc' r) ∧ ls = (css.map (·.map SL.lf)).flatten ++ r ∧ css.length = lv.length ∧ (∀ (i : Nat) p cs, lv[i]? = some p → css[i]? = some cs → allIs cs p.2 = true) ∧ lc'.length = lc.length ∧
      ∀ (j : Nat) s, lc'[j]? = some s → lc[j]? = some s ∨ ∃ (i : Nat) (ks : List LK) (cs : List SL), lv[i]? = some (j, ks) ∧ css[i]? = some cs ∧ s = .row cs
  | [], ls, lc, K, hk => ⟨lc, ls, [], hk, rfl, rfl, fun _ _ _ h => by simp at h, rfl, fun j s hs => .inl hs⟩
  | p :: lv, ls, lc, K, hk => by
    have hk' : holds (unL A p.2 ls fun cs r => setK (.row cs) lc p.1 fun lc => upR A lv r lc K) := hk
    obtain ⟨cs, r, e1, e2, hk1⟩ := unL_ok hA hk'
    rw [setK_eq] at hk1
    obtain ⟨lc', r', css, h1, h2, h3, h4, h5, h6⟩ := upR_ok hA lv r _ K hk1
    refine ⟨lc', r', cs :: css, h1, by rw [e1, h2]; simp, by simp [h3], fun i q ds hq hd => ?_, by rw [h5]; simp, fun j s hs => ?_⟩
    · cases i with
      | zero => simp at hq hd; subst hq; subst hd; exact e2
      | succ i => exact h4 i q ds (by simpa using hq) (by simpa using hd)
    · rcases h6 j s hs with h7 | ⟨i, ks, ds, h7, h8, h9⟩
      · simp only [List.getElem?_set] at h7
        split at h7
        · rename_i hj
          split at h7
          · cases h7
            subst hj
            exact .inr ⟨0, p.2, cs, rfl, rfl, rfl⟩
          · cases h7
        · exact .inl h7
      · exact .inr ⟨i + 1, ks, ds, by simpa using h7, by simpa using h8, h9⟩

/-- What is packed is what the temporaries hold. -/
theorem pkT_ok {ev : Env} {σ : St} (hR : Rp ev σ) : ∀ {lv : List (Nat × SK)} {ls : List Lf}, pkT ev.tm lv = some ls →
    ∃ xs, lfsOf xs = ls ∧ areIs xs (lv.map (·.2)) = true ∧ (∀ x ∈ xs, x.good) ∧ ∀ p ∈ lv.zip xs, σ.tmps[p.1.1]? = some p.2.val
  | [], ls, h => by cases h; exact ⟨[], rfl, rfl, by simp, by simp⟩
  | (t, sk) :: lv, ls, h => by
    simp only [pkT] at h
    split at h
    · rename_i x ls' hx hl
      split at h
      · rename_i his
        cases h
        obtain ⟨xs, h1, h2, h3, h4⟩ := pkT_ok hR hl
        obtain ⟨g1, g2⟩ := hR.at hx (by simp)
        refine ⟨x :: xs, by simp [lfsOf, h1], by simp [areIs, his, h2], List.forall_mem_cons.2 ⟨g2, h3⟩, fun p hp => ?_⟩
        simp only [List.zip_cons_cons, List.mem_cons] at hp
        rcases hp with rfl | hp
        · exact g1
        · exact h4 p hp
      · cases h
    · cases h

theorem pkR_ok {ev : Env} {σ : St} (hR : Rp ev σ) : ∀ {lv : List (Nat × List LK)} {ls : List Lf}, pkR ev.lc lv = some ls →
    ∃ css : List (List SL), (css.map (·.map SL.lf)).flatten = ls ∧ css.length = lv.length ∧ (∀ (i : Nat) p cs, lv[i]? = some p → css[i]? = some cs → allIs cs p.2 = true ∧ (∀ c ∈ cs, c.good) ∧ σ.loc[p.1]? = some (some (cs.map SL.val)))
  | [], ls, h => by cases h; exact ⟨[], rfl, rfl, fun _ _ _ h => by simp at h⟩
  | (s, ks) :: lv, ls, h => by
    simp only [pkR] at h
    split at h
    · rename_i cs ls' hx hl
      split at h
      · rename_i his
        cases h
        obtain ⟨css, h1, h2, h3⟩ := pkR_ok hR hl
        have hr : rowAt ev s = some cs := by unfold rowAt; rw [hx]
        obtain ⟨g1, g2, _⟩ := rowAt_ok hR hr
        refine ⟨cs :: css, by simp [h1], by simp [h2], fun i p ds hp hd => ?_⟩
        cases i with
        | zero => simp at hp hd; subst hp; subst hd; exact ⟨his, g2, g1⟩
        | succ i => exact h3 i p ds (by simpa using hp) (by simpa using hd)
      · cases h
    · cases h

theorem css_eq : ∀ {lv : List (Nat × List LK)} {a b : List (List SL)} {r : List Lf}, a.length = lv.length → b.length = lv.length →
    (∀ (i : Nat) p cs, lv[i]? = some p → a[i]? = some cs → allIs cs p.2 = true) → (∀ (i : Nat) p cs, lv[i]? = some p → b[i]? = some cs → allIs cs p.2 = true) →
    (a.map (·.map SL.lf)).flatten = (b.map (·.map SL.lf)).flatten ++ r → r = [] ∧ ∀ (i : Nat) x y, a[i]? = some x → b[i]? = some y → x.map SL.lf = y.map SL.lf
  | [], a, b, r, la, lb, _, _, h => by
    have la : a = [] := by simpa using la
    have lb : b = [] := by simpa using lb
    subst la; subst lb
    simp at h
    exact ⟨h, fun i x y hx => by simp at hx⟩
  | p :: lv, a, b, r, la, lb, ha, hb, h => by
    cases a with
    | nil => simp at la
    | cons x a => cases b with
      | nil => simp at lb
      | cons y b =>
        simp only [List.map_cons, List.flatten_cons, List.append_assoc] at h
        have h1 := allIs_length (ha 0 p x rfl rfl)
        have h2 := allIs_length (hb 0 p y rfl rfl)
        obtain ⟨e1, e2⟩ := List.append_inj h (by simp [h1, h2])
        obtain ⟨f1, f2⟩ := css_eq (lv := lv) (by simpa using la) (by simpa using lb) (fun i q cs hq hc => ha (i + 1) q cs (by simpa using hq) (by simpa using hc))
          (fun i q cs hq hc => hb (i + 1) q cs (by simpa using hq) (by simpa using hc)) e2
        refine ⟨f1, fun i u v hu hv => ?_⟩
        cases i with
        | zero => simp at hu hv; subst hu; subst hv; exact e1
        | succ i => exact f2 i u v (by simpa using hu) (by simpa using hv)

theorem mem_zip_at {α β : Type} {l : List α} {m : List β} {p : α × β} (h : p ∈ l.zip m) : ∃ i : Nat, l[i]? = some p.1 ∧ m[i]? = some p.2 := by
  obtain ⟨i, hi⟩ := List.getElem?_of_mem h
  rw [List.getElem?_zip_eq_some] at hi
  exact ⟨i, hi⟩

theorem lfs_length : ∀ {a b : List S0} {sks : List SK}, areIs a sks = true → areIs b sks = true → (lfsOf a).length = (lfsOf b).length
  | [], [], [], _, _ => rfl
  | x :: a, y :: b, k :: sks, ha, hb => by
    simp only [areIs, Bool.and_eq_true] at ha hb
    obtain ⟨n, n1, n2⟩ := S0.is_len ha.1
    simp only [lfsOf, List.length_append, List.length_map, n1, n2 y hb.1, lfs_length ha.2 hb.2]
  | [], _ :: _, [], _, hb => by cases hb
  | [], _, _ :: _, ha, _ => by cases ha
  | _ :: _, _, [], ha, _ => by cases ha
  | _ :: _, [], _ :: _, _, hb => by cases hb

/-- A state that is like another one, but that some rows are made anew. -/
structure Like (ks : List Nat) (nw : LR) (σ' τ : St) : Prop where
  tlen : τ.tmps.length = σ'.tmps.length
  llen : τ.loc.length = σ'.loc.length
  tm : ∀ (i : Nat) v, σ'.tmps[i]? = some v → noLoc v = true → τ.tmps[i]? = some v
  tp : ∀ (i s off : Nat), σ'.tmps[i]? = some (.pointer (some ⟨s, off, some 0⟩)) → s ∉ ks → τ.tmps[i]? = some (.pointer (some ⟨s, off, some 0⟩))
  row : ∀ (s : Nat) x, σ'.loc[s]? = some x → s ∉ ks → τ.loc[s]? = some x
  new : ∀ s, s ∈ ks → s < τ.loc.length → nw.ok τ.loc s

theorem Like.refl (ks : List Nat) (σ : St) : Like ks .unk σ σ := ⟨rfl, rfl, fun _ _ h _ => h, fun _ _ _ h _ => h, fun _ _ h _ => h, fun _ _ _ => trivial⟩

/-- The environment behind a piece of code is right for the state behind it. -/
theorem reE_ok {C : Cfg} {T : Nat → Site} (hA : AlgOk A C Sg T holds abs) {pts : List Nat} {c : Code} {nw : LR} {lv : Live} {ev ev' : Env} {σ σ' τ : St} {ls : List Lf} {K : Env → R}
    (hR : Rp ev σ) (hR' : Rp ev' σ') (hF : Fr (wrT c) (boxKeys pts c) (wrR pts c) σ σ') (hp : pk ev' lv = some ls) (hτ : Like (boxKeys pts c) nw σ' τ)
    (hlive : τ = σ' ∨ ∀ p ∈ lv.rows, p.1 ∉ boxKeys pts c) (hk : holds (reE A pts c nw lv ev ls K)) : ∃ ev1, Rp ev1 τ ∧ holds (K ev1) := by
  unfold reE at hk
  obtain ⟨tm1, h1, h2, h3⟩ := clrT_eq (wrT c) (boxKeys pts c) ev.tm 0 fun tm => clrR (wrR pts c) (boxKeys pts c) nw ev.lc 0 fun lc =>
    unSs A (lv.tm.map (·.2)) ls fun xs r => upT A lv.tm xs tm fun tm => upR A lv.rows r lc fun lc r => A.un0 r (K ⟨tm, lc⟩)
  rw [h1] at hk
  obtain ⟨lc1, g1, g2, g3⟩ := clrR_eq (wrR pts c) (boxKeys pts c) nw ev.lc 0 fun lc =>
    unSs A (lv.tm.map (·.2)) ls fun xs r => upT A lv.tm xs tm1 fun tm => upR A lv.rows r lc fun lc r => A.un0 r (K ⟨tm, lc⟩)
  rw [g1] at hk
  obtain ⟨xs, r, e1, e2, hk1⟩ := unSs_ok hA hk
  obtain ⟨tm2, hk2, u1, u2⟩ := upT_ok hA _ _ _ _ hk1 e2
  obtain ⟨lc2, r2, css, hk3, v1, v2, v3, v4, v5⟩ := upR_ok hA _ _ _ _ hk2
  obtain ⟨hr2, hk4⟩ := hA.un0 _ _ hk3
  subst hr2
  rw [List.append_nil] at v1
  unfold pk at hp
  split at hp
  · rename_i la lb hpa hpb
    cases hp
    obtain ⟨ys, y1, y2, y3, y4⟩ := pkT_ok hR' hpa
    obtain ⟨dss, d1, d2, d3⟩ := pkR_ok hR' hpb
    rw [← y1, ← d1] at e1
    obtain ⟨s1, s2⟩ := List.append_inj e1 (lfs_length y2 e2)
    obtain ⟨w1, w2⟩ := areIs_val y2 e2 s1
    have hgood := w2 y3
    obtain ⟨_, z2⟩ := css_eq (r := []) d2 v2 (fun i p cs a b => (d3 i p cs a b).1) v3 (by rw [s2, v1, List.append_nil])
    refine ⟨⟨tm2, lc2⟩, ⟨?_, fun i s hs => ?_, ?_, fun i s hs => ?_⟩, hk4⟩
    · show tm2.length = _
      rw [u1, h2, hR.len, hτ.tlen, hF.tlen]
    · rcases u2 i s hs with hs1 | ⟨sk, x, a1, rfl, a3⟩
      · rcases h3 i s hs1 with rfl | ⟨b1, b2, b3⟩
        · trivial
        · have hok := hR.val i s b1
          rw [Nat.zero_add] at b2
          have b2 : i ∉ wrT c := by simpa using b2
          have keepN : ∀ v, σ.tmps[i]? = some v → noLoc v = true → τ.tmps[i]? = some v := fun v hv hn => hτ.tm i v (hF.tm i v hv b2 hn) hn
          have keepP : ∀ s off, σ.tmps[i]? = some (.pointer (some ⟨s, off, some 0⟩)) → s ∉ boxKeys pts c → τ.tmps[i]? = some (.pointer (some ⟨s, off, some 0⟩)) := fun s off hv hn =>
            hτ.tp i s off (hF.tp i s off hv b2 hn) hn
          cases s with
          | no => trivial
          | st x => exact ⟨keepN _ hok.1 (S0.noLoc hok.2), hok.2⟩
          | tup xs => simp [SV.inRows] at b3
          | un => exact ⟨keepN _ hok.1 rfl, trivial⟩
          | gad g off => exact ⟨keepN _ hok.1 rfl, trivial⟩
          | gdx g base ix => exact ⟨keepN _ hok.1 rfl, trivial⟩
          | lad s off => exact ⟨keepP s off hok.1 (by simpa [SV.inRows] using b3), trivial⟩
          | ldx s base ix => exact ⟨keepP s _ hok.1 (by simpa [SV.inRows] using b3), trivial⟩
      · obtain ⟨k, q1, q2⟩ := mem_zip_at a3
        simp only at q1 q2
        have hx : (valsOf xs)[k]? = some x.val := by simp [valsOf, q2]
        rw [← w1] at hx
        simp only [valsOf, List.getElem?_map, Option.map_eq_some_iff] at hx
        obtain ⟨y, hy1, hy2⟩ := hx
        have hm : ((i, sk), y) ∈ lv.tm.zip ys := by
          apply List.mem_of_getElem? (i := k)
          rw [List.getElem?_zip_eq_some]
          exact ⟨q1, hy1⟩
        have hv := y4 _ hm
        simp only at hv
        rw [hy2] at hv
        have gx := hgood x (List.mem_of_getElem? q2)
        exact ⟨hτ.tm i _ hv (S0.noLoc gx), gx⟩
    · show lc2.length = _
      rw [v4, g2, hR.llen, hτ.llen, hF.llen]
    · rcases v5 i s hs with hs1 | ⟨k, ks, cs, a1, a2, rfl⟩
      · rcases g3 i s hs1 with ⟨b1, rfl⟩ | ⟨b1, b2, r0, b3, b4⟩ | ⟨b1, b2, b3⟩
        · rw [Nat.zero_add] at b1
          refine hτ.new i (by simpa using b1) ?_
          rw [hτ.llen, hF.llen, ← hR.llen, ← g2]
          exact (List.getElem?_eq_some_iff.1 hs1).1
        · rw [Nat.zero_add] at b1
          have hnk : i ∉ boxKeys pts c := by simpa using b1
          have h0 := hR.row i r0 b3
          rcases b4 with rfl | ⟨n, rfl, b4⟩
          · trivial
          · have : ∃ vs, σ.loc[i]? = some (some vs) ∧ vs.length = n := by
              rcases b4 with rfl | ⟨cs, rfl, hl⟩
              · exact h0
              · exact ⟨_, h0.1, by simpa using hl⟩
            obtain ⟨vs, c1, c2⟩ := this
            obtain ⟨vs', c3, c4⟩ := hF.rlen i vs c1 hnk
            exact ⟨vs', hτ.row i _ c3 hnk, c4.trans c2⟩
        · rw [Nat.zero_add] at b1 b2
          have hnk : i ∉ boxKeys pts c := by simpa using b1
          have hnw : i ∉ wrR pts c := by simpa using b2
          have h0 := hR.row i s b3
          have keep : ∀ x, σ.loc[i]? = some x → τ.loc[i]? = some x := fun x hx => hτ.row i x (hF.row i x hx hnw) hnk
          cases s with
          | unk => trivial
          | nil => exact keep _ h0
          | any n => obtain ⟨vs, c1, c2⟩ := h0; exact ⟨vs, keep _ c1, c2⟩
          | row cs => exact ⟨keep _ h0.1, h0.2⟩
      · have hd : ∃ ds, dss[k]? = some ds := by
          have : k < dss.length := by rw [d2]; exact (List.getElem?_eq_some_iff.1 a1).1
          exact ⟨dss[k], by simp [this]⟩
        obtain ⟨ds, hd⟩ := hd
        obtain ⟨f1, f2, f3⟩ := d3 k _ ds a1 hd
        have f4 := v3 k _ cs a1 a2
        obtain ⟨m1, m2⟩ := allIs_val f1 f4 (z2 k ds cs hd a2)
        simp only at f3
        rw [m1] at f3
        refine ⟨?_, m2 f2⟩
        rcases hlive with rfl | hlive
        · exact f3
        · exact hτ.row i _ f3 (hlive (i, ks) (List.mem_of_getElem? a1))
  · cases hp

end
end Sx
end Go.Am

/-
  CODE, second part: statements.
-/
namespace Go.Am
namespace Sx

section
variable [Val] [Kno] {R HT : Type} {A : Alg R HT} {X : Ctxt} {Sg : FuncId → Option Sig} {holds : R → Prop} {abs : HT → List HObj}

def er (X : Ctxt) (c : AC) : Code := c.erase fun κ t => siteCode (X.T κ) t

/-- What came of a piece of code. -/
def Out (X : Ctxt) (holds : R → Prop) (abs : HT → List HObj) (c : Code) (σ : St) (kn : KN R HT) (kx : Exit → KN R HT) : Prop :=
  ∃ e σ' ev' h', uEx X.C X.pts c σ e σ' ∧ Rp ev' σ' ∧ abs h' = σ'.heap ∧ Fr (wrT c) (boxKeys X.pts c) (wrR X.pts c) σ σ' ∧ ((e = .normal ∧ holds (kn ev' h')) ∨ (e ≠ .normal ∧ holds (kx e ev' h')))

theorem joinE_ok (hA : AlgOk A X.C Sg X.T holds abs) {c : Code} {j : Option Live} {ev : Env} {σ : St} {kn : KN R HT} {main : KN R HT → R} {kx : Exit → KN R HT} {c' : Code}
    (hw : wrT c' = wrT c) (hb : boxKeys X.pts c' = boxKeys X.pts c) (hr : wrR X.pts c' = wrR X.pts c)
    (hR : Rp ev σ) (hm : ∀ kn, holds (main kn) → Out X holds abs c' σ kn kx) (hk : holds (joinE A X.pts c j ev kn main)) : Out X holds abs c' σ kn kx := by
  unfold joinE at hk
  cases j with
  | none => exact hm kn hk
  | some lv =>
    obtain ⟨e, σ', ev', h', h1, h2, h3, h4, h5⟩ := hm _ (hA.join _ _ hk)
    rcases h5 with ⟨rfl, h5⟩ | h5
    · simp only at h5
      split at h5
      · rename_i ls hp
        rw [hw, hb, hr] at h4
        obtain ⟨ev1, g1, g2⟩ := reE_ok hA hR h2 h4 hp (.refl _ _) (.inl rfl) h5
        exact ⟨.normal, σ', ev1, h', h1, g1, h3, by rw [hw, hb, hr]; exact h4, .inl ⟨rfl, g2⟩⟩
      · exact absurd h5 hA.fail
    · exact ⟨e, σ', ev', h', h1, h2, h3, h4, .inr h5⟩

theorem box_sub (pts : List Nat) : ∀ c : Code, ∀ s ∈ boxKeys pts c, s ∈ wrR pts c := by
  intro c
  induction c with
  | region id ops draw =>
    intro s hs
    simp only [boxKeys, List.mem_filterMap] at hs
    simp only [wrR, List.mem_filterMap]
    obtain ⟨o, ho, hs⟩ := hs
    refine ⟨o, ho, ?_⟩
    unfold opRow
    split at hs
    · rename_i e1 e2
      simp only [e1, e2]
      exact hs
    · rename_i e1 e2
      simp only [e1, e2]
      exact hs
    · cases hs
  | seq a b iha ihb => intro s hs; simp only [boxKeys, wrR, List.mem_append] at hs ⊢; exact hs.imp (iha s) (ihb s)
  | cond c a b iha ihb => intro s hs; simp only [boxKeys, wrR, List.mem_append] at hs ⊢; exact hs.imp (iha s) (ihb s)
  | block id b ih => exact ih
  | loop b ih => exact ih
  | scope b ih => exact ih
  | rangeFunc f ps a b iha ihb => intro s hs; simp only [boxKeys, wrR, List.mem_append] at hs ⊢; exact hs.imp (iha s) (ihb s)
  | _ => intro s hs; cases hs

theorem clear_val {keys : List Nat} {v : Value} (h : noLoc v = true) : clearV keys v = v := by
  unfold clearV
  split
  · rename_i a
    split
    · rename_i hc
      simp only [Bool.and_eq_true, decide_eq_true_eq] at hc
      simp [noLoc, noLoc3, noLoc2, noLoc1, hc.1] at h
    · rfl
  · rw [if_pos h]
theorem clear_ptr {keys : List Nat} {s off : Nat} (h : s ∉ keys) : clearV keys (.pointer (some ⟨s, off, some 0⟩)) = .pointer (some ⟨s, off, some 0⟩) := by
  unfold clearV
  simp [h]

theorem clear_tmps {σ : St} {keys : List Nat} {i : Nat} {v : Value} (hv : σ.tmps[i]? = some v) (hc : clearV keys v = v) : (σ.clear keys).tmps[i]? = some v := by
  unfold St.clear
  split
  · exact hv
  · simp [hv, hc]
theorem clear_loc {σ : St} {keys : List Nat} {s : Nat} {x : Option (List Value)} (hs : σ.loc[s]? = some x) (hn : s ∉ keys) : (σ.clear keys).loc[s]? = some x := by
  unfold St.clear
  split
  · exact hs
  · simp only
    rw [clearAt_get, Nat.zero_add, if_neg (by simpa using hn)]
    exact hs
theorem clear_new {σ : St} {keys : List Nat} {s : Nat} (hs : s ∈ keys) (hl : s < σ.loc.length) : (σ.clear keys).loc[s]? = some none := by
  unfold St.clear
  split
  · rename_i e; rw [e] at hs; cases hs
  · simp only
    rw [clearAt_get, Nat.zero_add, if_pos (by simpa using hs)]
    simp [hl]
theorem clear_tlen {σ : St} {keys : List Nat} : (σ.clear keys).tmps.length = σ.tmps.length := by unfold St.clear; split <;> simp
theorem clearAt_length (keys : List Nat) : ∀ (l : List (Option (List Value))) (i : Nat), (clearAt keys l i).length = l.length
  | [], _ => rfl
  | _ :: l, i => by simp [clearAt, clearAt_length keys l]
theorem clear_llen {σ : St} {keys : List Nat} : (σ.clear keys).loc.length = σ.loc.length := by unfold St.clear; split <;> simp [clearAt_length]
theorem clear_heap {σ : St} {keys : List Nat} : (σ.clear keys).heap = σ.heap := by unfold St.clear; split <;> rfl

theorem clear_like (σ : St) (keys : List Nat) : Like keys .nil σ (σ.clear keys) :=
  ⟨clear_tlen, clear_llen, fun _ _ h hn => clear_tmps h (clear_val hn), fun _ _ _ h hn => clear_tmps h (clear_ptr hn), fun _ _ h hn => clear_loc h hn, fun _ h hl => clear_new h (by rw [clear_llen] at hl; exact hl)⟩
theorem clear_fr {σ : St} {ws keys rs : List Nat} (hsub : ∀ s ∈ keys, s ∈ rs) : Fr ws keys rs σ (σ.clear keys) :=
  ⟨clear_tlen, clear_llen, fun _ _ h _ hn => clear_tmps h (clear_val hn), fun _ _ _ h _ hn => clear_tmps h (clear_ptr hn), fun s _ h hn => clear_loc h fun hk => hn (hsub s hk),
    fun s vs h hn => ⟨vs, clear_loc h hn, rfl⟩⟩

theorem capVals_ok {ev : Env} {σ : St} (hR : Rp ev σ) : ∀ {caps : List (Nat × SK)} {vs : List Value}, capVals ev.tm caps = some vs → ∀ (nt : Nat) (tm : List Value),
    (∀ (i : Nat) x, tm[i]? = some x → x = poison ∨ (σ.tmps[i]? = some x ∧ noLoc x = true)) → ∀ (i : Nat) x, (capTm nt caps vs tm)[i]? = some x → x = poison ∨ (σ.tmps[i]? = some x ∧ noLoc x = true)
  | [], vs, h, nt, tm, ht => by cases h; exact ht
  | (t, sk) :: caps, vs, h, nt, tm, ht => by
    simp only [capVals] at h
    split at h
    · rename_i x vs' hx hl
      split at h
      · cases h
        obtain ⟨g1, g2⟩ := hR.at hx (by simp)
        refine capVals_ok hR hl nt _ fun i y hy => ?_
        simp only [List.getElem?_set] at hy
        split at hy
        · rename_i hi
          subst hi
          split at hy
          · cases hy; exact .inr ⟨g1, S0.noLoc g2⟩
          · cases hy
        · exact ht i y hy
      · cases h
    · cases h
theorem capTm_length : ∀ (nt : Nat) (caps : List (Nat × SK)) (vs tm : List Value), (capTm nt caps vs tm).length = tm.length
  | _, [], _, _ => rfl
  | _, _ :: _, [], _ => rfl
  | nt, (t, _) :: caps, v :: vs, tm => by simp [capTm, capTm_length nt caps vs]

/-- EVERY PIECE OF CODE. -/
theorem exec_ok (hA : AlgOk A X.C Sg X.T holds abs) {dr : List Nat → Array Oper → Bool}
    (hdr : ∀ pts ops, dr pts ops = true → ∀ (n : Nat) (σ σ' : St), opsRel X.C (sm X.C n).toBelow pts ops (List.range ops.size) σ σ' → anyRel X.C (sm X.C n).toBelow pts ops σ σ') :
    ∀ (c : AC) (ev : Env) (h : HT) (σ : St) (kn : KN R HT) (kx : Exit → KN R HT), Rp ev σ → abs h = σ.heap → holds (exec A X Sg dr c ev h kn kx) → Out X holds abs (er X c) σ kn kx := by
  intro c
  induction c with
  | skip => intro ev h σ kn kx hR ha hk; exact ⟨.normal, σ, ev, h, .skip, hR, ha, .refl _ _ _ _, .inl ⟨rfl, hk⟩⟩
  | ret => intro ev h σ kn kx hR ha hk; exact ⟨.ret, σ, ev, h, .ret, hR, ha, .refl _ _ _ _, .inr ⟨by simp, hk⟩⟩
  | exit id => intro ev h σ kn kx hR ha hk; exact ⟨.exit id, σ, ev, h, .exit, hR, ha, .refl _ _ _ _, .inr ⟨by simp, hk⟩⟩
  | label l => intro ev h σ kn kx hR ha hk; exact ⟨.normal, σ, ev, h, .label, hR, ha, .refl _ _ _ _, .inl ⟨rfl, hk⟩⟩
  | seq a b iha ihb =>
    intro ev h σ kn kx hR ha hk
    obtain ⟨e, σ₁, ev₁, h₁, q1, q2, q3, q4, q5⟩ := iha ev h σ _ _ hR ha hk
    have m1 : Fr (wrT (er X (.seq a b))) (boxKeys X.pts (er X (.seq a b))) (wrR X.pts (er X (.seq a b))) σ σ₁ :=
      q4.mono (fun i hi => List.mem_append_left _ hi) (fun i hi => List.mem_append_left _ hi) (fun i hi => List.mem_append_left _ hi)
    rcases q5 with ⟨rfl, q5⟩ | ⟨q5, q6⟩
    · obtain ⟨e', σ', ev', h', p1, p2, p3, p4, p5⟩ := ihb ev₁ h₁ σ₁ kn kx q2 q3 q5
      exact ⟨e', σ', ev', h', .seq q1 p1, p2, p3, m1.trans (p4.mono (fun i hi => List.mem_append_right _ hi) (fun i hi => List.mem_append_right _ hi) (fun i hi => List.mem_append_right _ hi)), p5⟩
    · exact ⟨e, σ₁, ev₁, h₁, .seqX q1 q5, q2, q3, m1, .inr ⟨q5, q6⟩⟩
  | scope b ih =>
    intro ev h σ kn kx hR ha hk
    obtain ⟨e, σ₁, ev₁, h₁, q1, q⟩ := ih ev h σ kn kx hR ha hk
    exact ⟨e, σ₁, ev₁, h₁, .scope q1, q⟩
  | region id ops draw hs j =>
    intro ev h σ kn kx hR ha hk
    have hk' : holds (match draw && !(dr X.pts ops) with
      | true => A.fail
      | false => joinE A X.pts (.region id ops draw) j ev kn fun kn => opsE A X Sg ops ops.toList hs ev h kn) := hk
    split at hk'
    · exact absurd hk' hA.fail
    · rename_i hd
      refine joinE_ok hA (c := .region id ops draw) rfl rfl rfl hR (fun kn hk => ?_) hk'
      obtain ⟨σ', ev', h', p1, p2, p3, p4, p5⟩ := opsE_ok hA ops.toList 0 hs ev h σ rfl hR ha hk
      have p1 : opsRel X.C (uB X.C) X.pts ops (List.range ops.size) σ σ' := by
        rw [List.range_eq_range']; simpa using p1
      refine ⟨.normal, σ', ev', h', ?_, p2, p3, p4, .inl ⟨rfl, p5⟩⟩
      cases draw with
      | false => exact .region p1
      | true =>
        have hd : dr X.pts ops = true := by simpa using hd
        exact .draw (fun n hn => hdr _ _ hd n _ _ hn) p1
  | cond c a b j iha ihb =>
    intro ev h σ kn kx hR ha hk
    have hk' : holds (match sval ev c with
      | .st (.leaf (.l true)) => exec A X Sg dr a ev h kn kx
      | .st (.leaf (.l false)) => exec A X Sg dr b ev h kn kx
      | .st (.leaf (.b t)) => joinE A X.pts (er X (.cond c a b j)) j ev kn fun kn => A.cond t (exec A X Sg dr a ev h kn kx) (exec A X Sg dr b ev h kn kx)
      | _ => A.fail) := hk
    have ga : ∀ {kn}, oval σ.tmps c = .bool true → holds (exec A X Sg dr a ev h kn kx) → Out X holds abs (er X (.cond c a b j)) σ kn kx := by
      intro kn hc hk
      obtain ⟨e, σ₁, ev₁, h₁, q1, q2, q3, q4, q5⟩ := iha ev h σ kn kx hR ha hk
      exact ⟨e, σ₁, ev₁, h₁, .cond hc q1, q2, q3, q4.mono (fun i hi => List.mem_append_left _ hi) (fun i hi => List.mem_append_left _ hi) (fun i hi => List.mem_append_left _ hi), q5⟩
    have gb : ∀ {kn}, oval σ.tmps c = .bool false → holds (exec A X Sg dr b ev h kn kx) → Out X holds abs (er X (.cond c a b j)) σ kn kx := by
      intro kn hc hk
      obtain ⟨e, σ₁, ev₁, h₁, q1, q2, q3, q4, q5⟩ := ihb ev h σ kn kx hR ha hk
      exact ⟨e, σ₁, ev₁, h₁, .cond hc (show uEx X.C X.pts (if false = true then er X a else er X b) σ e σ₁ by rw [if_neg (by simp)]; exact q1), q2, q3, q4.mono (fun i hi => List.mem_append_right _ hi) (fun i hi => List.mem_append_right _ hi) (fun i hi => List.mem_append_right _ hi), q5⟩
    split at hk'
    · rename_i e; exact ga (hR.sval e (by simp)).1 hk'
    · rename_i e; exact gb (hR.sval e (by simp)).1 hk'
    · rename_i t e
      have h1 := (hR.sval e (by simp)).1
      refine joinE_ok hA (c := er X (.cond c a b j)) rfl rfl rfl hR (fun kn hk => ?_) hk'
      rcases hA.cond _ _ _ hk with ⟨ht, hk1⟩ | ⟨ht, hk1⟩
      · exact ga (by rw [h1, ht]; rfl) hk1
      · exact gb (by rw [h1, ht]; rfl) hk1
    · exact absurd hk' hA.fail
  | block id b j ih =>
    intro ev h σ kn kx hR ha hk
    refine joinE_ok hA (c := er X b) rfl rfl rfl hR (fun kn hk => ?_) (show holds (joinE A X.pts (er X b) j ev kn fun kn => exec A X Sg dr b ev h kn fun e => match eqExit e id with
      | true => kn
      | false => kx e) from hk)
    obtain ⟨e, σ₁, ev₁, h₁, q1, q2, q3, q4, q5⟩ := ih ev h σ _ _ hR ha hk
    refine ⟨exitTo1 id e, σ₁, ev₁, h₁, .block q1, q2, q3, q4, ?_⟩
    rcases q5 with ⟨rfl, q5⟩ | ⟨q5, q6⟩
    · exact .inl ⟨rfl, q5⟩
    · cases e with
      | normal => exact absurd rfl q5
      | exit i =>
        by_cases hi : i = id
        · subst hi
          left
          simp only [exitTo1, if_true, true_and]
          simpa [eqExit] using q6
        · right
          simp only [exitTo1, if_neg hi]
          refine ⟨by simp, ?_⟩
          have : Nat.beq i id = false := by
            rw [← Bool.not_eq_true]; intro h; exact hi (Nat.eq_of_beq_eq_true h)
          simpa [eqExit, this] using q6
      | _ => exact .inr ⟨by simp [exitTo1], by simpa [eqExit, exitTo1] using q6⟩
  | loop b lv ih =>
    intro ev h σ kn kx hR ha hk
    have hk' : holds (match pk ev lv with
      | none => A.fail
      | some ls => match lv.rows.all fun p => !(boxKeys X.pts (er X b)).contains p.1 with
        | false => A.fail
        | true => A.loop (fun self ls h => reE A X.pts (er X b) .nil lv ev ls fun ev => exec A X Sg dr b ev h (fun ev h => match pk ev lv with
          | some ls => self ls h
          | none => A.fail) kx) ls h) := hk
    split at hk'
    · exact absurd hk' hA.fail
    · rename_i ls0 hp0
      split at hk'
      · exact absurd hk' hA.fail
      · rename_i hlv
        have hlive : ∀ p ∈ lv.rows, p.1 ∉ boxKeys X.pts (er X b) := by
          intro p hp
          have := List.all_eq_true.1 hlv p hp
          simpa using this
        obtain ⟨it, i0, i1, n, hn⟩ := hA.loop _ _ _ hk'
        have main : ∀ (n : Nat) (ls : List Lf) (h : HT) (τ : St) (evτ : Env), Rp evτ τ → Fr (wrT (er X b)) (boxKeys X.pts (er X b)) (wrR X.pts (er X b)) σ τ → pk evτ lv = some ls → abs h = τ.heap → holds (it n ls h) →
            ∃ e σ' ev' h', uEx X.C X.pts (.loop (er X b)) τ e σ' ∧ e ≠ .normal ∧ Rp ev' σ' ∧ abs h' = σ'.heap ∧ Fr (wrT (er X b)) (boxKeys X.pts (er X b)) (wrR X.pts (er X b)) σ σ' ∧ holds (kx e ev' h') := by
          intro n
          induction n with
          | zero => intro ls h τ evτ _ _ _ _ hh; exact absurd hh (i0 _ _)
          | succ n ihn =>
            intro ls h τ evτ hRτ hF hp haτ hh
            rw [i1] at hh
            obtain ⟨ev1, g1, g2⟩ := reE_ok hA hR hRτ hF hp (clear_like τ _) (.inr hlive) hh
            obtain ⟨e, σ₁, ev₁, h₁, q1, q2, q3, q4, q5⟩ := ih ev1 h (τ.clear (boxKeys X.pts (er X b))) _ _ g1 (by rw [clear_heap]; exact haτ) g2
            have hF1 : Fr (wrT (er X b)) (boxKeys X.pts (er X b)) (wrR X.pts (er X b)) σ σ₁ := (hF.trans (clear_fr (box_sub _ _))).trans q4
            rcases q5 with ⟨rfl, q5⟩ | ⟨q5, q6⟩
            · simp only at q5
              split at q5
              · rename_i ls1 hp1
                obtain ⟨e', σ', ev', h', p1, p2, p3, p4, p5, p6⟩ := ihn ls1 h₁ σ₁ ev₁ q2 hF1 hp1 q3 q5
                exact ⟨e', σ', ev', h', .loop q1 p1, p2, p3, p4, p5, p6⟩
              · exact absurd q5 hA.fail
            · exact ⟨e, σ₁, ev₁, h₁, .loopX q1 q5, q5, q2, q3, hF1, q6⟩
        obtain ⟨e', σ', ev', h', p1, p2, p3, p4, p5, p6⟩ := main n ls0 h σ ev hR (.refl _ _ _ _) hp0 ha hn
        exact ⟨e', σ', ev', h', p1, p3, p4, p5, .inr ⟨p2, p6⟩⟩
  | rangeFunc f κ ids =>
    intro ev h σ kn kx hR ha hk
    have hk' : holds (match (generalizing := false) f, sval ev f, X.pts with
      | .tmp _, .st (.leaf (.v v)), _ :: _ => match Nat.beq ev.tm.length (X.T κ).nt, capVals ev.tm (X.T κ).caps with
        | true, some vs => A.rfun κ v vs h fun pd h => A.pend pd (kn ev h) (kx .ret ev h) (ids.map fun id => (id, kx (.exit id) ev h))
        | _, _ => A.fail
      | _, _, _ => A.fail) := hk
    clear hk
    cases f with
    | tmp t =>
      cases hpts : X.pts with
      | nil => rw [hpts] at hk'; split at hk' <;> first | exact absurd hk' hA.fail | (rename_i e; cases e)
      | cons p0 pr =>
        rw [hpts] at hk'
        split at hk'
        · rename_i t2 v hd tl e0 e e1
          split at hk'
          · rename_i vs hnt hcv
            have hnt := Nat.eq_of_beq_eq_true hnt
            obtain ⟨h1, g1⟩ := hR.sval e (by simp)
            have gv : goodV v = true := g1 (.v v) (by simp [S0.cells])
            obtain ⟨g, first, cap, r, H1, lp, h2, r1, r2, r3, r4, r5, r6⟩ := hA.rfun _ _ _ _ _ hk'
            subst r1
            rw [ha] at r2 r3 r5
            have hsnap : SnapOf σ.tmps (lpOf (X.T κ) κ vs).tmps := by
              refine ⟨by simp only [lpOf, capTm_length, List.length_replicate]; rw [← hnt, hR.len], capVals_ok hR hcv _ _ fun i x hx => ?_⟩
              rw [List.getElem?_replicate] at hx
              split at hx
              · cases hx; exact .inl rfl
              · cases hx
            have hpend := hA.pend _ _ _ _ r6
            have hex : ∀ {e : Exit}, exitOf lp.pending = some e → uEx X.C X.pts (er X (.rangeFunc (.tmp t) κ ids)) σ e { σ with heap := H1.set σ.heap.length (.loop { lp with state := .exhausted }) } := by
              intro e he
              have hne : X.pts ≠ [] := by rw [hpts]; simp
              refine uEx.rangeFunc (r := r) (φ := κ) (tm := (lpOf (X.T κ) κ vs).tmps) hne hsnap h1 (goodV_iff.1 gv).1 ?_ r3 r4 he
              simpa [lpOf] using r2
            have hR' : Rp ev { σ with heap := H1.set σ.heap.length (.loop { lp with state := .exhausted }) } := hR.heap _
            rcases hpend with ⟨p1, p2⟩ | ⟨p1, p2⟩ | ⟨id, x, p1, p2, p3⟩
            · exact ⟨.normal, _, ev, h2, hex (by rw [p1]; rfl), hR', r5, (Fr.refl _ _ _ _).heap _, .inl ⟨rfl, p2⟩⟩
            · exact ⟨.ret, _, ev, h2, hex (by rw [p1]; rfl), hR', r5, (Fr.refl _ _ _ _).heap _, .inr ⟨by simp, p2⟩⟩
            · obtain ⟨id', hid, he⟩ := List.mem_map.1 p2
              cases he
              exact ⟨.exit id, _, ev, h2, hex (by rw [p1]; rfl), hR', r5, (Fr.refl _ _ _ _).heap _, .inr ⟨by simp, p3⟩⟩
          · exact absurd hk' hA.fail
        · exact absurd hk' hA.fail
    | _ => exact absurd hk' hA.fail

end
end Sx
end Go.Am

/-
  FUNCTIONS AND ROUNDS: what the algebra says of them, the abstract machine does.
-/
namespace Go.Am
namespace Sx

section
variable [Val] [Kno] {R HT : Type} {A : Alg R HT} {X : Ctxt} {Sg : FuncId → Option Sig} {holds : R → Prop} {abs : HT → List HObj}

/-- Leaves that may be handed on. -/
def GoodLs (ls : List Lf) : Prop := ∀ l ∈ ls, match l with
  | .v x => goodV x = true
  | _ => True

theorem good_of_ls {xs : List S0} (h : GoodLs (lfsOf xs)) : ∀ x ∈ xs, x.good := by
  intro x hx l hl
  have hm : l.lf ∈ lfsOf xs := by
    induction xs with
    | nil => cases hx
    | cons y ys ih =>
      simp only [lfsOf, List.mem_append, List.mem_map]
      rcases List.mem_cons.1 hx with rfl | hx
      · exact .inl ⟨l, hl, rfl⟩
      · exact .inr (ih (fun l hl => h l (by simp only [lfsOf, List.mem_append]; exact .inr hl)) hx)
  have := h _ hm
  cases l <;> first | trivial | exact this
theorem ls_of_good : ∀ {xs : List S0}, (∀ x ∈ xs, x.good) → GoodLs (lfsOf xs)
  | [], _, l, hl => by cases hl
  | x :: xs, h, l, hl => by
    simp only [lfsOf, List.mem_append, List.mem_map] at hl
    rcases hl with ⟨c, hc, rfl⟩ | hl
    · have := h x (by simp) c hc
      cases c <;> first | trivial | exact this
    · exact ls_of_good (fun y hy => h y (by simp [hy])) l hl

theorem chkAll_ok {C : Cfg} {T : Nat → Site} (hA : AlgOk A C Sg T holds abs) : ∀ {cs : List SL} {K : R}, holds (chkAll A cs K) → (∀ c ∈ cs, noLoc2 c.val = true) ∧ holds K
  | [], K, h => ⟨by simp, h⟩
  | c :: cs, K, h => by
    cases c with
    | v x =>
      have h' : holds (A.opt (chk2 x) fun _ => chkAll A cs K) := h
      obtain ⟨u, hu, h1⟩ := hA.opt _ _ h'
      obtain ⟨h2, h3⟩ := chkAll_ok hA h1
      refine ⟨List.forall_mem_cons.2 ⟨?_, h2⟩, h3⟩
      unfold chk2 at hu
      split at hu
      · assumption
      · cases hu
    | i k n => obtain ⟨h2, h3⟩ := chkAll_ok (cs := cs) (K := K) hA h; exact ⟨List.forall_mem_cons.2 ⟨rfl, h2⟩, h3⟩
    | b t => obtain ⟨h2, h3⟩ := chkAll_ok (cs := cs) (K := K) hA h; exact ⟨List.forall_mem_cons.2 ⟨rfl, h2⟩, h3⟩
    | l t => obtain ⟨h2, h3⟩ := chkAll_ok (cs := cs) (K := K) hA h; exact ⟨List.forall_mem_cons.2 ⟨rfl, h2⟩, h3⟩

theorem chkRes_ok {C : Cfg} {T : Nat → Site} (hA : AlgOk A C Sg T holds abs) {many : Bool} {x : S0} {K : R} (hx : x.good) (h : holds (chkRes A many x K)) : (many = true → noLoc3 x.val = true) ∧ holds K := by
  unfold chkRes at h
  split at h
  · rename_i cs
    obtain ⟨h1, h2⟩ := chkAll_ok hA h
    refine ⟨fun _ => ?_, h2⟩
    simp only [S0.val, noLoc3, List.all_eq_true, List.mem_map]
    rintro _ ⟨c, hc, rfl⟩
    exact h1 c hc
  · rename_i hne
    refine ⟨fun hm => ?_, h⟩
    cases x with
    | agg cs => exact absurd rfl (hne cs hm)
    | leaf l => exact (goodV_iff.1 (SL.val_good (hx l (by simp [S0.cells])))).2.1

theorem resE_ok (hA : AlgOk A X.C Sg X.T holds abs) {ev : Env} {σ : St} {h : HT} (hR : Rp ev σ) (ha : abs h = σ.heap) {many : Bool} : ∀ (rvs : List ResultVar) (sks : List SK) (acc : List Lf) (K : List Lf → HT → R), holds (resE A X many ev h rvs sks acc K) →
    ∃ ys, areIs ys sks = true ∧ (∀ y ∈ ys, y.good) ∧ (many = true → ∀ y ∈ ys, noLoc3 y.val = true) ∧ ys.length = rvs.length ∧ resultsA X.C σ rvs = some (valsOf ys) ∧ holds (K (acc ++ lfsOf ys) h)
  | [], sks, acc, K, hk => by
    cases sks with
    | nil =>
      have hk' : holds (K acc h) := hk
      exact ⟨[], rfl, by simp, by simp, rfl, rfl, by rw [lfsOf, List.append_nil]; exact hk'⟩
    | cons _ _ => exact absurd hk hA.fail
  | rv :: rvs, sks, acc, K, hk => by
    cases sks with
    | nil => exact absurd hk hA.fail
    | cons sk sks =>
      have fin : ∀ x : S0, x.is sk = true → x.good → resultA X.C σ rv = some x.val → holds (chkRes A many x (resE A X many ev h rvs sks (acc ++ x.cells.map SL.lf) K)) →
          ∃ ys, areIs ys (sk :: sks) = true ∧ (∀ y ∈ ys, y.good) ∧ (many = true → ∀ y ∈ ys, noLoc3 y.val = true) ∧ ys.length = (rv :: rvs).length ∧ resultsA X.C σ (rv :: rvs) = some (valsOf ys) ∧ holds (K (acc ++ lfsOf ys) h) := by
        intro x hx hg hres hk
        obtain ⟨h1, h2⟩ := chkRes_ok hA hg hk
        obtain ⟨ys, a1, a2, a3, a4, a5, a6⟩ := resE_ok hA hR ha rvs sks _ K h2
        refine ⟨x :: ys, by simp [areIs, hx, a1], List.forall_mem_cons.2 ⟨hg, a2⟩, fun hm => List.forall_mem_cons.2 ⟨h1 hm, a3 hm⟩, by simp [a4], ?_, by simpa [lfsOf] using a6⟩
        simp only [resultsA, hres, a5]; rfl
      cases rv with
      | tmp t =>
        have hk' : holds (match ev.tm.getD t .no with
          | .st x => match x.is sk with
            | true => chkRes A many x (resE A X many ev h rvs sks (acc ++ x.cells.map SL.lf) K)
            | false => A.fail
          | _ => A.fail) := hk
        split at hk'
        · rename_i x hx
          obtain ⟨g1, g2⟩ := hR.at hx (by simp)
          split at hk'
          · rename_i his
            exact fin x his g2 (by simp [resultA, List.getD_eq_getElem?_getD, g1]; rfl) hk'
          · exact absurd hk' hA.fail
        · exact absurd hk' hA.fail
      | cell a t =>
        have hk' : holds (match (generalizing := false) aggT X.C.P t with
          | some agg =>
            let n := if agg then X.C.P.cellsOf t else 1
            match (generalizing := false) ev.tm.getD a .no with
            | .lad s off => match (rowAt ev s).bind (fun cs => (cutS cs off n).bind (mkS0 agg)) with
              | some x => match x.is sk with
                | true => chkRes A many x (resE A X many ev h rvs sks (acc ++ x.cells.map SL.lf) K)
                | false => A.fail
              | none => A.fail
            | .st (.leaf (.v p)) => match (generalizing := false) agg, sk with
              | true, .agg _ => A.peek (ldP n p) h fun cs => ucS A sk cs fun x r => A.uc0 r (chkRes A many x (resE A X many ev h rvs sks (acc ++ x.cells.map SL.lf) K))
              | false, .leaf _ => A.peek (ldP n p) h fun cs => ucS A sk cs fun x r => A.uc0 r (chkRes A many x (resE A X many ev h rvs sks (acc ++ x.cells.map SL.lf) K))
              | _, _ => A.fail
            | _ => A.fail
          | none => A.fail) := hk
        clear hk
        split at hk'
        · rename_i agg hag
          simp only at hk'
          split at hk'
          · rename_i s off hl
            obtain ⟨g1, _⟩ := hR.at hl (by simp)
            split at hk'
            · rename_i x hx
              obtain ⟨cs, hr, hx⟩ := Option.bind_eq_some_iff.1 hx
              obtain ⟨ds, hd, hx⟩ := Option.bind_eq_some_iff.1 hx
              obtain ⟨r1, r2, _⟩ := rowAt_ok hR hr
              obtain ⟨c1, c2⟩ := cutS_ok hd
              obtain ⟨v, v1, v2⟩ := readVar_ok hag c1
              obtain ⟨m1, m2⟩ := mkS0_ok hx
              split at hk'
              · rename_i his
                have hv : x.val = v := by
                  rcases m2 with ⟨a1, a2⟩ | ⟨a1, a2⟩ <;> rcases v2 with ⟨b1, b2⟩ | ⟨b1, b2⟩
                  · rw [a2, b2]
                  · rw [a1] at b1; cases b1
                  · rw [a1] at b1; cases b1
                  · rw [a2] at b2; simpa using b2
                refine fin x his (fun l hl => ?_) ?_ hk'
                · rw [m1] at hl; exact r2 l (c2 l hl)
                · simp only [resultA, List.getD_eq_getElem?_getD, g1, Option.getD_some, SV.val, r1, v1, hv]
              · exact absurd hk' hA.fail
            · exact absurd hk' hA.fail
          · rename_i p hl
            obtain ⟨g1, _⟩ := hR.at hl (by simp)
            have common : agg = skAgg sk → holds (A.peek (ldP (if agg then X.C.P.cellsOf t else 1) p) h fun cs => ucS A sk cs fun x r => A.uc0 r (chkRes A many x (resE A X many ev h rvs sks (acc ++ x.cells.map SL.lf) K))) →
                ∃ ys, areIs ys (sk :: sks) = true ∧ (∀ y ∈ ys, y.good) ∧ (many = true → ∀ y ∈ ys, noLoc3 y.val = true) ∧ ys.length = (ResultVar.cell a t :: rvs).length ∧ resultsA X.C σ (.cell a t :: rvs) = some (valsOf ys) ∧ holds (K (acc ++ lfsOf ys) h) := by
              intro hsk hk
              obtain ⟨cs, h2, hk1⟩ := hA.peek _ _ _ hk
              rw [ha] at h2
              obtain ⟨id, off, vs, rfl, h3, h4⟩ := ldP_ok h2
              rw [cellsG_at] at h3
              obtain ⟨v, h5, h6⟩ := readVar_ok hag h4
              rw [hsk] at h6
              obtain ⟨x, r, q1, q2, q3, hk2⟩ := ucS_ok hA hk1
              obtain ⟨hr, hk3⟩ := hA.uc0 _ _ hk2
              rw [hr, List.append_nil] at q1
              rw [q1] at h6
              refine fin x q2 q3 ?_ hk3
              rw [mkV_is q2 h6]
              simp only [resultA, List.getD_eq_getElem?_getD, g1, Option.getD_some, SV.val, S0.val, SL.val, h3, Option.bind_some, h5]
            split at hk'
            · exact common rfl hk'
            · exact common rfl hk'
            · exact absurd hk' hA.fail
          · exact absurd hk' hA.fail
        · exact absurd hk' hA.fail

/-- The function of the program and the one that is told are the same. -/
structure FnIs (X : Ctxt) (Sg : FuncId → Option Sig) (f : FuncId) (fn : Fn1) : Prop where
  is : ∃ g, X.C.P.funcs[f]? = some g ∧ g.body = some (er X fn.code) ∧ (g.name == "runtime.NumGoroutine") = false ∧ g.ntmps = fn.nt ∧ g.results.toList = fn.rvs
  pts : X.pts = X.C.pts f
  sg : Sg f = some fn.sg

theorem packA_noLoc {ys : List S0} (hg : ∀ y ∈ ys, y.good) (hm : 1 < ys.length → ∀ y ∈ ys, noLoc3 y.val = true) : noLoc (packA (valsOf ys)) = true := by
  match ys with
  | [] => rfl
  | [y] => exact S0.noLoc (hg y (by simp))
  | a :: b :: l =>
    have h := hm (by simp)
    have e : packA (valsOf (a :: b :: l)) = .tuple (valsOf (a :: b :: l)).toArray := rfl
    rw [e]
    simp only [Am.noLoc, List.all_eq_true]
    intro v hv
    simp only [valsOf, List.mem_map] at hv
    obtain ⟨y, hy, rfl⟩ := hv
    exact h y hy

theorem areIs_length : ∀ {a : List S0} {sks : List SK}, areIs a sks = true → a.length = sks.length
  | [], [], _ => rfl
  | x :: a, k :: sks, h => by
    simp only [areIs, Bool.and_eq_true] at h
    simp [areIs_length h.2]
  | [], _ :: _, h => by cases h
  | _ :: _, [], h => by cases h

theorem start_rp {xs : List S0} (hg : ∀ x ∈ xs, x.good) (nt : Nat) (H : List HObj) :
    Rp ⟨xs.map .st ++ List.replicate (nt - xs.length) .no, List.replicate nt .nil⟩ { tmps := valsOf xs ++ List.replicate (nt - (valsOf xs).length) undef, loc := List.replicate nt none, heap := H } := by
  refine ⟨by simp [valsOf], fun i s hs => ?_, by simp, fun i r hr => ?_⟩
  · rw [List.getElem?_append] at hs
    split at hs
    · rename_i hi
      simp only [List.length_map] at hi
      simp only [List.getElem?_map, Option.map_eq_some_iff] at hs
      obtain ⟨x, hx, rfl⟩ := hs
      refine ⟨?_, hg x (List.mem_of_getElem? hx)⟩
      rw [List.getElem?_append_left (by simpa [valsOf] using hi)]
      simp [valsOf, hx, SV.val]
    · rw [List.getElem?_replicate] at hs
      split at hs
      · cases hs; trivial
      · cases hs
  · simp only [List.getElem?_replicate] at hr
    split at hr
    · rename_i hi; cases hr
      simp [LR.ok, hi]
    · cases hr

/-- A FUNCTION. -/
theorem execF_ok (hA : AlgOk A X.C Sg X.T holds abs) {dr : List Nat → Array Oper → Bool}
    (hdr : ∀ pts ops, dr pts ops = true → ∀ (n : Nat) (σ σ' : St), opsRel X.C (sm X.C n).toBelow pts ops (List.range ops.size) σ σ' → anyRel X.C (sm X.C n).toBelow pts ops σ σ')
    {f : FuncId} {fn : Fn1} (hf : FnIs X Sg f fn) {ls : List Lf} {h : HT} {K : List Lf → HT → R} (hls : GoodLs ls) (hk : holds (execF A X Sg dr fn ls h K)) :
    ∃ rs h', CallL X.C Sg f ls (abs h) rs (abs h') ∧ GoodLs rs ∧ holds (K rs h') := by
  obtain ⟨g, f1, f2, f3, f4, f5⟩ := hf.is
  obtain ⟨xs, r, e1, e2, hk1⟩ := unSs_ok hA hk
  obtain ⟨hr, hk2⟩ := hA.un0 _ _ hk1
  rw [hr, List.append_nil] at e1
  subst e1
  have hg := good_of_ls hls
  have hR := start_rp hg fn.nt (abs h)
  obtain ⟨e, σ', ev', h', q1, q2, q3, _, q5⟩ := exec_ok hA hdr fn.code _ h _ _ _ hR rfl hk2
  have main : (e = .normal ∨ e = .ret) → holds (resE A X (Nat.blt 1 fn.rvs.length) ev' h' fn.rvs fn.sg.rs [] K) → ∃ rs h', CallL X.C Sg f (lfsOf xs) (abs h) rs (abs h') ∧ GoodLs rs ∧ holds (K rs h') := by
    intro he hk
    obtain ⟨ys, a1, a2, a3, a4, a5, a6⟩ := resE_ok hA q2 q3 fn.rvs fn.sg.rs [] K hk
    rw [List.nil_append] at a6
    refine ⟨lfsOf ys, h', ⟨fn.sg, xs, ys, hf.sg, ⟨e2, rfl, hg⟩, ⟨a1, rfl, a2⟩, ?_⟩, ls_of_good a2, a6⟩
    rw [q3]
    refine uCall.intro f1 f2 f3 ?_ he (by rw [f5]; exact a5) (packA_noLoc a2 fun hl => a3 (by rw [Nat.blt_eq]; omega))
    rw [hf.pts] at q1
    simpa [enterA, f4] using q1
  rcases q5 with ⟨rfl, q5⟩ | ⟨q5, q6⟩
  · exact main (.inl rfl) q5
  · cases e with
    | ret => exact main (.inr rfl) q6
    | _ => exact absurd q6 hA.fail

/-! ### Rounds -/

theorem capEnv_ok : ∀ (caps : List (Nat × SK)) (xs : List S0) (tm : List SV) (tmps : List Value), tm.length = tmps.length → (∀ x ∈ xs, x.good) → (∀ (i : Nat) s, tm[i]? = some s → s.ok tmps i) →
    (capEnv 0 caps xs tm).length = tm.length ∧ ∀ (i : Nat) s, (capEnv 0 caps xs tm)[i]? = some s → s.ok (putAll (caps.map (·.1)) (valsOf xs) tmps) i
  | [], xs, tm, tmps, _, _, h => ⟨by simp [capEnv], by simpa [capEnv, putAll] using h⟩
  | (t, sk) :: caps, [], tm, tmps, _, _, h => ⟨by simp [capEnv], by simpa [capEnv, putAll, valsOf] using h⟩
  | (t, sk) :: caps, x :: xs, tm, tmps, hl, hg, h => by
    have := capEnv_ok caps xs (tm.set t (.st x)) (tmps.set t x.val) (by simp [hl]) (fun y hy => hg y (by simp [hy])) (fun i s hs => ?_)
    · simpa [capEnv, putAll, valsOf] using this
    · simp only [List.getElem?_set] at hs
      split at hs
      · rename_i hi
        subst hi
        split at hs
        · rename_i hlt
          cases hs
          exact ⟨by rw [List.getElem?_set_self (by omega)]; rfl, hg x (by simp)⟩
        · cases hs
      · rename_i hi
        have := h i s hs
        cases s <;> first | trivial | exact ⟨by rw [List.getElem?_set_ne hi]; exact this.1, this.2⟩

theorem capEnv_nt (nt nt' : Nat) : ∀ (caps : List (Nat × SK)) (xs : List S0) (tm : List SV), capEnv nt caps xs tm = capEnv nt' caps xs tm
  | [], _, _ => rfl
  | _ :: _, [], _ => rfl
  | (t, _) :: caps, x :: xs, tm => capEnv_nt nt nt' caps xs _
theorem capTm_putAll (nt : Nat) : ∀ (caps : List (Nat × SK)) (vs tm : List Value), capTm nt caps vs tm = putAll (caps.map (·.1)) vs tm
  | [], _, _ => by simp [capTm, putAll]
  | _ :: _, [], _ => by simp [capTm, putAll]
  | (t, _) :: caps, v :: vs, tm => by simp only [capTm, List.map_cons, putAll]; exact capTm_putAll nt caps vs _

theorem noRF_erase {T T' : Nat → Tmp → Code} : ∀ {c : AC}, noRF c = true → c.erase T = c.erase T' := by
  intro c
  induction c with
  | seq a b iha ihb => intro h; simp only [noRF, Bool.and_eq_true] at h; simp only [AC.erase, iha h.1, ihb h.2]
  | scope b ih => intro h; simp only [AC.erase, ih h]
  | cond c a b j iha ihb => intro h; simp only [noRF, Bool.and_eq_true] at h; simp only [AC.erase, iha h.1, ihb h.2]
  | block id b j ih => intro h; simp only [AC.erase, ih h]
  | loop b lv ih => intro h; simp only [AC.erase, ih h]
  | rangeFunc f κ ids => intro h; cases h
  | _ => intro _; rfl

theorem leaf_vals : ∀ {caps : List (Nat × SK)} {xs : List S0}, leafOnly caps = true → areIs xs (caps.map (·.2)) = true → cellsOf0 xs = valsOf xs
  | [], [], _, _ => rfl
  | p :: caps, x :: xs, h1, h2 => by
    simp only [leafOnly, List.all_cons, Bool.and_eq_true] at h1
    simp only [List.map_cons, areIs, Bool.and_eq_true] at h2
    have ih := leaf_vals (caps := caps) h1.2 h2.2
    obtain ⟨t, sk⟩ := p
    cases sk with
    | agg ks => cases h1.1
    | leaf k =>
      cases x with
      | agg _ => cases h2.1
      | leaf l =>
        simp only [cellsOf0, List.flatMap_cons, valsOf, List.map_cons] at ih ⊢
        rw [ih]; rfl
  | [], _ :: _, _, h => by cases h
  | _ :: _, [], _, h => by cases h

/-- A ROUND. -/
theorem execY_ok (hA : AlgOk A X.C Sg X.T holds abs) {dr : List Nat → Array Oper → Bool}
    (hdr : ∀ pts ops, dr pts ops = true → ∀ (n : Nat) (σ σ' : St), opsRel X.C (sm X.C n).toBelow pts ops (List.range ops.size) σ σ' → anyRel X.C (sm X.C n).toBelow pts ops σ σ')
    {st : Site} {vs : List Value} {l : Nat} {ls : List Lf} {h : HT} {K : List Lf → HT → R} {lp : ALoop} {ys : List S0} (h1 : hloop (abs h) l = some lp) (h2 : lp.tmps = capTm st.nt st.caps vs (List.replicate st.nt poison))
    (h3 : lp.params = st.params.map (·.1)) (h4 : lp.assign = st.assign.erase noSite) (h5 : lp.body = st.body.erase noSite) (hy : Told (st.params.map (·.2)) ls ys)
    (hk : holds (execY A X Sg dr st vs l ls h K)) : ∃ b h', uYield X.C l (valsOf ys) (abs h) (.bool b) (abs h') ∧ holds (K [.b b] h') := by
  unfold execY at hk
  split at hk
  · exact absurd hk hA.fail
  · rename_i hc
    simp only [Bool.and_eq_true] at hc
    obtain ⟨⟨c1, c2⟩, c3⟩ := hc
    obtain ⟨xs, r, e1, e2, e3, hk1⟩ := ucSs_ok hA hk
    obtain ⟨hr, hk2⟩ := hA.uc0 _ _ hk1
    rw [hr, List.append_nil, leaf_vals c1 e2] at e1
    subst e1
    obtain ⟨zs, r', d1, d2, hk3⟩ := unSs_ok hA hk2
    obtain ⟨hr', hk4⟩ := hA.un0 _ _ hk3
    rw [hr', List.append_nil] at d1
    obtain ⟨y1, y2, y3⟩ := hy
    obtain ⟨w1, w2⟩ := areIs_val y1 d2 (y2.trans d1)
    have hzg := w2 y3
    let X' : Ctxt := { X with pts := [] }
    let σ₀ : St := { tmps := putAll lp.params (valsOf ys) lp.tmps, loc := [], heap := abs h }
    have hR : Rp ⟨capEnv st.nt st.params zs (capEnv st.nt st.caps xs (List.replicate st.nt .no)), []⟩ σ₀ := by
      have a1 := capEnv_ok st.caps xs (List.replicate st.nt .no) (List.replicate st.nt poison) (by simp) e3 (fun i s hs => by
        rw [List.getElem?_replicate] at hs; split at hs
        · cases hs; trivial
        · cases hs)
      have plen : ∀ (ts : List Tmp) (vs tm : List Value), (putAll ts vs tm).length = tm.length := by
        intro ts
        induction ts with
        | nil => intro vs tm; simp [putAll]
        | cons t ts ih => intro vs tm; cases vs with
          | nil => simp [putAll]
          | cons v vs => simp [putAll, ih]
      have a2 := capEnv_ok st.params zs _ _ (by rw [a1.1, plen]; simp) hzg a1.2
      have etm : σ₀.tmps = putAll (st.params.map (·.1)) (valsOf zs) (putAll (st.caps.map (·.1)) (valsOf xs) (List.replicate st.nt poison)) := by
        show putAll lp.params (valsOf ys) lp.tmps = _
        rw [h3, h2, capTm_putAll, w1]
      refine ⟨?_, fun i s hs => ?_, rfl, fun i r hr => by simp at hr⟩
      · rw [etm, plen, plen, capEnv_nt st.nt 0, capEnv_nt st.nt 0, a2.1, a1.1]; simp
      · rw [capEnv_nt st.nt 0, capEnv_nt st.nt 0] at hs
        rw [etm]
        exact a2.2 i s hs
    obtain ⟨e, σ₁, ev₁, h₁, q1, q2, q3, _, q5⟩ := exec_ok (X := X') hA hdr st.assign _ h σ₀ _ _ hR rfl hk4
    rcases q5 with ⟨rfl, q5⟩ | ⟨_, q5⟩
    · obtain ⟨lp₁, h₂, p1, p2, p3, q6⟩ := hA.lp1 _ _ _ q5
      rw [q3] at p1 p3
      obtain ⟨e, σ₂, ev₂, h₃, s1, s2, s3, _, s5⟩ := exec_ok (X := X') hA hdr st.body ev₁ h₂ { σ₁ with heap := σ₁.heap.set l (.loop { lp₁ with state := .busy }) } _ _ (q2.heap _) p3 q6
      have u1 : uEx X.C [] lp.assign { tmps := putAll lp.params (valsOf ys) lp.tmps, loc := [], heap := abs h } .normal σ₁ := by
        rw [h4, noRF_erase (T' := fun κ t => siteCode (X.T κ) t) c2]; exact q1
      have u2 : uEx X.C [] lp.body { σ₁ with heap := σ₁.heap.set l (.loop { lp₁ with state := .busy }) } e σ₂ := by
        rw [h5, noRF_erase (T' := fun κ t => siteCode (X.T κ) t) c3]; exact s1
      have hlen : (valsOf ys).length = lp.params.length := by
        rw [h3]
        have := areIs_length y1
        simpa [valsOf] using this
      have fin : ∀ (j : Option Code) (b : Bool), jumpOf e = some j → b = j.isNone → holds (A.lp2 l j h₃ fun h => K [.b b] h) → ∃ b h', uYield X.C l (valsOf ys) (abs h) (.bool b) (abs h') ∧ holds (K [.b b] h') := by
        intro j b hj hb hk
        obtain ⟨lp₂, h₄, z1, z2, z3⟩ := hA.lp2 _ _ _ _ hk
        rw [s3] at z1 z2
        refine ⟨b, h₄, ?_, z3⟩
        rw [z2, hb]
        exact uYield.intro h1 hlen u1 p1 p2 u2 hj z1
      rcases s5 with ⟨rfl, s5⟩ | ⟨s5, s6⟩
      · exact fin none true rfl rfl s5
      · cases e with
        | ret => exact fin (some .ret) false rfl rfl s6
        | exit id => exact fin (some (.exit id)) false rfl rfl s6
        | _ => exact absurd s6 hA.fail
    · exact absurd q5 hA.fail

end
end Sx
end Go.Am

/-
  AN ENTRY THAT IS MADE CHANGES NO LOOK-UP OF ITS KEY.
-/
namespace Go.Am
namespace Sx

section
variable {P : Program}

theorem ba_refl (a : ByteArray) : (a == a) = true := by
  cases a with | mk d => show (d == d) = true; simp
theorem ba_eq {a b : ByteArray} (h : (a == b) = true) : a = b := by
  cases a with | mk d => cases b with | mk e => have h : (d == e) = true := h; simp at h; rw [h]
theorem same_self {d : TypeDesc} {k x : Value} {b : Bool} (h : Instr.sameNow d k x = some b) : Instr.sameNow d k k = some true := by
  unfold Instr.sameNow at h
  split at h
  · simp [Instr.sameNow]
  · simp [Instr.sameNow, ba_refl]
  · simp [Instr.sameNow]
  · cases h
theorem now_append {d : TypeDesc} {k : Value} : ∀ (l l' : List MapEntry) (i : Nat), Instr.findNow d k l i = some none → Instr.findNow d k (l ++ l') i = Instr.findNow d k l' (i + l.length)
  | [], l', i, h => rfl
  | e :: l, l', i, h => by
    unfold Instr.findNow at h
    split at h
    · cases h
    · rename_i e1
      show (match Instr.sameNow d k e.key with | some true => some (some (i, e.val)) | some false => Instr.findNow d k (l ++ l') (i + 1) | none => none) = _
      rw [e1]
      simp only
      rw [now_append l l' (i + 1) h, List.length_cons]
      congr 1; omega
    · cases h
theorem now_none {d : TypeDesc} {k : Value} : ∀ (l l' : List MapEntry) (i : Nat), Instr.findNow d k l i = none → Instr.findNow d k (l ++ l') i = none
  | [], l', i, h => by cases h
  | e :: l, l', i, h => by
    unfold Instr.findNow at h
    show (match Instr.sameNow d k e.key with | some true => some (some (i, e.val)) | some false => Instr.findNow d k (l ++ l') (i + 1) | none => none) = none
    split at h
    · cases h
    · rename_i e1; rw [e1]; exact now_none l l' (i + 1) h
    · rename_i e1; rw [e1]
theorem ask_append {kt : TypeId} {k : Value} : ∀ (l l' : List MapEntry) (i : Nat), pev P (Instr.findAsking kt k l i) = some none → pev P (Instr.findAsking kt k (l ++ l') i) = pev P (Instr.findAsking kt k l' (i + l.length))
  | [], l', i, h => rfl
  | e :: l, l', i, h => by
    unfold Instr.findAsking at h
    rw [pv_bind] at h
    show pev P (Op.equal kt k e.key >>= fun b => if b then pure (some (i, e.val)) else Instr.findAsking kt k (l ++ l') (i + 1)) = _
    rw [pv_bind]
    cases hq : pev P (Op.equal kt k e.key) with
    | none => rw [hq] at h; cases h
    | some b =>
      rw [hq] at h
      simp only [Option.bind_some] at h ⊢
      cases b with
      | true => cases h
      | false =>
        simp only [Bool.false_eq_true, if_false] at h ⊢
        rw [ask_append l l' (i + 1) h, List.length_cons]
        congr 2; omega
theorem ask_one {kt : TypeId} {k v : Value} {b i : Nat} (h : pev P (Op.equal kt k k) = some true) : pev P (Instr.findAsking kt k [⟨k, v, b⟩] i) = some (some (i, v)) := by
  show pev P (Op.equal kt k k >>= fun b => if b then pure (some (i, v)) else Instr.findAsking kt k [] (i + 1)) = _
  rw [pv_bind, h]
  rfl

theorem findA_push {kt : TypeId} {k : Value} {es : List MapEntry} {e : MapEntry} (he : e.key = k) (hs : pev P (Op.equal kt k k) = some true) (h : findA P kt k es = some none) : findA P kt k (es ++ [e]) = some (some es.length) := by
  unfold findA at h ⊢
  obtain ⟨r, h1, h2⟩ := Option.map_eq_some_iff.1 h
  have hr : r = none := by cases r with | none => rfl | some p => cases h2
  subst hr
  unfold Instr.findKey at h1 ⊢
  rw [pv_bind] at h1 ⊢
  cases hd : pev P (underlying kt) with
  | none => rw [hd] at h1; cases h1
  | some d =>
    rw [hd] at h1
    simp only [Option.bind_some] at h1 ⊢
    rw [List.map_append]
    have hb : [e].map bareEntry = [⟨k, undef, 0⟩] := by simp [bareEntry, he]
    rw [hb]
    cases hn : Instr.findNow d k (es.map bareEntry) 0 with
    | some r =>
      rw [hn] at h1
      simp only [pv_pure, Option.some.injEq] at h1
      subst h1
      rw [now_append _ _ _ hn, Nat.zero_add, List.length_map]
      cases hq : Instr.sameNow d k k with
      | some b =>
        have := same_self hq
        have e1 : Instr.findNow d k [⟨k, undef, 0⟩] es.length = some (some (es.length, undef)) := by
          unfold Instr.findNow
          rw [this]
        rw [e1]
        rfl
      | none =>
        have e1 : Instr.findNow d k [⟨k, undef, 0⟩] es.length = none := by
          unfold Instr.findNow
          rw [hq]
        rw [e1]
        simp only
        -- no entry before: it would have been told at once
        cases es with
        | nil => rw [List.map_nil, List.nil_append, ask_one hs]; rfl
        | cons a l =>
          exfalso
          simp only [List.map_cons] at hn
          unfold Instr.findNow at hn
          split at hn
          · cases hn
          · rename_i e2
            rw [same_self e2] at hq
            cases hq
          · cases hn
    | none =>
      rw [hn] at h1
      simp only at h1
      rw [now_none _ _ _ hn]
      simp only
      rw [ask_append _ _ _ h1, Nat.zero_add, List.length_map, ask_one hs]
      rfl

theorem bits_scalar {x y : Value} {n : Nat} (hy : scalar y = true) (h : Instr.sameBits n x y = true) : x = y := by
  cases y <;> simp only [scalar, Bool.false_eq_true] at hy <;> cases x <;> cases n <;> first | (simp_all [Instr.sameBits]; done) | (rw [ba_eq (show _ = true from h)])
theorem bits_list {n : Nat} : ∀ {l m : List Value}, l.length = m.length → m.all scalar = true → ((l.zip m).all fun p => Instr.sameBits n p.1 p.2) = true → l = m
  | [], [], _, _, _ => rfl
  | a :: l, b :: m, hl, hm, h => by
    simp only [List.all_cons, Bool.and_eq_true] at hm
    simp only [List.zip_cons_cons, List.all_cons, Bool.and_eq_true] at h
    rw [bits_scalar hm.1 h.1, bits_list (by simpa using hl) hm.2 h.2]
  | [], _ :: _, hl, _, _ => by cases hl
  | _ :: _, [], hl, _, _ => by cases hl
theorem bits_flat {x y : Value} (hy : flat1 y = true) (h : Instr.sameBits 10000 x y = true) : x = y := by
  cases y with
  | agg b =>
    cases x with
    | agg a =>
      have h : (a.size == b.size && (a.toList.zip b.toList).all fun (x, y) => Instr.sameBits 9999 x y) = true := h
      simp only [Bool.and_eq_true, beq_iff_eq] at h
      congr 1
      exact Array.toList_inj.1 (bits_list (n := 9999) (by simpa using h.1) hy h.2)
    | _ => cases h
  | _ => exact bits_scalar hy h

theorem modify_same {α : Type} {f : α → α} : ∀ (l : List α) (i : Nat) (a : α), l[i]? = some a → f a = a → l.modify i f = l
  | [], i, a, h, _ => by cases h
  | x :: l, 0, a, h, hf => by
    simp only [List.getElem?_cons_zero, Option.some.injEq] at h
    subst h
    simp [List.modify, hf]
  | x :: l, i + 1, a, h, hf => by
    simp only [List.getElem?_cons_succ] at h
    have := modify_same l i a h hf
    simp [List.modify_succ_cons, this]
theorem set_same {α : Type} : ∀ (l : List α) (i : Nat) (a : α), l[i]? = some a → l.set i a = l
  | [], i, a, h => by cases h
  | x :: l, 0, a, h => by simp at h; simp [h]
  | x :: l, i + 1, a, h => by simp [set_same l i a (by simpa using h)]

/-- AN ENTRY IS MADE, AND THE LOOK-UP STAYS. -/
theorem lookup_entry {C : Cfg} {t : TypeId} {m k v r : Value} {H H' : List HObj} (h : mapEntryA C t m k H = some (H', r)) (hl : lookupA C t m k false H = some v) : lookupA C t m k false H' = some v := by
  unfold mapEntryA at h
  split at h
  · rename_i kt et id hu
    split at h
    · cases h
    · rename_i hko
      have hko : keyOk C.P kt k = true := by simpa using hko
      have hko' := hko
      simp only [keyOk, Bool.and_eq_true] at hko'
      have hs : pev C.P (Op.equal kt k k) = some true := by
        have := hko'.2
        cases hq : pev C.P (Op.equal kt k k) with
        | none => rw [hq] at this; cases this
        | some b => rw [hq] at this; simp at this; rw [this]
      split at h
      · cases h
      · rename_i es c hm
        have hid : H[id]? = some (.map es c) := by
          unfold hmap at hm
          split at hm
          · rename_i e; cases hm; exact e
          · cases hm
        have hlt : id < H.length := by
          rcases Nat.lt_or_ge id H.length with h | h
          · exact h
          · rw [List.getElem?_eq_none h] at hid; cases hid
        split at h
        · cases h
        · rename_i hf
          split at h
          · cases h
          · rename_i z hz
            cases h
            unfold lookupA at hl ⊢
            rw [hu] at hl ⊢
            simp only [hko, Bool.not_true, Bool.false_eq_true, if_false, hz, hm, hf] at hl ⊢
            have hm' : hmap (H.set id (.map (es ++ [{ key := k, val := z, born := c }]) (c + 1))) id = some (es ++ [{ key := k, val := z, born := c }], c + 1) := by
              unfold hmap
              rw [List.getElem?_set_self hlt]
            rw [hm']
            simp only
            rw [findA_push (e := { key := k, val := z, born := c }) rfl hs hf]
            simp only [entryVal, List.getElem?_append_right (Nat.le_refl _), Nat.sub_self, List.getElem?_cons_zero, Option.map_some]
            exact hl
        · rename_i i hf
          split at h
          · cases h
          · rename_i e he
            split at h
            · rename_i hb
              cases h
              have hk : e.key = k := bits_flat hko'.1.1.1 hb
              have : es.modify i (fun e => { e with key := k }) = es := modify_same es i e he (by rw [← hk])
              rw [this, set_same H id _ hid]
              exact hl
            · cases h
  · cases h
end
end Sx
end Go.Am

/-
  REGIONS THAT DRAW THEIR ORDER, first part: what an operation looks at.
-/
namespace Go.Am
namespace Sx

/-- What an operation does with memory. -/
inductive MC where
  | no
  | row (s : Nat) (w : Bool)
  | hr
  | hw
  | neu (f : FuncId)

def memOf (N : FuncId → Option Nat) (pts : List Nat) (o : Oper) : Option MC :=
  match o.op with
  | .move _ | .assign _ | .pick _ _ _ | .build _ _ | .nilCheck _ | .unOp _ _ _ | .convert _ _ _ | .fieldAddr _ _ _ | .field _ _ _ | .indexAddr _ _ _ | .index _ _ _ | .extract _ _ => some .no
  | .binOp _ _ _ _ _ => some .no
  | .makeFunc _ _ _ => some .no
  | .load _ a => match keyOf pts a with
    | 0 => some .hr
    | 1 => some .no
    | s + 2 => some (.row s false)
  | .store _ a _ => match keyOf pts a with
    | 0 => some .hw
    | 1 => none
    | s + 2 => some (.row s true)
  | .alloc _ | .box _ _ => match o.dst with
    | some d => if pts.getD d 0 = d + 2 then some (.row d true) else some .hw
    | none => none
  | .buildSlice _ _ _ | .makeMap _ _ | .makeSlice _ _ _ | .mapUpdate _ _ _ _ | .mapEntry _ _ _ | .entryStore _ _ _ _ | .insert _ _ _ _ => some .hw
  | .lookup _ _ _ _ | .slice _ _ _ _ _ => some .hr
  | .call c => match c.callee with
    | .builtin b => match b with
      | .append | .copy | .delete => some .hw
      | .len => some .hr
      | .cap | .min | .max => some .no
      | _ => none
    | .value f => match f with
      | .func g => some (if N g = some c.args.size then .neu g else .hw)
      | _ => some .hw
    | _ => none
  | _ => none

def readsOf (ops : Array Oper) (o : Oper) : List Nat :=
  (o.op.operands.toList.filterMap fun x => match x with
    | .tmp t => some t
    | _ => none) ++
  match o.guard with
  | some (j, _) => ((ops[j]?).bind (·.dst)).toList
  | none => []

section
variable [Val]

/-- The same operands, the same operation. -/
theorem execOp_congr {ρ ρ' : Operand → Value} {o : Oper} (N : FuncId → Option Nat) (pts : List Nat) (hm : memOf N pts o ≠ none) (h : ∀ x ∈ o.op.operands.toList, ρ x = ρ' x) : execOp ρ o = execOp ρ' o := by
  obtain ⟨dst, op, ty, pos, after, guard⟩ := o
  have arr : ∀ {xs : Array Operand}, (∀ x ∈ xs.toList, ρ x = ρ' x) → xs.map ρ = xs.map ρ' := by
    intro xs hx
    apply Array.toList_inj.1
    rw [Array.toList_map, Array.toList_map]
    exact List.map_congr_left hx
  have prt : ∀ {xs : Array (Nat × Operand)}, (∀ x ∈ xs.toList.map (·.2), ρ x = ρ' x) → (xs.map fun (i, x) => (i, ρ x)) = (xs.map fun (i, x) => (i, ρ' x)) := by
    intro xs hx
    apply Array.toList_inj.1
    rw [Array.toList_map, Array.toList_map]
    refine List.map_congr_left fun p hp => ?_
    show (p.1, ρ p.2) = (p.1, ρ' p.2)
    rw [hx p.2 (List.mem_map.2 ⟨p, hp, rfl⟩)]
  have opt : ∀ {r : Option Operand}, (∀ x ∈ r.toArray.toList, ρ x = ρ' x) → r.map ρ = r.map ρ' := by
    intro r hx
    cases r with
    | none => rfl
    | some y => simp [hx y (by simp)]
  cases op <;> simp only [memOf, ne_eq, not_true_eq_false, not_false_eq_true, reduceCtorEq] at hm <;> simp only [Op.operands] at h
  case move x => simp only [execOp, h x (by simp)]
  case assign x => simp only [execOp, h x (by simp)]
  case pick c a b => simp only [execOp, h c (by simp), h a (by simp), h b (by simp)]
  case alloc t => rfl
  case box t x => simp only [execOp, h x (by simp)]
  case build t ps => simp only [execOp, prt (by simpa using h)]
  case buildSlice t n ps => simp only [execOp, prt (by simpa using h)]
  case load t a => simp only [execOp, h a (by simp)]
  case store t a x => simp only [execOp, h a (by simp), h x (by simp)]
  case nilCheck x => simp only [execOp, h x (by simp)]
  case binOp op t x y yt => simp only [execOp, h x (by simp), h y (by simp)]
  case unOp op t x => simp only [execOp, h x (by simp)]
  case convert s d x => simp only [execOp, h x (by simp)]
  case makeFunc fn a b => simp only [execOp, arr (fun x hx => h x (by simp; exact .inl (by simpa using hx))), arr (fun x hx => h x (by simp; exact .inr (by simpa using hx)))]
  case makeMap t r => simp only [execOp, opt h]
  case makeSlice t a b => simp only [execOp, h a (by simp), h b (by simp)]
  case slice t x a b c =>
    simp only [Array.toList_append, List.mem_append] at h
    simp only [execOp, h x (by simp), opt (fun y hy => h y (.inl (.inl (.inr hy)))), opt (fun y hy => h y (.inl (.inr hy))), opt (fun y hy => h y (.inr hy))]
  case fieldAddr t x f => simp only [execOp, h x (by simp)]
  case field t x f => simp only [execOp, h x (by simp)]
  case indexAddr t x i => simp only [execOp, h x (by simp), h i (by simp)]
  case index t x i => simp only [execOp, h x (by simp), h i (by simp)]
  case lookup t x i ok => simp only [execOp, h x (by simp), h i (by simp)]
  case mapUpdate t m k v => simp only [execOp, h m (by simp), h k (by simp), h v (by simp)]
  case insert t m k v => simp only [execOp, h m (by simp), h k (by simp), h v (by simp)]
  case mapEntry t m k => simp only [execOp, h m (by simp), h k (by simp)]
  case entryStore t m s v => simp only [execOp, h m (by simp), h s (by simp), h v (by simp)]
  case extract t i => simp only [execOp, h t (by simp)]
  case call c =>
    have hres : resolve ρ c ty = resolve ρ' c ty := by
      unfold resolve
      simp only [Call.operands, Array.toList_append, List.mem_append] at h
      rw [arr (fun x hx => h x (.inr hx))]
      cases hc : c.callee with
      | builtin b => rfl
      | value f => simp only [hc] at h ⊢; rw [h f (.inl (by simp))]
      | invoke r m => simp only [hc] at h ⊢; rw [h r (.inl (by simp))]
    simp only [execOp, hres]

theorem effOf_congr {C : Cfg} {ρ ρ' : Operand → Value} {o : Oper} (N : FuncId → Option Nat) (pts : List Nat) (hm : memOf N pts o ≠ none) (h : ∀ x ∈ o.op.operands.toList, ρ x = ρ' x) : effOf C pts ρ o = effOf C pts ρ' o := by
  have hx := execOp_congr N pts hm h
  have hall : ∀ (f : Value → Bool), (o.op.operands.toList.all fun x => f (ρ x)) = (o.op.operands.toList.all fun x => f (ρ' x)) := by
    intro f
    rw [Bool.eq_iff_iff, List.all_eq_true, List.all_eq_true]
    exact ⟨fun g x hx => by rw [← h x hx]; exact g x hx, fun g x hx => by rw [h x hx]; exact g x hx⟩
  have hp : pureEff C ρ o = pureEff C ρ' o := by
    unfold pureEff
    rw [hall flat, hx]
  have opt : ∀ {r : Option Operand}, (∀ x ∈ r.toArray.toList, ρ x = ρ' x) → r.map ρ = r.map ρ' := by
    intro r hx
    cases r with
    | none => rfl
    | some y => simp [hx y (by simp)]
  have prt : ∀ {xs : Array (Nat × Operand)}, (∀ x ∈ xs.toList.map (·.2), ρ x = ρ' x) → (xs.toList.map fun p => (p.1, ρ p.2)) = (xs.toList.map fun p => (p.1, ρ' p.2)) := by
    intro xs hx
    refine List.map_congr_left fun p hp => ?_
    rw [hx p.2 (List.mem_map.2 ⟨p, hp, rfl⟩)]
  have pal : ∀ (f : Value → Bool) {xs : Array (Nat × Operand)}, (∀ x ∈ xs.toList.map (·.2), ρ x = ρ' x) → (xs.toList.all fun p => f (ρ p.2)) = (xs.toList.all fun p => f (ρ' p.2)) := by
    intro f xs hx
    rw [Bool.eq_iff_iff, List.all_eq_true, List.all_eq_true]
    have hh : ∀ p ∈ xs.toList, ρ p.2 = ρ' p.2 := fun p hp => hx p.2 (List.mem_map.2 ⟨p, hp, rfl⟩)
    exact ⟨fun g p hp => by rw [← hh p hp]; exact g p hp, fun g p hp => by rw [hh p hp]; exact g p hp⟩
  obtain ⟨dst, op, ty, pos, after, guard⟩ := o
  cases op <;> simp only [memOf, ne_eq, not_true_eq_false, not_false_eq_true, reduceCtorEq] at hm <;> simp only [Op.operands] at h
  case move x => simp only [effOf, h x (by simp)]
  case assign x => simp only [effOf, h x (by simp)]
  case pick c a b => simp only [effOf, h c (by simp), h a (by simp), h b (by simp)]
  case alloc t => rfl
  case box t x => simp only [effOf, h x (by simp)]
  case build t ps => simp only [effOf, prt (by simpa using h), pal (fun v => !isTuple v) (by simpa using h)]
  case buildSlice t n ps => simp only [effOf, prt (by simpa using h), pal (fun v => v.cells.toList.all cellOk) (by simpa using h)]
  case load t a => simp only [effOf, h a (by simp)]
  case store t a x => simp only [effOf, h a (by simp), h x (by simp)]
  case nilCheck x => simp only [effOf, h x (by simp)]
  case binOp op t x y yt => simp only [effOf, h x (by simp), h y (by simp), hp]
  case unOp op t x => simp only [effOf, hp]
  case convert s d x => simp only [effOf, hp]
  case makeFunc fn a b =>
    have e1 : a.map ρ = a.map ρ' := Array.toList_inj.1 (by rw [Array.toList_map, Array.toList_map]; exact List.map_congr_left fun x hx => h x (by simp; exact .inl (by simpa using hx)))
    have e2 : b.map ρ = b.map ρ' := Array.toList_inj.1 (by rw [Array.toList_map, Array.toList_map]; exact List.map_congr_left fun x hx => h x (by simp; exact .inr (by simpa using hx)))
    simp only [effOf, e1, e2]
  case makeMap t r => simp only [effOf, opt h]
  case makeSlice t a b => simp only [effOf, h a (by simp), h b (by simp)]
  case slice t x a b c =>
    simp only [Array.toList_append, List.mem_append] at h
    simp only [effOf, h x (by simp), opt (fun y hy => h y (.inl (.inl (.inr hy)))), opt (fun y hy => h y (.inl (.inr hy))), opt (fun y hy => h y (.inr hy)), hp]
  case fieldAddr t x f => simp only [effOf, h x (by simp)]
  case field t x f => simp only [effOf, h x (by simp)]
  case indexAddr t x i => simp only [effOf, h x (by simp), h i (by simp)]
  case index t x i => simp only [effOf, h x (by simp), h i (by simp)]
  case lookup t x i ok => simp only [effOf, h x (by simp), h i (by simp)]
  case mapUpdate t m k v => simp only [effOf, h m (by simp), h k (by simp), h v (by simp)]
  case insert t m k v => simp only [effOf, h m (by simp), h k (by simp), h v (by simp)]
  case mapEntry t m k => simp only [effOf, h m (by simp), h k (by simp)]
  case entryStore t m s v => simp only [effOf, h m (by simp), h s (by simp), h v (by simp)]
  case extract t i => simp only [effOf, h t (by simp)]
  case call c =>
    simp only [Call.operands, Array.toList_append, List.mem_append] at h
    have e1 : c.args.toList.map ρ = c.args.toList.map ρ' := List.map_congr_left fun x hx => h x (.inr hx)
    have e2 : ∀ b, builtinEff C ρ b (c.args.toList.map ρ) c.argTypes ⟨dst, .call c, ty, pos, after, guard⟩ = builtinEff C ρ' b (c.args.toList.map ρ') c.argTypes ⟨dst, .call c, ty, pos, after, guard⟩ := by
      intro b
      unfold builtinEff
      rw [e1, hp]
    simp only [effOf, callEff]
    cases hc : c.callee with
    | builtin b => exact e2 b
    | value f => simp only [hc] at h ⊢; rw [e1, h f (.inl (by simp))]
    | invoke r m => rfl

/-! ### What an operation does, wherever it stands -/

/-- A value, a row, a heap. -/
structure Ef where
  v : Value
  rw : Option (Nat × Option (List Value))
  hp : Option (List HObj)
def Ef.on (e : Ef) (dst : Option Tmp) (σ : St) : St :=
  ({ tmps := σ.tmps, loc := (match e.rw with | some p => σ.loc.set p.1 p.2 | none => σ.loc), heap := e.hp.getD σ.heap } : St).put dst e.v

/-- What is looked at is the same. -/
def Sees (N : FuncId → Option Nat) (pts : List Nat) (ops : Array Oper) (o : Oper) (σ τ : St) : Prop :=
  (∀ t ∈ readsOf ops o, τ.tmps[t]? = σ.tmps[t]?) ∧ match memOf N pts o with
  | some (.row s _) => τ.loc[s]? = σ.loc[s]?
  | some .hr => τ.heap = σ.heap
  | some .hw => τ.heap = σ.heap
  | _ => True

/-- Calls that have nothing to do with the heap. -/
def NeuB (N : FuncId → Option Nat) (B : Below) : Prop := ∀ f args H r H', N f = some args.length → B.call f args H r H' → H' = H ∧ ∀ H2, B.call f args H2 r H2

/-- What an operation of a class may touch. -/
def Touch (m : Option MC) (e : Ef) : Prop :=
  (∀ p, e.rw = some p → m = some (.row p.1 true)) ∧ (e.hp ≠ none → m = some .hw)

theorem oval_congr {σ τ : St} {x : Operand} (h : ∀ t, x = .tmp t → τ.tmps[t]? = σ.tmps[t]?) : oval τ.tmps x = oval σ.tmps x := by
  cases x with
  | tmp t => simp [oval, List.getD_eq_getElem?_getD, h t rfl]
  | _ => rfl

theorem sees_ops {N : FuncId → Option Nat} {pts : List Nat} {ops : Array Oper} {o : Oper} {σ τ : St} (h : Sees N pts ops o σ τ) : ∀ x ∈ o.op.operands.toList, oval τ.tmps x = oval σ.tmps x := by
  intro x hx
  refine oval_congr fun t ht => h.1 t ?_
  subst ht
  simp only [readsOf, List.mem_append, List.mem_filterMap]
  exact .inl ⟨.tmp t, hx, rfl⟩

theorem wanted_congr {N : FuncId → Option Nat} {pts : List Nat} {ops : Array Oper} {o : Oper} {σ τ : St} (h : Sees N pts ops o σ τ) : wantedA ops τ.tmps o = wantedA ops σ.tmps o := by
  unfold wantedA
  split
  · rfl
  · rename_i j want hg
    cases hd : (ops[j]?).bind (·.dst) with
    | none => rfl
    | some d =>
      simp only [Option.bind_some]
      rw [h.1 d (by simp [readsOf, hg, hd])]

/-- What an effect is, its operation's class tells. -/
def Fits (N : FuncId → Option Nat) (m : Option MC) : Eff → Prop
  | .val _ => True
  | .lnew s _ => m = some (.row s true)
  | .lget s _ => m = some (.row s false)
  | .lset s _ => m = some (.row s true)
  | .hget _ => m = some .hr
  | .hop _ => m = some .hw
  | .call f args => (m = some (.neu f) ∧ N f = some args.length) ∨ m = some .hw
  | .yield _ _ => m = some .hw

theorem fits_map {N : FuncId → Option Nat} {m : Option MC} {x : Option Value} {e : Eff} (h : x.map Eff.val = some e) : Fits N m e := by
  obtain ⟨v, _, rfl⟩ := Option.map_eq_some_iff.1 h
  trivial
theorem fits_pure {C : Cfg} {ρ : Operand → Value} {o : Oper} {N : FuncId → Option Nat} {m : Option MC} {e : Eff} (h : pureEff C ρ o = some e) : Fits N m e := by
  unfold pureEff at h
  split at h
  · split at h
    · split at h
      · cases h; trivial
      · cases h
    · cases h
  · cases h
theorem fits_or {N : FuncId → Option Nat} {m : Option MC} {a : Option Value} {b : Option Eff} {e : Eff} (hb : b = some e → Fits N m e) (h : orElse a b = some e) : Fits N m e := by
  unfold orElse at h
  split at h
  · cases h; trivial
  · exact hb h

theorem fits_newVar {C : Cfg} {N : FuncId → Option Nat} {pts : List Nat} {o : Oper} {t : TypeId} {v : Value} {e : Eff} (ho : (∃ y, o.op = .box t y) ∨ o.op = .alloc t) (h : newVarEff C pts o.dst t v = some e) : Fits N (memOf N pts o) e := by
  unfold newVarEff at h
  split at h
  · cases h
  · split at h
    · cases h
    · rename_i d hd
      split at h
      · cases h
      · split at h
        · rename_i hp
          cases h
          rcases ho with ⟨y, ho⟩ | ho <;> (simp only [Fits, memOf, ho, hd]; rw [if_pos hp])
        · rename_i hp
          cases h
          rcases ho with ⟨y, ho⟩ | ho <;> (simp only [Fits, memOf, ho, hd]; rw [if_neg hp])

theorem fits_ok {C : Cfg} {N : FuncId → Option Nat} {pts : List Nat} {ρ : Operand → Value} {o : Oper} {e : Eff} (hρ : ∀ g, ρ (.func g) = .func (.func g) #[] #[]) (hm : memOf N pts o ≠ none) (he : effOf C pts ρ o = some e) : Fits N (memOf N pts o) e := by
  unfold effOf at he
  split at he
  · cases he; trivial
  · cases he; trivial
  · split at he
    · cases he; trivial
    · cases he
  · rename_i t ho
    obtain ⟨z, _, he⟩ := Option.bind_eq_some_iff.1 he
    exact fits_newVar (.inr ho) he
  · rename_i t x ho
    exact fits_newVar (.inl ⟨x, ho⟩) he
  · split at he
    · exact fits_map he
    · cases he
  · rename_i t n ps ho
    split at he
    · obtain ⟨r, _, rfl⟩ := Option.map_eq_some_iff.1 he
      simp only [Fits, memOf, ho]
    · cases he
  · rename_i t a ho
    unfold loadEff at he
    split at he
    · rename_i hk
      obtain ⟨p, _, rfl⟩ := Option.map_eq_some_iff.1 he
      simp only [Fits, memOf, ho, hk]
    · obtain ⟨p, _, he⟩ := Option.bind_eq_some_iff.1 he
      exact fits_map he
    · rename_i s hk
      obtain ⟨p, _, rfl⟩ := Option.map_eq_some_iff.1 he
      simp only [Fits, memOf, ho, hk]
  · rename_i t a x ho
    unfold storeEff at he
    split at he
    · cases he
    · split at he
      · rename_i hk
        obtain ⟨p, _, rfl⟩ := Option.map_eq_some_iff.1 he
        simp only [Fits, memOf, ho, hk]
      · cases he
      · rename_i s hk
        obtain ⟨p, _, rfl⟩ := Option.map_eq_some_iff.1 he
        simp only [Fits, memOf, ho, hk]
  · split at he <;> cases he <;> trivial
  · split at he
    · split at he
      · split at he
        · cases he; trivial
        · cases he
      · exact fits_pure he
    · split at he
      · split at he
        · cases he; trivial
        · cases he
      · exact fits_pure he
    · exact fits_pure he
  · split at he
    · cases he
    · cases he; trivial
  · rename_i t r ho
    split at he
    · cases he; simp only [Fits, memOf, ho]
    · cases he
  · rename_i t l c ho
    cases he; simp only [Fits, memOf, ho]
  · rename_i t x lo hi mx ho
    split at he
    · split at he
      · exact fits_map he
      · cases he; simp only [Fits, memOf, ho]
    · exact fits_or fits_pure he
  · exact fits_map he
  · exact fits_map he
  · exact fits_map he
  · exact fits_map he
  · rename_i t m k ok ho
    split at he
    · exact fits_map he
    · cases he; simp only [Fits, memOf, ho]
  · rename_i t m k v ho
    cases he; simp only [Fits, memOf, ho]
  · rename_i t m k v ho
    cases he; simp only [Fits, memOf, ho]
  · rename_i t m k ho
    cases he; simp only [Fits, memOf, ho]
  · rename_i t m s v ho
    cases he; simp only [Fits, memOf, ho]
  · split at he
    · split at he
      · cases he
      · exact fits_map he
    · cases he
  · rename_i c ho
    unfold callEff at he
    simp only at he
    cases hc : c.callee with
    | invoke r m => simp only [hc] at he; cases he
    | builtin b =>
      simp only [hc] at he
      unfold builtinEff at he
      split at he
      · split at he
        · cases he
        · cases he; simp only [Fits, memOf, ho, hc]
      · split at he
        · cases he; trivial
        · cases he; simp only [Fits, memOf, ho, hc]
        · cases he; trivial
        · exact fits_pure he
      · split at he
        · cases he; trivial
        · cases he; trivial
        · cases he; trivial
        · cases he
      · cases he; simp only [Fits, memOf, ho, hc]
      · cases he; simp only [Fits, memOf, ho, hc]
      · exact fits_pure he
    | value f =>
      simp only [hc] at he
      split at he
      · cases he
      · split at he
        · rename_i g first cap hf
          split at he
          · cases he
            cases f with
            | func g' =>
              rw [hρ] at hf
              cases hf
              simp only [memOf, ho, hc, Fits]
              by_cases hN : N g = some c.args.size
              · rw [if_pos hN]; exact .inl ⟨rfl, by rw [hN]; simp⟩
              · rw [if_neg hN]; exact .inr rfl
            | _ => simp only [Fits, memOf, ho, hc, or_true]
          · cases he
        · rename_i l first cap hf
          split at he
          · cases he
            cases f with
            | func g' => rw [hρ] at hf; cases hf
            | _ => simp only [Fits, memOf, ho, hc]
          · cases he
        · cases he
  · exact fits_pure he
  · exact fits_pure he
  · cases he

/-- LOCALITY. -/
theorem local_ok {C : Cfg} {B : Below} {N : FuncId → Option Nat} (hN : NeuB N B) {pts : List Nat} {ops : Array Oper} {i : Nat} {o : Oper} (hi : ops[i]? = some o) (hm : memOf N pts o ≠ none) {σ σ' : St} (hs : stepRel C B pts ops i σ σ') :
    ∃ e : Ef, σ' = e.on o.dst σ ∧ Touch (memOf N pts o) e ∧ ∀ τ, Sees N pts ops o σ τ → stepRel C B pts ops i τ (e.on o.dst τ) := by
  unfold stepRel at hs
  simp only [hi] at hs
  have val : ∀ v : Value, σ' = σ.put o.dst v → (∀ τ, Sees N pts ops o σ τ → stepRel C B pts ops i τ (τ.put o.dst v)) →
      ∃ e : Ef, σ' = e.on o.dst σ ∧ Touch (memOf N pts o) e ∧ ∀ τ, Sees N pts ops o σ τ → stepRel C B pts ops i τ (e.on o.dst τ) := by
    intro v hv h
    exact ⟨⟨v, none, none⟩, hv, ⟨fun p hp => (by cases hp), fun h => absurd rfl h⟩, h⟩
  split at hs
  · exact hs.elim
  · rename_i hw
    refine val undef hs fun τ hτ => ?_
    unfold stepRel
    simp only [hi, wanted_congr hτ, hw]
  · rename_i hw
    have step : ∀ {τ τ' : St}, Sees N pts ops o σ τ → ((∃ e, effOf C pts (oval τ.tmps) o = some e ∧ effRel B e o.dst τ τ') ∨ (∃ v, symRel C τ.tmps o v ∧ τ' = τ.put o.dst v)) → stepRel C B pts ops i τ τ' := by
      intro τ τ' hτ h
      unfold stepRel
      simp only [hi, wanted_congr hτ, hw]
      exact h
    rcases hs with ⟨e, he, hr⟩ | ⟨v, hv, rfl⟩
    · have heτ : ∀ τ, Sees N pts ops o σ τ → effOf C pts (oval τ.tmps) o = some e := fun τ hτ => by
        rw [effOf_congr N pts hm (sees_ops hτ)]; exact he
      cases e with
      | val v =>
        obtain ⟨p, hp, rfl⟩ := hr
        cases hp
        exact val v rfl fun τ hτ => step hτ (.inl ⟨_, heτ τ hτ, _, rfl, rfl⟩)
      | lnew s vs =>
        obtain ⟨p, hp, rfl⟩ := hr
        simp only [applyEff] at hp
        split at hp
        · rename_i hloc
          cases hp
          have hclass : memOf N pts o = some (.row s true) := fits_ok (fun _ => rfl) hm he
          refine ⟨⟨.pointer (some ⟨s, 0, some 0⟩), some (s, some vs), none⟩, rfl, ⟨fun p hp => by cases hp; exact hclass, fun h => absurd rfl h⟩, fun τ hτ => step hτ (.inl ⟨_, heτ τ hτ, ({ τ with loc := τ.loc.set s (some vs) }, .pointer (some ⟨s, 0, some 0⟩)), ?_, rfl⟩)⟩
          have := hτ.2
          rw [hclass] at this
          simp only [applyEff, this, hloc]
        · cases hp
      | lget s f =>
        obtain ⟨p, hp, rfl⟩ := hr
        simp only [applyEff] at hp
        split at hp
        · rename_i vs hloc
          obtain ⟨v, hv, rfl⟩ := Option.map_eq_some_iff.1 hp
          have hclass : memOf N pts o = some (.row s false) := fits_ok (fun _ => rfl) hm he
          refine val v rfl fun τ hτ => step hτ (.inl ⟨_, heτ τ hτ, (τ, v), ?_, rfl⟩)
          have := hτ.2
          rw [hclass] at this
          simp only [applyEff, this, hloc, hv, Option.map_some]
        · cases hp
      | lset s f =>
        obtain ⟨p, hp, rfl⟩ := hr
        simp only [applyEff] at hp
        split at hp
        · rename_i vs hloc
          obtain ⟨vs', hv, rfl⟩ := Option.map_eq_some_iff.1 hp
          have hclass : memOf N pts o = some (.row s true) := fits_ok (fun _ => rfl) hm he
          refine ⟨⟨undef, some (s, some vs'), none⟩, rfl, ⟨fun p hp => by cases hp; exact hclass, fun h => absurd rfl h⟩, fun τ hτ => step hτ (.inl ⟨_, heτ τ hτ, ({ τ with loc := τ.loc.set s (some vs') }, undef), ?_, rfl⟩)⟩
          have := hτ.2
          rw [hclass] at this
          simp only [applyEff, this, hloc, hv, Option.map_some]
        · cases hp
      | hget f =>
        obtain ⟨p, hp, rfl⟩ := hr
        simp only [applyEff] at hp
        obtain ⟨v, hv, rfl⟩ := Option.map_eq_some_iff.1 hp
        have hclass : memOf N pts o = some .hr := fits_ok (fun _ => rfl) hm he
        refine val v rfl fun τ hτ => step hτ (.inl ⟨_, heτ τ hτ, (τ, v), ?_, rfl⟩)
        have := hτ.2
        rw [hclass] at this
        simp only [applyEff, this, hv, Option.map_some]
      | hop f =>
        obtain ⟨p, hp, rfl⟩ := hr
        simp only [applyEff] at hp
        obtain ⟨q, hv, rfl⟩ := Option.map_eq_some_iff.1 hp
        have hclass : memOf N pts o = some .hw := fits_ok (fun _ => rfl) hm he
        refine ⟨⟨q.2, none, some q.1⟩, rfl, ⟨fun p hp => (by cases hp), fun _ => hclass⟩, fun τ hτ => step hτ (.inl ⟨_, heτ τ hτ, ({ τ with heap := q.1 }, q.2), ?_, rfl⟩)⟩
        have := hτ.2
        rw [hclass] at this
        simp only [applyEff, this, hv, Option.map_some]
      | call f args =>
        obtain ⟨r, H, hc, rfl⟩ := hr
        have hclass : (memOf N pts o = some (.neu f) ∧ N f = some args.length) ∨ memOf N pts o = some .hw := fits_ok (fun _ => rfl) hm he
        rcases hclass with ⟨hclass, hf⟩ | hclass
        · obtain ⟨rfl, h2⟩ := hN f args _ r H hf hc
          exact val r rfl fun τ hτ => step hτ (.inl ⟨_, heτ τ hτ, r, τ.heap, h2 τ.heap, rfl⟩)
        · refine ⟨⟨r, none, some H⟩, rfl, ⟨fun p hp => (by cases hp), fun _ => hclass⟩, fun τ hτ => step hτ (.inl ⟨_, heτ τ hτ, r, H, ?_, rfl⟩)⟩
          have := hτ.2
          rw [hclass] at this
          rw [this]; exact hc
      | yield l args =>
        obtain ⟨r, H, hc, rfl⟩ := hr
        have hclass : memOf N pts o = some .hw := fits_ok (fun _ => rfl) hm he
        refine ⟨⟨r, none, some H⟩, rfl, ⟨fun p hp => (by cases hp), fun _ => hclass⟩, fun τ hτ => step hτ (.inl ⟨_, heτ τ hτ, r, H, ?_, rfl⟩)⟩
        have := hτ.2
        rw [hclass] at this
        rw [this]; exact hc
    · refine val v rfl fun τ hτ => step hτ (.inr ⟨v, ?_, rfl⟩)
      obtain ⟨h1, h2, h3, h4⟩ := hv
      have hops := sees_ops hτ
      refine ⟨h1, ?_, h3, fun w => ?_⟩
      · rw [List.all_eq_true] at h2 ⊢
        intro x hx
        rw [hops x hx]; exact h2 x hx
      · rw [execOp_congr N pts hm (ρ' := fun x => den (oval σ.tmps x)) fun x hx => by rw [hops x hx]]
        exact h4 w

/-! ### Two operations -/

def MC.ok2 : MC → MC → Bool
  | .no, _ => true
  | _, .no => true
  | .row s w, .row s' w' => !Nat.beq s s' || (!w && !w')
  | .row _ _, _ => true
  | _, .row _ _ => true
  | .neu _, _ => true
  | _, .neu _ => true
  | .hr, .hr => true
  | _, _ => false
def dstFree (d : Option Tmp) (l : List Nat) : Bool := match d with
  | some d => !l.contains d
  | none => true
def dstsDiffer (a b : Option Tmp) : Bool := match a, b with
  | some a, some b => !Nat.beq a b
  | _, _ => true
/-- A look-up, and an entry made for the same key of the same map. -/
def sameOpd : Operand → Operand → Bool
  | .tmp a, .tmp b => Nat.beq a b
  | _, _ => false
def entryPair (a b : Oper) : Bool :=
  match a.op with
  | .lookup t m k false => (match b.op with
    | .mapEntry t' m' k' => Nat.beq t t' && sameOpd m m' && sameOpd k k'
    | _ => false)
  | _ => false
/-- May two operations change places? -/
def comm2 (N : FuncId → Option Nat) (pts : List Nat) (ops : Array Oper) (a b : Oper) : Bool :=
  match memOf N pts a, memOf N pts b with
  | some m, some n => (m.ok2 n || entryPair a b) && dstFree a.dst (readsOf ops b) && dstFree b.dst (readsOf ops a) && dstsDiffer a.dst b.dst
  | _, _ => false

theorem put_get {σ : St} {d : Option Tmp} {v : Value} {t : Nat} (h : ∀ x, d = some x → x ≠ t) : (σ.put d v).tmps[t]? = σ.tmps[t]? := by
  cases d with
  | none => rfl
  | some x => simp only [St.put]; rw [List.getElem?_set_ne (h x rfl)]
theorem put_loc {σ : St} {d : Option Tmp} {v : Value} : (σ.put d v).loc = σ.loc := by cases d <;> rfl
theorem put_heap {σ : St} {d : Option Tmp} {v : Value} : (σ.put d v).heap = σ.heap := by cases d <;> rfl
theorem put_tmps {σ : St} {d : Option Tmp} {v : Value} : (σ.put d v).tmps = (match d with | some d => σ.tmps.set d v | none => σ.tmps) := by cases d <;> rfl

theorem on_tmps {e : Ef} {d : Option Tmp} {σ : St} : (e.on d σ).tmps = (match d with | some d => σ.tmps.set d e.v | none => σ.tmps) := by unfold Ef.on; rw [put_tmps]
theorem on_loc {e : Ef} {d : Option Tmp} {σ : St} : (e.on d σ).loc = (match e.rw with | some p => σ.loc.set p.1 p.2 | none => σ.loc) := by unfold Ef.on; rw [put_loc]
theorem on_heap {e : Ef} {d : Option Tmp} {σ : St} : (e.on d σ).heap = e.hp.getD σ.heap := by unfold Ef.on; rw [put_heap]

/-- What one operation does, the other one does not see. -/
theorem unseen {N : FuncId → Option Nat} {pts : List Nat} {ops : Array Oper} {a b : Oper} {m n : MC} (ha : memOf N pts a = some m) (hb : memOf N pts b = some n) (hok : m.ok2 n = true ∨ n.ok2 m = true)
    (hd : dstFree a.dst (readsOf ops b) = true) {e : Ef} (ht : Touch (memOf N pts a) e) (σ : St) : Sees N pts ops b σ (e.on a.dst σ) := by
  refine ⟨fun t hr => ?_, ?_⟩
  · unfold Ef.on
    refine put_get fun x hx he => ?_
    subst he
    rw [hx] at hd
    simp only [dstFree, Bool.not_eq_true', List.contains_eq_mem, decide_eq_false_iff_not] at hd
    exact hd hr
  · rw [ha] at ht
    rw [hb]
    cases n with
    | no => trivial
    | neu f => trivial
    | row s w =>
      show (e.on a.dst σ).loc[s]? = _
      rw [on_loc]
      cases hrw : e.rw with
      | none => rfl
      | some p =>
        have hm := ht.1 p hrw
        cases hm
        have : p.1 ≠ s := by
          intro he
          subst he
          rcases hok with h | h <;> simp [MC.ok2] at h
        show (σ.loc.set p.1 p.2)[s]? = _
        rw [List.getElem?_set_ne this]
    | hr =>
      show (e.on a.dst σ).heap = _
      rw [on_heap]
      cases hh : e.hp with
      | none => rfl
      | some H =>
        have hm := ht.2 (by rw [hh]; simp)
        cases hm
        rcases hok with h | h <;> cases h
    | hw =>
      show (e.on a.dst σ).heap = _
      rw [on_heap]
      cases hh : e.hp with
      | none => rfl
      | some H =>
        have hm := ht.2 (by rw [hh]; simp)
        cases hm
        rcases hok with h | h <;> cases h

theorem set_comm {α : Type} (l : List α) {i j : Nat} (a b : α) (h : i ≠ j) : (l.set i a).set j b = (l.set j b).set i a := List.set_comm _ _ h

theorem on_comm {N : FuncId → Option Nat} {pts : List Nat} {a b : Oper} {m n : MC} (ha : memOf N pts a = some m) (hb : memOf N pts b = some n) (hok : m.ok2 n = true) (hd : dstsDiffer a.dst b.dst = true) {e f : Ef}
    (ht : Touch (memOf N pts a) e) (hu : Touch (memOf N pts b) f) (σ : St) : f.on b.dst (e.on a.dst σ) = e.on a.dst (f.on b.dst σ) := by
  have h1 : (f.on b.dst (e.on a.dst σ)).tmps = (e.on a.dst (f.on b.dst σ)).tmps := by
    simp only [on_tmps]
    cases hx : a.dst with
    | none => rfl
    | some x =>
      cases hy : b.dst with
      | none => rfl
      | some y =>
        rw [hx, hy] at hd
        have : x ≠ y := by
          intro he; subst he; simp [dstsDiffer] at hd
        exact set_comm _ _ _ this
  have h2 : (f.on b.dst (e.on a.dst σ)).loc = (e.on a.dst (f.on b.dst σ)).loc := by
    simp only [on_loc]
    cases hx : e.rw with
    | none => rfl
    | some p =>
      cases hy : f.rw with
      | none => rfl
      | some q =>
        have e1 := ht.1 p hx
        have e2 := hu.1 q hy
        rw [ha] at e1
        rw [hb] at e2
        cases e1; cases e2
        have : p.1 ≠ q.1 := by
          intro he
          rw [he] at hok
          simp [MC.ok2] at hok
        exact set_comm _ _ _ this
  have h3 : (f.on b.dst (e.on a.dst σ)).heap = (e.on a.dst (f.on b.dst σ)).heap := by
    simp only [on_heap]
    cases hx : e.hp with
    | none => rfl
    | some p =>
      cases hy : f.hp with
      | none => rfl
      | some q =>
        have e1 := ht.2 (by rw [hx]; simp)
        have e2 := hu.2 (by rw [hy]; simp)
        rw [ha] at e1
        rw [hb] at e2
        cases e1; cases e2
        cases hok
  generalize f.on b.dst (e.on a.dst σ) = x at *
  generalize e.on a.dst (f.on b.dst σ) = y at *
  cases x; cases y
  simp only at h1 h2 h3
  subst h1; subst h2; subst h3
  rfl

theorem sameOpd_eq {a b : Operand} (h : sameOpd a b = true) : a = b ∧ ∃ t, a = .tmp t := by
  cases a <;> cases b <;> simp only [sameOpd, Bool.false_eq_true] at h
  exact ⟨by rw [Nat.eq_of_beq_eq_true h], _, rfl⟩
theorem wanted_tmps {ops : Array Oper} {o : Oper} {σ τ : St} (h : ∀ t ∈ readsOf ops o, τ.tmps[t]? = σ.tmps[t]?) : wantedA ops τ.tmps o = wantedA ops σ.tmps o := by
  unfold wantedA
  split
  · rfl
  · rename_i j want hg
    cases hd : (ops[j]?).bind (·.dst) with
    | none => rfl
    | some d =>
      simp only [Option.bind_some]
      rw [h d (by simp [readsOf, hg, hd])]
theorem ops_tmps {ops : Array Oper} {o : Oper} {σ τ : St} (h : ∀ t ∈ readsOf ops o, τ.tmps[t]? = σ.tmps[t]?) : ∀ x ∈ o.op.operands.toList, oval τ.tmps x = oval σ.tmps x := by
  intro x hx
  refine oval_congr fun t ht => h t ?_
  subst ht
  simp only [readsOf, List.mem_append, List.mem_filterMap]
  exact .inl ⟨.tmp t, hx, rfl⟩

/-- A look-up, wherever what it finds is the same. -/
theorem lookup_local {C : Cfg} {B : Below} {N : FuncId → Option Nat} {pts : List Nat} {ops : Array Oper} {i : Nat} {o : Oper} {t : TypeId} {m k : Operand} (hi : ops[i]? = some o) (ho : o.op = .lookup t m k false) {σ σ' : St} (hs : stepRel C B pts ops i σ σ') :
    ∃ v, σ' = σ.put o.dst v ∧ ∀ τ : St, (∀ t ∈ readsOf ops o, τ.tmps[t]? = σ.tmps[t]?) →
      (∀ u, lookupA C t (oval σ.tmps m) (oval σ.tmps k) false σ.heap = some u → lookupA C t (oval σ.tmps m) (oval σ.tmps k) false τ.heap = some u) → stepRel C B pts ops i τ (τ.put o.dst v) := by
  have hmem : memOf N pts o ≠ none := by unfold memOf; rw [ho]; simp
  unfold stepRel at hs
  simp only [hi] at hs
  split at hs
  · exact hs.elim
  · rename_i hw
    refine ⟨undef, hs, fun τ hτ _ => ?_⟩
    unfold stepRel
    simp only [hi, wanted_tmps hτ, hw]
  · rename_i hw
    have step : ∀ {τ τ' : St}, (∀ t ∈ readsOf ops o, τ.tmps[t]? = σ.tmps[t]?) → ((∃ e, effOf C pts (oval τ.tmps) o = some e ∧ effRel B e o.dst τ τ') ∨ (∃ v, symRel C τ.tmps o v ∧ τ' = τ.put o.dst v)) → stepRel C B pts ops i τ τ' := by
      intro τ τ' hτ h
      unfold stepRel
      simp only [hi, wanted_tmps hτ, hw]
      exact h
    rcases hs with ⟨e, he, hr⟩ | ⟨v, hv, rfl⟩
    · have heτ : ∀ τ : St, (∀ t ∈ readsOf ops o, τ.tmps[t]? = σ.tmps[t]?) → effOf C pts (oval τ.tmps) o = some e := fun τ hτ => by
        rw [effOf_congr N pts hmem (ops_tmps hτ)]; exact he
      have he' := he
      unfold effOf at he'
      rw [ho] at he'
      simp only at he'
      split at he'
      · obtain ⟨v, hv, rfl⟩ := Option.map_eq_some_iff.1 he'
        obtain ⟨p, hp, rfl⟩ := hr
        cases hp
        exact ⟨v, rfl, fun τ hτ _ => step hτ (.inl ⟨_, heτ τ hτ, _, rfl, rfl⟩)⟩
      · cases he'
        obtain ⟨p, hp, rfl⟩ := hr
        simp only [applyEff] at hp
        obtain ⟨v, hv, rfl⟩ := Option.map_eq_some_iff.1 hp
        refine ⟨v, rfl, fun τ hτ hl => step hτ (.inl ⟨_, heτ τ hτ, (τ, v), ?_, rfl⟩)⟩
        simp only [applyEff, hl v hv, Option.map_some]
    · refine ⟨v, rfl, fun τ hτ _ => step hτ (.inr ⟨v, ?_, rfl⟩)⟩
      obtain ⟨h1, h2, h3, h4⟩ := hv
      have hops := ops_tmps hτ
      refine ⟨h1, ?_, h3, fun w => ?_⟩
      · rw [List.all_eq_true] at h2 ⊢
        intro x hx
        rw [hops x hx]; exact h2 x hx
      · rw [execOp_congr N pts hmem (ρ' := fun x => den (oval σ.tmps x)) fun x hx => by rw [hops x hx]]
        exact h4 w

/-- What an entry's making does with the heap. -/
theorem entry_heap {C : Cfg} {B : Below} {pts : List Nat} {ops : Array Oper} {i : Nat} {o : Oper} {t : TypeId} {m k : Operand} (hi : ops[i]? = some o) (ho : o.op = .mapEntry t m k) {σ σ' : St} (hs : stepRel C B pts ops i σ σ') :
    σ'.heap = σ.heap ∨ ∃ r, mapEntryA C t (oval σ.tmps m) (oval σ.tmps k) σ.heap = some (σ'.heap, r) := by
  unfold stepRel at hs
  simp only [hi] at hs
  split at hs
  · exact hs.elim
  · subst hs; exact .inl put_heap
  · rcases hs with ⟨e, he, hr⟩ | ⟨v, hv, rfl⟩
    · unfold effOf at he
      rw [ho] at he
      simp only [Option.some.injEq] at he
      subst he
      obtain ⟨p, hp, rfl⟩ := hr
      simp only [applyEff] at hp
      obtain ⟨q, hq, rfl⟩ := Option.map_eq_some_iff.1 hp
      refine .inr ⟨q.2, ?_⟩
      rw [put_heap]
      exact hq
    · exact .inl put_heap

theorem swap_entry {C : Cfg} {B : Below} {N : FuncId → Option Nat} (hN : NeuB N B) {pts : List Nat} {ops : Array Oper} {i j : Nat} {a b : Oper} (hi : ops[i]? = some a) (hj : ops[j]? = some b) (hc : entryPair a b = true)
    (c2 : dstFree a.dst (readsOf ops b) = true) (c3 : dstFree b.dst (readsOf ops a) = true) (c4 : dstsDiffer a.dst b.dst = true) {σ σ₁ σ' : St}
    (h1 : stepRel C B pts ops i σ σ₁) (h2 : stepRel C B pts ops j σ₁ σ') : ∃ τ, stepRel C B pts ops j σ τ ∧ stepRel C B pts ops i τ σ' := by
  unfold entryPair at hc
  split at hc
  · rename_i t m k ha
    split at hc
    · rename_i t' m' k' hb
      simp only [Bool.and_eq_true] at hc
      obtain ⟨⟨e1, e2⟩, e3⟩ := hc
      have e1 := Nat.eq_of_beq_eq_true e1
      obtain ⟨e2, tm, rfl⟩ := sameOpd_eq e2
      obtain ⟨e3, tk, rfl⟩ := sameOpd_eq e3
      subst e1 e2 e3
      obtain ⟨v, rfl, la⟩ := lookup_local (N := N) hi ha h1
      have hmb : memOf N pts b = some .hw := by unfold memOf; rw [hb]
      obtain ⟨f, rfl, tf, lf⟩ := local_ok hN hj (by rw [hmb]; simp) h2
      have hfree : ∀ {d : Option Tmp} {l : List Nat}, dstFree d l = true → ∀ t ∈ l, ∀ x, d = some x → x ≠ t := by
        intro d l hd t ht x hx he
        subst hx he
        simp only [dstFree, Bool.not_eq_true', List.contains_eq_mem, decide_eq_false_iff_not] at hd
        exact hd ht
      have s1 : Sees N pts ops b (σ.put a.dst v) σ := by
        refine ⟨fun t ht => (put_get (hfree c2 t ht)).symm, ?_⟩
        rw [hmb]
        exact put_heap.symm
      have hstep := lf σ s1
      refine ⟨f.on b.dst σ, hstep, ?_⟩
      have hrd : ∀ t ∈ readsOf ops a, (f.on b.dst σ).tmps[t]? = σ.tmps[t]? := by
        intro t ht
        unfold Ef.on
        rw [put_get (hfree c3 t ht)]
      have hrow : f.rw = none := by
        cases hr : f.rw with
        | none => rfl
        | some p =>
          have := tf.1 p hr
          rw [hmb] at this
          cases this
      have hfin := la (f.on b.dst σ) hrd (fun u hu => by
        rcases entry_heap hj hb hstep with h | ⟨r, h⟩
        · rw [h]; exact hu
        · exact lookup_entry h hu)
      have hcomm : f.on b.dst (σ.put a.dst v) = (f.on b.dst σ).put a.dst v := by
        unfold Ef.on
        rw [hrow]
        simp only
        cases hx : a.dst with
        | none => rfl
        | some x =>
          cases hy : b.dst with
          | none => rfl
          | some y =>
            rw [hx, hy] at c4
            have : x ≠ y := by
              intro he; subst he; simp [dstsDiffer] at c4
            simp only [St.put]
            rw [set_comm _ _ _ this]
      rw [hcomm]
      exact hfin
    · cases hc
  · cases hc

/-- TWO OPERATIONS CHANGE PLACES. -/
theorem swap_ok {C : Cfg} {B : Below} {N : FuncId → Option Nat} (hN : NeuB N B) {pts : List Nat} {ops : Array Oper} {i j : Nat} {a b : Oper} (hi : ops[i]? = some a) (hj : ops[j]? = some b) (hc : comm2 N pts ops a b = true) {σ σ₁ σ' : St}
    (h1 : stepRel C B pts ops i σ σ₁) (h2 : stepRel C B pts ops j σ₁ σ') : ∃ τ, stepRel C B pts ops j σ τ ∧ stepRel C B pts ops i τ σ' := by
  unfold comm2 at hc
  split at hc
  · rename_i m n hm hn
    simp only [Bool.and_eq_true] at hc
    obtain ⟨⟨⟨c1, c2⟩, c3⟩, c4⟩ := hc
    rw [Bool.or_eq_true] at c1
    rcases c1 with c1 | c1
    case inr => exact swap_entry hN hi hj c1 c2 c3 c4 h1 h2
    obtain ⟨e, rfl, te, le⟩ := local_ok hN hi (by rw [hm]; simp) h1
    obtain ⟨f, rfl, tf, lf⟩ := local_ok hN hj (by rw [hn]; simp) h2
    -- j at σ: σ is seen by j as σ₁ is
    have s1 : Sees N pts ops b (e.on a.dst σ) σ := by
      have := unseen hm hn (.inl c1) c2 te σ
      refine ⟨fun t ht => (this.1 t ht).symm, ?_⟩
      have h := this.2
      rw [hn] at h ⊢
      cases n <;> first | trivial | exact h.symm
    have s2 : Sees N pts ops a σ (f.on b.dst σ) := unseen hn hm (.inr c1) c3 tf σ
    refine ⟨f.on b.dst σ, lf σ s1, ?_⟩
    rw [on_comm hm hn c1 c4 te tf σ]
    exact le _ s2
  · cases hc

end
end Sx
end Go.Am

/-
  REGIONS THAT DRAW THEIR ORDER, second part: whatever the order.
-/
namespace Go.Am
namespace Sx

section
variable [Val] {C : Cfg} {B : Below} {N : FuncId → Option Nat} {pts : List Nat} {ops : Array Oper}

theorem move_front {i : Nat} {post : List Nat} : ∀ (pre : List Nat), (∀ k ∈ pre, ∀ σ σ₁ σ' : St, stepRel C B pts ops k σ σ₁ → stepRel C B pts ops i σ₁ σ' → ∃ τ, stepRel C B pts ops i σ τ ∧ stepRel C B pts ops k τ σ') →
    ∀ σ σ' : St, opsRel C B pts ops (pre ++ i :: post) σ σ' → opsRel C B pts ops (i :: (pre ++ post)) σ σ'
  | [], _, σ, σ', h => h
  | k :: pre, hc, σ, σ', ⟨σ₁, h1, h2⟩ => by
    obtain ⟨σ₂, h3, h4⟩ := move_front pre (fun k hk => hc k (by simp [hk])) σ₁ σ' h2
    obtain ⟨τ, h5, h6⟩ := hc k (by simp) σ σ₁ σ₂ h1 h3
    exact ⟨τ, h5, σ₂, h6, h4⟩

/-- The operations that come before one, as bits. -/
def ancOf (acc : List Nat) (o : Oper) : Nat :=
  o.after.toList.foldl (fun m e => match Region.binds .any e with
    | true => Nat.lor (Nat.lor m (Nat.shiftLeft 1 e.on)) (acc.getD e.on 0)
    | false => m) 0
def ancs : List Oper → List Nat → List Nat
  | [], acc => acc
  | o :: l, acc => ancs l (acc ++ [ancOf acc o])

inductive Anc (ops : Array Oper) (k : Nat) : Nat → Prop
  | edge {i : Nat} {o : Oper} {e : Edge} (ho : ops[i]? = some o) (he : e ∈ o.after.toList) (hb : Region.binds .any e = true) (hk : e.on = k) : Anc ops k i
  | step {i : Nat} {o : Oper} {e : Edge} (ho : ops[i]? = some o) (he : e ∈ o.after.toList) (hb : Region.binds .any e = true) (h : Anc ops k e.on) : Anc ops k i

theorem ancOf_ok {acc : List Nat} (hacc : ∀ (i k : Nat), (acc.getD i 0).testBit k = true → Anc ops k i) {i : Nat} {o : Oper} (ho : ops[i]? = some o) {k : Nat} (h : (ancOf acc o).testBit k = true) : Anc ops k i := by
  unfold ancOf at h
  have main : ∀ (l : List Edge) (m : Nat), (∀ e ∈ l, e ∈ o.after.toList) → (m.testBit k = true → Anc ops k i) →
      (l.foldl (fun m e => match Region.binds .any e with
        | true => Nat.lor (Nat.lor m (Nat.shiftLeft 1 e.on)) (acc.getD e.on 0)
        | false => m) m).testBit k = true → Anc ops k i := by
    intro l
    induction l with
    | nil => intro m _ hm h; exact hm h
    | cons e l ih =>
      intro m hl hm h
      simp only [List.foldl_cons] at h
      refine ih _ (fun e he => hl e (by simp [he])) (fun hb => ?_) h
      cases hbi : Region.binds .any e with
      | false => simp only [hbi] at hb; exact hm hb
      | true =>
        simp only [hbi] at hb
        have hb' : ((m ||| (1 <<< e.on)) ||| acc.getD e.on 0).testBit k = true := hb
        rw [Nat.testBit_or, Nat.testBit_or, Bool.or_eq_true, Bool.or_eq_true] at hb'
        rcases hb' with (hb' | hb') | hb'
        · exact hm hb'
        · rw [Nat.one_shiftLeft, Nat.testBit_two_pow] at hb'
          exact .edge ho (hl e (by simp)) hbi (by simpa using hb')
        · exact .step ho (hl e (by simp)) hbi (hacc _ _ hb')
  exact main _ 0 (fun _ h => h) (fun h => by simp at h) h

theorem ancs_ok : ∀ (l : List Oper) (acc : List Nat), ops.toList.drop acc.length = l → (∀ (i k : Nat), (acc.getD i 0).testBit k = true → Anc ops k i) → ∀ (i k : Nat), ((ancs l acc).getD i 0).testBit k = true → Anc ops k i
  | [], acc, _, hacc => hacc
  | o :: l, acc, hl, hacc => by
    have ho : ops[acc.length]? = some o := by
      have : (ops.toList.drop acc.length)[0]? = some o := by rw [hl]; rfl
      simpa using this
    refine ancs_ok l (acc ++ [ancOf acc o]) (by rw [List.length_append, ← List.drop_drop, hl]; rfl) fun i k h => ?_
    rw [List.getD_eq_getElem?_getD, List.getElem?_append] at h
    split at h
    · exact hacc i k (by rw [List.getD_eq_getElem?_getD]; exact h)
    · rename_i hge
      by_cases hi : i = acc.length
      · subst hi
        simp at h
        exact ancOf_ok hacc ho h
      · rw [List.getElem?_eq_none (by simp; omega)] at h
        simp at h

/-- THE CHECK: edges go back; two operations that nothing orders may change places. -/
def edgesBack : List Oper → Nat → Bool
  | [], _ => true
  | o :: l, i => (o.after.toList.all fun e => !Region.binds .any e || Nat.blt e.on i) && edgesBack l (i + 1)
def commAll (N : FuncId → Option Nat) (pts : List Nat) (ops : Array Oper) (b : Oper) (m : Nat) : List Oper → Nat → Bool
  | [], _ => true
  | a :: l, k => (Nat.testBit m k || comm2 N pts ops a b) && commAll N pts ops b m l (k + 1)
def pairsOk (N : FuncId → Option Nat) (pts : List Nat) (ops : Array Oper) (ms : List Nat) : List Oper → List Oper → Nat → Bool
  | _, [], _ => true
  | pre, b :: l, i => commAll N pts ops b (ms.getD i 0) pre 0 && pairsOk N pts ops ms (pre ++ [b]) l (i + 1)
def regOk (N : FuncId → Option Nat) (pts : List Nat) (ops : Array Oper) : Bool :=
  edgesBack ops.toList 0 && pairsOk N pts ops (ancs ops.toList []) [] ops.toList 0

theorem edgesBack_ok : ∀ {l : List Oper} {i : Nat}, edgesBack l i = true → ∀ (j : Nat) o, l[j]? = some o → ∀ e ∈ o.after.toList, Region.binds .any e = true → e.on < i + j
  | [], i, _, j, o, h, _, _, _ => by simp at h
  | o :: l, i, h, j, p, hj, e, he, hb => by
    simp only [edgesBack, Bool.and_eq_true, List.all_eq_true] at h
    cases j with
    | zero =>
      simp at hj
      subst hj
      have := h.1 e he
      rw [hb] at this
      simpa [Nat.blt_eq] using this
    | succ j =>
      have := edgesBack_ok h.2 j p (by simpa using hj) e he hb
      omega

theorem commAll_ok {b : Oper} {m : Nat} : ∀ {l : List Oper} {k : Nat}, commAll N pts ops b m l k = true → ∀ (j : Nat) a, l[j]? = some a → m.testBit (k + j) = true ∨ comm2 N pts ops a b = true
  | [], k, _, j, a, h => by simp at h
  | a :: l, k, h, j, c, hj => by
    simp only [commAll, Bool.and_eq_true, Bool.or_eq_true] at h
    cases j with
    | zero => simp at hj; subst hj; exact h.1
    | succ j =>
      have := commAll_ok h.2 j c (by simpa using hj)
      rwa [show k + 1 + j = k + (j + 1) by omega] at this

theorem pairsOk_ok {ms : List Nat} : ∀ {l pre : List Oper} {i : Nat}, pre.length = i → pairsOk N pts ops ms pre l i = true → ∀ (j : Nat) b, l[j]? = some b → ∀ (k : Nat) a, k < i + j → (pre ++ l)[k]? = some a → (ms.getD (i + j) 0).testBit k = true ∨ comm2 N pts ops a b = true
  | [], pre, i, _, _, j, b, h, _, _, _, _ => by simp at h
  | b :: l, pre, i, hp, h, j, c, hj, k, a, hk, ha => by
    simp only [pairsOk, Bool.and_eq_true] at h
    cases j with
    | zero =>
      simp at hj
      subst hj
      rw [List.getElem?_append_left (by omega)] at ha
      have := commAll_ok h.1 k a ha
      simpa using this
    | succ j =>
      have := pairsOk_ok (pre := pre ++ [b]) (i := i + 1) (by simp [hp]) h.2 j c (by simpa using hj) k a (by omega) (by simpa using ha)
      rwa [show i + 1 + j = i + (j + 1) by omega] at this

theorem regOk_pair (h : regOk N pts ops = true) {i k : Nat} {a b : Oper} (hb : ops[i]? = some b) (ha : ops[k]? = some a) (hk : k < i) : Anc ops k i ∨ comm2 N pts ops a b = true := by
  simp only [regOk, Bool.and_eq_true] at h
  have := pairsOk_ok (pre := []) (i := 0) rfl h.2 i b (by simpa using hb) k a (by omega) (by simpa using ha)
  rw [Nat.zero_add] at this
  exact this.imp (fun h => ancs_ok ops.toList [] rfl (fun i k h => by simp at h) i k h) id
theorem regOk_back (h : regOk N pts ops = true) {i : Nat} {o : Oper} (ho : ops[i]? = some o) {e : Edge} (he : e ∈ o.after.toList) (hb : Region.binds .any e = true) : e.on < i := by
  simp only [regOk, Bool.and_eq_true] at h
  have := edgesBack_ok h.1 i o (by simpa using ho) e he hb
  omega

/-- What is not listed yet. -/
def unl (n : Nat) (listed : Array Bool) : List Nat := (List.range n).filter fun i => !listed.getD i true

theorem anc_listed {listed : Array Bool} (hcl : ∀ (x : Nat) o, listed.getD x true = true → ops[x]? = some o → ∀ e ∈ o.after.toList, Region.binds .any e = true → listed.getD e.on false = true) {k i : Nat} (h : Anc ops k i)
    (hr : ∀ o, ops[i]? = some o → ∀ e ∈ o.after.toList, Region.binds .any e = true → listed.getD e.on false = true) : listed.getD k false = true := by
  induction h with
  | edge ho he hb hk => rw [← hk]; exact hr _ ho _ he hb
  | step ho he hb h ih =>
    have h1 := hr _ ho _ he hb
    refine ih fun o ho2 e he2 hb2 => hcl _ o ?_ ho2 e he2 hb2
    rename_i e0
    rw [Array.getD_eq_getD_getElem?] at h1 ⊢
    cases hx : listed[e0.on]? with
    | none => rfl
    | some b => rw [hx] at h1; exact h1

theorem filter_split {p : Nat → Bool} {i : Nat} : ∀ {l : List Nat}, l.Nodup → i ∈ l.filter p → ∃ pre post, l.filter p = pre ++ i :: post ∧ (l.filter fun j => p j && j != i) = pre ++ post ∧ (∀ k ∈ pre, k ∈ l.filter p ∧ k ≠ i)
  | [], _, h => by simp at h
  | x :: l, hn, h => by
    rw [List.nodup_cons] at hn
    by_cases hx : x = i
    · subst hx
      have hp : p x = true := (List.mem_filter.1 h).2
      refine ⟨[], l.filter p, by simp [hp], ?_, by simp⟩
      simp only [List.nil_append, List.filter_cons, hp, bne_self_eq_false, Bool.and_false, Bool.false_eq_true, if_false]
      refine List.filter_congr fun j hj => ?_
      have : j ≠ x := fun e => hn.1 (e ▸ hj)
      simp [this]
    · have h' : i ∈ l.filter p := by
        rw [List.mem_filter] at h ⊢
        exact ⟨(List.mem_cons.1 h.1).resolve_left fun e => hx e.symm, h.2⟩
      obtain ⟨pre, post, e1, e2, e3⟩ := filter_split hn.2 h'
      by_cases hp : p x = true
      · refine ⟨x :: pre, post, by simp [List.filter_cons, hp, e1], ?_, fun k hk => ?_⟩
        · simp only [List.filter_cons, hp, Bool.true_and, List.cons_append]
          rw [if_pos (by simpa using hx), e2]
        · rcases List.mem_cons.1 hk with rfl | hk
          · exact ⟨by simp [List.mem_filter, hp], hx⟩
          · obtain ⟨q1, q2⟩ := e3 k hk
            rw [List.mem_filter] at q1 ⊢
            exact ⟨⟨by simp [q1.1], q1.2⟩, q2⟩
      · refine ⟨pre, post, by simp [List.filter_cons, hp, e1], ?_, fun k hk => ?_⟩
        · simp only [List.filter_cons, hp, Bool.false_and, Bool.false_eq_true, if_false]
          exact e2
        · obtain ⟨q1, q2⟩ := e3 k hk
          rw [List.mem_filter] at q1 ⊢
          exact ⟨⟨by simp [q1.1], q1.2⟩, q2⟩

theorem filter_order {p : Nat → Bool} : ∀ {n : Nat} {pre post : List Nat} {i : Nat}, (List.range n).filter p = pre ++ i :: post → ∀ k ∈ pre, k < i := by
  intro n pre post i h k hk
  have hs : ((List.range n).filter p).Pairwise (· < ·) := List.Pairwise.filter _ List.pairwise_lt_range
  rw [h, List.pairwise_append] at hs
  exact hs.2.2 k hk i (by simp)

theorem go_ok (hN : NeuB N B) (hreg : regOk N pts ops = true) : ∀ (fuel t : Nat) (listed : Array Bool), listed.size = ops.size → (unl ops.size listed).length = fuel →
    (∀ (x : Nat) o, listed.getD x true = true → ops[x]? = some o → ∀ e ∈ o.after.toList, Region.binds .any e = true → listed.getD e.on false = true) →
    ∀ σ σ' : St, opsRel C B pts ops (unl ops.size listed) σ σ' → opsRel C B pts ops (Region.linearise.go .any ops fuel t listed []) σ σ'
  | 0, t, listed, _, hl, _, σ, σ', h => by
    have : unl ops.size listed = [] := List.length_eq_zero_iff.1 hl
    rw [this] at h
    simpa [Region.linearise.go] using h
  | fuel + 1, t, listed, hsz, hl, hcl, σ, σ', h => by
    simp only [Region.linearise.go]
    generalize hrs : ((List.range ops.size).filter fun i => !listed.getD i true && ((ops[i]?).map (·.after.all fun e => !Region.binds .any e || listed.getD e.on false)).getD false) = rs
    have hready : ∀ i ∈ rs, i < ops.size ∧ listed.getD i true = false ∧ ∀ o, ops[i]? = some o → ∀ e ∈ o.after.toList, Region.binds .any e = true → listed.getD e.on false = true := by
      intro i hi
      rw [← hrs, List.mem_filter, List.mem_range] at hi
      obtain ⟨h1, h2⟩ := hi
      simp only [Bool.and_eq_true, Bool.not_eq_true'] at h2
      refine ⟨h1, h2.1, fun o ho e he hb => ?_⟩
      have h3 := h2.2
      rw [ho] at h3
      simp only [Option.map_some, Option.getD_some] at h3
      rw [Array.all_eq_true'] at h3
      have := h3 e (by simpa using he)
      rw [hb] at this
      simpa using this
    have hne : rs ≠ [] := by
      -- the first one that is not listed is ready
      have hu : unl ops.size listed ≠ [] := by intro e; rw [e] at hl; cases hl
      obtain ⟨i0, tl, hu0⟩ := List.exists_cons_of_ne_nil hu
      have hi0 : i0 ∈ unl ops.size listed := by rw [hu0]; simp
      have hi1 := hi0
      rw [unl, List.mem_filter, List.mem_range] at hi1
      have hmem : i0 ∈ rs := by
        rw [← hrs, List.mem_filter, List.mem_range]
        refine ⟨hi1.1, ?_⟩
        simp only [Bool.and_eq_true]
        refine ⟨hi1.2, ?_⟩
        have ho : ops[i0]? = some ops[i0] := by simp [hi1.1]
        rw [ho]
        simp only [Option.map_some, Option.getD_some]
        rw [Array.all_eq_true']
        intro e he
        cases hb : Region.binds .any e with
        | false => simp
        | true =>
          have hlt := regOk_back hreg ho (by simpa using he) hb
          simp only [Bool.not_true, Bool.false_or]
          -- it is less than the first one that is not listed
          by_cases hlis : listed.getD e.on true = true
          · have hs : e.on < listed.size := by omega
            rw [Array.getD_eq_getD_getElem?] at hlis ⊢
            rw [Array.getElem?_eq_getElem hs] at hlis ⊢
            exact hlis
          · exfalso
            have hm : e.on ∈ unl ops.size listed := by
              rw [unl, List.mem_filter, List.mem_range]
              exact ⟨by omega, by simpa using hlis⟩
            rw [hu0] at hm
            rcases List.mem_cons.1 hm with hm | hm
            · omega
            · have hs : (unl ops.size listed).Pairwise (· < ·) := List.Pairwise.filter _ List.pairwise_lt_range
              rw [hu0, List.pairwise_cons] at hs
              have := hs.1 _ hm
              omega
      intro e; rw [e] at hmem; cases hmem
    have hlen : 0 < rs.length := List.length_pos_iff.2 hne
    have hget : rs[t % rs.length]? = some (rs[t % rs.length]'(Nat.mod_lt _ hlen)) := List.getElem?_eq_getElem (Nat.mod_lt _ hlen)
    rw [hget]
    simp only
    generalize hi : rs[t % rs.length]'(Nat.mod_lt _ hlen) = i
    have hmem : i ∈ rs := by rw [← hi]; exact List.getElem_mem _
    obtain ⟨i1, i2, i3⟩ := hready i hmem
    rw [linearise_go_acc, List.reverse_singleton, List.singleton_append]
    have hiu : i ∈ (List.range ops.size).filter fun j => !listed.getD j true := by
      rw [List.mem_filter, List.mem_range]; exact ⟨i1, by simp [i2]⟩
    obtain ⟨pre, post, e1, e2, e3⟩ := filter_split List.nodup_range hiu
    have hord := filter_order e1
    have hnew : unl ops.size (listed.setIfInBounds i true) = pre ++ post := by
      rw [← e2]
      unfold unl
      refine List.filter_congr fun j hj => ?_
      rw [Array.getD_eq_getD_getElem?, Array.getD_eq_getD_getElem?, Array.getElem?_setIfInBounds]
      by_cases hji : i = j
      · subst hji
        rw [if_pos rfl, if_pos (by omega)]
        simp
      · rw [if_neg hji]
        have : (j != i) = true := by simpa using fun e => hji e.symm
        simp [this]
    have hmf := move_front (C := C) (B := B) (pts := pts) (ops := ops) (i := i) (post := post) pre (fun k hk σ σ₁ σ' s1 s2 => by
      obtain ⟨m1, m2⟩ := e3 k hk
      rw [List.mem_filter, List.mem_range] at m1
      have ha : ops[k]? = some ops[k] := by simp [m1.1]
      have hb : ops[i]? = some ops[i] := by simp [i1]
      rcases regOk_pair hreg hb ha (hord k hk) with hanc | hcm
      · exfalso
        have := anc_listed hcl hanc i3
        have m3 := m1.2
        rw [Array.getD_eq_getD_getElem?] at this m3
        rw [Array.getElem?_eq_getElem (by omega)] at this m3
        simp only [Option.getD_some] at this m3
        rw [this] at m3
        cases m3
      · exact swap_ok hN ha hb hcm s1 s2) σ σ'
    obtain ⟨σ₁, s1, s2⟩ := hmf (by rw [← e1]; exact h)
    refine ⟨σ₁, s1, go_ok hN hreg fuel _ _ (by simp [hsz]) ?_ ?_ σ₁ σ' (by rw [hnew]; exact s2)⟩
    · rw [hnew]
      have : (unl ops.size listed).length = (pre ++ post).length + 1 := by
        show (List.filter _ _).length = _
        rw [e1]; simp; omega
      omega
    · intro x o hx ho e he hb
      have keep : ∀ y, listed.getD y false = true → (listed.setIfInBounds i true).getD y false = true := by
        intro y hy
        rw [Array.getD_eq_getD_getElem?] at hy ⊢
        rw [Array.getElem?_setIfInBounds]
        split
        · rename_i h1
          subst h1
          rw [if_pos (by omega)]; rfl
        · exact hy
      by_cases hxi : x = i
      · subst hxi; exact keep _ (i3 o ho e he hb)
      · refine keep _ (hcl x o ?_ ho e he hb)
        rw [Array.getD_eq_getD_getElem?, Array.getElem?_setIfInBounds, if_neg (fun e => hxi e.symm)] at hx
        rw [Array.getD_eq_getD_getElem?]; exact hx

/-- WHATEVER THE ORDER. -/
theorem any_ok (hN : NeuB N B) (hreg : regOk N pts ops = true) {σ σ' : St} (h : opsRel C B pts ops (List.range ops.size) σ σ') : anyRel C B pts ops σ σ' := by
  intro t
  have hz : unl ops.size (Array.replicate ops.size false) = List.range ops.size := by
    unfold unl
    rw [List.filter_eq_self]
    intro i hi
    rw [List.mem_range] at hi
    rw [Array.getD_eq_getD_getElem?, Array.getElem?_replicate, if_pos hi]
    rfl
  refine go_ok hN hreg ops.size t (Array.replicate ops.size false) (by simp) (by rw [hz]; simp) (fun x o hx ho => ?_) σ σ' (by rw [hz]; exact h)
  have hlt : x < ops.size := (Array.getElem?_eq_some_iff.1 ho).1
  rw [Array.getD_eq_getD_getElem?, Array.getElem?_replicate, if_pos hlt] at hx
  cases hx

end
end Sx
end Go.Am

/-
  REGIONS THAT DRAW THEIR ORDER, third part: functions that have nothing to do with the heap.
-/
namespace Go.Am
namespace Sx

section
variable [Val] [Kno] {C : Cfg}

/-- Not the address of something in the heap. -/
def Lo (v : Value) : Prop := match v with
  | .pointer (some p) => p.spot = some 0
  | _ => True

theorem plain_lo {v : Value} (h : plain v = true) : Lo v := by
  cases v <;> try trivial
  rename_i a
  cases a <;> first | trivial | (simp [plain, plain1, scalar, isSym] at h)

theorem clearV_lo {keys : List Nat} {v : Value} (h : Lo v) : Lo (clearV keys v) := by
  unfold clearV
  repeat' split
  all_goals first | exact h | trivial

/-- The slots that hold local rows. -/
def LoS (as0 : List Nat) (σ : St) : Prop := ∀ a ∈ as0, ∀ v, σ.tmps[a]? = some v → Lo v

def neuOp (N : FuncId → Option Nat) (pts as0 : List Nat) (o : Oper) : Bool :=
  (match memOf N pts o with
  | some .no => true
  | some (.row _ _) => true
  | some (.neu _) => true
  | _ => false) &&
  match o.dst with
  | some d => !as0.contains d || (Nat.beq (pts.getD d 0) (d + 2) && match o.op with
    | .alloc _ => true
    | .box _ _ => true
    | _ => false)
  | none => true
def neuC (N : FuncId → Option Nat) (pts as0 : List Nat) : Code → Bool
  | .skip | .label _ | .ret | .exit _ => true
  | .seq a b => neuC N pts as0 a && neuC N pts as0 b
  | .cond _ a b => neuC N pts as0 a && neuC N pts as0 b
  | .block _ b => neuC N pts as0 b
  | .loop b => neuC N pts as0 b
  | .scope b => neuC N pts as0 b
  | .region _ ops _ => ops.toList.all (neuOp N pts as0)
  | _ => false
def cellRes (l : List ResultVar) : List Nat := l.filterMap fun r => match r with
  | .cell a _ => some a
  | .tmp _ => none
/-- A function that has nothing to do with the heap. -/
def neuF (N : FuncId → Option Nat) (C : Cfg) (f : FuncId) (n : Nat) : Bool :=
  match C.P.funcs[f]? with
  | some fn => match fn.body with
    | some b => neuC N (C.pts f) (cellRes fn.results.toList) b && (cellRes fn.results.toList).all fun a => Nat.ble n a
    | none => false
  | none => false

theorem newVar_lo {pts : List Nat} {d : Nat} {t : TypeId} {v : Value} {e : Eff} (hp : pts.getD d 0 = d + 2) (he : newVarEff C pts (some d) t v = some e) : ∃ s vs, e = .lnew s vs := by
  unfold newVarEff at he
  split at he
  · cases he
  · simp only at he
    split at he
    · cases he
    · exact ⟨_, _, (Option.some.inj he).symm⟩

theorem put_lo {as0 : List Nat} {σ τ : St} {dst : Option Tmp} {v : Value} (h : LoS as0 σ) (ht : τ.tmps = σ.tmps) (hv : (∀ d, dst = some d → d ∉ as0) ∨ Lo v) : LoS as0 (τ.put dst v) := by
  intro a ha x hx
  cases dst with
  | none => exact h a ha x (by rw [← ht]; exact hx)
  | some d =>
    simp only [St.put, List.getElem?_set, ht] at hx
    split at hx
    · rename_i hd
      subst hd
      split at hx
      · cases hx
        rcases hv with hv | hv
        · exact absurd ha (hv _ rfl)
        · exact hv
      · cases hx
    · exact h a ha x hx

theorem step_neu {N : FuncId → Option Nat} {B : Below} (hN : NeuB N B) {pts as0 : List Nat} {ops : Array Oper} (hops : ops.toList.all (neuOp N pts as0) = true) {i : Nat} {σ σ' : St} (hl : LoS as0 σ) (h : stepRel C B pts ops i σ σ') :
    σ'.heap = σ.heap ∧ LoS as0 σ' ∧ ∀ H, stepRel C B pts ops i { σ with heap := H } { σ' with heap := H } := by
  cases hi : ops[i]? with
  | none =>
    have : σ' = σ := by simpa [stepRel, hi] using h
    subst this
    exact ⟨rfl, hl, fun H => by simp [stepRel, hi]⟩
  | some o =>
    have ho : neuOp N pts as0 o = true := List.all_eq_true.1 hops o (by
      have := Array.mem_of_getElem? hi
      simpa using this)
    unfold neuOp at ho
    rw [Bool.and_eq_true] at ho
    obtain ⟨o1, o2⟩ := ho
    have hm : memOf N pts o ≠ none := by intro e; rw [e] at o1; cases o1
    obtain ⟨e, rfl, te, le⟩ := local_ok hN hi hm h
    have hh : e.hp = none := by
      cases he : e.hp with
      | none => rfl
      | some x =>
        have := te.2 (by rw [he]; simp)
        rw [this] at o1; cases o1
    refine ⟨by rw [on_heap, hh]; rfl, ?_, fun H => ?_⟩
    · by_cases hd : ∀ d, o.dst = some d → d ∉ as0
      · unfold Ef.on
        exact put_lo hl rfl (.inl hd)
      · -- a local row is laid
        obtain ⟨d, hd⟩ := Classical.not_forall.1 hd
        obtain ⟨hdst, hd⟩ := Classical.not_imp.1 hd
        have hd := Classical.not_not.1 hd
        rw [hdst] at o2
        simp only [List.contains_eq_mem, hd, decide_true, Bool.not_true, Bool.false_or, Bool.and_eq_true] at o2
        have hp : pts.getD d 0 = d + 2 := by simpa using o2.1
        unfold stepRel at h
        simp only [hi] at h
        split at h
        · exact h.elim
        · rw [h]; exact put_lo hl rfl (.inr trivial)
        · rcases h with ⟨ef, h1, h2⟩ | ⟨v, h1, h2⟩
          · have hef : ∃ s vs, ef = .lnew s vs := by
              have o3 := o2.2
              obtain ⟨dst, op, ty, pos, after, guard⟩ := o
              simp only at hdst o3
              subst hdst
              cases op <;> first | cases o3 | skip
              · simp only [effOf] at h1
                obtain ⟨z, _, hz⟩ := Option.bind_eq_some_iff.1 h1
                exact newVar_lo hp hz
              · exact newVar_lo hp h1
            obtain ⟨s, vs, rfl⟩ := hef
            obtain ⟨p, hp1, hp2⟩ := h2
            rw [hp2]
            simp only [applyEff] at hp1
            split at hp1
            · cases hp1
              exact put_lo hl rfl (.inr rfl)
            · cases hp1
          · rw [h2]
            exact put_lo hl rfl (.inr (plain_lo h1.2.2.1))
    · have hs : Sees N pts ops o σ { σ with heap := H } := by
        refine ⟨fun t _ => rfl, ?_⟩
        cases hmm : memOf N pts o with
        | none => trivial
        | some m => rw [hmm] at o1; cases m <;> first | trivial | cases o1 | rfl
      have := le _ hs
      have e2 : e.on o.dst { σ with heap := H } = { e.on o.dst σ with heap := H } := by
        unfold Ef.on
        rw [hh]
        cases o.dst <;> rfl
      rw [e2] at this
      exact this

theorem ops_neu {N : FuncId → Option Nat} {B : Below} (hN : NeuB N B) {pts as0 : List Nat} {ops : Array Oper} (hops : ops.toList.all (neuOp N pts as0) = true) : ∀ (l : List Nat) {σ σ' : St}, LoS as0 σ → opsRel C B pts ops l σ σ' →
    σ'.heap = σ.heap ∧ LoS as0 σ' ∧ ∀ H, opsRel C B pts ops l { σ with heap := H } { σ' with heap := H }
  | [], σ, σ', hl, h => by
    have : σ' = σ := h
    subst this
    exact ⟨rfl, hl, fun H => rfl⟩
  | i :: l, σ, σ', hl, ⟨σ₁, h1, h2⟩ => by
    obtain ⟨a1, a2, a3⟩ := step_neu hN hops hl h1
    obtain ⟨b1, b2, b3⟩ := ops_neu hN hops l a2 h2
    exact ⟨b1.trans a1, b2, fun H => ⟨_, a3 H, b3 H⟩⟩

theorem restate_lo {as0 : List Nat} {σ σ' : St} (hl : LoS as0 σ) (h : Restate σ σ') : LoS as0 σ' := by
  intro a ha v hv
  obtain ⟨_, _, h3, h4⟩ := h
  have hlt : a < σ'.tmps.length := (List.getElem?_eq_some_iff.1 hv).1
  have hx : σ.tmps[a]? = some (σ.tmps[a]'(by omega)) := List.getElem?_eq_getElem _
  rcases h4 a _ _ hx hv with e | ⟨_, h5, _⟩
  · rw [e]; exact hl a ha _ hx
  · exact plain_lo h5
theorem restate_heap {σ σ' : St} (h : Restate σ σ') (H : List HObj) : Restate { σ with heap := H } { σ' with heap := H } := ⟨h.1, rfl, h.2.2.1, h.2.2.2⟩

theorem opsR_neu {N : FuncId → Option Nat} {B : Below} (hN : NeuB N B) {pts as0 : List Nat} {ops : Array Oper} (hops : ops.toList.all (neuOp N pts as0) = true) : ∀ (l : List Nat) {σ σ' : St}, LoS as0 σ → opsRelR C B pts ops l σ σ' →
    σ'.heap = σ.heap ∧ LoS as0 σ' ∧ ∀ H, opsRelR C B pts ops l { σ with heap := H } { σ' with heap := H }
  | [], σ, σ', hl, h => by
    have : σ' = σ := h
    subst this
    exact ⟨rfl, hl, fun H => rfl⟩
  | i :: l, σ, σ', hl, ⟨σ₀, σ₁, h0, h1, h2⟩ => by
    obtain ⟨a1, a2, a3⟩ := step_neu hN hops (restate_lo hl h0) h1
    obtain ⟨b1, b2, b3⟩ := opsR_neu hN hops l a2 h2
    exact ⟨b1.trans (a1.trans h0.2.1), b2, fun H => ⟨_, _, restate_heap h0 H, a3 H, b3 H⟩⟩

theorem clear_lo {as0 : List Nat} {σ : St} {keys : List Nat} (hl : LoS as0 σ) : LoS as0 (σ.clear keys) := by
  unfold St.clear
  split
  · exact hl
  · intro a ha v hv
    simp only [List.getElem?_map, Option.map_eq_some_iff] at hv
    obtain ⟨x, hx, rfl⟩ := hv
    exact clearV_lo (hl a ha x hx)
theorem clearHp (σ : St) (keys : List Nat) (H : List HObj) : St.clear { σ with heap := H } keys = { σ.clear keys with heap := H } := by
  unfold St.clear
  split <;> rfl
theorem clearHp' (σ : St) (keys : List Nat) : (σ.clear keys).heap = σ.heap := by
  unfold St.clear
  split <;> rfl

theorem result_neu {σ : St} {r : ResultVar} {as0 : List Nat} (hl : LoS as0 σ) (ha : ∀ a ∈ cellRes [r], a ∈ as0) (H : List HObj) : resultA C { σ with heap := H } r = resultA C σ r := by
  cases r with
  | tmp t => rfl
  | cell a t =>
    have hm : a ∈ as0 := ha a (by simp [cellRes])
    unfold resultA
    simp only
    cases hv : σ.tmps[a]? with
    | none => simp [List.getD_eq_getElem?_getD, hv, undef]
    | some v =>
      have := hl a hm v hv
      simp only [List.getD_eq_getElem?_getD, hv, Option.getD_some]
      cases v <;> try rfl
      rename_i p
      cases p with
      | none => rfl
      | some p =>
        have hs : p.spot = some 0 := this
        simp only [hs]
theorem results_neu {σ : St} {as0 : List Nat} (hl : LoS as0 σ) (H : List HObj) : ∀ (l : List ResultVar), (∀ a ∈ cellRes l, a ∈ as0) → resultsA C { σ with heap := H } l = resultsA C σ l
  | [], _ => rfl
  | r :: l, ha => by
    have h1 := result_neu (C := C) (r := r) hl (fun a h => ha a (by cases r <;> simp [cellRes] at h ⊢; exact .inl h)) H
    have h2 := results_neu hl H l (fun a h => ha a (by cases r <;> simp [cellRes] at h ⊢ <;> first | exact h | exact .inr h))
    simp only [resultsA, h1, h2]

/-- NEUTRAL FUNCTIONS. -/
theorem neu_ok {N : FuncId → Option Nat} (hN : ∀ f n, N f = some n → neuF N C f n = true) : ∀ n, NeuB N (sm C n).toBelow ∧
    ∀ pts as0 c, neuC N pts as0 c = true → ∀ σ e σ', LoS as0 σ → (sm C n).ex pts c σ e σ' → σ'.heap = σ.heap ∧ LoS as0 σ' ∧ ∀ H, (sm C n).ex pts c { σ with heap := H } e { σ' with heap := H }
  | 0 => ⟨fun f args H r H' _ h => ⟨h.2, fun H2 => ⟨h.1, rfl⟩⟩, fun _ _ _ _ _ _ _ _ h => absurd h id⟩
  | n + 1 => by
    obtain ⟨ihc, ihe⟩ := neu_ok hN n
    refine ⟨fun f args H r H' hf h => ?_, fun pts as0 c hc σ e σ' hl h => ?_⟩
    · rcases h with h | ⟨fn, b, e, σ, vs, c1, c2, c3, c4, c5, c6, c7, c8, c9⟩
      · exact ⟨h.2, fun H2 => .inl ⟨h.1, rfl⟩⟩
      · have hn := hN f _ hf
        unfold neuF at hn
        simp only [c1, c2, Bool.and_eq_true, List.all_eq_true] at hn
        have hl : LoS (cellRes fn.results.toList) (enterA fn args H) := by
          intro a ha v hv
          have hge : args.length ≤ a := by simpa using hn.2 a ha
          simp only [enterA] at hv
          rw [List.getElem?_append_right hge, List.getElem?_replicate] at hv
          split at hv
          · cases hv; trivial
          · cases hv
        obtain ⟨d1, d2, d3⟩ := ihe _ _ _ hn.1 _ _ _ hl c4
        refine ⟨c9.trans d1, fun H2 => .inr ⟨fn, b, e, _, vs, c1, c2, c3, d3 H2, c5, ?_, c7, c8, rfl⟩⟩
        rw [results_neu d2 H2 _ (fun a h => h)]
        exact c6
    · have h : exNext C (sm C n) pts c σ e σ' := h
      show _ ∧ _ ∧ ∀ H, exNext C (sm C n) pts c { σ with heap := H } e { σ' with heap := H }
      cases c with
      | skip => obtain ⟨rfl, rfl⟩ := h; exact ⟨rfl, hl, fun H => ⟨rfl, rfl⟩⟩
      | label l => obtain ⟨rfl, rfl⟩ := h; exact ⟨rfl, hl, fun H => ⟨rfl, rfl⟩⟩
      | ret => obtain ⟨rfl, rfl⟩ := h; exact ⟨rfl, hl, fun H => ⟨rfl, rfl⟩⟩
      | exit id => obtain ⟨rfl, rfl⟩ := h; exact ⟨rfl, hl, fun H => ⟨rfl, rfl⟩⟩
      | seq a b =>
        simp only [neuC, Bool.and_eq_true] at hc
        obtain ⟨e₁, σ₁, h1, h2⟩ := h
        obtain ⟨a1, a2, a3⟩ := ihe _ _ _ hc.1 _ _ _ hl h1
        rcases h2 with ⟨rfl, h2⟩ | ⟨h2, rfl, rfl⟩
        · obtain ⟨b1, b2, b3⟩ := ihe _ _ _ hc.2 _ _ _ a2 h2
          exact ⟨b1.trans a1, b2, fun H => ⟨_, _, a3 H, .inl ⟨rfl, b3 H⟩⟩⟩
        · exact ⟨a1, a2, fun H => ⟨_, _, a3 H, .inr ⟨h2, rfl, rfl⟩⟩⟩
      | cond x a b =>
        simp only [neuC, Bool.and_eq_true] at hc
        obtain ⟨t, h1, h2⟩ := h
        cases t with
        | true =>
          obtain ⟨b1, b2, b3⟩ := ihe _ _ _ hc.1 _ _ _ hl h2
          exact ⟨b1, b2, fun H => ⟨true, h1, b3 H⟩⟩
        | false =>
          obtain ⟨b1, b2, b3⟩ := ihe _ _ _ hc.2 _ _ _ hl h2
          exact ⟨b1, b2, fun H => ⟨false, h1, b3 H⟩⟩
      | block id b =>
        obtain ⟨e₁, h1, rfl⟩ := h
        obtain ⟨b1, b2, b3⟩ := ihe pts as0 b hc _ _ _ hl h1
        exact ⟨b1, b2, fun H => ⟨_, b3 H, rfl⟩⟩
      | scope b => exact ihe pts as0 b hc _ _ _ hl h
      | loop b =>
        obtain ⟨e₁, σ₁, h1, h2⟩ := h
        obtain ⟨a1, a2, a3⟩ := ihe pts as0 b hc _ _ _ (clear_lo hl) h1
        rw [clearHp'] at a1
        rcases h2 with ⟨rfl, h2⟩ | ⟨h2, rfl, rfl⟩
        · obtain ⟨b1, b2, b3⟩ := ihe pts as0 (.loop b) hc _ _ _ a2 h2
          exact ⟨b1.trans a1, b2, fun H => ⟨_, _, by rw [clearHp]; exact a3 H, .inl ⟨rfl, b3 H⟩⟩⟩
        · exact ⟨a1, a2, fun H => ⟨_, _, by rw [clearHp]; exact a3 H, .inr ⟨h2, rfl, rfl⟩⟩⟩
      | region id ops draw =>
        obtain ⟨rfl, hq⟩ := h
        cases draw with
        | true =>
          obtain ⟨σ₀, h0, h1⟩ : ∃ σ₀, Restate σ σ₀ ∧ anyRel C (sm C n).toBelow pts ops σ₀ σ' := hq
          have hl0 := restate_lo hl h0
          obtain ⟨a1, a2, _⟩ := ops_neu ihc hc _ hl0 (h1 0)
          refine ⟨a1.trans h0.2.1, a2, fun H => ⟨rfl, ⟨_, restate_heap h0 H, fun t => ?_⟩⟩⟩
          exact (ops_neu ihc hc _ hl0 (h1 t)).2.2 H
        | false =>
          have hq : opsRelR C (sm C n).toBelow pts ops (List.range ops.size) σ σ' := hq
          obtain ⟨a1, a2, a3⟩ := opsR_neu ihc hc _ hl hq
          exact ⟨a1, a2, fun H => ⟨rfl, a3 H⟩⟩
      | _ => cases hc

/-- REGIONS WITH CALLS OF NEUTRAL FUNCTIONS. -/
theorem dr_ok {N : FuncId → Option Nat} (hN : ∀ f n, N f = some n → neuF N C f n = true) (pts : List Nat) (ops : Array Oper) (h : regOk N pts ops = true) (n : Nat) (σ σ' : St) (hx : opsRel C (sm C n).toBelow pts ops (List.range ops.size) σ σ') :
    anyRel C (sm C n).toBelow pts ops σ σ' := any_ok (neu_ok hN n).1 h hx

end
end Sx
end Go.Am

/-
  THE ALGEBRA OF RUNS TELLS THE TRUTH; whole runs.
-/
namespace Go.Am
namespace Sx

section
variable [Val] [Kno]

theorem forceN_eq' (n : Nat) (k : Nat → Bool) : forceN n k = k n := by cases n <;> rfl

theorem fitsK {k : IntKind} {c : Int} {K : Int → Bool} (h : (match fits k c with | true => K c | false => forceI (k.wrap c) K) = true) : K (k.wrap c) = true := by
  split at h
  · rename_i hf; rw [fits_wrap hf]; exact h
  · rw [forceI_eq] at h; exact h

theorem ariB_ok {op : BinOp} {k : IntKind} {a b : Int} {K : Int → Bool} (h : ariB op k a b K = true) : ∃ n, ArRun op k a b n ∧ K n = true := by
  cases op <;> simp only [ariB, Bool.false_eq_true] at h
  · rw [forceI_eq] at h
    have h : K (k.wrap (a + b)) = true := fitsK h
    exact ⟨_, fun P t w => by simp [binOp, Op.intArith], h⟩
  · rw [forceI_eq] at h
    have h : K (k.wrap (a - b)) = true := fitsK h
    exact ⟨_, fun P t w => by simp [binOp, Op.intArith], h⟩
  · rw [forceI_eq] at h
    have h : K (k.wrap (a * b)) = true := fitsK h
    exact ⟨_, fun P t w => by simp [binOp, Op.intArith], h⟩
  · split at h
    · cases h
    · rename_i hb
      have hb := eqI_false.1 hb
      rw [forceI_eq] at h
      exact ⟨_, fun P t w => by simp [binOp, Op.intDiv, hb], fitsK h⟩
  · split at h
    · cases h
    · rename_i hb
      have hb := eqI_false.1 hb
      rw [forceI_eq] at h
      exact ⟨_, fun P t w => by simp [binOp, Op.intDiv, hb], h⟩
  · split at h
    · rename_i hb
      have hb := eqI_iff.1 hb
      subst hb
      rw [forceI_eq] at h
      exact ⟨_, run_and_one rfl, h⟩
    · split at h
      · rw [forceI_eq] at h
        exact ⟨_, run_and_nat _ _, fitsK h⟩
      · cases h

theorem leI_eq (x y : Int) : leI x y = decide (x ≤ y) := by rw [Bool.eq_iff_iff, leI_iff, decide_eq_true_iff]
theorem eqI_eq (x y : Int) : eqI x y = (x == y) := by rw [Bool.eq_iff_iff, eqI_iff, beq_iff_eq]

theorem cmpB_ok {op : BinOp} {a b : Int} {K : Bool → Bool} (h : cmpB op a b K = true) : ∃ t, cmpRes op a b = some t ∧ K t = true := by
  cases op <;> simp only [cmpB, Bool.false_eq_true, eqI_eq, leI_eq] at h
  · exact ⟨_, rfl, by split at h <;> rename_i he <;> rw [he] <;> exact h⟩
  · refine ⟨_, rfl, ?_⟩
    split at h <;> rename_i he
    · have : (a != b) = false := by simp [bne, he]
      rw [this]; exact h
    · have : (a != b) = true := by simp [bne, he]
      rw [this]; exact h
  · refine ⟨_, rfl, ?_⟩
    split at h <;> rename_i he
    · have : decide (a < b) = false := by simp at he ⊢; omega
      rw [this]; exact h
    · have : decide (a < b) = true := by simp at he ⊢; omega
      rw [this]; exact h
  · exact ⟨_, rfl, by split at h <;> rename_i he <;> rw [he] <;> exact h⟩
  · refine ⟨_, rfl, ?_⟩
    split at h <;> rename_i he
    · have : decide (a > b) = false := by simp at he ⊢; omega
      rw [this]; exact h
    · have : decide (a > b) = true := by simp at he ⊢; omega
      rw [this]; exact h
  · refine ⟨_, rfl, ?_⟩
    split at h <;> rename_i he
    · have : decide (a ≥ b) = true := by simp at he ⊢; omega
      rw [this]; exact h
    · have : decide (a ≥ b) = false := by simp at he ⊢; omega
      rw [this]; exact h

theorem eqLf_eq (a b : Lf) : eqLf a b = eqLfD a b := by
  cases a <;> cases b <;> try rfl
  · exact eqI_eq _ _
  · rename_i x y; cases x <;> cases y <;> rfl
theorem eqsB_ok {l : List (Lf × Lf)} {K : Bool → Bool} (h : eqsB l K = true) : K (eqAll l) = true := by
  unfold eqAll
  induction l with
  | nil => exact h
  | cons p l ih =>
    have h : (match eqLf p.1 p.2 with | true => eqsB l K | false => K false) = true := h
    rw [eqLf_eq] at h
    rw [List.all_cons]
    cases hp : eqLfD p.1 p.2 with
    | true => rw [hp] at h; rw [Bool.true_and]; exact ih h
    | false => rw [hp] at h; rw [Bool.false_and]; exact h

/-- Calls that are told truly. -/
structure CallBOk (C : Cfg) (Sg : FuncId → Option Sig) (T : Nat → Site) (call : CallB) : Prop where
  f : ∀ g ls h K, GoodLs ls → call (.f g) ls h K = true → ∃ rs h', CallL C Sg g ls (absH T h) rs (absH T h') ∧ K rs h' = true
  y : ∀ κ vs l ls h K st pd xs, h[l]? = some (.lp κ st pd vs) → Told ((T κ).params.map (·.2)) ls xs → call (.y κ vs l) ls h K = true →
    ∃ b h', uYield C l (valsOf xs) (absH T h) (.bool b) (absH T h') ∧ K [.b b] h' = true

theorem getH_eq (T : Nat → Site) (h : HL) : getH T h = fun i => (absH T h)[i]? := by
  funext i
  simp only [getH, absH, List.getElem?_map]
  cases h[i]? <;> rfl
theorem absH_len (T : Nat → Site) (h : HL) : (absH T h).length = h.length := by simp [absH]
theorem absH_set (T : Nat → Site) (h : HL) (i : Nat) (o : HO) : absH T (h.set i o) = (absH T h).set i (absO T o) := by simp [absH, List.map_set]
theorem absH_push (T : Nat → Site) (h : HL) (o : HO) : absH T (h ++ [o]) = absH T h ++ [absO T o] := by simp [absH]
theorem actsOnH_ok (T : Nat → Site) : ∀ (l : List Act1) (h : HL), absH T (actsOnH h l) = actsOn (absH T h) l
  | [], h => rfl
  | a :: l, h => by
    have ih := actsOnH_ok T l (a.onH h)
    show absH T (actsOnH (a.onH h) l) = actsOn (a.on (absH T h)) l
    rw [ih]
    congr 1
    cases a with
    | set i o => exact absH_set T h i _
    | push o => exact absH_push T h _

theorem toSL_ok {k : LK} {v : Value} {l : SL} (h : toSL k v = some l) : l.is k = true ∧ l.val = v ∧ l.good := by
  cases k with
  | i k =>
    cases v <;> simp only [toSL] at h <;> first | cases h | skip
    split at h
    · rename_i e; cases h; exact ⟨e, rfl, trivial⟩
    · cases h
  | b =>
    cases v <;> simp only [toSL] at h <;> cases h
    exact ⟨rfl, rfl, trivial⟩
  | v =>
    simp only [toSL] at h
    split at h
    · rename_i e; cases h; exact ⟨rfl, rfl, e⟩
    · cases h
theorem toSLs_ok : ∀ {ks : List LK} {vs : List Value} {xs : List SL}, toSLs ks vs = some xs → allIs xs ks = true ∧ xs.map SL.val = vs ∧ ∀ x ∈ xs, x.good
  | [], [], xs, h => by cases h; exact ⟨rfl, rfl, fun _ h => by cases h⟩
  | k :: ks, v :: vs, xs, h => by
    simp only [toSLs] at h
    split at h
    · rename_i x e
      split at h
      · rename_i ys e2
        cases h
        obtain ⟨a1, a2, a3⟩ := toSL_ok e
        obtain ⟨b1, b2, b3⟩ := toSLs_ok e2
        refine ⟨by simp [allIs, a1, b1], by simp [a2, b2], fun y hy => ?_⟩
        rcases List.mem_cons.1 hy with rfl | hy
        · exact a3
        · exact b3 y hy
      · cases h
    · cases h
  | [], _ :: _, _, h => by cases h
  | _ :: _, [], _, h => by cases h
theorem toS0_ok {sk : SK} {v : Value} {x : S0} (h : toS0 sk v = some x) : x.is sk = true ∧ x.val = v ∧ x.good := by
  cases sk with
  | leaf k =>
    obtain ⟨l, e, rfl⟩ := Option.map_eq_some_iff.1 h
    obtain ⟨a1, a2, a3⟩ := toSL_ok e
    refine ⟨a1, a2, fun y hy => ?_⟩
    simp only [S0.cells, List.mem_singleton] at hy
    subst hy; exact a3
  | agg ks =>
    cases v <;> simp only [toS0] at h <;> first | cases h | skip
    obtain ⟨l, e, rfl⟩ := Option.map_eq_some_iff.1 h
    obtain ⟨a1, a2, a3⟩ := toSLs_ok e
    exact ⟨a1, by simp [S0.val, a2], a3⟩
theorem toS0s_ok : ∀ {sks : List SK} {vs : List Value} {xs : List S0}, toS0s sks vs = some xs → areIs xs sks = true ∧ valsOf xs = vs ∧ ∀ x ∈ xs, x.good
  | [], [], xs, h => by cases h; exact ⟨rfl, rfl, fun _ h => by cases h⟩
  | k :: ks, v :: vs, xs, h => by
    simp only [toS0s] at h
    split at h
    · rename_i x e
      split at h
      · rename_i ys e2
        cases h
        obtain ⟨a1, a2, a3⟩ := toS0_ok e
        obtain ⟨b1, b2, b3⟩ := toS0s_ok e2
        refine ⟨by simp [areIs, a1, b1], by simp only [valsOf, List.map_cons, a2] at b2 ⊢; rw [b2], fun y hy => ?_⟩
        rcases List.mem_cons.1 hy with rfl | hy
        · exact a3
        · exact b3 y hy
      · cases h
    · cases h
  | [], _ :: _, _, h => by cases h
  | _ :: _, [], _, h => by cases h

theorem eqLK_ok {a b : LK} (h : eqLK a b = true) : a = b := by
  cases a <;> cases b <;> simp only [eqLK] at h <;> first | rfl | cases h | skip
  rw [kNo_inj h]
theorem eqLKs_ok : ∀ {a b : List LK}, eqLKs a b = true → a = b
  | [], [], _ => rfl
  | a :: l, b :: m, h => by
    simp only [eqLKs, Bool.and_eq_true] at h
    rw [eqLK_ok h.1, eqLKs_ok h.2]
  | [], _ :: _, h => by cases h
  | _ :: _, [], h => by cases h
theorem eqSK_ok {a b : SK} (h : eqSK a b = true) : a = b := by
  cases a <;> cases b <;> simp only [eqSK] at h <;> first | cases h | skip
  · rw [eqLK_ok h]
  · rw [eqLKs_ok h]
theorem eqSKs_ok : ∀ {a b : List SK}, eqSKs a b = true → a = b
  | [], [], _ => rfl
  | a :: l, b :: m, h => by
    simp only [eqSKs, Bool.and_eq_true] at h
    rw [eqSK_ok h.1, eqSKs_ok h.2]
  | [], _ :: _, h => by cases h
  | _ :: _, [], h => by cases h

theorem goodLs_ok {ls : List Lf} (h : goodLs ls = true) : GoodLs ls := by
  intro l hl
  have := List.all_eq_true.1 h l hl
  cases l <;> first | trivial | exact this

theorem callB_ok {C : Cfg} {Sg : FuncId → Option Sig} {T : Nat → Site} {call : CallB} (hc : CallBOk C Sg T call) {g : FuncId} {ls : List Lf} {h : HL} {K : List Lf → HL → Bool} (hk : callB call g ls h K = true) :
    ∃ rs h', CallL C Sg g ls (absH T h) rs (absH T h') ∧ K rs h' = true := by
  unfold callB at hk
  split at hk
  · rename_i e; exact hc.f g ls h K (goodLs_ok e) hk
  · cases hk

theorem callVals_ok {C : Cfg} {Sg : FuncId → Option Sig} {T : Nat → Site} {call : CallB} (hc : CallBOk C Sg T call) {g : FuncId} {hs : Option (List SK)} {vals : List Value} {h : HL} {K : List Lf → HL → Bool} (hk : callVals Sg call g hs vals h K = true) :
    ∃ sg rs ys h', Sg g = some sg ∧ (∀ x, hs = some x → sg.rs = x) ∧ Told sg.rs rs ys ∧ uCall C g vals (absH T h) (packA (valsOf ys)) (absH T h') ∧ K rs h' = true := by
  unfold callVals at hk
  split at hk
  · cases hk
  · rename_i sg e
    split at hk
    · cases hk
    · rename_i e2
      split at hk
      · cases hk
      · rename_i xs e3
        obtain ⟨rs, h', ⟨sg', xs', ys, c1, c2, c3, c4⟩, hk⟩ := callB_ok hc hk
        rw [e] at c1
        cases c1
        obtain ⟨d1, d2, d3⟩ := toS0s_ok e3
        obtain ⟨w1, _⟩ := areIs_val c2.1 d1 c2.2.1
        rw [w1, d2] at c4
        refine ⟨sg, rs, ys, h', e, fun x hx => ?_, c3, c4, hk⟩
        subst hx
        exact eqSKs_ok e2

theorem hloop_at {T : Nat → Site} {h : HL} {l κ : Nat} {st : LoopState} {pd : Option Code} {vs : List Value} (e : h[l]? = some (.lp κ st pd vs)) : hloop (absH T h) l = some { lpOf (T κ) κ vs with state := st, pending := pd } := by
  unfold hloop absH
  rw [List.getElem?_map, e]
  rfl

theorem callvB_ok {C : Cfg} {Sg : FuncId → Option Sig} {T : Nat → Site} {call : CallB} (hc : CallBOk C Sg T call) {v : Value} {args : List Value} {hs : List SK} {h : HL} {K : List Lf → HL → Bool} (hk : callvB Sg T call v args hs h K = true) :
    ∃ rs h', CallV C v args hs (absH T h) rs (absH T h') ∧ K rs h' = true := by
  unfold callvB at hk
  split at hk
  · rename_i fn first cap
    split at hk
    · rename_i g
      obtain ⟨sg, rs, ys, h', c1, c2, c3, c4, c5⟩ := callVals_ok hc hk
      rw [c2 _ rfl] at c3
      exact ⟨rs, h', ⟨ys, c3, .inl ⟨g, first, cap, rfl, c4⟩⟩, c5⟩
    · rename_i l
      split at hk
      · rename_i e1 e2
        have e1 : first = #[] := Array.toList_inj.1 e1
        have e2 : cap = #[] := Array.toList_inj.1 e2
        subst e1 e2
        split at hk
        · rename_i κ st pd vs e
          split at hk
          · cases hk
          · rename_i e3
            have e3 := eqSKs_ok e3
            subst e3
            split at hk
            · cases hk
            · rename_i xs e4
              split at hk
              · rename_i e5
                obtain ⟨d1, d2, d3⟩ := toS0s_ok e4
                obtain ⟨b, h', y1, y2⟩ := hc.y κ vs l _ h K st pd xs e ⟨d1, rfl, d3⟩ hk
                rw [d2] at y1
                refine ⟨[.b b], h', ⟨[.leaf (.b b)], ⟨rfl, rfl, fun x hx => ?_⟩, .inr ⟨l, rfl, y1⟩⟩, y2⟩
                simp only [List.mem_singleton] at hx
                subst hx
                intro y hy
                simp only [S0.cells, List.mem_singleton] at hy
                subst hy; trivial
              · cases hk
        · cases hk
      · cases hk
    · cases hk
  · cases hk

theorem rfunB_ok {C : Cfg} {Sg : FuncId → Option Sig} {T : Nat → Site} {call : CallB} (hc : CallBOk C Sg T call) {κ : Nat} {v : Value} {vals : List Value} {h : HL} {K : Option Code → HL → Bool} (hk : rfunB Sg call κ v vals h K = true) :
    ∃ g first cap r H1 lp h2, v = .func (.func g) first cap ∧ uCall C g (first.toList ++ [.func (.yield (absH T h).length) #[] #[]] ++ cap.toList) (absH T h ++ [.loop (lpOf (T κ) κ vals)]) r H1 ∧
      hloop H1 (absH T h).length = some lp ∧ lp.state ≠ .busy ∧ absH T h2 = H1.set (absH T h).length (.loop { lp with state := .exhausted }) ∧ K lp.pending h2 = true := by
  unfold rfunB at hk
  split at hk
  · rename_i fn first cap
    split at hk
    · rename_i g
      rw [forceN_eq'] at hk
      obtain ⟨sg, rs, ys, h', _, _, c3, c4, c5⟩ := callVals_ok hc hk
      split at c5
      · rename_i κ' st pd vs e
        have hl := hloop_at (T := T) e
        rw [absH_push] at c4
        have fin : ∀ (hst : st ≠ .busy), K pd (h'.set h.length (.lp κ' .exhausted pd vs)) = true → ∃ g' first' cap' r H1 lp h2, (Value.func (.func g) first cap) = .func (.func g') first' cap' ∧ uCall C g' (first'.toList ++ [.func (.yield (absH T h).length) #[] #[]] ++ cap'.toList) (absH T h ++ [.loop (lpOf (T κ) κ vals)]) r H1 ∧
            hloop H1 (absH T h).length = some lp ∧ lp.state ≠ .busy ∧ absH T h2 = H1.set (absH T h).length (.loop { lp with state := .exhausted }) ∧ K lp.pending h2 = true := by
          intro hst hk
          refine ⟨g, first, cap, packA (valsOf ys), absH T h', { lpOf (T κ') κ' vs with state := st, pending := pd }, h'.set h.length (.lp κ' .exhausted pd vs), rfl, ?_, ?_, hst, ?_, hk⟩
          · rw [absH_len]; exact c4
          · rw [absH_len]; exact hl
          · rw [absH_set, absH_len]; rfl
        cases st with
        | busy => cases c5
        | _ => exact fin (by simp) c5
      · cases c5
    · cases hk
  · cases hk

theorem pend_exit {id : Nat} : ∀ {ks : List (Nat × Bool)}, (List.rec false (fun p _ ih => match Nat.beq p.1 id with | true => p.2 | false => ih) ks : Bool) = true →
    ∃ id' x, some (Code.exit id) = some (Code.exit id') ∧ (id', x) ∈ ks ∧ x = true
  | [], h => by cases h
  | p :: ks, h => by
    have h : (match Nat.beq p.1 id with | true => p.2 | false => (List.rec false (fun p _ ih => match Nat.beq p.1 id with | true => p.2 | false => ih) ks : Bool)) = true := h
    split at h
    · rename_i e
      exact ⟨id, p.2, rfl, by rw [← Nat.eq_of_beq_eq_true e]; exact List.mem_cons_self, h⟩
    · obtain ⟨id', x, a, b, c⟩ := pend_exit h
      exact ⟨id', x, a, List.mem_cons_of_mem _ b, c⟩

theorem BA_ok {C : Cfg} {Sg : FuncId → Option Sig} {T : Nat → Site} {call : CallB} (hc : CallBOk C Sg T call) : AlgOk (BA Sg T call) C Sg T (fun b => b = true) (absH T) where
  fail := by intro h; cases h
  cond := by
    intro b x y h
    cases b
    · exact .inr ⟨rfl, h⟩
    · exact .inl ⟨rfl, h⟩
  ari := fun op k a b K h => ariB_ok h
  shf := fun op k a k' b K h => by cases h
  cmp := fun op a b K h => cmpB_ok h
  eqs := fun l K h => eqsB_ok h
  conv := fun k a K h => fitsK h
  sel := by intro t a b K h; cases t <;> exact h
  opt := by
    intro α o K h
    cases o with
    | none => cases h
    | some x => exact ⟨x, rfl, h⟩
  chk := by
    intro v K h
    have h : chkB v K = true := h
    unfold chkB at h
    split at h
    · rename_i e; exact ⟨e, h⟩
    · cases h
  unI := by
    intro ls K h
    match ls, h with
    | .i n :: r, h => exact ⟨n, r, rfl, h⟩
  unB := by
    intro ls K h
    match ls, h with
    | .b n :: r, h => exact ⟨n, r, rfl, h⟩
  unV := by
    intro ls K h
    match ls, h with
    | .v n :: r, h => exact ⟨n, r, rfl, h⟩
  un0 := by
    intro ls K h
    match ls, h with
    | [], h => exact ⟨rfl, h⟩
  ucI := by
    intro k ls K h
    match ls, h with
    | .int k' n :: r, h =>
      have h : (match kSame k k' with | true => K n r | false => false) = true := h
      split at h
      · rename_i e; rw [kNo_inj e]; exact ⟨n, r, rfl, h⟩
      · cases h
  ucB := by
    intro ls K h
    match ls, h with
    | .bool n :: r, h => exact ⟨n, r, rfl, h⟩
  ucV := by
    intro ls K h
    match ls, h with
    | n :: r, h => exact ⟨n, r, rfl, h⟩
  uc0 := by
    intro ls K h
    match ls, h with
    | [], h => exact ⟨rfl, h⟩
  peek := by
    intro f h K hk
    have hk : peekB T f h K = true := hk
    unfold peekB at hk
    rw [getH_eq] at hk
    split at hk
    · rename_i x e; exact ⟨x, e, hk⟩
    · cases hk
  heap := by
    intro f h K hk
    have hk : heapB T f h K = true := hk
    unfold heapB at hk
    rw [getH_eq] at hk
    split at hk
    · rename_i p e; exact ⟨p.1, p.2, _, by rw [absH_len]; exact e, actsOnH_ok T p.1 h, hk⟩
    · cases hk
  new := by
    intro o h K hk
    have hk : newB o h K = true := hk
    unfold newB at hk
    rw [forceN_eq'] at hk
    exact ⟨_, absH_push T h _, by rw [absH_len]; exact hk⟩
  call := fun g ls h K hk => callB_ok hc hk
  callv := fun v args hs h K hk => callvB_ok hc hk
  join := fun b m h => h
  loop := by
    intro F ls h hk
    refine ⟨fun n => Nat.rec (motive := fun _ => List Lf → HL → Bool) (fun _ _ => false) (fun _ ih ls h => F ih ls h) n, fun ls h => (by simp), fun n ls h => rfl, 1000000, hk⟩
  rfun := fun κ v vals h K hk => rfunB_ok hc hk
  pend := by
    intro pd kn kr ks h
    cases pd with
    | none => exact .inl ⟨rfl, h⟩
    | some c =>
      cases c <;> first | exact .inr (.inl ⟨rfl, h⟩) | skip
      case exit id =>
        exact .inr (.inr (pend_exit h))
      all_goals cases h
  lp1 := by
    intro l h K hk
    have hk : lp1B l h K = true := hk
    unfold lp1B at hk
    split at hk
    · rename_i κ st pd vs e
      split at hk
      · exact ⟨_, _, hloop_at e, rfl, absH_set T h l _, hk⟩
      · cases hk
    · cases hk
  lp2 := by
    intro l j h K hk
    have hk : lp2B l j h K = true := hk
    unfold lp2B at hk
    split at hk
    · rename_i κ st pd vs e
      cases j with
      | none => exact ⟨_, _, hloop_at e, absH_set T h l _, hk⟩
      | some c => exact ⟨_, _, hloop_at e, absH_set T h l _, hk⟩
    · cases hk

/-- Runs to a depth. -/
noncomputable def runT (Sg : FuncId → Option Sig) (T : Nat → Site) (tab : Alg Bool HL → CK → List Lf → HL → (List Lf → HL → Bool) → Bool) (n : Nat) : CallB :=
  Nat.rec (motive := fun _ => CallB) (fun _ _ _ _ => false) (fun _ ih f ls h K => tab (BA Sg T ih) f ls h K) n

theorem runT_ok {C : Cfg} {Sg : FuncId → Option Sig} {T : Nat → Site} {X : FuncId → Ctxt} {dr : List Nat → Array Oper → Bool}
    (hdr : ∀ pts ops, dr pts ops = true → ∀ (n : Nat) (σ σ' : St), opsRel C (sm C n).toBelow pts ops (List.range ops.size) σ σ' → anyRel C (sm C n).toBelow pts ops σ σ')
    (hX : ∀ f, (X f).C = C ∧ (X f).T = T) {tab : Alg Bool HL → CK → List Lf → HL → (List Lf → HL → Bool) → Bool}
    (htab : ∀ A f ls h K, tab A (.f f) ls h K = true → (∃ fn, FnIs (X f) Sg f fn ∧ execF A (X f) Sg dr fn ls h K = true) ∨ ∃ rs, (∀ H, CallL C Sg f ls H rs H) ∧ K rs h = true)
    (htabY : ∀ A κ vs l ls h K, tab A (.y κ vs l) ls h K = true → ∃ f, execY A (X f) Sg dr (T κ) vs l ls h K = true) : ∀ n, CallBOk C Sg T (runT Sg T tab n)
  | 0 => ⟨fun _ _ _ _ _ h => by (cases h), fun _ _ _ _ _ _ _ _ _ _ _ h => by (cases h)⟩
  | n + 1 => by
    have hA := BA_ok (runT_ok hdr hX htab htabY n)
    refine ⟨fun f ls h K hls hk => ?_, fun κ vs l ls h K st pd xs e hy hk => ?_⟩
    · rcases htab _ _ _ _ _ hk with ⟨fn, h1, h2⟩ | ⟨rs, h1, h2⟩
      case inr => exact ⟨rs, h, h1 _, h2⟩
      obtain ⟨x1, x2⟩ := hX f
      have hA' : AlgOk (BA Sg T (runT Sg T tab n)) (X f).C Sg (X f).T (fun b => b = true) (absH T) := by rw [x1, x2]; exact hA
      obtain ⟨rs, h', a1, _, a3⟩ := execF_ok hA' (by rw [x1]; exact hdr) h1 hls h2
      rw [x1] at a1
      exact ⟨rs, h', a1, a3⟩
    · obtain ⟨f, h2⟩ := htabY _ _ _ _ _ _ _ hk
      obtain ⟨x1, x2⟩ := hX f
      have hA' : AlgOk (BA Sg T (runT Sg T tab n)) (X f).C Sg (X f).T (fun b => b = true) (absH T) := by rw [x1, x2]; exact hA
      obtain ⟨b, h', a1, a3⟩ := execY_ok hA' (by rw [x1]; exact hdr) (hloop_at e) rfl rfl rfl rfl hy h2
      rw [x1] at a1
      exact ⟨b, h', a1, a3⟩

end
end Sx
end Go.Am

/-
  CALLS THAT LEAVE NOTHING BEHIND: a run that begins with an empty heap is a run over any heap.
-/
namespace Go.Am
namespace Sx

section
variable [Val]

theorem objR_keep {mu : HMap} {p : Pl} {x y : Option Obj} {o : HObj} (hxy : ∀ a, x = some a → y = some a) (h : objR mu p x o) : objR mu p y o := by
  cases o with
  | cells vs esz rw =>
    obtain ⟨h1, h2, h3, c, e, fr, h4, h5⟩ := h
    exact ⟨h1, h2, h3, c, e, fr, hxy _ h4, h5⟩
  | map es clock =>
    obtain ⟨es', h1, h2⟩ := h
    exact ⟨es', hxy _ h1, h2⟩
  | loop r =>
    obtain ⟨L, h1, h2⟩ := h
    exact ⟨L, hxy _ h1, h2⟩
  | siter s pos => exact hxy _ h
  | dead => trivial

theorem flatVRs {la : LMap} {mu mu' : HMap} {vs cs : List Value} (hf : vs.all flat = true) (h : VRs la mu vs cs) : VRs la mu' vs cs := by
  refine ⟨h.1, fun i x y hx hy => ?_⟩
  have h1 := h.2 i x y hx hy
  have h2 : flat x = true := List.all_eq_true.1 hf x (List.mem_of_getElem? hx)
  rw [flat_eq h2 h1]
  exact .of_flat h2

theorem no_own {mu : HMap} {b : Nat} : ¬ Own mu [] b := by
  rintro ⟨id, o, p, h, _⟩
  simp at h

/-- THE FRAME. -/
theorem frame_ok {C : Cfg} (hG : ∀ g vs, C.G g = some vs → vs.all flat = true) {f : FuncId} {args : List Value} {r : Value} {H' : List HObj} (h : CallOk C f args [] r H') (ha : args.all flat = true) (hr : flat r = true) (H : List HObj) : CallOk C f args H r H := by
  intro base mu w args' hb hargs hW
  have hW0 : WR C w.heap.size (fun _ => none) [] w := by
    refine ⟨fun id o h => by simp at h, fun i j oi oj pi pj h => by simp at h, fun i o p h => by simp at h, fun i o p h => by simp at h, fun _ _ => rfl, fun g vs hg => ?_⟩
    obtain ⟨h1, h2, c, e, fr, h3, h4⟩ := hW.glob g vs hg
    exact ⟨by omega, h2, c, e, fr, h3, flatVRs (hG g vs hg) h4⟩
  obtain ⟨v, mu', w', a1, a2, a3, a4, a5⟩ := h w.heap.size (fun _ => none) w args' (Nat.le_refl _) (flatVRs ha hargs) hW0
  have hkeep : ∀ (b : Nat) x, w.heap[b]? = some x → w'.heap[b]? = some x := by
    intro b x hx
    have hlt : b < w.heap.size := by
      rcases Nat.lt_or_ge b w.heap.size with h | h
      · exact h
      · rw [Array.getElem?_eq_none h] at hx; cases hx
    rw [a3.keep b hlt no_own]; exact hx
  refine ⟨v, mu, w', ?_, ?_, ?_, a4, a5⟩
  · rw [flat_eq hr a1]; exact .of_flat hr
  · refine ⟨fun id o h1 h2 => ?_, hW.inj, hW.own, hW.ro, hW.dom, fun g vs hg => ?_⟩
    · obtain ⟨p, h3, h4⟩ := hW.obj id o h1 h2
      exact ⟨p, h3, objR_keep (hkeep p.b) h4⟩
    · obtain ⟨h1, h2, c, e, fr, h3, h4⟩ := hW.glob g vs hg
      exact ⟨h1, h2, c, e, fr, hkeep _ _ h3, h4⟩
  · exact ⟨Nat.le_refl _, fun _ _ => rfl, a3.size, fun b hb _ => a3.keep b hb no_own, fun b h => .inr h, a3.os, a3.tape, a3.output⟩

end

section
variable [Val] [Kno]

/-- What is known is a call. -/
theorem call_known {C : Cfg} {f : FuncId} {args : List Value} {r : Value} (h : Kno.kn f args r) (H : List HObj) : uCall C f args H r H := ⟨0, h, rfl⟩

end
end Sx
end Go.Am

/-
  THE FUNCTIONS OF THE PROGRAM ARE WHAT IS TOLD OF THEM, BY PROGRAM.
-/
set_option maxRecDepth 100000
namespace Go.Am
open Sx Go.Proofs

def neuT : List (Nat × Nat) := [(22, 2)]
def lookN (l : List (Nat × Nat)) (f : Nat) : Option Nat := match l with
  | [] => none
  | p :: l => match Nat.beq p.1 f with
    | true => some p.2
    | false => lookN l f
def neuN (f : FuncId) : Option Nat := lookN neuT f
theorem lookN_mem {f n : Nat} : ∀ {l : List (Nat × Nat)}, lookN l f = some n → (f, n) ∈ l
  | p :: l, h => by
    unfold lookN at h
    split at h
    · rename_i e
      cases h
      have := Nat.eq_of_beq_eq_true e
      subst this
      exact List.mem_cons_self
    · exact List.mem_cons_of_mem _ (lookN_mem h)
theorem neuT_ok : (neuT.all fun p => neuF neuN cc p.1 p.2) = true := by kernel_rfl
theorem neuN_ok (f n : Nat) (h : neuN f = some n) : neuF neuN cc f n = true := List.all_eq_true.1 neuT_ok (f, n) (lookN_mem h)
def drN (pts : List Nat) (ops : Array Oper) : Bool := regOk neuN pts ops

noncomputable def n6 : Fn1 := fn1 cc.P 6 ((sgTab 6).getD ⟨[], []⟩) an6
noncomputable def n17 : Fn1 := fn1 cc.P 17 ((sgTab 17).getD ⟨[], []⟩) an17
noncomputable def n18 : Fn1 := fn1 cc.P 18 ((sgTab 18).getD ⟨[], []⟩) an18
noncomputable def n19 : Fn1 := fn1 cc.P 19 ((sgTab 19).getD ⟨[], []⟩) an19
noncomputable def n21 : Fn1 := fn1 cc.P 21 ((sgTab 21).getD ⟨[], []⟩) an21
noncomputable def n22 : Fn1 := fn1 cc.P 22 ((sgTab 22).getD ⟨[], []⟩) an22
noncomputable def n23 : Fn1 := fn1 cc.P 23 ((sgTab 23).getD ⟨[], []⟩) an23
noncomputable def n25 : Fn1 := fn1 cc.P 25 ((sgTab 25).getD ⟨[], []⟩) an25
noncomputable def n26 : Fn1 := fn1 cc.P 26 ((sgTab 26).getD ⟨[], []⟩) an26
noncomputable def n29 : Fn1 := fn1 cc.P 29 ((sgTab 29).getD ⟨[], []⟩) an29
noncomputable def n32 : Fn1 := fn1 cc.P 32 ((sgTab 32).getD ⟨[], []⟩) an32
noncomputable def n33 : Fn1 := fn1 cc.P 33 ((sgTab 33).getD ⟨[], []⟩) an33
noncomputable def n34 : Fn1 := fn1 cc.P 34 ((sgTab 34).getD ⟨[], []⟩) an34
noncomputable def n35 : Fn1 := fn1 cc.P 35 ((sgTab 35).getD ⟨[], []⟩) an35
noncomputable def n36 : Fn1 := fn1 cc.P 36 ((sgTab 36).getD ⟨[], []⟩) an36
noncomputable def n37 : Fn1 := fn1 cc.P 37 ((sgTab 37).getD ⟨[], []⟩) an37
noncomputable def n39 : Fn1 := fn1 cc.P 39 ((sgTab 39).getD ⟨[], []⟩) an39
noncomputable def n40 : Fn1 := fn1 cc.P 40 ((sgTab 40).getD ⟨[], []⟩) an40
noncomputable def n41 : Fn1 := fn1 cc.P 41 ((sgTab 41).getD ⟨[], []⟩) an41
noncomputable def n43 : Fn1 := fn1 cc.P 43 ((sgTab 43).getD ⟨[], []⟩) an43
noncomputable def n47 : Fn1 := fn1 cc.P 47 ((sgTab 47).getD ⟨[], []⟩) an47
noncomputable def n67 : Fn1 := fn1 cc.P 67 ((sgTab 67).getD ⟨[], []⟩) an67
noncomputable def n68 : Fn1 := fn1 cc.P 68 ((sgTab 68).getD ⟨[], []⟩) an68
noncomputable def n69 : Fn1 := fn1 cc.P 69 ((sgTab 69).getD ⟨[], []⟩) an69
noncomputable def n71 : Fn1 := fn1 cc.P 71 ((sgTab 71).getD ⟨[], []⟩) an71
noncomputable def n72 : Fn1 := fn1 cc.P 72 ((sgTab 72).getD ⟨[], []⟩) an72
noncomputable def n73 : Fn1 := fn1 cc.P 73 ((sgTab 73).getD ⟨[], []⟩) an73
noncomputable def n74 : Fn1 := fn1 cc.P 74 ((sgTab 74).getD ⟨[], []⟩) an74
noncomputable def n89 : Fn1 := fn1 cc.P 89 ((sgTab 89).getD ⟨[], []⟩) an89
theorem i6 : FnIs (xc 6) sgTab 6 n6 := ⟨⟨Tryd.f6, Tryd.func6, by kernel_rfl, by kernel_rfl, by kernel_rfl, by kernel_rfl⟩, rfl, by kernel_rfl⟩
theorem e6 : @f6 = fun R HT A ls h K => execF A (xc 6) sgTab drN n6 ls h K := by kernel_rfl
theorem i17 : FnIs (xc 17) sgTab 17 n17 := ⟨⟨Tryd.f17, Tryd.func17, by kernel_rfl, by kernel_rfl, by kernel_rfl, by kernel_rfl⟩, rfl, by kernel_rfl⟩
theorem e17 : @f17 = fun R HT A ls h K => execF A (xc 17) sgTab drN n17 ls h K := by kernel_rfl
theorem i18 : FnIs (xc 18) sgTab 18 n18 := ⟨⟨Tryd.f18, Tryd.func18, by kernel_rfl, by kernel_rfl, by kernel_rfl, by kernel_rfl⟩, rfl, by kernel_rfl⟩
theorem e18 : @f18 = fun R HT A ls h K => execF A (xc 18) sgTab drN n18 ls h K := by kernel_rfl
theorem i19 : FnIs (xc 19) sgTab 19 n19 := ⟨⟨Tryd.f19, Tryd.func19, by kernel_rfl, by kernel_rfl, by kernel_rfl, by kernel_rfl⟩, rfl, by kernel_rfl⟩
theorem e19 : @f19 = fun R HT A ls h K => execF A (xc 19) sgTab drN n19 ls h K := by kernel_rfl
theorem i21 : FnIs (xc 21) sgTab 21 n21 := ⟨⟨Tryd.f21, Tryd.func21, by kernel_rfl, by kernel_rfl, by kernel_rfl, by kernel_rfl⟩, rfl, by kernel_rfl⟩
theorem e21 : @f21 = fun R HT A ls h K => execF A (xc 21) sgTab drN n21 ls h K := by kernel_rfl
theorem i22 : FnIs (xc 22) sgTab 22 n22 := ⟨⟨Tryd.f22, Tryd.func22, by kernel_rfl, by kernel_rfl, by kernel_rfl, by kernel_rfl⟩, rfl, by kernel_rfl⟩
theorem e22 : @f22 = fun R HT A ls h K => execF A (xc 22) sgTab drN n22 ls h K := by kernel_rfl
theorem i23 : FnIs (xc 23) sgTab 23 n23 := ⟨⟨Tryd.f23, Tryd.func23, by kernel_rfl, by kernel_rfl, by kernel_rfl, by kernel_rfl⟩, rfl, by kernel_rfl⟩
theorem e23 : @f23 = fun R HT A ls h K => execF A (xc 23) sgTab drN n23 ls h K := by kernel_rfl
theorem i25 : FnIs (xc 25) sgTab 25 n25 := ⟨⟨Tryd.f25, Tryd.func25, by kernel_rfl, by kernel_rfl, by kernel_rfl, by kernel_rfl⟩, rfl, by kernel_rfl⟩
theorem e25 : @f25 = fun R HT A ls h K => execF A (xc 25) sgTab drN n25 ls h K := by kernel_rfl
theorem i26 : FnIs (xc 26) sgTab 26 n26 := ⟨⟨Tryd.f26, Tryd.func26, by kernel_rfl, by kernel_rfl, by kernel_rfl, by kernel_rfl⟩, rfl, by kernel_rfl⟩
theorem e26 : @f26 = fun R HT A ls h K => execF A (xc 26) sgTab drN n26 ls h K := by kernel_rfl
theorem i29 : FnIs (xc 29) sgTab 29 n29 := ⟨⟨Tryd.f29, Tryd.func29, by kernel_rfl, by kernel_rfl, by kernel_rfl, by kernel_rfl⟩, rfl, by kernel_rfl⟩
theorem e29 : @f29 = fun R HT A ls h K => execF A (xc 29) sgTab drN n29 ls h K := by kernel_rfl
theorem i32 : FnIs (xc 32) sgTab 32 n32 := ⟨⟨Tryd.f32, Tryd.func32, by kernel_rfl, by kernel_rfl, by kernel_rfl, by kernel_rfl⟩, rfl, by kernel_rfl⟩
theorem e32 : @f32 = fun R HT A ls h K => execF A (xc 32) sgTab drN n32 ls h K := by kernel_rfl
theorem i33 : FnIs (xc 33) sgTab 33 n33 := ⟨⟨Tryd.f33, Tryd.func33, by kernel_rfl, by kernel_rfl, by kernel_rfl, by kernel_rfl⟩, rfl, by kernel_rfl⟩
theorem e33 : @f33 = fun R HT A ls h K => execF A (xc 33) sgTab drN n33 ls h K := by kernel_rfl
theorem i34 : FnIs (xc 34) sgTab 34 n34 := ⟨⟨Tryd.f34, Tryd.func34, by kernel_rfl, by kernel_rfl, by kernel_rfl, by kernel_rfl⟩, rfl, by kernel_rfl⟩
theorem e34 : @f34 = fun R HT A ls h K => execF A (xc 34) sgTab drN n34 ls h K := by kernel_rfl
theorem i35 : FnIs (xc 35) sgTab 35 n35 := ⟨⟨Tryd.f35, Tryd.func35, by kernel_rfl, by kernel_rfl, by kernel_rfl, by kernel_rfl⟩, rfl, by kernel_rfl⟩
theorem e35 : @f35 = fun R HT A ls h K => execF A (xc 35) sgTab drN n35 ls h K := by kernel_rfl
theorem i36 : FnIs (xc 36) sgTab 36 n36 := ⟨⟨Tryd.f36, Tryd.func36, by kernel_rfl, by kernel_rfl, by kernel_rfl, by kernel_rfl⟩, rfl, by kernel_rfl⟩
theorem e36 : @f36 = fun R HT A ls h K => execF A (xc 36) sgTab drN n36 ls h K := by kernel_rfl
theorem i37 : FnIs (xc 37) sgTab 37 n37 := ⟨⟨Tryd.f37, Tryd.func37, by kernel_rfl, by kernel_rfl, by kernel_rfl, by kernel_rfl⟩, rfl, by kernel_rfl⟩
theorem e37 : @f37 = fun R HT A ls h K => execF A (xc 37) sgTab drN n37 ls h K := by kernel_rfl
theorem i39 : FnIs (xc 39) sgTab 39 n39 := ⟨⟨Tryd.f39, Tryd.func39, by kernel_rfl, by kernel_rfl, by kernel_rfl, by kernel_rfl⟩, rfl, by kernel_rfl⟩
theorem e39 : @f39 = fun R HT A ls h K => execF A (xc 39) sgTab drN n39 ls h K := by kernel_rfl
theorem i40 : FnIs (xc 40) sgTab 40 n40 := ⟨⟨Tryd.f40, Tryd.func40, by kernel_rfl, by kernel_rfl, by kernel_rfl, by kernel_rfl⟩, rfl, by kernel_rfl⟩
theorem e40 : @f40 = fun R HT A ls h K => execF A (xc 40) sgTab drN n40 ls h K := by kernel_rfl
theorem i41 : FnIs (xc 41) sgTab 41 n41 := ⟨⟨Tryd.f41, Tryd.func41, by kernel_rfl, by kernel_rfl, by kernel_rfl, by kernel_rfl⟩, rfl, by kernel_rfl⟩
theorem e41 : @f41 = fun R HT A ls h K => execF A (xc 41) sgTab drN n41 ls h K := by kernel_rfl
theorem i43 : FnIs (xc 43) sgTab 43 n43 := ⟨⟨Tryd.f43, Tryd.func43, by kernel_rfl, by kernel_rfl, by kernel_rfl, by kernel_rfl⟩, rfl, by kernel_rfl⟩
theorem e43 : @f43 = fun R HT A ls h K => execF A (xc 43) sgTab drN n43 ls h K := by kernel_rfl
theorem i47 : FnIs (xc 47) sgTab 47 n47 := ⟨⟨Tryd.f47, Tryd.func47, by kernel_rfl, by kernel_rfl, by kernel_rfl, by kernel_rfl⟩, rfl, by kernel_rfl⟩
theorem e47 : @f47 = fun R HT A ls h K => execF A (xc 47) sgTab drN n47 ls h K := by kernel_rfl
theorem i67 : FnIs (xc 67) sgTab 67 n67 := ⟨⟨Tryd.f67, Tryd.func67, by kernel_rfl, by kernel_rfl, by kernel_rfl, by kernel_rfl⟩, rfl, by kernel_rfl⟩
theorem e67 : @f67 = fun R HT A ls h K => execF A (xc 67) sgTab drN n67 ls h K := by kernel_rfl
theorem i68 : FnIs (xc 68) sgTab 68 n68 := ⟨⟨Tryd.f68, Tryd.func68, by kernel_rfl, by kernel_rfl, by kernel_rfl, by kernel_rfl⟩, rfl, by kernel_rfl⟩
theorem e68 : @f68 = fun R HT A ls h K => execF A (xc 68) sgTab drN n68 ls h K := by kernel_rfl
theorem i69 : FnIs (xc 69) sgTab 69 n69 := ⟨⟨Tryd.f69, Tryd.func69, by kernel_rfl, by kernel_rfl, by kernel_rfl, by kernel_rfl⟩, rfl, by kernel_rfl⟩
theorem e69 : @f69 = fun R HT A ls h K => execF A (xc 69) sgTab drN n69 ls h K := by kernel_rfl
theorem i71 : FnIs (xc 71) sgTab 71 n71 := ⟨⟨Tryd.f71, Tryd.func71, by kernel_rfl, by kernel_rfl, by kernel_rfl, by kernel_rfl⟩, rfl, by kernel_rfl⟩
theorem e71 : @f71 = fun R HT A ls h K => execF A (xc 71) sgTab drN n71 ls h K := by kernel_rfl
theorem i72 : FnIs (xc 72) sgTab 72 n72 := ⟨⟨Tryd.f72, Tryd.func72, by kernel_rfl, by kernel_rfl, by kernel_rfl, by kernel_rfl⟩, rfl, by kernel_rfl⟩
theorem e72 : @f72 = fun R HT A ls h K => execF A (xc 72) sgTab drN n72 ls h K := by kernel_rfl
theorem i73 : FnIs (xc 73) sgTab 73 n73 := ⟨⟨Tryd.f73, Tryd.func73, by kernel_rfl, by kernel_rfl, by kernel_rfl, by kernel_rfl⟩, rfl, by kernel_rfl⟩
theorem e73 : @f73 = fun R HT A ls h K => execF A (xc 73) sgTab drN n73 ls h K := by kernel_rfl
theorem i74 : FnIs (xc 74) sgTab 74 n74 := ⟨⟨Tryd.f74, Tryd.func74, by kernel_rfl, by kernel_rfl, by kernel_rfl, by kernel_rfl⟩, rfl, by kernel_rfl⟩
theorem e74 : @f74 = fun R HT A ls h K => execF A (xc 74) sgTab drN n74 ls h K := by kernel_rfl
theorem i89 : FnIs (xc 89) sgTab 89 n89 := ⟨⟨Tryd.f89, Tryd.func89, by kernel_rfl, by kernel_rfl, by kernel_rfl, by kernel_rfl⟩, rfl, by kernel_rfl⟩
theorem e89 : @f89 = fun R HT A ls h K => execF A (xc 89) sgTab drN n89 ls h K := by kernel_rfl

end Go.Am

/-
  THE TABLE OF RUNS, BY PROGRAM.
-/
set_option maxRecDepth 100000
namespace Go.Am
open Sx
abbrev FB := List Lf → HL → (List Lf → HL → Bool) → Bool
def nf : FB := fun _ _ _ => false
noncomputable def tabB (A : Alg Bool HL) : Tr FB := (.node nf (.node nf (.node nf (.node nf (.node nf .leaf (.node (f47 A) .leaf .leaf)) (.node (f23 A) (.node (f39 A) (.node (f71 A) .leaf .leaf) .leaf) .leaf)) (.node nf (.node (f19 A) (.node (f35 A) (.node (f67 A) .leaf .leaf) .leaf) .leaf) (.node nf (.node (f43 A) .leaf .leaf) .leaf))) (.node nf (.node nf (.node nf (.node (f33 A) .leaf .leaf) .leaf) (.node (f25 A) (.node (f41 A) (.node (f73 A) .leaf .leaf) .leaf) (.node nf (.node (f89 A) .leaf .leaf) .leaf))) (.node nf (.node (f21 A) (.node nf (.node (f69 A) .leaf .leaf) .leaf) .leaf) (.node (f29 A) .leaf .leaf)))) (.node nf (.node nf (.node nf .leaf (.node nf (.node (f40 A) (.node (f72 A) .leaf .leaf) .leaf) .leaf)) (.node nf (.node nf (.node (f36 A) (.node (f68 A) .leaf .leaf) .leaf) .leaf) .leaf)) (.node nf (.node nf (.node (f18 A) (.node (f34 A) .leaf .leaf) .leaf) (.node (f26 A) (.node nf (.node (f74 A) .leaf .leaf) .leaf) .leaf)) (.node nf (.node (f22 A) .leaf .leaf) .leaf))))
/-- Closed functions whose answer is known. -/
def knB (kn : List (FuncId × Bool)) (f : FuncId) : Option Bool := match kn with
  | [] => none
  | p :: l => match Nat.beq p.1 f with
    | true => some p.2
    | false => knB l f
noncomputable def tabT (kn : List (FuncId × Bool)) (A : Alg Bool HL) (k : CK) : FB := match k with
  | .f f => match knB kn f with
    | some t => fun ls h K => match ls with
      | [] => K [.b t] h
      | _ => false
    | none => match Nat.blt f 90 with
      | true => (pathOf f).get nf (tabB A)
      | false => nf
  | .y κ vs l => fun ls h K => execY A (xc 0) sgTab drN (siteTab κ) vs l ls h K
noncomputable abbrev runR (kn : List (FuncId × Bool)) (n : Nat) : CallB := Sx.runT sgTab siteTab (tabT kn) n
def isT (l : List Lf) (_ : HL) : Bool := match l with | [.b t] => t | _ => false
section
variable [Val] [Kno]
def TabP (k : Nat) : Prop := ∀ A ls h K, (pathOf k).get nf (tabB A) ls h K = true → ∃ fn, FnIs (xc k) sgTab k fn ∧ execF A (xc k) sgTab drN fn ls h K = true
theorem TabP.of {k : Nat} {g : Alg Bool HL → FB} {fn : Fn1} (h1 : (fun A : Alg Bool HL => (pathOf k).get nf (tabB A)) = g) (h2 : g = fun A ls h K => execF A (xc k) sgTab drN fn ls h K) (h3 : FnIs (xc k) sgTab k fn) : TabP k := by
  intro A ls h K hk
  refine ⟨fn, h3, ?_⟩
  have := congrFun (h1.trans h2) A
  rw [this] at hk
  exact hk
theorem TabP.no {k : Nat} (h1 : (fun A : Alg Bool HL => (pathOf k).get nf (tabB A)) = fun _ => nf) : TabP k := by
  intro A ls h K hk
  have := congrFun h1 A
  rw [this] at hk
  cases hk

theorem t0 : TabP 0 := .no (by kernel_rfl)
theorem t1 : TabP 1 := .no (by kernel_rfl)
theorem t2 : TabP 2 := .no (by kernel_rfl)
theorem t3 : TabP 3 := .no (by kernel_rfl)
theorem t4 : TabP 4 := .no (by kernel_rfl)
theorem t5 : TabP 5 := .no (by kernel_rfl)
theorem t6 : TabP 6 := .no (by kernel_rfl)
theorem t7 : TabP 7 := .no (by kernel_rfl)
theorem t8 : TabP 8 := .no (by kernel_rfl)
theorem t9 : TabP 9 := .no (by kernel_rfl)
theorem t10 : TabP 10 := .no (by kernel_rfl)
theorem t11 : TabP 11 := .no (by kernel_rfl)
theorem t12 : TabP 12 := .no (by kernel_rfl)
theorem t13 : TabP 13 := .no (by kernel_rfl)
theorem t14 : TabP 14 := .no (by kernel_rfl)
theorem t15 : TabP 15 := .no (by kernel_rfl)
theorem t16 : TabP 16 := .no (by kernel_rfl)
theorem t17 : TabP 17 := .no (by kernel_rfl)
theorem t18 : TabP 18 := .of (g := fun A => f18 A) (by kernel_rfl) (congrFun (congrFun e18 Bool) HL) i18
theorem t19 : TabP 19 := .of (g := fun A => f19 A) (by kernel_rfl) (congrFun (congrFun e19 Bool) HL) i19
theorem t20 : TabP 20 := .no (by kernel_rfl)
theorem t21 : TabP 21 := .of (g := fun A => f21 A) (by kernel_rfl) (congrFun (congrFun e21 Bool) HL) i21
theorem t22 : TabP 22 := .of (g := fun A => f22 A) (by kernel_rfl) (congrFun (congrFun e22 Bool) HL) i22
theorem t23 : TabP 23 := .of (g := fun A => f23 A) (by kernel_rfl) (congrFun (congrFun e23 Bool) HL) i23
theorem t24 : TabP 24 := .no (by kernel_rfl)
theorem t25 : TabP 25 := .of (g := fun A => f25 A) (by kernel_rfl) (congrFun (congrFun e25 Bool) HL) i25
theorem t26 : TabP 26 := .of (g := fun A => f26 A) (by kernel_rfl) (congrFun (congrFun e26 Bool) HL) i26
theorem t27 : TabP 27 := .no (by kernel_rfl)
theorem t28 : TabP 28 := .no (by kernel_rfl)
theorem t29 : TabP 29 := .of (g := fun A => f29 A) (by kernel_rfl) (congrFun (congrFun e29 Bool) HL) i29
theorem t30 : TabP 30 := .no (by kernel_rfl)
theorem t31 : TabP 31 := .no (by kernel_rfl)
theorem t32 : TabP 32 := .no (by kernel_rfl)
theorem t33 : TabP 33 := .of (g := fun A => f33 A) (by kernel_rfl) (congrFun (congrFun e33 Bool) HL) i33
theorem t34 : TabP 34 := .of (g := fun A => f34 A) (by kernel_rfl) (congrFun (congrFun e34 Bool) HL) i34
theorem t35 : TabP 35 := .of (g := fun A => f35 A) (by kernel_rfl) (congrFun (congrFun e35 Bool) HL) i35
theorem t36 : TabP 36 := .of (g := fun A => f36 A) (by kernel_rfl) (congrFun (congrFun e36 Bool) HL) i36
theorem t37 : TabP 37 := .no (by kernel_rfl)
theorem t38 : TabP 38 := .no (by kernel_rfl)
theorem t39 : TabP 39 := .of (g := fun A => f39 A) (by kernel_rfl) (congrFun (congrFun e39 Bool) HL) i39
theorem t40 : TabP 40 := .of (g := fun A => f40 A) (by kernel_rfl) (congrFun (congrFun e40 Bool) HL) i40
theorem t41 : TabP 41 := .of (g := fun A => f41 A) (by kernel_rfl) (congrFun (congrFun e41 Bool) HL) i41
theorem t42 : TabP 42 := .no (by kernel_rfl)
theorem t43 : TabP 43 := .of (g := fun A => f43 A) (by kernel_rfl) (congrFun (congrFun e43 Bool) HL) i43
theorem t44 : TabP 44 := .no (by kernel_rfl)
theorem t45 : TabP 45 := .no (by kernel_rfl)
theorem t46 : TabP 46 := .no (by kernel_rfl)
theorem t47 : TabP 47 := .of (g := fun A => f47 A) (by kernel_rfl) (congrFun (congrFun e47 Bool) HL) i47
theorem t48 : TabP 48 := .no (by kernel_rfl)
theorem t49 : TabP 49 := .no (by kernel_rfl)
theorem t50 : TabP 50 := .no (by kernel_rfl)
theorem t51 : TabP 51 := .no (by kernel_rfl)
theorem t52 : TabP 52 := .no (by kernel_rfl)
theorem t53 : TabP 53 := .no (by kernel_rfl)
theorem t54 : TabP 54 := .no (by kernel_rfl)
theorem t55 : TabP 55 := .no (by kernel_rfl)
theorem t56 : TabP 56 := .no (by kernel_rfl)
theorem t57 : TabP 57 := .no (by kernel_rfl)
theorem t58 : TabP 58 := .no (by kernel_rfl)
theorem t59 : TabP 59 := .no (by kernel_rfl)
theorem t60 : TabP 60 := .no (by kernel_rfl)
theorem t61 : TabP 61 := .no (by kernel_rfl)
theorem t62 : TabP 62 := .no (by kernel_rfl)
theorem t63 : TabP 63 := .no (by kernel_rfl)
theorem t64 : TabP 64 := .no (by kernel_rfl)
theorem t65 : TabP 65 := .no (by kernel_rfl)
theorem t66 : TabP 66 := .no (by kernel_rfl)
theorem t67 : TabP 67 := .of (g := fun A => f67 A) (by kernel_rfl) (congrFun (congrFun e67 Bool) HL) i67
theorem t68 : TabP 68 := .of (g := fun A => f68 A) (by kernel_rfl) (congrFun (congrFun e68 Bool) HL) i68
theorem t69 : TabP 69 := .of (g := fun A => f69 A) (by kernel_rfl) (congrFun (congrFun e69 Bool) HL) i69
theorem t70 : TabP 70 := .no (by kernel_rfl)
theorem t71 : TabP 71 := .of (g := fun A => f71 A) (by kernel_rfl) (congrFun (congrFun e71 Bool) HL) i71
theorem t72 : TabP 72 := .of (g := fun A => f72 A) (by kernel_rfl) (congrFun (congrFun e72 Bool) HL) i72
theorem t73 : TabP 73 := .of (g := fun A => f73 A) (by kernel_rfl) (congrFun (congrFun e73 Bool) HL) i73
theorem t74 : TabP 74 := .of (g := fun A => f74 A) (by kernel_rfl) (congrFun (congrFun e74 Bool) HL) i74
theorem t75 : TabP 75 := .no (by kernel_rfl)
theorem t76 : TabP 76 := .no (by kernel_rfl)
theorem t77 : TabP 77 := .no (by kernel_rfl)
theorem t78 : TabP 78 := .no (by kernel_rfl)
theorem t79 : TabP 79 := .no (by kernel_rfl)
theorem t80 : TabP 80 := .no (by kernel_rfl)
theorem t81 : TabP 81 := .no (by kernel_rfl)
theorem t82 : TabP 82 := .no (by kernel_rfl)
theorem t83 : TabP 83 := .no (by kernel_rfl)
theorem t84 : TabP 84 := .no (by kernel_rfl)
theorem t85 : TabP 85 := .no (by kernel_rfl)
theorem t86 : TabP 86 := .no (by kernel_rfl)
theorem t87 : TabP 87 := .no (by kernel_rfl)
theorem t88 : TabP 88 := .no (by kernel_rfl)
theorem t89 : TabP 89 := .of (g := fun A => f89 A) (by kernel_rfl) (congrFun (congrFun e89 Bool) HL) i89
theorem tabAll : ∀ f, Nat.blt f 90 = true → TabP f
  | 0, _ => t0
  | 1, _ => t1
  | 2, _ => t2
  | 3, _ => t3
  | 4, _ => t4
  | 5, _ => t5
  | 6, _ => t6
  | 7, _ => t7
  | 8, _ => t8
  | 9, _ => t9
  | 10, _ => t10
  | 11, _ => t11
  | 12, _ => t12
  | 13, _ => t13
  | 14, _ => t14
  | 15, _ => t15
  | 16, _ => t16
  | 17, _ => t17
  | 18, _ => t18
  | 19, _ => t19
  | 20, _ => t20
  | 21, _ => t21
  | 22, _ => t22
  | 23, _ => t23
  | 24, _ => t24
  | 25, _ => t25
  | 26, _ => t26
  | 27, _ => t27
  | 28, _ => t28
  | 29, _ => t29
  | 30, _ => t30
  | 31, _ => t31
  | 32, _ => t32
  | 33, _ => t33
  | 34, _ => t34
  | 35, _ => t35
  | 36, _ => t36
  | 37, _ => t37
  | 38, _ => t38
  | 39, _ => t39
  | 40, _ => t40
  | 41, _ => t41
  | 42, _ => t42
  | 43, _ => t43
  | 44, _ => t44
  | 45, _ => t45
  | 46, _ => t46
  | 47, _ => t47
  | 48, _ => t48
  | 49, _ => t49
  | 50, _ => t50
  | 51, _ => t51
  | 52, _ => t52
  | 53, _ => t53
  | 54, _ => t54
  | 55, _ => t55
  | 56, _ => t56
  | 57, _ => t57
  | 58, _ => t58
  | 59, _ => t59
  | 60, _ => t60
  | 61, _ => t61
  | 62, _ => t62
  | 63, _ => t63
  | 64, _ => t64
  | 65, _ => t65
  | 66, _ => t66
  | 67, _ => t67
  | 68, _ => t68
  | 69, _ => t69
  | 70, _ => t70
  | 71, _ => t71
  | 72, _ => t72
  | 73, _ => t73
  | 74, _ => t74
  | 75, _ => t75
  | 76, _ => t76
  | 77, _ => t77
  | 78, _ => t78
  | 79, _ => t79
  | 80, _ => t80
  | 81, _ => t81
  | 82, _ => t82
  | 83, _ => t83
  | 84, _ => t84
  | 85, _ => t85
  | 86, _ => t86
  | 87, _ => t87
  | 88, _ => t88
  | 89, _ => t89
  | n + 90, h => by rw [Nat.blt_eq] at h; omega
theorem knB_mem {f : FuncId} {t : Bool} : ∀ {l : List (FuncId × Bool)}, knB l f = some t → (f, t) ∈ l
  | p :: l, h => by
    unfold knB at h
    split at h
    · rename_i e
      cases h
      have := Nat.eq_of_beq_eq_true e
      subst this
      exact List.mem_cons_self
    · exact List.mem_cons_of_mem _ (knB_mem h)
theorem run_ok (kn : List (FuncId × Bool)) (hkn : ∀ p ∈ kn, sgTab p.1 = some ⟨[], [lb]⟩ ∧ Kno.kn p.1 [] (.bool p.2)) (n : Nat) : CallBOk cc sgTab siteTab (runR kn n) :=
  Sx.runT_ok (tab := tabT kn) (T := siteTab) (X := xc) (dr := drN) (fun pts ops h n σ σ' hx => dr_ok neuN_ok pts ops h n σ σ' hx) (fun _ => ⟨rfl, rfl⟩) (fun A f ls h K hk => by
    simp only [tabT] at hk
    cases e0 : knB kn f with
    | some t =>
      rw [e0] at hk
      match ls, hk with
      | [], hk =>
        obtain ⟨h1, h2⟩ := hkn _ (knB_mem e0)
        exact .inr ⟨[.b t], fun H => ⟨⟨[], [lb]⟩, [], [.leaf (.b t)], h1, ⟨rfl, rfl, fun _ h => by cases h⟩, ⟨rfl, rfl, fun x hx => by
          simp only [List.mem_singleton] at hx
          subst hx
          intro y hy
          simp only [S0.cells, List.mem_singleton] at hy
          subst hy; trivial⟩, call_known h2 H⟩, hk⟩
    | none =>
      rw [e0] at hk
      cases e : Nat.blt f 90 with
      | true => rw [e] at hk; exact .inl (tabAll f e A ls h K hk)
      | false => rw [e] at hk; cases hk) (fun A κ vs l ls h K hk => ⟨0, hk⟩) n
end
end Go.Am

/-
  WHAT THE PACKAGE-LEVEL VARIABLES HOLD, read off the row's list; a call as the row sees it.
-/
namespace Go.Am
namespace Sx

/-- The cells of a datum of numbers, truth values, structs and arrays. -/
def unL (P : Program) (un : TypeId → DataW Unit → Option (List Value)) : List (Nat × TypeId) → List (DataW Unit) → Nat → Option (List Value)
  | [], [], _ => some []
  | (o, t) :: l, d :: ds, off => match Nat.beq o off, un t d with
    | true, some v => match Nat.beq v.length (P.cellsOf t), unL P un l ds (off + v.length) with
      | true, some vs => some (v ++ vs)
      | _, _ => none
    | _, _ => none
  | _, _, _ => none
def unD (P : Program) : Nat → TypeId → DataW Unit → Option (List Value)
  | 0, _, _ => none
  | fu + 1, t, d => match P.underlying t, d with
    | some .bool, .lit (.bool b) => some [.bool b]
    | some (.int k), .lit (.int _ n) => some [.int k n]
    | some (.struct fs), .agg ds => match unL P (unD P fu) (fs.toList.map fun f => (f.offset, f.type)) ds 0 with
      | some vs => if vs.length = P.cellsOf t then some vs else none
      | none => none
    | some (.array n e), .agg ds => match unL P (unD P fu) ((List.range n).map fun i => (i * P.cellsOf e, e)) ds 0 with
      | some vs => if vs.length = P.cellsOf t then some vs else none
      | none => none
    | _, _ => none

section
variable {P : Program} {w : World} {base : Nat} {spare : Nat → Bool} {held : Bool} {enc : TypeId × Value → Unit}

theorem seg_ok {un : TypeId → DataW Unit → Option (List Value)} {fuel : Nat} (hun : ∀ t d vs, un t d = some vs → ∀ cs p, DataW.trod enc P w base spare held fuel t cs = some (d, p) → cs = vs) {α : Type} (o : α → Nat) (ty : α → TypeId) (cs : List Value) :
    ∀ (l : List α) (xs : List (DataW Unit × List MemPlace)) (off : Nat) (vs : List Value), l.mapM (fun a => DataW.trod enc P w base spare held fuel (ty a) ((cs.drop (o a)).take (P.cellsOf (ty a)))) = some xs →
      unL P un (l.map fun a => (o a, ty a)) (xs.map (·.1)) off = some vs → (cs.drop off).take vs.length = vs
  | [], xs, off, vs, h1, h2 => by
    simp only [List.mapM_nil, Option.pure_def, Option.some.injEq] at h1
    subst h1
    simp only [List.map_nil, unL, Option.some.injEq] at h2
    subst h2
    simp
  | a :: l, xs, off, vs, h1, h2 => by
    rw [List.mapM_cons] at h1
    obtain ⟨x, h3, h1⟩ := Option.bind_eq_some_iff.1 h1
    obtain ⟨ys, h4, h1⟩ := Option.bind_eq_some_iff.1 h1
    cases h1
    simp only [List.map_cons, unL] at h2
    split at h2
    · rename_i v e1 e2
      split at h2
      · rename_i ws e3 e4
        cases h2
        have e1 := Nat.eq_of_beq_eq_true e1
        have e3 := Nat.eq_of_beq_eq_true e3
        have hv := hun _ _ _ e2 _ _ h3
        have ih := seg_ok hun o ty cs l ys _ _ h4 e4
        rw [e1, ← e3] at hv
        rw [List.length_append, List.take_add, hv, List.drop_drop]
        rw [ih]
      · cases h2
    · cases h2

theorem unD_ok : ∀ (fu : Nat) (t : TypeId) (d : DataW Unit) (vs : List Value), unD P fu t d = some vs → ∀ (fuel : Nat) (cs : List Value) (p : List MemPlace), DataW.trod enc P w base spare held fuel t cs = some (d, p) → cs = vs
  | 0, _, _, _, h => by cases h
  | fu + 1, t, d, vs, h => by
    intro fuel cs p hp
    cases fuel with
    | zero => simp [DataW.trod] at hp
    | succ fuel =>
      have hun : ∀ t d vs, unD P fu t d = some vs → ∀ cs p, DataW.trod enc P w base spare held fuel t cs = some (d, p) → cs = vs := fun t d vs h cs p => unD_ok fu t d vs h fuel cs p
      simp only [unD] at h
      split at h
      · rename_i b e
        cases h
        simp only [DataW.trod, e] at hp
        split at hp <;> simp_all
      · rename_i k k' n e
        cases h
        simp only [DataW.trod, e] at hp
        split at hp <;> first | cases hp | skip
        all_goals first
          | (split at hp
             · rename_i hh; simp at hp; obtain ⟨⟨rfl, rfl⟩, _⟩ := hp; rw [hh.1]
             · cases hp)
          | simp_all
      · rename_i fs ds e
        split at h
        · rename_i ws e2
          split at h
          · rename_i e3
            cases h
            simp only [DataW.trod, e] at hp
            split at hp
            · rename_i e4
              obtain ⟨xs, h5, h6⟩ := Option.map_eq_some_iff.1 hp
              simp only [Prod.mk.injEq, DataW.agg.injEq] at h6
              rw [← h6.1] at e2
              have := seg_ok hun (fun f : Field => f.offset) (fun f : Field => f.type) cs _ xs 0 _ h5 e2
              rw [List.drop_zero, List.take_of_length_le (by omega)] at this
              exact this
            · cases hp
          · cases h
        · cases h
      · rename_i n el ds e
        split at h
        · rename_i ws e2
          split at h
          · rename_i e3
            cases h
            simp only [DataW.trod, e] at hp
            split at hp
            · rename_i e4
              obtain ⟨xs, h5, h6⟩ := Option.map_eq_some_iff.1 hp
              simp only [Prod.mk.injEq, DataW.agg.injEq] at h6
              rw [← h6.1] at e2
              have := seg_ok hun (fun i => i * P.cellsOf el) (fun _ => el) cs _ xs 0 _ h5 e2
              rw [List.drop_zero, List.take_of_length_le (by omega)] at this
              exact this
            · cases hp
          · cases h
        · cases h
      · cases h

end

section
variable [Val]

/-- A call, as the row sees it. -/
theorem calls_of_ok {C : Cfg} {f : FuncId} {args : List Value} {r : Value} {H' : List HObj} (h : CallOk C f args [] r H') {args' : Array Value} {W : World} (ha : args.all flat = true) (hargs : args'.toList = args) (hr : flat r = true)
    (hG : ∀ g vs, C.G g = some vs → g < W.heap.size ∧ vs.all cellOk = true ∧ vs.all flat = true ∧ ∃ c e fr, W.heap[g]? = some (.cells c e fr) ∧ c.toList = vs) :
    Calls C.P f args' W fun e W' => e = .returned r ∧ W'.os = W.os ∧ W'.output = W.output ∧ W'.tape = W.tape ∧ ∀ b, b < W.heap.size → W'.heap[b]? = W.heap[b]? := by
  have hW0 : WR C W.heap.size (fun _ => none) [] W := by
    refine ⟨fun id o h => by simp at h, fun i j oi oj pi pj h => by simp at h, fun i o p h => by simp at h, fun i o p h => by simp at h, fun _ _ => rfl, fun g vs hg => ?_⟩
    obtain ⟨h1, h2, h3, c, e, fr, h4, h5⟩ := hG g vs hg
    refine ⟨h1, h2, c, e, fr, h4, ?_⟩
    rw [h5]
    exact ⟨rfl, fun i x y hx hy => by rw [hx] at hy; cases hy; exact .of_flat (List.all_eq_true.1 h3 x (List.mem_of_getElem? hx))⟩
  have hV : VRs noL (fun _ => none) args args'.toList := by
    rw [hargs]
    exact ⟨rfl, fun i x y hx hy => by rw [hx] at hy; cases hy; exact .of_flat (List.all_eq_true.1 ha x (List.mem_of_getElem? hx))⟩
  obtain ⟨v, mu', w', a1, a2, a3, _, a5⟩ := h W.heap.size (fun _ => none) W args' (Nat.le_refl _) hV hW0
  rw [flat_eq hr a1] at a5
  intro cs
  obtain ⟨fr, b1, b2, b3⟩ := a5 cs
  exact ⟨.returned r, w', fr, ⟨rfl, a3.os, a3.output, a3.tape, fun b hb => a3.keep b hb no_own⟩, b1, b2, b3⟩

end
end Sx
end Go.Am

/-
  FROM A CALL TO THE ROW: arguments without addresses.
-/
namespace Go.Am
namespace Sx
open Go.ChangeShapes Go.WideShapes Go.ChangeAt Go.WideMaps Go.WideElems Go.RowKit

theorem kept_of {W W' : World} (h1 : W'.os = W.os) (h2 : W'.output = W.output) (h3 : ∀ b, b < W.heap.size → W'.heap[b]? = W.heap[b]?) (may : MemPlace → Prop) : W.keptBut W' may := by
  refine ⟨h1, h2, fun i hi => ?_⟩
  rw [h3 i hi]
  exact (World.keptBut_refl W may).2.2 i hi

theorem post_flat {H : Type} {enc : TypeId × Value → H} {P : Program} {f : Func} {s : ChangeSpec} {apart fresh handsOn again : Bool} {W W' : World} {args : Array Value} {v : Value} {ds gs : List (DataW H)}
    (hW : DataW.Whole enc P f.params.toList s.vars apart W args.toList ds gs [])
    (hres : ∀ (b : Nat) (sp : Nat → Bool) (hd : Bool), DataW.TrodAll enc P W' b sp hd f.resultTypes.toList (v.resultList f.resultTypes.size) (s.fn H (ds ++ gs)).results [])
    (hargs : ∀ sp : Nat → Bool, DataW.TrodAll enc P W' 0 sp true f.params.toList args.toList (s.fn H (ds ++ gs)).args [])
    (hvars : ∀ sp : Nat → Bool, DataW.TrodVars enc P W' sp s.vars (s.fn H (ds ++ gs)).vars [])
    (h1 : W'.os = W.os) (h2 : W'.output = W.output) (h3 : ∀ b, b < W.heap.size → W'.heap[b]? = W.heap[b]?)
    (hok : ∀ (j : Nat) (t : TypeId) (r : Value), f.resultTypes[j]? = some t → (v.resultList f.resultTypes.size)[j]? = some r → Value.okWide P W' .any 0 t r) :
    s.post enc P f apart fresh handsOn again W args v W' := by
  refine ⟨ds, gs, [], [], [], [], hW, hres _ _ _, hargs _, hvars _, kept_of h1 h2 h3 _, fun _ => ?_⟩
  refine ⟨hok, _, _, [], ⟨[], [], trodAll_append (hargs _) (hres _ _ _), hvars _, rfl, ?_, ?_⟩, ?_⟩
  · intro b off hp; cases hp
  · intro _; exact List.nodup_nil
  · intro p hp; cases hp

/-- A variable that is listed. -/
theorem laid_cells {P : Program} {w : World} {laid : List (String × DataW Unit)} {ps : List MemPlace} (h : DataW.LaidVars P w laid ps) : ∀ n d, (n, d) ∈ laid → ∀ g t fu vs, P.globalNamed n = some g → (P.globals[g]?).map (·.type) = some t → unD P fu t d = some vs →
    ∃ c e fr, w.heap[g]? = some (.cells c e fr) ∧ c.toList = vs := by
  induction laid generalizing ps with
  | nil => intro n d h; cases h
  | cons x l ih =>
    obtain ⟨n0, d0⟩ := x
    obtain ⟨g0, t0, cs, fuel, p, q, a1, a2, a3, a4, a5, a6⟩ := h
    intro n d hm g t fu vs b1 b2 b3
    rcases List.mem_cons.1 hm with e | hm
    · cases e
      rw [a1] at b1; cases b1
      rw [a2] at b2; cases b2
      have hc := unD_ok fu _ _ vs b3 _ _ _ a4
      unfold World.var? at a3
      rw [a1] at a3
      simp only [Option.bind_some] at a3
      split at a3
      · rename_i c ty fr e
        cases a3
        exact ⟨_, _, _, e, hc⟩
      · cases a3
    · exact ih a5 n d hm g t fu vs b1 b2 b3

section
variable [Val] [Kno]
/-- A closed function that says true. -/
theorem closed_true {C : Cfg} {Sg : FuncId → Option Sig} {T : Nat → Site} {call : CallB} (hc : CallBOk C Sg T call) {g : FuncId} (hs : Sg g = some ⟨[], [.leaf .b]⟩) (h : call (.f g) [] [] (fun l _ => match l with | [.b t] => t | _ => false) = true) :
    ∃ H', uCall C g [] [] (.bool true) H' := by
  obtain ⟨rs, h', ⟨sg, xs, ys, c1, c2, c3, c4⟩, hk⟩ := hc.f g [] [] _ (fun _ h => by cases h) h
  rw [hs] at c1
  cases c1
  have hx : xs = [] := by
    have := c2.1
    cases xs with
    | nil => rfl
    | cons x l => cases this
  subst hx
  obtain ⟨d1, d2, _⟩ := c3
  obtain ⟨y, rfl⟩ : ∃ y, ys = [y] := List.length_eq_one_iff.1 (areIs_length d1)
  · simp only [areIs, Bool.and_true] at d1
    cases y with
    | agg _ => cases d1
    | leaf l =>
      cases l with
      | b t =>
        simp only [lfsOf, S0.cells, List.map_cons, SL.lf, List.map_nil, List.append_nil] at d2
        subst d2
        have hk : t = true := hk
        subst hk
        exact ⟨_, c4⟩
      | l t =>
        simp only [lfsOf, S0.cells, List.map_cons, SL.lf, List.map_nil, List.append_nil] at d2
        subst d2
        have hk : t = true := hk
        subst hk
        exact ⟨_, c4⟩
      | i _ _ => cases d1
      | v _ => cases d1
end
end Sx
end Go.Am

