/-
  OPERATIONS, last part: calls; every operation; lists of operations.
-/
import Derived.Test.YtdngmncaohgacaaDoorSx6g
set_option linter.unusedSectionVars false
set_option linter.unusedSimpArgs false
set_option linter.unusedVariables false
set_option linter.constructorNameAsVariable false
namespace Go.Am
namespace Sx

section
variable [Val] [Kno] {R HT : Type} {A : Alg R HT} {X : Ctxt} {Sg : FuncId → Option Sig} {holds : R → Prop} {abs : HT → List HObj}
variable {ev : Env} {σ : St} {h : HT} {o : Oper} {K : KN R HT}

theorem lfsOf_one (x : S0) : lfsOf [x] = x.cells.map SL.lf := by simp [lfsOf]

/-- Results into a temporary. -/
theorem setR_ok (hA : AlgOk A X.C Sg X.T holds abs) (hR : Rp ev σ) {sks : List SK} {rs : List Lf} {ys : List S0} (hy : Told sks rs ys) {H' : List HObj} (ha : abs h = H')
    (hst : StepO X.C X.pts o σ (({ σ with heap := H' } : St).put o.dst (packA (valsOf ys)))) (hk : holds (setR A o.dst sks rs ev h K)) : Done X holds abs o σ K := by
  obtain ⟨y1, rfl, y3⟩ := hy
  unfold setR at hk
  split at hk
  · rename_i sk
    obtain ⟨x, r, e1, e2, hk1⟩ := unS_ok hA hk
    obtain ⟨hr, hk2⟩ := hA.un0 _ _ hk1
    rw [hr, List.append_nil] at e1
    match ys, y1 with
    | [y], y1 =>
      simp only [areIs, Bool.and_true] at y1
      rw [lfsOf_one] at e1
      obtain ⟨v1, v2⟩ := S0.is_val y1 e2 e1
      refine done_heap hR H' ha (s := .st x) (v2 (y3 y (by simp))) ?_ hk2
      rw [show (SV.st x).val = packA (valsOf [y]) from by simp [SV.val, valsOf, packA, v1]]
      exact hst
    | [], y1 => cases y1
    | _ :: _ :: _, y1 => simp [areIs] at y1
  · obtain ⟨hr, hk1⟩ := hA.un0 _ _ hk
    match ys, y1 with
    | [], _ => exact done_heap hR H' ha (s := .un) trivial hst hk1
    | _ :: _, y1 => cases y1
  · rename_i h1 h2
    obtain ⟨xs, r, e1, e2, hk1⟩ := unSs_ok hA hk
    obtain ⟨hr, hk2⟩ := hA.un0 _ _ hk1
    rw [hr, List.append_nil] at e1
    obtain ⟨v1, v2⟩ := areIs_val y1 e2 e1
    have hlen : 2 ≤ xs.length := by
      match xs, e2 with
      | [], e2 => cases sks with
        | nil => exact absurd rfl h2
        | cons _ _ => cases e2
      | [x], e2 => cases sks with
        | nil => exact absurd rfl h2
        | cons a l => cases l with
          | nil => exact absurd rfl (h1 _)
          | cons _ _ => simp [areIs] at e2
      | _ :: _ :: _, _ => simp
    refine done_heap hR H' ha (s := .tup xs) ⟨v2 y3, hlen⟩ ?_ hk2
    have : (SV.tup xs).val = packA (valsOf ys) := by
      rw [v1]
      match xs, hlen with
      | a :: b :: l, _ => rfl
    rw [this]
    exact hst

theorem all_noLoc {xs : List S0} (hg : ∀ x ∈ xs, x.good) : (valsOf xs).all noLoc = true := by
  simp only [valsOf, List.all_eq_true, List.mem_map]
  rintro _ ⟨x, hx, rfl⟩
  exact S0.noLoc (hg x hx)

theorem call_ok (hA : AlgOk A X.C Sg X.T holds abs) (hR : Rp ev σ) (ha : abs h = σ.heap) {c : Call} {hs : List SK} (ho : o.op = .call c)
    (hk : holds (match svals ev c.args.toList with
    | some xs => match c.callee with
      | .builtin b => builtinE A X o.dst (resSK hs) b xs c.argTypes ev h K
      | .value f => match sval ev f with
        | .st (.leaf (.v v)) => match f with
          | .func g => match Sg g with
            | some sg => match areIs xs sg.ps with
              | true => A.call g (lfsOf xs) h fun rs h => setR A o.dst sg.rs rs ev h K
              | false => A.fail
            | none => A.fail
          | _ => A.callv v (valsOf xs) hs h fun rs h => setR A o.dst hs rs ev h K
        | _ => A.fail
      | _ => A.fail
    | none => A.fail)) : Done X holds abs o σ K := by
  split at hk
  · rename_i xs hx
    obtain ⟨hv, hg⟩ := hR.svals hx
    have hnl := all_noLoc hg
    split at hk
    · rename_i b hb
      exact builtin_ok hA hR ha ho hb hx hk
    · rename_i f hc
      split at hk
      · rename_i v hf
        obtain ⟨h1, g1⟩ := hR.sval hf (by simp)
        simp only [SV.val, S0.val, SL.val] at h1
        have gv : goodV v = true := g1 (.v v) (by simp [S0.cells])
        have heff : ∀ {g : FuncId} {first cap : Array Value}, v = .func (.func g) first cap → effOf X.C X.pts (oval σ.tmps) o = some (.call g (first.toList ++ valsOf xs ++ cap.toList)) := by
          intro g first cap e
          subst e
          simp only [effOf, ho, callEff, hc, hv, hnl, h1, (goodV_iff.1 gv).1, Bool.not_true, Bool.false_eq_true, if_false, if_true]
        split at hk
        · rename_i g
          have e : v = .func (.func g) #[] #[] := by
            have := h1
            simp only [oval] at this
            exact this.symm
          split at hk
          · rename_i sg hsg
            split at hk
            · rename_i hps
              obtain ⟨rs, h', ⟨sg', xs', ys, c1, ⟨c2, c3, c4⟩, c5, c6⟩, hk1⟩ := hA.call _ _ _ _ hk
              rw [hsg] at c1
              cases c1
              obtain ⟨v1, _⟩ := areIs_val hps c2 c3.symm
              rw [ha] at c6
              refine setR_ok hA hR c5 rfl (.inl ⟨_, heff e, packA (valsOf ys), abs h', ?_, rfl⟩) hk1
              rw [v1]
              show uCall X.C g _ _ _ _
              simpa using c6
            · exact absurd hk hA.fail
          · exact absurd hk hA.fail
        · obtain ⟨rs, h', ⟨ys, c1, c2⟩, hk1⟩ := hA.callv _ _ _ _ _ hk
          rw [ha] at c2
          rcases c2 with ⟨g, first, cap, e, c2⟩ | ⟨l, e, c2⟩
          · exact setR_ok hA hR c1 rfl (.inl ⟨_, heff e, packA (valsOf ys), abs h', c2, rfl⟩) hk1
          · have heff2 : effOf X.C X.pts (oval σ.tmps) o = some (.yield l (valsOf xs)) := by
              subst e
              simp only [effOf, ho, callEff, hc, hv, hnl, h1, Bool.not_true, Bool.false_eq_true, if_false]
              rfl
            exact setR_ok hA hR c1 rfl (.inl ⟨_, heff2, packA (valsOf ys), abs h', c2, rfl⟩) hk1
      · exact absurd hk hA.fail
    · exact absurd hk hA.fail
  · exact absurd hk hA.fail

/-- EVERY OPERATION. -/
theorem opE_ok (hA : AlgOk A X.C Sg X.T holds abs) (hR : Rp ev σ) (ha : abs h = σ.heap) {hs : List SK} (hk : holds (opE A X Sg o hs ev h K)) : Done X holds abs o σ K := by
  unfold opE at hk
  split at hk
  · rename_i x ho
    split at hk
    · exact absurd hk hA.fail
    · rename_i hn; exact move_ok hR ha (.inl ho) rfl (fun e => hn e) hk
  · rename_i x ho
    split at hk
    · exact absurd hk hA.fail
    · rename_i hn; exact move_ok hR ha (.inr ho) rfl (fun e => hn e) hk
  · rename_i c a b ho; exact pick_ok hA hR ha ho hk
  · rename_i t ho
    split at hk
    · rename_i x hx
      obtain ⟨z, h1, h2, h3⟩ := zeroS_ok hx
      exact newV_ok hA hR ha h3 (by simp only [effOf, ho, h1, Option.bind_some, h2]) (.inr ho) hk
    · exact absurd hk hA.fail
  · rename_i t y ho
    split at hk
    · rename_i x hx
      obtain ⟨h1, h2⟩ := hR.sval hx (by simp)
      exact newV_ok hA hR ha h2 (by simp only [effOf, ho, h1]; rfl) (.inl ⟨y, ho⟩) hk
    · exact absurd hk hA.fail
  · rename_i t ps ho; exact build_ok hA hR ha ho hk
  · rename_i t n ps ho; exact buildSlice_ok hA hR ha ho hk
  · rename_i t a ho
    split at hk
    · rename_i agg hag
      split at hk
      · rename_i hb; exact load_ok hA hR ha ho hag (eqB_eq hb) hk
      · exact absurd hk hA.fail
    · exact absurd hk hA.fail
  · rename_i t a y ho
    split at hk
    · rename_i x hx; exact store_ok hA hR ha ho hx hk
    · exact absurd hk hA.fail
  · rename_i x ho; exact nilCheck_ok hA hR ha ho hk
  · rename_i op t x y yt ho
    split at hk
    · rename_i a b e1 e2; exact bin_ok hA hR ha ho e1 e2 hk
    · exact absurd hk hA.fail
  · rename_i op t x ho; exact un_ok hA hR ha ho hk
  · rename_i sT dT x ho; exact conv_ok hA hR ha ho hk
  · rename_i fn first cap ho; exact makeFunc_ok hA hR ha ho hk
  · rename_i t r ho; exact makeMap_ok hA hR ha ho hk
  · rename_i t l c ho; exact makeSlice_ok hA hR ha ho hk
  · rename_i t x lo hi mx ho; exact sliceE_ok hA hR ha ho hk
  · rename_i t x f ho; exact fieldAddr_ok hA hR ha ho hk
  · rename_i t x i ho; exact indexAddr_ok hA hR ha ho hk
  · rename_i t x f ho; exact field_ok hA hR ha ho hk
  · rename_i t x i ho; exact index_ok hA hR ha ho hk
  · rename_i t m k ok ho; exact look_ok hA hR ha ho hk
  · rename_i t m k v ho; exact mapUp_ok hA hR ha (.inl ho) hk
  · rename_i t m k v ho; exact mapUp_ok hA hR ha (.inr ho) hk
  · rename_i t m k ho; exact mapEn_ok hA hR ha ho hk
  · rename_i t m s v ho; exact entSt_ok hA hR ha ho hk
  · rename_i t i ho; exact extract_ok hA hR ha ho hk
  · rename_i c ho; exact call_ok hA hR ha ho hk
  · exact absurd hk hA.fail

/-- A step of a region. -/
def DoneI (X : Ctxt) (holds : R → Prop) (abs : HT → List HObj) (ops : Array Oper) (i : Nat) (o : Oper) (σ : St) (K : KN R HT) : Prop :=
  ∃ σ' ev' h', stepRel X.C (uB X.C) X.pts ops i σ σ' ∧ Rp ev' σ' ∧ abs h' = σ'.heap ∧ Fr o.dst.toList (opKey X.pts o).toList (opRow X.pts o).toList σ σ' ∧ holds (K ev' h')

theorem rp_guard (hR : Rp ev σ) {d : Nat} {t : Bool} (hd : ev.tm.getD d .no = .st (.leaf (.b t))) : Rp ⟨ev.tm.set d (.st (.leaf (.l t))), ev.lc⟩ σ := by
  obtain ⟨h1, _⟩ := hR.at hd (by simp)
  refine ⟨by simp [hR.len], fun i x hx => ?_, hR.llen, hR.row⟩
  simp only [List.getElem?_set] at hx
  split at hx
  · rename_i hi
    subst hi
    split at hx
    · cases hx; exact ⟨h1, leaf_good trivial⟩
    · cases hx
  · exact hR.val i x hx

theorem opG_ok (hA : AlgOk A X.C Sg X.T holds abs) (hR : Rp ev σ) (ha : abs h = σ.heap) {ops : Array Oper} {i : Nat} {hs : List SK} (hi : ops[i]? = some o) (hk : holds (opG A X Sg ops o hs ev h K)) : DoneI X holds abs ops i o σ K := by
  have wanted : ∀ {ev : Env}, Rp ev σ → wantedA ops σ.tmps o = some true → holds (opE A X Sg o hs ev h K) → DoneI X holds abs ops i o σ K := by
    intro ev hR hw hk
    obtain ⟨σ', ev', h', q1, q2, q3, q4, q5⟩ := opE_ok hA hR ha hk
    exact ⟨σ', ev', h', by unfold stepRel; simp only [hi, hw]; exact q1, q2, q3, q4, q5⟩
  have unwanted : ∀ {ev : Env}, Rp ev σ → wantedA ops σ.tmps o = some false → holds (setD o.dst .un ev h K) → DoneI X holds abs ops i o σ K := by
    intro ev hR hw hk
    obtain ⟨ev', h1, h2⟩ := setD_ok hR (s := .un) trivial hk
    refine ⟨σ.put o.dst undef, ev', h, by unfold stepRel; simp only [hi, hw], h1, ?_, .put _ _ _ _, h2⟩
    rw [ha]; cases o.dst <;> rfl
  unfold opG at hk
  split at hk
  · rename_i hg
    exact wanted hR (by simp only [wantedA, hg]) hk
  · rename_i j want hg
    split at hk
    · rename_i d hd
      split at hk
      · rename_i b hb
        obtain ⟨h1, _⟩ := hR.at hb (by simp)
        have hw : wantedA ops σ.tmps o = some (b == want) := by
          simp only [wantedA, hg, hd, Option.bind_some, h1]; rfl
        split at hk
        · rename_i e; exact wanted hR (by rw [hw, e]) hk
        · rename_i e; exact unwanted hR (by rw [hw, e]) hk
      · rename_i hb
        obtain ⟨h1, _⟩ := hR.at hb (by simp)
        have hw : wantedA ops σ.tmps o = some false := by
          simp only [wantedA, hg, hd, Option.bind_some, h1]; rfl
        exact unwanted hR hw hk
      · rename_i t hb
        obtain ⟨h1, _⟩ := hR.at hb (by simp)
        have hw : wantedA ops σ.tmps o = some (t == want) := by
          simp only [wantedA, hg, hd, Option.bind_some, h1]; rfl
        have hR' := rp_guard hR hb
        split at hk
        · rcases hA.cond _ _ _ hk with ⟨ht, hk1⟩ | ⟨ht, hk1⟩
          · rw [setK_eq] at hk1
            subst ht
            exact wanted hR' hw hk1
          · rw [setK_eq] at hk1
            subst ht
            exact unwanted hR' hw hk1
        · rcases hA.cond _ _ _ hk with ⟨ht, hk1⟩ | ⟨ht, hk1⟩
          · rw [setK_eq] at hk1
            subst ht
            exact unwanted hR' hw hk1
          · rw [setK_eq] at hk1
            subst ht
            exact wanted hR' hw hk1
      · exact absurd hk hA.fail
    · exact absurd hk hA.fail

/-- What operations write. -/
def wsOf (l : List Oper) : List Nat := l.filterMap (·.dst)
def ksOf (pts : List Nat) (l : List Oper) : List Nat := l.filterMap (opKey pts)
def rsOf (pts : List Nat) (l : List Oper) : List Nat := l.filterMap (opRow pts)

theorem mem_toList_filterMap {f : Oper → Option Nat} {o : Oper} {l : List Oper} (ho : o ∈ l) : ∀ i ∈ (f o).toList, i ∈ l.filterMap f := by
  intro i hi
  rw [List.mem_filterMap]
  exact ⟨o, ho, by simpa using hi⟩

theorem opsE_ok (hA : AlgOk A X.C Sg X.T holds abs) {ops : Array Oper} : ∀ (l : List Oper) (i : Nat) (hs : List (List SK)) (ev : Env) (h : HT) (σ : St), ops.toList.drop i = l → Rp ev σ → abs h = σ.heap → holds (opsE A X Sg ops l hs ev h K) →
    ∃ σ' ev' h', opsRel X.C (uB X.C) X.pts ops (List.range' i l.length) σ σ' ∧ Rp ev' σ' ∧ abs h' = σ'.heap ∧ Fr (wsOf l) (ksOf X.pts l) (rsOf X.pts l) σ σ' ∧ holds (K ev' h')
  | [], i, hs, ev, h, σ, _, hR, ha, hk => ⟨σ, ev, h, rfl, hR, ha, .refl _ _ _ _, hk⟩
  | o :: l, i, hs, ev, h, σ, hl, hR, ha, hk => by
    have hi : ops[i]? = some o := by
      have : (ops.toList.drop i)[0]? = some o := by rw [hl]; rfl
      simpa using this
    obtain ⟨σ₁, ev₁, h₁, q1, q2, q3, q4, q5⟩ := opG_ok (K := fun ev h => opsE A X Sg ops l hs.tail ev h K) hA hR ha hi hk
    have hl' : ops.toList.drop (i + 1) = l := by
      rw [← List.drop_drop, hl]; rfl
    obtain ⟨σ', ev', h', p1, p2, p3, p4, p5⟩ := opsE_ok hA l (i + 1) hs.tail ev₁ h₁ σ₁ hl' q2 q3 q5
    refine ⟨σ', ev', h', ⟨σ₁, q1, p1⟩, p2, p3, ?_, p5⟩
    have f1 : Fr (wsOf (o :: l)) (ksOf X.pts (o :: l)) (rsOf X.pts (o :: l)) σ σ₁ := q4.mono (mem_toList_filterMap (by simp)) (mem_toList_filterMap (by simp)) (mem_toList_filterMap (by simp))
    have sub : ∀ (f : Oper → Option Nat) (i : Nat), i ∈ l.filterMap f → i ∈ (o :: l).filterMap f := by
      intro f i hi
      rw [List.mem_filterMap] at hi ⊢
      obtain ⟨x, hx, e⟩ := hi
      exact ⟨x, by simp [hx], e⟩
    exact f1.trans (p4.mono (sub _) (sub _) (sub _))

end
end Sx
end Go.Am
