/-
  OPERATIONS, second part: leaves taken apart; loads, stores.
-/
import Derived.Test.YtdngmncaohgacaaDoorSx6
set_option linter.unusedSectionVars false
set_option linter.unusedSimpArgs false
set_option linter.unusedVariables false
set_option linter.constructorNameAsVariable false
namespace Go.Am

theorem SL.lf_val {a b : SL} {k : LK} (ha : a.is k = true) (hb : b.is k = true) (he : a.lf = b.lf) : a.val = b.val ∧ (a.good → b.good) := by
  cases a <;> cases b <;> cases k <;> simp only [SL.lf, Lf.i.injEq, Lf.b.injEq, Lf.v.injEq, reduceCtorEq, SL.is, Bool.false_eq_true] at he ha hb ⊢ <;> try (subst he; exact ⟨rfl, id⟩)
  subst he
  exact ⟨by simp only [SL.val]; rw [kNo_inj ha, kNo_inj hb], id⟩

theorem allIs_length : ∀ {cs : List SL} {ks : List LK}, allIs cs ks = true → cs.length = ks.length
  | [], [], _ => rfl
  | c :: cs, k :: ks, h => by
    simp only [allIs, Bool.and_eq_true] at h
    simp [allIs_length h.2]
  | [], _ :: _, h => by cases h
  | _ :: _, [], h => by cases h

theorem allIs_val : ∀ {a b : List SL} {ks : List LK}, allIs a ks = true → allIs b ks = true → a.map SL.lf = b.map SL.lf → a.map SL.val = b.map SL.val ∧ ((∀ c ∈ a, c.good) → ∀ c ∈ b, c.good)
  | [], [], [], _, _, _ => ⟨rfl, fun _ _ h => by cases h⟩
  | a :: as, b :: bs, k :: ks, ha, hb, he => by
    simp only [allIs, Bool.and_eq_true] at ha hb
    simp only [List.map_cons, List.cons.injEq] at he
    obtain ⟨h1, h2⟩ := SL.lf_val ha.1 hb.1 he.1
    obtain ⟨h3, h4⟩ := allIs_val ha.2 hb.2 he.2
    refine ⟨by simp [h1, h3], fun hg c hc => ?_⟩
    rcases List.mem_cons.1 hc with rfl | hc
    · exact h2 (hg a (by simp))
    · exact h4 (fun c hc => hg c (by simp [hc])) c hc
  | [], _ :: _, [], _, hb, _ => by cases hb
  | [], _, _ :: _, ha, _, _ => by cases ha
  | _ :: _, _, [], ha, _, _ => by cases ha
  | _ :: _, [], _ :: _, _, hb, _ => by cases hb

theorem S0.is_val {a b : S0} {sk : SK} (ha : a.is sk = true) (hb : b.is sk = true) (he : a.cells.map SL.lf = b.cells.map SL.lf) : a.val = b.val ∧ (a.good → b.good) := by
  cases sk with
  | leaf k =>
    cases a with
    | agg _ => cases ha
    | leaf a =>
      cases b with
      | agg _ => cases hb
      | leaf b =>
        simp only [S0.cells, List.map_cons, List.map_nil, List.cons.injEq, and_true] at he
        obtain ⟨h1, h2⟩ := SL.lf_val ha hb he
        refine ⟨h1, fun hg l hl => ?_⟩
        simp only [S0.cells, List.mem_singleton] at hl
        subst hl
        exact h2 (hg a (by simp [S0.cells]))
  | agg ks =>
    cases a with
    | leaf _ => cases ha
    | agg a =>
      cases b with
      | leaf _ => cases hb
      | agg b =>
        obtain ⟨h1, h2⟩ := allIs_val ha hb he
        exact ⟨by simp only [S0.val, h1], h2⟩

theorem S0.is_len {a : S0} {sk : SK} (ha : a.is sk = true) : ∃ n, a.cells.length = n ∧ ∀ b : S0, b.is sk = true → b.cells.length = n := by
  refine ⟨_, rfl, fun b hb => ?_⟩
  cases sk with
  | leaf k =>
    cases a with
    | agg _ => cases ha
    | leaf a => cases b with
      | agg _ => cases hb
      | leaf b => rfl
  | agg ks =>
    cases a with
    | leaf _ => cases ha
    | agg a => cases b with
      | leaf _ => cases hb
      | agg b => exact (allIs_length hb).trans (allIs_length ha).symm

theorem areIs_val : ∀ {a b : List S0} {sks : List SK}, areIs a sks = true → areIs b sks = true → lfsOf a = lfsOf b → valsOf a = valsOf b ∧ ((∀ c ∈ a, c.good) → ∀ c ∈ b, c.good)
  | [], [], [], _, _, _ => ⟨rfl, fun _ _ h => by cases h⟩
  | a :: as, b :: bs, k :: ks, ha, hb, he => by
    simp only [areIs, Bool.and_eq_true] at ha hb
    obtain ⟨n, hn1, hn2⟩ := S0.is_len ha.1
    have hn2 := hn2 b hb.1
    simp only [lfsOf] at he
    obtain ⟨he1, he2⟩ := List.append_inj he (by simp [hn1, hn2])
    obtain ⟨h1, h2⟩ := S0.is_val ha.1 hb.1 he1
    obtain ⟨h3, h4⟩ := areIs_val ha.2 hb.2 he2
    refine ⟨by simp only [valsOf, List.map_cons, h1] at h3 ⊢; rw [h3], fun hg c hc => ?_⟩
    rcases List.mem_cons.1 hc with rfl | hc
    · exact h2 (hg a (by simp))
    · exact h4 (fun c hc => hg c (by simp [hc])) c hc
  | [], _ :: _, [], _, hb, _ => by cases hb
  | [], _, _ :: _, ha, _, _ => by cases ha
  | _ :: _, _, [], ha, _, _ => by cases ha
  | _ :: _, [], _ :: _, _, hb, _ => by cases hb

section
variable [Val] [Kno] {R HT : Type} {A : Alg R HT} {X : Ctxt} {Sg : FuncId → Option Sig} {holds : R → Prop} {abs : HT → List HObj}
variable {ev : Env} {σ : St} {h : HT} {o : Oper} {K : KN R HT}

theorem unL_ok {C : Cfg} {T : Nat → Site} (hA : AlgOk A C Sg T holds abs) : ∀ {ks : List LK} {ls : List Lf} {K : List SL → List Lf → R}, holds (unL A ks ls K) →
    ∃ cs r, ls = cs.map SL.lf ++ r ∧ allIs cs ks = true ∧ holds (K cs r)
  | [], ls, K, hk => ⟨[], ls, rfl, rfl, hk⟩
  | .i k :: ks, ls, K, hk => by
    obtain ⟨n, r, rfl, hk1⟩ := hA.unI _ _ hk
    obtain ⟨cs, r', rfl, h2, h3⟩ := unL_ok hA (ks := ks) hk1
    exact ⟨.i k n :: cs, r', rfl, by simp [allIs, SL.is, kSame_self, h2], h3⟩
  | .b :: ks, ls, K, hk => by
    obtain ⟨n, r, rfl, hk1⟩ := hA.unB _ _ hk
    obtain ⟨cs, r', rfl, h2, h3⟩ := unL_ok hA (ks := ks) hk1
    exact ⟨.b n :: cs, r', rfl, by simp [allIs, SL.is, h2], h3⟩
  | .v :: ks, ls, K, hk => by
    obtain ⟨n, r, rfl, hk1⟩ := hA.unV _ _ hk
    obtain ⟨cs, r', rfl, h2, h3⟩ := unL_ok hA (ks := ks) hk1
    exact ⟨.v n :: cs, r', rfl, by simp [allIs, SL.is, h2], h3⟩

theorem unS_ok {C : Cfg} {T : Nat → Site} (hA : AlgOk A C Sg T holds abs) {sk : SK} {ls : List Lf} {K : S0 → List Lf → R} (hk : holds (unS A sk ls K)) :
    ∃ x r, ls = x.cells.map SL.lf ++ r ∧ x.is sk = true ∧ holds (K x r) := by
  cases sk with
  | leaf k =>
    cases k with
    | i k =>
      obtain ⟨n, r, rfl, hk1⟩ := hA.unI _ _ hk
      exact ⟨.leaf (.i k n), r, rfl, by simp [S0.is, SL.is, kSame_self], hk1⟩
    | b =>
      obtain ⟨n, r, rfl, hk1⟩ := hA.unB _ _ hk
      exact ⟨.leaf (.b n), r, rfl, rfl, hk1⟩
    | v =>
      obtain ⟨n, r, rfl, hk1⟩ := hA.unV _ _ hk
      exact ⟨.leaf (.v n), r, rfl, rfl, hk1⟩
  | agg ks =>
    obtain ⟨cs, r, h1, h2, h3⟩ := unL_ok hA hk
    exact ⟨.agg cs, r, h1, h2, h3⟩

theorem unSs_ok {C : Cfg} {T : Nat → Site} (hA : AlgOk A C Sg T holds abs) : ∀ {sks : List SK} {ls : List Lf} {K : List S0 → List Lf → R}, holds (unSs A sks ls K) →
    ∃ xs r, ls = lfsOf xs ++ r ∧ areIs xs sks = true ∧ holds (K xs r)
  | [], ls, K, hk => ⟨[], ls, rfl, rfl, hk⟩
  | sk :: sks, ls, K, hk => by
    have hk0 : holds (unS A sk ls fun x r => unSs A sks r fun xs r => K (x :: xs) r) := hk
    obtain ⟨x, r, rfl, h1, hk1⟩ := unS_ok hA hk0
    obtain ⟨xs, r', rfl, h2, h3⟩ := unSs_ok hA (sks := sks) hk1
    exact ⟨x :: xs, r', by simp [lfsOf], by simp [areIs, h1, h2], h3⟩

theorem ucL_ok {C : Cfg} {T : Nat → Site} (hA : AlgOk A C Sg T holds abs) : ∀ {ks : List LK} {ls : List Value} {K : List SL → List Value → R}, holds (ucL A ks ls K) →
    ∃ cs r, ls = cs.map SL.val ++ r ∧ allIs cs ks = true ∧ (∀ c ∈ cs, c.good) ∧ holds (K cs r)
  | [], ls, K, hk => ⟨[], ls, rfl, rfl, by simp, hk⟩
  | .i k :: ks, ls, K, hk => by
    obtain ⟨n, r, rfl, hk1⟩ := hA.ucI _ _ _ hk
    obtain ⟨cs, r', rfl, h2, h3, h4⟩ := ucL_ok hA (ks := ks) hk1
    exact ⟨.i k n :: cs, r', rfl, by simp [allIs, SL.is, kSame_self, h2], List.forall_mem_cons.2 ⟨trivial, h3⟩, h4⟩
  | .b :: ks, ls, K, hk => by
    obtain ⟨n, r, rfl, hk1⟩ := hA.ucB _ _ hk
    obtain ⟨cs, r', rfl, h2, h3, h4⟩ := ucL_ok hA (ks := ks) hk1
    exact ⟨.b n :: cs, r', rfl, by simp [allIs, SL.is, h2], List.forall_mem_cons.2 ⟨trivial, h3⟩, h4⟩
  | .v :: ks, ls, K, hk => by
    obtain ⟨n, r, rfl, hk1⟩ := hA.ucV _ _ hk
    obtain ⟨hg, hk2⟩ := hA.chk _ _ hk1
    obtain ⟨cs, r', rfl, h2, h3, h4⟩ := ucL_ok hA (ks := ks) hk2
    exact ⟨.v n :: cs, r', rfl, by simp [allIs, SL.is, h2], List.forall_mem_cons.2 ⟨hg, h3⟩, h4⟩

theorem ucS_ok {C : Cfg} {T : Nat → Site} (hA : AlgOk A C Sg T holds abs) {sk : SK} {ls : List Value} {K : S0 → List Value → R} (hk : holds (ucS A sk ls K)) :
    ∃ x r, ls = x.cells.map SL.val ++ r ∧ x.is sk = true ∧ x.good ∧ holds (K x r) := by
  cases sk with
  | leaf k =>
    cases k with
    | i k =>
      obtain ⟨n, r, rfl, hk1⟩ := hA.ucI _ _ _ hk
      exact ⟨.leaf (.i k n), r, rfl, by simp [S0.is, SL.is, kSame_self], fun l hl => by simp only [S0.cells, List.mem_singleton] at hl; subst hl; trivial, hk1⟩
    | b =>
      obtain ⟨n, r, rfl, hk1⟩ := hA.ucB _ _ hk
      exact ⟨.leaf (.b n), r, rfl, rfl, fun l hl => by simp only [S0.cells, List.mem_singleton] at hl; subst hl; trivial, hk1⟩
    | v =>
      obtain ⟨n, r, rfl, hk1⟩ := hA.ucV _ _ hk
      obtain ⟨hg, hk2⟩ := hA.chk _ _ hk1
      exact ⟨.leaf (.v n), r, rfl, rfl, fun l hl => by simp only [S0.cells, List.mem_singleton] at hl; subst hl; exact hg, hk2⟩
  | agg ks =>
    obtain ⟨cs, r, h1, h2, h3, h4⟩ := ucL_ok hA hk
    exact ⟨.agg cs, r, h1, h2, h3, h4⟩

theorem ucSs_ok {C : Cfg} {T : Nat → Site} (hA : AlgOk A C Sg T holds abs) : ∀ {sks : List SK} {ls : List Value} {K : List S0 → List Value → R}, holds (ucSs A sks ls K) →
    ∃ xs r, ls = cellsOf0 xs ++ r ∧ areIs xs sks = true ∧ (∀ x ∈ xs, x.good) ∧ holds (K xs r)
  | [], ls, K, hk => ⟨[], ls, rfl, rfl, by simp, hk⟩
  | sk :: sks, ls, K, hk => by
    have hk0 : holds (ucS A sk ls fun x r => ucSs A sks r fun xs r => K (x :: xs) r) := hk
    obtain ⟨x, r, rfl, h1, hg, hk1⟩ := ucS_ok hA hk0
    obtain ⟨xs, r', rfl, h2, h3, h4⟩ := ucSs_ok hA (sks := sks) hk1
    refine ⟨x :: xs, r', by simp [cellsOf0], by simp [areIs, h1, h2], fun c hc => ?_, h4⟩
    rcases List.mem_cons.1 hc with rfl | hc
    · exact hg
    · exact h3 c hc

/-- Cells of a shape make one value. -/
def mkV (agg : Bool) (cs : List Value) (v : Value) : Prop := (agg = true ∧ v = .agg ⟨cs⟩) ∨ (agg = false ∧ cs = [v])
theorem mkV_is {x : S0} {sk : SK} (hx : x.is sk = true) {v : Value} (hv : mkV (skAgg sk) (x.cells.map SL.val) v) : x.val = v := by
  cases sk with
  | leaf k =>
    cases x with
    | agg _ => cases hx
    | leaf l =>
      rcases hv with ⟨h, _⟩ | ⟨_, h⟩
      · cases h
      · simp only [S0.cells, List.map_cons, List.map_nil, List.cons.injEq, and_true] at h
        exact h
  | agg ks =>
    cases x with
    | leaf _ => cases hx
    | agg cs =>
      rcases hv with ⟨_, h⟩ | ⟨h, _⟩
      · exact h.symm
      · cases h
theorem eqB_eq {a b : Bool} (h : eqB a b = true) : a = b := by cases a <;> cases b <;> first | rfl | cases h

theorem mkS0_ok {agg : Bool} {cs : List SL} {x : S0} (hx : mkS0 agg cs = some x) : x.cells = cs ∧ mkV agg (cs.map SL.val) x.val := by
  unfold mkS0 at hx
  split at hx
  · cases hx; exact ⟨rfl, .inl ⟨rfl, rfl⟩⟩
  · cases hx; exact ⟨rfl, .inr ⟨rfl, rfl⟩⟩
  · cases hx

theorem readVar_ok {P : Program} {t : TypeId} {agg : Bool} (hag : aggT P t = some agg) {vs cs : List Value} {off : Nat} (hc : cut vs off (if agg then P.cellsOf t else 1) = some cs) :
    ∃ v, readVar P t vs off = some v ∧ mkV agg cs v := by
  unfold aggT at hag
  unfold readVar
  split at hag
  · rename_i fs e
    cases hag
    rw [e]
    simp only [if_true] at hc
    exact ⟨.agg ⟨cs⟩, by simp [hc], .inl ⟨rfl, rfl⟩⟩
  · rename_i fs e
    cases hag
    rw [e]
    simp only [if_true] at hc
    exact ⟨.agg ⟨cs⟩, by simp [hc], .inl ⟨rfl, rfl⟩⟩
  · rename_i d h1 h2 e
    cases hag
    rw [e]
    simp only [Bool.false_eq_true, if_false] at hc
    unfold cut at hc
    split at hc
    · rename_i hle
      cases hc
      have hlt : off < vs.length := by omega
      have hcs : (vs.drop off).take 1 = [vs[off]] := by
        rw [List.drop_eq_getElem_cons hlt]; rfl
      refine ⟨vs[off], ?_, .inr ⟨rfl, hcs⟩⟩
      simp [hlt]
    · cases hc
  · cases hag

theorem setC_ok (hA : AlgOk A X.C Sg X.T holds abs) {dst : Option Tmp} {sk : SK} {cs : List Value} {v : Value} (hv : mkV (skAgg sk) cs v) (hk : holds (setC A dst sk cs ev h K)) :
    ∃ x : S0, x.val = v ∧ x.good ∧ holds (setD dst (.st x) ev h K) := by
  obtain ⟨x, r, h1, h2, h3, hk1⟩ := ucS_ok hA hk
  obtain ⟨hr, hk2⟩ := hA.uc0 _ _ hk1
  rw [hr, List.append_nil] at h1
  subst h1
  exact ⟨x, mkV_is h2 hv, h3, hk2⟩

theorem cutS_ok {cs ds : List SL} {off n : Nat} (hc : cutS cs off n = some ds) : cut (cs.map SL.val) off n = some (ds.map SL.val) ∧ (∀ d ∈ ds, d ∈ cs) := by
  unfold cutS at hc
  unfold cut
  split at hc
  · rename_i hle
    cases hc
    rw [if_pos (by simpa using hle)]
    exact ⟨by simp [List.map_drop, List.map_take], fun d hd => List.mem_of_mem_drop (List.mem_of_mem_take hd)⟩
  · cases hc

theorem rowAt_ok (hR : Rp ev σ) {s : Nat} {cs : List SL} (hr : rowAt ev s = some cs) : σ.loc[s]? = some (some (cs.map SL.val)) ∧ (∀ c ∈ cs, c.good) ∧ ev.lc[s]? = some (.row cs) := by
  unfold rowAt at hr
  split at hr
  · rename_i ds e
    cases hr
    rw [List.getD_eq_getElem?_getD] at e
    cases he : ev.lc[s]? with
    | none => rw [he] at e; cases e
    | some r =>
      rw [he] at e
      simp only [Option.getD_some] at e
      subst e
      have := hR.row s _ he
      exact ⟨this.1, this.2, rfl⟩
  · cases hr

theorem keyOf_s {pts : List Nat} {a : Operand} {s : Nat} (h : keyOf pts a = s + 2) : ∃ t, a = .tmp t := by
  cases a with
  | tmp t => exact ⟨t, rfl⟩
  | const v => simp [keyOf] at h
  | global g => simp [keyOf] at h
  | func f => simp [keyOf] at h

/-- Leaves picked out of a row are cells cut out of it. -/
theorem pickL_ok {cs : List SL} {base : Nat} {ix : List (Int × Nat)} {n : Nat} {ls : List Lf} (hp : pickL (cs.map SL.lf) base ix n = some ls) :
    ∃ ds, cutS cs (offX base ix) n = some ds ∧ ls = ds.map SL.lf := by
  unfold pickL at hp
  split at hp
  · rename_i hle
    cases hp
    refine ⟨_, by unfold cutS; rw [if_pos (by simpa using hle)], by simp [List.map_drop, List.map_take]⟩
  · cases hp

theorem offX_le : ∀ (ix : List (Int × Nat)) (base : Nat), base ≤ offX base ix
  | [], base => Nat.le_refl _
  | p :: l, base => Nat.le_trans (Nat.le_add_right _ _) (offX_le l _)
theorem allAt_ok {cs ds : List SL} {ks : List LK} : ∀ {ix : List (Int × Nat)} {base : Nat}, allAt cs ks base ix = true → cutS cs (offX base ix) ks.length = some ds → allIs ds ks = true
  | [], base, h1, h2 => by
    simp only [allAt, offX] at h1 h2
    rw [h2] at h1
    exact h1
  | p :: l, base, h1, h2 => by
    simp only [allAt, Bool.and_eq_true, List.all_eq_true, Bool.not_eq_true', offX] at h1 h2
    obtain ⟨h0, h1⟩ := h1
    refine allAt_ok (ix := l) (h1 p.1.toNat ?_) h2
    have hp : p.2 ≠ 0 := fun e => by rw [e] at h0; cases h0
    have hle : offX (base + p.1.toNat * p.2) l ≤ cs.length := by
      unfold cutS at h2
      split at h2
      · omega
      · cases h2
    have := offX_le l (base + p.1.toNat * p.2)
    have h3 : p.1.toNat ≤ p.1.toNat * p.2 := Nat.le_mul_of_pos_right _ (Nat.pos_of_ne_zero hp)
    simp only [List.mem_range]
    omega

theorem is_skKs {x : S0} {sk : SK} (hx : x.is sk = true) : allIs x.cells (skKs sk) = true := by
  cases sk with
  | leaf k =>
    cases x with
    | agg _ => cases hx
    | leaf l => simp [S0.cells, skKs, allIs]; exact hx
  | agg ks =>
    cases x with
    | leaf _ => cases hx
    | agg cs => exact hx

/-- Leaves of a row into a temporary. -/
theorem setL_ok (hA : AlgOk A X.C Sg X.T holds abs) {dst : Option Tmp} {sk : SK} {ds : List SL} {v : Value} (hd : allIs ds (skKs sk) = true) (hg : ∀ c ∈ ds, c.good) (hv : mkV (skAgg sk) (ds.map SL.val) v)
    (hk : holds (setL A dst sk (ds.map SL.lf) ev h K)) : ∃ x : S0, x.val = v ∧ x.good ∧ holds (setD dst (.st x) ev h K) := by
  obtain ⟨x, r, e1, e2, hk1⟩ := unS_ok hA hk
  obtain ⟨hr0, hk2⟩ := hA.un0 _ _ hk1
  rw [hr0, List.append_nil] at e1
  obtain ⟨h1, h2⟩ := allIs_val hd (is_skKs e2) e1
  rw [h1] at hv
  exact ⟨x, mkV_is e2 hv, h2 hg, hk2⟩

theorem is_lk (c : SL) : c.is c.lk = true := by cases c <;> first | rfl | exact kSame_self _
theorem allIs_lk : ∀ cs : List SL, allIs cs (cs.map SL.lk) = true
  | [] => rfl
  | c :: cs => by simp [allIs, is_lk, allIs_lk cs]
theorem allIs_append : ∀ {a b : List SL} {ka kb : List LK}, allIs a ka = true → allIs b kb = true → allIs (a ++ b) (ka ++ kb) = true
  | [], b, [], kb, _, h => h
  | a :: as, b, k :: ka, kb, h1, h2 => by
    simp only [allIs, Bool.and_eq_true, List.cons_append] at h1 ⊢
    exact ⟨h1.1, allIs_append h1.2 h2⟩
  | [], _, _ :: _, _, h, _ => by cases h
  | _ :: _, _, [], _, h, _ => by cases h

end
end Go.Am
