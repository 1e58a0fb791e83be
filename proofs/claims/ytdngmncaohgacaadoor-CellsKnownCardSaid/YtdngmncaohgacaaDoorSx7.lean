/-
  CODE: what the algebra says of it, the abstract machine does.
-/
import Derived.Test.YtdngmncaohgacaaDoorSx6h
set_option linter.unusedSectionVars false
set_option linter.unusedSimpArgs false
set_option linter.unusedVariables false
set_option linter.constructorNameAsVariable false
namespace Go.Am
namespace Sx

section
variable [Val] [Kno] {R HT : Type} {A : Alg R HT} {X : Ctxt} {Sg : FuncId → Option Sig} {holds : R → Prop} {abs : HT → List HObj}

/-! ### Environments behind code -/

theorem clrT_eq (ws ks : List Nat) : ∀ (l : List SV) (i : Nat) (K : List SV → R), ∃ l', clrT ws ks l i K = K l' ∧ l'.length = l.length ∧
    ∀ (j : Nat) s, l'[j]? = some s → s = .no ∨ (l[j]? = some s ∧ ¬ ws.contains (i + j) = true ∧ s.inRows ks = false)
  | [], i, K => ⟨[], rfl, rfl, fun j s h => by simp at h⟩
  | x :: l, i, K => by
    obtain ⟨l', h1, h2, h3⟩ := clrT_eq ws ks l (i + 1) fun l => match ws.contains i || x.inRows ks with
      | true => K (.no :: l)
      | false => K (x :: l)
    have hr : ∀ (j : Nat) s, l'[j]? = some s → s = .no ∨ ((x :: l)[j + 1]? = some s ∧ ¬ ws.contains (i + (j + 1)) = true ∧ s.inRows ks = false) := by
      intro j s hs
      have := h3 j s hs
      rw [show i + 1 + j = i + (j + 1) by omega] at this
      simpa using this
    have h1' : clrT ws ks (x :: l) i K = (match ws.contains i || x.inRows ks with
      | true => K (.no :: l')
      | false => K (x :: l')) := h1
    cases hc : ws.contains i || x.inRows ks with
    | true =>
      refine ⟨.no :: l', by rw [h1', hc], by simp [h2], fun j s hs => ?_⟩
      cases j with
      | zero => simp at hs; exact .inl hs.symm
      | succ j => exact hr j s (by simpa using hs)
    | false =>
      simp only [Bool.or_eq_false_iff] at hc
      refine ⟨x :: l', by rw [h1']; simp only [hc, Bool.or_self], by simp [h2], fun j s hs => ?_⟩
      cases j with
      | zero =>
        simp at hs
        subst hs
        exact .inr ⟨rfl, by rw [Nat.add_zero, hc.1]; exact Bool.false_ne_true, hc.2⟩
      | succ j => exact hr j s (by simpa using hs)

/-- What is known of a row behind code that writes it. -/
def rowLike (r r0 : LR) : Prop := r = .unk ∨ (∃ n, r = .any n ∧ (r0 = .any n ∨ ∃ cs, r0 = .row cs ∧ cs.length = n))

theorem clrR_eq (ws ks : List Nat) (nw : LR) : ∀ (l : List LR) (i : Nat) (K : List LR → R), ∃ l', clrR ws ks nw l i K = K l' ∧ l'.length = l.length ∧
    ∀ (j : Nat) r, l'[j]? = some r → (ks.contains (i + j) = true ∧ r = nw) ∨ (ks.contains (i + j) = false ∧ ws.contains (i + j) = true ∧ ∃ r0, l[j]? = some r0 ∧ rowLike r r0) ∨
      (ks.contains (i + j) = false ∧ ws.contains (i + j) = false ∧ l[j]? = some r)
  | [], i, K => ⟨[], rfl, rfl, fun j s h => by simp at h⟩
  | x :: l, i, K => by
    obtain ⟨l', h1, h2, h3⟩ := clrR_eq ws ks nw l (i + 1) fun l => match ks.contains i, ws.contains i with
      | true, _ => K (nw :: l)
      | false, true => (match x with
        | .row cs => forceLen cs.length fun n => K (.any n :: l)
        | .any n => K (.any n :: l)
        | _ => K (.unk :: l))
      | false, false => K (x :: l)
    have hr : ∀ (j : Nat) r, l'[j]? = some r → (ks.contains (i + (j + 1)) = true ∧ r = nw) ∨ (ks.contains (i + (j + 1)) = false ∧ ws.contains (i + (j + 1)) = true ∧ ∃ r0, (x :: l)[j + 1]? = some r0 ∧ rowLike r r0) ∨
      (ks.contains (i + (j + 1)) = false ∧ ws.contains (i + (j + 1)) = false ∧ (x :: l)[j + 1]? = some r) := by
      intro j s hs
      have := h3 j s hs
      rw [show i + 1 + j = i + (j + 1) by omega] at this
      simpa using this
    have fin : ∀ y : LR, clrR ws ks nw (x :: l) i K = K (y :: l') → ((ks.contains i = true ∧ y = nw) ∨ (ks.contains i = false ∧ ws.contains i = true ∧ rowLike y x) ∨ (ks.contains i = false ∧ ws.contains i = false ∧ y = x)) →
        ∃ l', clrR ws ks nw (x :: l) i K = K l' ∧ l'.length = (x :: l).length ∧ ∀ (j : Nat) r, l'[j]? = some r → (ks.contains (i + j) = true ∧ r = nw) ∨ (ks.contains (i + j) = false ∧ ws.contains (i + j) = true ∧ ∃ r0, (x :: l)[j]? = some r0 ∧ rowLike r r0) ∨
          (ks.contains (i + j) = false ∧ ws.contains (i + j) = false ∧ (x :: l)[j]? = some r) := by
      intro y hy hc
      refine ⟨y :: l', hy, by simp [h2], fun j r hs => ?_⟩
      cases j with
      | zero =>
        simp at hs
        subst hs
        rcases hc with hc | ⟨a, b, c⟩ | ⟨a, b, c⟩
        · exact .inl hc
        · exact .inr (.inl ⟨a, b, x, rfl, c⟩)
        · exact .inr (.inr ⟨a, b, by rw [c]; rfl⟩)
      | succ j => exact hr j r (by simpa using hs)
    cases hk : ks.contains i with
    | true => exact fin nw (by show _ = _; refine h1.trans ?_; simp only [hk]) (.inl ⟨hk, rfl⟩)
    | false =>
      cases hw : ws.contains i with
      | false => exact fin x (by refine h1.trans ?_; simp only [hk, hw]) (.inr (.inr ⟨hk, hw, rfl⟩))
      | true =>
        cases x with
        | row cs => exact fin (.any cs.length) (by refine h1.trans ?_; simp only [hk, hw, forceLen_eq]) (.inr (.inl ⟨hk, hw, .inr ⟨_, rfl, .inr ⟨cs, rfl, rfl⟩⟩⟩))
        | any n => exact fin (.any n) (by refine h1.trans ?_; simp only [hk, hw]) (.inr (.inl ⟨hk, hw, .inr ⟨_, rfl, .inl rfl⟩⟩))
        | unk => exact fin .unk (by refine h1.trans ?_; simp only [hk, hw]) (.inr (.inl ⟨hk, hw, .inl rfl⟩))
        | nil => exact fin .unk (by refine h1.trans ?_; simp only [hk, hw]) (.inr (.inl ⟨hk, hw, .inl rfl⟩))

theorem upT_ok {C : Cfg} {T : Nat → Site} (hA : AlgOk A C Sg T holds abs) : ∀ (lv : List (Nat × SK)) (xs : List S0) (tm : List SV) (K : List SV → R), holds (upT A lv xs tm K) → areIs xs (lv.map (·.2)) = true →
    ∃ tm', holds (K tm') ∧ tm'.length = tm.length ∧ ∀ (j : Nat) s, tm'[j]? = some s → tm[j]? = some s ∨ ∃ sk x, (j, sk) ∈ lv ∧ s = .st x ∧ ((j, sk), x) ∈ lv.zip xs
  | [], xs, tm, K, hk, _ => ⟨tm, hk, rfl, fun j s hs => .inl hs⟩
  | p :: lv, [], tm, K, hk, h => by cases h
  | p :: lv, x :: xs, tm, K, hk, h => by
    simp only [List.map_cons, areIs, Bool.and_eq_true] at h
    have hk' : holds (setK (.st x) tm p.1 fun tm => upT A lv xs tm K) := hk
    rw [setK_eq] at hk'
    obtain ⟨tm', h1, h2, h3⟩ := upT_ok hA lv xs _ K hk' h.2
    refine ⟨tm', h1, by rw [h2]; simp, fun j s hs => ?_⟩
    rcases h3 j s hs with h4 | ⟨sk, y, h4, h5, h6⟩
    · simp only [List.getElem?_set] at h4
      split at h4
      · rename_i hj
        split at h4
        · cases h4
          subst hj
          exact .inr ⟨p.2, x, by simp, rfl, by simp⟩
        · cases h4
      · exact .inl h4
    · exact .inr ⟨sk, y, by simp [h4], h5, by simp [h6]⟩

theorem upR_ok {C : Cfg} {T : Nat → Site} (hA : AlgOk A C Sg T holds abs) : ∀ (lv : List (Nat × List LK)) (ls : List Lf) (lc : List LR) (K : List LR → List Lf → R), holds (upR A lv ls lc K) →
    ∃ (lc' : List LR) (r : List Lf) (css : List (List SL)), holds (K lc' r) ∧ ls = (css.map (·.map SL.lf)).flatten ++ r ∧ css.length = lv.length ∧ (∀ (i : Nat) p cs, lv[i]? = some p → css[i]? = some cs → allIs cs p.2 = true) ∧ lc'.length = lc.length ∧
      ∀ (j : Nat) s, lc'[j]? = some s → lc[j]? = some s ∨ ∃ (i : Nat) (ks : List LK) (cs : List SL), lv[i]? = some (j, ks) ∧ css[i]? = some cs ∧ s = .row cs
  | [], ls, lc, K, hk => ⟨lc, ls, [], hk, rfl, rfl, fun _ _ _ h => by simp at h, rfl, fun j s hs => .inl hs⟩
  | p :: lv, ls, lc, K, hk => by
    have hk' : holds (unL A p.2 ls fun cs r => setK (.row cs) lc p.1 fun lc => upR A lv r lc K) := hk
    obtain ⟨cs, r, e1, e2, hk1⟩ := unL_ok hA hk'
    rw [setK_eq] at hk1
    obtain ⟨lc', r', css, h1, h2, h3, h4, h5, h6⟩ := upR_ok hA lv r _ K hk1
    refine ⟨lc', r', cs :: css, h1, by rw [e1, h2]; simp, by simp [h3], fun i q ds hq hd => ?_, by rw [h5]; simp, fun j s hs => ?_⟩
    · cases i with
      | zero => simp at hq hd; subst hq; subst hd; exact e2
      | succ i => exact h4 i q ds (by simpa using hq) (by simpa using hd)
    · rcases h6 j s hs with h7 | ⟨i, ks, ds, h7, h8, h9⟩
      · simp only [List.getElem?_set] at h7
        split at h7
        · rename_i hj
          split at h7
          · cases h7
            subst hj
            exact .inr ⟨0, p.2, cs, rfl, rfl, rfl⟩
          · cases h7
        · exact .inl h7
      · exact .inr ⟨i + 1, ks, ds, by simpa using h7, by simpa using h8, h9⟩

/-- What is packed is what the temporaries hold. -/
theorem pkT_ok {ev : Env} {σ : St} (hR : Rp ev σ) : ∀ {lv : List (Nat × SK)} {ls : List Lf}, pkT ev.tm lv = some ls →
    ∃ xs, lfsOf xs = ls ∧ areIs xs (lv.map (·.2)) = true ∧ (∀ x ∈ xs, x.good) ∧ ∀ p ∈ lv.zip xs, σ.tmps[p.1.1]? = some p.2.val
  | [], ls, h => by cases h; exact ⟨[], rfl, rfl, by simp, by simp⟩
  | (t, sk) :: lv, ls, h => by
    simp only [pkT] at h
    split at h
    · rename_i x ls' hx hl
      split at h
      · rename_i his
        cases h
        obtain ⟨xs, h1, h2, h3, h4⟩ := pkT_ok hR hl
        obtain ⟨g1, g2⟩ := hR.at hx (by simp)
        refine ⟨x :: xs, by simp [lfsOf, h1], by simp [areIs, his, h2], List.forall_mem_cons.2 ⟨g2, h3⟩, fun p hp => ?_⟩
        simp only [List.zip_cons_cons, List.mem_cons] at hp
        rcases hp with rfl | hp
        · exact g1
        · exact h4 p hp
      · cases h
    · cases h

theorem pkR_ok {ev : Env} {σ : St} (hR : Rp ev σ) : ∀ {lv : List (Nat × List LK)} {ls : List Lf}, pkR ev.lc lv = some ls →
    ∃ css : List (List SL), (css.map (·.map SL.lf)).flatten = ls ∧ css.length = lv.length ∧ (∀ (i : Nat) p cs, lv[i]? = some p → css[i]? = some cs → allIs cs p.2 = true ∧ (∀ c ∈ cs, c.good) ∧ σ.loc[p.1]? = some (some (cs.map SL.val)))
  | [], ls, h => by cases h; exact ⟨[], rfl, rfl, fun _ _ _ h => by simp at h⟩
  | (s, ks) :: lv, ls, h => by
    simp only [pkR] at h
    split at h
    · rename_i cs ls' hx hl
      split at h
      · rename_i his
        cases h
        obtain ⟨css, h1, h2, h3⟩ := pkR_ok hR hl
        have hr : rowAt ev s = some cs := by unfold rowAt; rw [hx]
        obtain ⟨g1, g2, _⟩ := rowAt_ok hR hr
        refine ⟨cs :: css, by simp [h1], by simp [h2], fun i p ds hp hd => ?_⟩
        cases i with
        | zero => simp at hp hd; subst hp; subst hd; exact ⟨his, g2, g1⟩
        | succ i => exact h3 i p ds (by simpa using hp) (by simpa using hd)
      · cases h
    · cases h

theorem css_eq : ∀ {lv : List (Nat × List LK)} {a b : List (List SL)} {r : List Lf}, a.length = lv.length → b.length = lv.length →
    (∀ (i : Nat) p cs, lv[i]? = some p → a[i]? = some cs → allIs cs p.2 = true) → (∀ (i : Nat) p cs, lv[i]? = some p → b[i]? = some cs → allIs cs p.2 = true) →
    (a.map (·.map SL.lf)).flatten = (b.map (·.map SL.lf)).flatten ++ r → r = [] ∧ ∀ (i : Nat) x y, a[i]? = some x → b[i]? = some y → x.map SL.lf = y.map SL.lf
  | [], a, b, r, la, lb, _, _, h => by
    have la : a = [] := by simpa using la
    have lb : b = [] := by simpa using lb
    subst la; subst lb
    simp at h
    exact ⟨h, fun i x y hx => by simp at hx⟩
  | p :: lv, a, b, r, la, lb, ha, hb, h => by
    cases a with
    | nil => simp at la
    | cons x a => cases b with
      | nil => simp at lb
      | cons y b =>
        simp only [List.map_cons, List.flatten_cons, List.append_assoc] at h
        have h1 := allIs_length (ha 0 p x rfl rfl)
        have h2 := allIs_length (hb 0 p y rfl rfl)
        obtain ⟨e1, e2⟩ := List.append_inj h (by simp [h1, h2])
        obtain ⟨f1, f2⟩ := css_eq (lv := lv) (by simpa using la) (by simpa using lb) (fun i q cs hq hc => ha (i + 1) q cs (by simpa using hq) (by simpa using hc))
          (fun i q cs hq hc => hb (i + 1) q cs (by simpa using hq) (by simpa using hc)) e2
        refine ⟨f1, fun i u v hu hv => ?_⟩
        cases i with
        | zero => simp at hu hv; subst hu; subst hv; exact e1
        | succ i => exact f2 i u v (by simpa using hu) (by simpa using hv)

theorem mem_zip_at {α β : Type} {l : List α} {m : List β} {p : α × β} (h : p ∈ l.zip m) : ∃ i : Nat, l[i]? = some p.1 ∧ m[i]? = some p.2 := by
  obtain ⟨i, hi⟩ := List.getElem?_of_mem h
  rw [List.getElem?_zip_eq_some] at hi
  exact ⟨i, hi⟩

theorem lfs_length : ∀ {a b : List S0} {sks : List SK}, areIs a sks = true → areIs b sks = true → (lfsOf a).length = (lfsOf b).length
  | [], [], [], _, _ => rfl
  | x :: a, y :: b, k :: sks, ha, hb => by
    simp only [areIs, Bool.and_eq_true] at ha hb
    obtain ⟨n, n1, n2⟩ := S0.is_len ha.1
    simp only [lfsOf, List.length_append, List.length_map, n1, n2 y hb.1, lfs_length ha.2 hb.2]
  | [], _ :: _, [], _, hb => by cases hb
  | [], _, _ :: _, ha, _ => by cases ha
  | _ :: _, _, [], ha, _ => by cases ha
  | _ :: _, [], _ :: _, _, hb => by cases hb

/-- A state that is like another one, but that some rows are made anew. -/
structure Like (ks : List Nat) (nw : LR) (σ' τ : St) : Prop where
  tlen : τ.tmps.length = σ'.tmps.length
  llen : τ.loc.length = σ'.loc.length
  tm : ∀ (i : Nat) v, σ'.tmps[i]? = some v → noLoc v = true → τ.tmps[i]? = some v
  tp : ∀ (i s off : Nat), σ'.tmps[i]? = some (.pointer (some ⟨s, off, some 0⟩)) → s ∉ ks → τ.tmps[i]? = some (.pointer (some ⟨s, off, some 0⟩))
  row : ∀ (s : Nat) x, σ'.loc[s]? = some x → s ∉ ks → τ.loc[s]? = some x
  new : ∀ s, s ∈ ks → s < τ.loc.length → nw.ok τ.loc s

theorem Like.refl (ks : List Nat) (σ : St) : Like ks .unk σ σ := ⟨rfl, rfl, fun _ _ h _ => h, fun _ _ _ h _ => h, fun _ _ h _ => h, fun _ _ _ => trivial⟩

/-- The environment behind a piece of code is right for the state behind it. -/
theorem reE_ok {C : Cfg} {T : Nat → Site} (hA : AlgOk A C Sg T holds abs) {pts : List Nat} {c : Code} {nw : LR} {lv : Live} {ev ev' : Env} {σ σ' τ : St} {ls : List Lf} {K : Env → R}
    (hR : Rp ev σ) (hR' : Rp ev' σ') (hF : Fr (wrT c) (boxKeys pts c) (wrR pts c) σ σ') (hp : pk ev' lv = some ls) (hτ : Like (boxKeys pts c) nw σ' τ)
    (hlive : τ = σ' ∨ ∀ p ∈ lv.rows, p.1 ∉ boxKeys pts c) (hk : holds (reE A pts c nw lv ev ls K)) : ∃ ev1, Rp ev1 τ ∧ holds (K ev1) := by
  unfold reE at hk
  obtain ⟨tm1, h1, h2, h3⟩ := clrT_eq (wrT c) (boxKeys pts c) ev.tm 0 fun tm => clrR (wrR pts c) (boxKeys pts c) nw ev.lc 0 fun lc =>
    unSs A (lv.tm.map (·.2)) ls fun xs r => upT A lv.tm xs tm fun tm => upR A lv.rows r lc fun lc r => A.un0 r (K ⟨tm, lc⟩)
  rw [h1] at hk
  obtain ⟨lc1, g1, g2, g3⟩ := clrR_eq (wrR pts c) (boxKeys pts c) nw ev.lc 0 fun lc =>
    unSs A (lv.tm.map (·.2)) ls fun xs r => upT A lv.tm xs tm1 fun tm => upR A lv.rows r lc fun lc r => A.un0 r (K ⟨tm, lc⟩)
  rw [g1] at hk
  obtain ⟨xs, r, e1, e2, hk1⟩ := unSs_ok hA hk
  obtain ⟨tm2, hk2, u1, u2⟩ := upT_ok hA _ _ _ _ hk1 e2
  obtain ⟨lc2, r2, css, hk3, v1, v2, v3, v4, v5⟩ := upR_ok hA _ _ _ _ hk2
  obtain ⟨hr2, hk4⟩ := hA.un0 _ _ hk3
  subst hr2
  rw [List.append_nil] at v1
  unfold pk at hp
  split at hp
  · rename_i la lb hpa hpb
    cases hp
    obtain ⟨ys, y1, y2, y3, y4⟩ := pkT_ok hR' hpa
    obtain ⟨dss, d1, d2, d3⟩ := pkR_ok hR' hpb
    rw [← y1, ← d1] at e1
    obtain ⟨s1, s2⟩ := List.append_inj e1 (lfs_length y2 e2)
    obtain ⟨w1, w2⟩ := areIs_val y2 e2 s1
    have hgood := w2 y3
    obtain ⟨_, z2⟩ := css_eq (r := []) d2 v2 (fun i p cs a b => (d3 i p cs a b).1) v3 (by rw [s2, v1, List.append_nil])
    refine ⟨⟨tm2, lc2⟩, ⟨?_, fun i s hs => ?_, ?_, fun i s hs => ?_⟩, hk4⟩
    · show tm2.length = _
      rw [u1, h2, hR.len, hτ.tlen, hF.tlen]
    · rcases u2 i s hs with hs1 | ⟨sk, x, a1, rfl, a3⟩
      · rcases h3 i s hs1 with rfl | ⟨b1, b2, b3⟩
        · trivial
        · have hok := hR.val i s b1
          rw [Nat.zero_add] at b2
          have b2 : i ∉ wrT c := by simpa using b2
          have keepN : ∀ v, σ.tmps[i]? = some v → noLoc v = true → τ.tmps[i]? = some v := fun v hv hn => hτ.tm i v (hF.tm i v hv b2 hn) hn
          have keepP : ∀ s off, σ.tmps[i]? = some (.pointer (some ⟨s, off, some 0⟩)) → s ∉ boxKeys pts c → τ.tmps[i]? = some (.pointer (some ⟨s, off, some 0⟩)) := fun s off hv hn =>
            hτ.tp i s off (hF.tp i s off hv b2 hn) hn
          cases s with
          | no => trivial
          | st x => exact ⟨keepN _ hok.1 (S0.noLoc hok.2), hok.2⟩
          | tup xs => simp [SV.inRows] at b3
          | un => exact ⟨keepN _ hok.1 rfl, trivial⟩
          | gad g off => exact ⟨keepN _ hok.1 rfl, trivial⟩
          | gdx g base ix => exact ⟨keepN _ hok.1 rfl, trivial⟩
          | lad s off => exact ⟨keepP s off hok.1 (by simpa [SV.inRows] using b3), trivial⟩
          | ldx s base ix => exact ⟨keepP s _ hok.1 (by simpa [SV.inRows] using b3), trivial⟩
      · obtain ⟨k, q1, q2⟩ := mem_zip_at a3
        simp only at q1 q2
        have hx : (valsOf xs)[k]? = some x.val := by simp [valsOf, q2]
        rw [← w1] at hx
        simp only [valsOf, List.getElem?_map, Option.map_eq_some_iff] at hx
        obtain ⟨y, hy1, hy2⟩ := hx
        have hm : ((i, sk), y) ∈ lv.tm.zip ys := by
          apply List.mem_of_getElem? (i := k)
          rw [List.getElem?_zip_eq_some]
          exact ⟨q1, hy1⟩
        have hv := y4 _ hm
        simp only at hv
        rw [hy2] at hv
        have gx := hgood x (List.mem_of_getElem? q2)
        exact ⟨hτ.tm i _ hv (S0.noLoc gx), gx⟩
    · show lc2.length = _
      rw [v4, g2, hR.llen, hτ.llen, hF.llen]
    · rcases v5 i s hs with hs1 | ⟨k, ks, cs, a1, a2, rfl⟩
      · rcases g3 i s hs1 with ⟨b1, rfl⟩ | ⟨b1, b2, r0, b3, b4⟩ | ⟨b1, b2, b3⟩
        · rw [Nat.zero_add] at b1
          refine hτ.new i (by simpa using b1) ?_
          rw [hτ.llen, hF.llen, ← hR.llen, ← g2]
          exact (List.getElem?_eq_some_iff.1 hs1).1
        · rw [Nat.zero_add] at b1
          have hnk : i ∉ boxKeys pts c := by simpa using b1
          have h0 := hR.row i r0 b3
          rcases b4 with rfl | ⟨n, rfl, b4⟩
          · trivial
          · have : ∃ vs, σ.loc[i]? = some (some vs) ∧ vs.length = n := by
              rcases b4 with rfl | ⟨cs, rfl, hl⟩
              · exact h0
              · exact ⟨_, h0.1, by simpa using hl⟩
            obtain ⟨vs, c1, c2⟩ := this
            obtain ⟨vs', c3, c4⟩ := hF.rlen i vs c1 hnk
            exact ⟨vs', hτ.row i _ c3 hnk, c4.trans c2⟩
        · rw [Nat.zero_add] at b1 b2
          have hnk : i ∉ boxKeys pts c := by simpa using b1
          have hnw : i ∉ wrR pts c := by simpa using b2
          have h0 := hR.row i s b3
          have keep : ∀ x, σ.loc[i]? = some x → τ.loc[i]? = some x := fun x hx => hτ.row i x (hF.row i x hx hnw) hnk
          cases s with
          | unk => trivial
          | nil => exact keep _ h0
          | any n => obtain ⟨vs, c1, c2⟩ := h0; exact ⟨vs, keep _ c1, c2⟩
          | row cs => exact ⟨keep _ h0.1, h0.2⟩
      · have hd : ∃ ds, dss[k]? = some ds := by
          have : k < dss.length := by rw [d2]; exact (List.getElem?_eq_some_iff.1 a1).1
          exact ⟨dss[k], by simp [this]⟩
        obtain ⟨ds, hd⟩ := hd
        obtain ⟨f1, f2, f3⟩ := d3 k _ ds a1 hd
        have f4 := v3 k _ cs a1 a2
        obtain ⟨m1, m2⟩ := allIs_val f1 f4 (z2 k ds cs hd a2)
        simp only at f3
        rw [m1] at f3
        refine ⟨?_, m2 f2⟩
        rcases hlive with rfl | hlive
        · exact f3
        · exact hτ.row i _ f3 (hlive (i, ks) (List.mem_of_getElem? a1))
  · cases hp

end
end Sx
end Go.Am
