/-
  OPERATIONS, third part: loads, stores, addresses.
-/
import Derived.Test.YtdngmncaohgacaaDoorSx6b
set_option linter.unusedSectionVars false
set_option linter.unusedSimpArgs false
set_option linter.unusedVariables false
set_option linter.constructorNameAsVariable false
namespace Go.Am

section
variable [Val] [Kno] {R HT : Type} {A : Alg R HT} {X : Ctxt} {Sg : FuncId → Option Sig} {holds : R → Prop} {abs : HT → List HObj}
variable {ev : Env} {σ : St} {h : HT} {o : Oper} {K : KN R HT}

theorem cellsG_at (H : List HObj) (id : Nat) : cellsG (fun i => H[i]?) id = hcells H id := rfl

theorem ldP_ok {n : Nat} {p : Value} {g : Getter} {cs : List Value} (h : ldP n p g = some cs) : ∃ id off vs, p = .pointer (some ⟨id, off, none⟩) ∧ cellsG g id = some vs ∧ cut vs off n = some cs := by
  unfold ldP at h
  split at h
  · rename_i a
    split at h
    · rename_i hs
      obtain ⟨vs, h1, h2⟩ := Option.bind_eq_some_iff.1 h
      obtain ⟨b, f, sp⟩ := a
      simp only at hs
      subst hs
      exact ⟨b, f, vs, rfl, h1, h2⟩
    · cases h
  · cases h

theorem load_ok (hA : AlgOk A X.C Sg X.T holds abs) (hR : Rp ev σ) (ha : abs h = σ.heap) {t : TypeId} {a : Operand} {sk : SK} {agg : Bool} (ho : o.op = .load t a) (hag : aggT X.C.P t = some agg)
    (hsk : agg = skAgg sk) (hk : holds (loadE A X o.dst sk agg (if agg then X.C.P.cellsOf t else 1) a ev h K)) : Done X holds abs o σ K := by
  have heff : effOf X.C X.pts (oval σ.tmps) o = loadEff X.C X.pts t a (oval σ.tmps a) := by simp only [effOf, ho]
  unfold loadE at hk
  split at hk
  · rename_i p hkey he
    obtain ⟨h1, _⟩ := hR.sval he (by simp)
    obtain ⟨cs, h2, hk1⟩ := hA.peek _ _ _ hk
    rw [ha] at h2
    obtain ⟨id, off, vs, rfl, h3, h4⟩ := ldP_ok h2
    rw [cellsG_at] at h3
    obtain ⟨v, h5, h6⟩ := readVar_ok hag h4
    rw [hsk] at h6
    obtain ⟨x, rfl, h7, hk2⟩ := setC_ok hA h6 hk1
    refine done_hget hR ha (s := .st x) h7 (f := fun H => (hcells H id).bind fun vs => readVar X.C.P t vs off) ?_ ?_ hk2
    · rw [heff, loadEff, hkey, h1]; rfl
    · simp only [h3, Option.bind_some, h5]; rfl
  · rename_i g off hkey he
    obtain ⟨h1, _⟩ := hR.sval he (by simp)
    split at hk
    · rename_i vs hg
      split at hk
      · rename_i cs hc
        obtain ⟨v, h5, h6⟩ := readVar_ok hag hc
        have hval : effOf X.C X.pts (oval σ.tmps) o = some (.val v) := by
          rw [heff, loadEff, hkey, h1]
          simp only [SV.val, globPtr, if_true, Option.bind_some, hg, h5, Option.map_some]
        split at hk
        · rename_i x hsc hm
          obtain ⟨hm1, hm2⟩ := mkS0_ok hm
          have hcs : (cs.map slOf).map SL.val = cs := by
            rw [List.map_map]
            have : (SL.val ∘ slOf) = id := funext slOf_val
            rw [this, List.map_id]
          rw [hcs] at hm2
          have hv : x.val = v := by
            rcases hm2 with ⟨a1, a2⟩ | ⟨a1, a2⟩ <;> rcases h6 with ⟨b1, b2⟩ | ⟨b1, b2⟩
            · rw [a2, b2]
            · rw [a1] at b1; cases b1
            · rw [a1] at b1; cases b1
            · rw [a2] at b2; simpa using b2
          subst hv
          refine done_val hR ha (s := .st x) (fun l hl => ?_) hval hk
          rw [hm1] at hl
          obtain ⟨c, hc1, rfl⟩ := List.mem_map.1 hl
          exact slOf_good (List.all_eq_true.1 hsc c hc1)
        · rw [hsk] at h6
          obtain ⟨x, rfl, h7, hk⟩ := setC_ok hA h6 hk
          exact done_val hR ha (s := .st x) h7 hval hk
      · exact absurd hk hA.fail
    · exact absurd hk hA.fail
  · rename_i g base ix hkey he
    obtain ⟨h1, _⟩ := hR.sval he (by simp)
    split at hk
    · rename_i vs hg
      obtain ⟨cs, hc, hk⟩ := hA.opt _ _ hk
      obtain ⟨v, h5, h6⟩ := readVar_ok hag (vs := vs) (off := offX base ix) hc
      have hval : effOf X.C X.pts (oval σ.tmps) o = some (.val v) := by
        rw [heff, loadEff, hkey, h1]
        simp only [SV.val, globPtr, if_true, Option.bind_some, hg, h5, Option.map_some]
      rw [hsk] at h6
      obtain ⟨x, rfl, h7, hk⟩ := setC_ok hA h6 hk
      exact done_val hR ha (s := .st x) h7 hval hk
    · exact absurd hk hA.fail
  · rename_i p hkey he
    obtain ⟨h1, _⟩ := hR.sval he (by simp)
    obtain ⟨cs, hc, hk1⟩ := hA.opt _ _ hk
    unfold ldGv at hc
    split at hc
    · rename_i ad
      split at hc
      · rename_i hsp
        obtain ⟨vs, hg, hc⟩ := Option.bind_eq_some_iff.1 hc
        obtain ⟨v, h5, h6⟩ := readVar_ok hag hc
        have hval : effOf X.C X.pts (oval σ.tmps) o = some (.val v) := by
          rw [heff, loadEff, hkey, h1]
          simp only [SV.val, S0.val, SL.val, globPtr, hsp, if_true, Option.bind_some, hg, h5, Option.map_some]
        rw [hsk] at h6
        obtain ⟨x, rfl, h7, hk2⟩ := setC_ok hA h6 hk1
        exact done_val hR ha (s := .st x) h7 hval hk2
      · cases hc
    · cases hc
  · rename_i s s' off hkey he
    obtain ⟨h1, _⟩ := hR.sval he (by simp)
    split at hk
    · rename_i x hs hx
      have hs : s = s' := by simpa using hs
      subst hs
      obtain ⟨cs, hr, hx⟩ := Option.bind_eq_some_iff.1 hx
      obtain ⟨ds, hd, hx⟩ := Option.bind_eq_some_iff.1 hx
      obtain ⟨r1, r2, _⟩ := rowAt_ok hR hr
      obtain ⟨c1, c2⟩ := cutS_ok hd
      obtain ⟨v, h5, h6⟩ := readVar_ok hag c1
      obtain ⟨hm1, hm2⟩ := mkS0_ok hx
      have hv : x.val = v := by
        rcases hm2 with ⟨a1, a2⟩ | ⟨a1, a2⟩ <;> rcases h6 with ⟨b1, b2⟩ | ⟨b1, b2⟩
        · rw [a2, b2]
        · rw [a1] at b1; cases b1
        · rw [a1] at b1; cases b1
        · rw [a2] at b2; simpa using b2
      subst hv
      refine done_heap hR σ.heap ha (s := .st x) (fun l hl => ?_) (.inl ⟨.lget s fun vs => readVar X.C.P t vs off, ?_, (σ, x.val), ?_, rfl⟩) hk
      · rw [hm1] at hl; exact r2 l (c2 l hl)
      · rw [heff, loadEff, hkey, h1]
        simp [SV.val, locPtr]
      · simp [applyEff, r1, h5]
    · exact absurd hk hA.fail
  · rename_i s s' base ix hkey he
    obtain ⟨h1, _⟩ := hR.sval he (by simp)
    split at hk
    · rename_i cs hs hr
      have hs : s = s' := by simpa using hs
      subst hs
      split at hk
      · rename_i hat
        simp only [Bool.and_eq_true] at hat
        obtain ⟨hat, hn⟩ := hat
        have hn := Nat.eq_of_beq_eq_true hn
        obtain ⟨ls, hp, hk1⟩ := hA.opt _ _ hk
        obtain ⟨ds, hd, rfl⟩ := pickL_ok hp
        obtain ⟨r1, r2, _⟩ := rowAt_ok hR hr
        obtain ⟨c1, c2⟩ := cutS_ok hd
        obtain ⟨v, h5, h6⟩ := readVar_ok hag c1
        rw [hsk] at h6
        rw [hn] at hd
        obtain ⟨x, rfl, h7, hk2⟩ := setL_ok hA (allAt_ok hat hd) (fun c hc => r2 c (c2 c hc)) h6 hk1
        refine done_heap hR σ.heap ha (s := .st x) h7 (.inl ⟨.lget s fun vs => readVar X.C.P t vs (offX base ix), ?_, (σ, x.val), ?_, rfl⟩) hk2
        · rw [heff, loadEff, hkey, h1]
          simp [SV.val, locPtr]
        · simp [applyEff, r1, h5]
      · exact absurd hk hA.fail
    · exact absurd hk hA.fail
  · exact absurd hk hA.fail

/-! ### Stores -/

theorem spliceS_ok {cs r new : List SL} {off : Nat} (hs : spliceS cs off new = some r) : splice (cs.map SL.val) off (new.map SL.val) = some (r.map SL.val) ∧ r.length = cs.length ∧ ((∀ c ∈ cs, c.good) → (∀ c ∈ new, c.good) → ∀ c ∈ r, c.good) := by
  unfold spliceS at hs
  unfold splice
  split at hs
  · rename_i hle
    cases hs
    rw [if_pos (by simpa using hle)]
    refine ⟨by simp [List.map_take, List.map_drop], by simp; omega, fun h1 h2 c hc => ?_⟩
    simp only [List.mem_append] at hc
    rcases hc with (hc | hc) | hc
    · exact h1 c (List.mem_of_mem_take hc)
    · exact h2 c hc
    · exact h1 c (List.mem_of_mem_drop hc)
  · cases hs

theorem writeVar_ok {P : Program} {t : TypeId} {x : S0} (hx : x.good) (hlen : x.cells.length = P.cellsOf t) (hi : (P.info? t).isSome = true) (vs : List Value) (off : Nat) :
    writeVar P t x.val vs off = splice vs off (x.cells.map SL.val) := by
  unfold writeVar
  have h1 := S0.cells_val hx
  rw [if_pos ⟨by rw [h1]; simpa using hlen, hi⟩, if_pos (S0.cells_ok hx), h1]

theorem done_row (hR : Rp ev σ) (ha : abs h = σ.heap) {s : Nat} {cs : List SL} {f : List Value → Option (List Value)} {vs : List Value} (he : effOf X.C X.pts (oval σ.tmps) o = some (.lset s f)) (hloc : σ.loc[s]? = some (some vs))
    (hf : f vs = some (cs.map SL.val)) (hlen : (cs.map SL.val).length = vs.length) (hg : ∀ c ∈ cs, c.good) (hrow : opRow X.pts o = some s)
    (hk : holds (setD o.dst .un ⟨ev.tm, ev.lc.set s (.row cs)⟩ h K)) : Done X holds abs o σ K := by
  let σ₁ : St := { σ with loc := σ.loc.set s (some (cs.map SL.val)) }
  have hlt : s < σ.loc.length := (List.getElem?_eq_some_iff.1 hloc).1
  have hR1 : Rp ⟨ev.tm, ev.lc.set s (.row cs)⟩ σ₁ := by
    refine ⟨hR.len, hR.val, by simp [σ₁, hR.llen], fun i r hr => ?_⟩
    simp only [List.getElem?_set] at hr
    split at hr
    · rename_i hi
      subst hi
      split at hr
      · cases hr
        exact ⟨by simp only [σ₁]; rw [List.getElem?_set_self hlt], hg⟩
      · cases hr
    · rename_i hi
      have := hR.row i r hr
      have hne : σ₁.loc[i]? = σ.loc[i]? := by simp only [σ₁]; rw [List.getElem?_set_ne hi]
      cases r <;> first | trivial | (simp only [LR.ok] at this ⊢; rw [hne]; exact this)
  obtain ⟨ev', h1, h2⟩ := setD_ok (dst := o.dst) hR1 (s := .un) trivial hk
  refine ⟨σ₁.put o.dst undef, ev', h, .inl ⟨_, he, (σ₁, undef), by simp [applyEff, hloc, hf, σ₁], rfl⟩, h1, ?_, ?_, h2⟩
  · rw [ha]; cases o.dst <;> rfl
  · have hf := Fr.put (σ := σ₁) o.dst undef (opKey X.pts o).toList (opRow X.pts o).toList
    have h0 : Fr o.dst.toList (opKey X.pts o).toList (opRow X.pts o).toList σ σ₁ := by
      refine ⟨rfl, by simp [σ₁], fun _ _ h _ _ => h, fun _ _ _ h _ _ => h, fun i y hs hn => ?_, fun i ws hs hn => ?_⟩
      · rw [hrow] at hn
        simp only [Option.toList_some, List.mem_singleton] at hn
        simp only [σ₁]
        rw [List.getElem?_set_ne (fun e => hn e.symm)]; exact hs
      · by_cases hi : i = s
        · subst hi
          rw [hloc] at hs
          cases hs
          exact ⟨_, by simp only [σ₁]; rw [List.getElem?_set_self hlt], hlen⟩
        · exact ⟨ws, by simp only [σ₁]; rw [List.getElem?_set_ne (fun e => hi e.symm)]; exact hs, rfl⟩
    exact h0.trans hf

theorem stP_ok {p : Value} {new : List Value} {g : Getter} {n : Nat} {acts : List Act1} {cs : List Value} (h : stP p new g n = some (acts, cs)) :
    ∃ id off vs vs' e, p = .pointer (some ⟨id, off, none⟩) ∧ g id = some (.cells vs e true) ∧ splice vs off new = some vs' ∧ acts = [.set id (.cells vs' e true)] := by
  unfold stP at h
  split at h
  · rename_i a
    split at h
    · rename_i hs
      split at h
      · rename_i vs e hg
        obtain ⟨vs', h1, h2⟩ := Option.map_eq_some_iff.1 h
        obtain ⟨b, f, sp⟩ := a
        simp only at hs
        subst hs
        cases h2
        exact ⟨b, f, vs, vs', e, rfl, hg, h1, rfl⟩
      · cases h
    · cases h
  · cases h

theorem store_ok (hA : AlgOk A X.C Sg X.T holds abs) (hR : Rp ev σ) (ha : abs h = σ.heap) {t : TypeId} {a y : Operand} {x : S0} (ho : o.op = .store t a y) (hy : sval ev y = .st x)
    (hk : holds (storeE A X o.dst t a x ev h K)) : Done X holds abs o σ K := by
  obtain ⟨hy1, hx⟩ := hR.sval hy (by simp)
  have hx : x.good := hx
  have heff : effOf X.C X.pts (oval σ.tmps) o = storeEff X.C X.pts t a (oval σ.tmps a) x.val := by simp only [effOf, ho, hy1]; rfl
  have hnt := S0.not_tuple hx
  unfold storeE at hk
  split at hk
  · exact absurd hk hA.fail
  · rename_i hc
    simp only [Bool.and_eq_true] at hc
    obtain ⟨hlen, hi⟩ := hc
    have hlen := Nat.eq_of_beq_eq_true hlen
    have hw := writeVar_ok (P := X.C.P) (t := t) hx hlen hi
    split at hk
    · rename_i p hkey he
      obtain ⟨h1, _⟩ := hR.sval he (by simp)
      obtain ⟨acts, cs, h', h2, h3, hk1⟩ := hA.heap _ _ _ hk
      rw [ha] at h2 h3
      obtain ⟨id, off, vs, vs', e, rfl, g1, g2, rfl⟩ := stP_ok h2
      refine done_hop (s := .un) hR (H' := σ.heap.set id (.cells vs' e true)) h3 trivial (f := hstoreA X.C t id off x.val) ?_ ?_ hk1
      · rw [heff, storeEff, hnt, hkey, h1]; rfl
      · simp only [hstoreA, g1, hw, g2, Option.map_some]; rfl
    · rename_i s s' off hkey he
      obtain ⟨h1, _⟩ := hR.sval he (by simp)
      have hrow : opRow X.pts o = some s := by simp only [opRow, ho, hkey]
      split at hk
      · rename_i cs hs hst
        have hs : s = s' := by simpa using hs
        subst hs
        rw [setK_eq] at hk
        have heff2 : effOf X.C X.pts (oval σ.tmps) o = some (.lset s fun vs => writeVar X.C.P t x.val vs off) := by
          rw [heff, storeEff, hnt, hkey, h1]
          simp [SV.val, locPtr]
        have hrow0 : ev.lc[s]? = some (ev.lc.getD s .unk) ∨ ev.lc.getD s .unk = .unk := by
          rw [List.getD_eq_getElem?_getD]
          cases ev.lc[s]? <;> simp
        unfold storeR at hst
        split at hst
        · rename_i cs0 hl
          obtain ⟨q1, q2, q3⟩ := spliceS_ok hst
          have hlc : ev.lc[s]? = some (.row cs0) := by rcases hrow0 with h | h <;> rw [hl] at h <;> first | exact h | cases h
          have hr := hR.row s _ hlc
          exact done_row hR ha heff2 hr.1 (by rw [hw]; exact q1) (by simp [q2]) (q3 hr.2 hx) hrow hk
        · rename_i n hl
          split at hst
          · rename_i hz
            cases hst
            simp only [Bool.and_eq_true] at hz
            have hz1 := Nat.eq_of_beq_eq_true hz.1
            have hz2 := Nat.eq_of_beq_eq_true hz.2
            have hlc : ev.lc[s]? = some (.any n) := by rcases hrow0 with h | h <;> rw [hl] at h <;> first | exact h | cases h
            obtain ⟨vs, hv1, hv2⟩ := hR.row s _ hlc
            refine done_row hR ha heff2 hv1 ?_ (by rw [hv2, hz2]; simp) hx hrow hk
            rw [hw, hz1, splice, if_pos (by simp; omega)]
            simp [show vs.length ≤ x.cells.length by omega]
          · cases hst
        · cases hst
      · exact absurd hk hA.fail
    · rename_i s s' base ix hkey he
      obtain ⟨h1, _⟩ := hR.sval he (by simp)
      have hrow : opRow X.pts o = some s := by simp only [opRow, ho, hkey]
      split at hk
      · rename_i cs hs hr
        have hs : s = s' := by simpa using hs
        subst hs
        split at hk
        · exact absurd hk hA.fail
        · rename_i hat
          obtain ⟨ls, hp, hk1⟩ := hA.opt _ _ hk
          obtain ⟨cs', r, e1, e2, hk2⟩ := unL_ok hA hk1
          obtain ⟨hr0, hk3⟩ := hA.un0 _ _ hk2
          rw [hr0, List.append_nil] at e1
          rw [setK_eq] at hk3
          obtain ⟨r1, r2, _⟩ := rowAt_ok hR hr
          have heff2 : effOf X.C X.pts (oval σ.tmps) o = some (.lset s fun vs => writeVar X.C.P t x.val vs (offX base ix)) := by
            rw [heff, storeEff, hnt, hkey, h1]
            simp [SV.val, locPtr]
          unfold putL at hp
          split at hp
          · rename_i hle
            simp only [List.length_map] at hle
            -- the new row, kind by kind
            let off := offX base ix
            have hmid : cutS cs off x.cells.length = some ((cs.drop off).take x.cells.length) := by unfold cutS; rw [if_pos hle]
            have hk0 : allIs ((cs.drop off).take x.cells.length) (x.cells.map SL.lk) = true := allAt_ok hat (by rw [List.length_map]; exact hmid)
            let new := cs.take off ++ x.cells ++ cs.drop (off + x.cells.length)
            have hsp : spliceS cs off x.cells = some new := by unfold spliceS; rw [if_pos hle]
            obtain ⟨q1, q2, q3⟩ := spliceS_ok hsp
            have hkinds : allIs new (cs.map SL.lk) = true := by
              have hsplit : cs = cs.take off ++ (cs.drop off).take x.cells.length ++ cs.drop (off + x.cells.length) := by
                rw [List.append_assoc, ← List.drop_drop, List.take_append_drop, List.take_append_drop]
              have hlk : ∀ {a b : List SL}, allIs a (b.map SL.lk) = true → a.map SL.lk = b.map SL.lk := by
                intro a b hab
                induction a generalizing b with
                | nil => cases b with
                  | nil => rfl
                  | cons _ _ => cases hab
                | cons a as ih => cases b with
                  | nil => cases hab
                  | cons b bs =>
                    simp only [List.map_cons, allIs, Bool.and_eq_true] at hab
                    simp only [List.map_cons, ih hab.2]
                    have : a.lk = b.lk := by
                      have h0 := hab.1
                      cases a <;> cases b <;> first | rfl | (simp [SL.is, SL.lk] at h0; done) | (simp only [SL.is, SL.lk] at h0 ⊢; rw [kNo_inj h0])
                    rw [this]
              have hm : cs.map SL.lk = (cs.take off).map SL.lk ++ x.cells.map SL.lk ++ (cs.drop (off + x.cells.length)).map SL.lk := by
                conv => lhs; rw [hsplit]
                simp only [List.map_append]
                rw [hlk hk0]
              rw [hm]
              exact allIs_append (allIs_append (allIs_lk _) (allIs_lk _)) (allIs_lk _)
            have hlf : new.map SL.lf = cs'.map SL.lf := by
              rw [← e1]
              cases hp
              simp [new, off, List.map_take, List.map_drop]
            obtain ⟨v1, v2⟩ := allIs_val hkinds e2 hlf
            refine done_row hR ha heff2 r1 (by rw [hw, ← v1]; exact q1) (by rw [← v1]; simp [q2]) (v2 (q3 r2 hx)) hrow hk3
          · cases hp
      · exact absurd hk hA.fail
    · exact absurd hk hA.fail

end
end Go.Am
