/-
  OPERATIONS: what the algebra says of them, the abstract machine does. First part: temporaries, local rows, structs.
-/
import Derived.Test.YtdngmncaohgacaaDoorSx5
set_option linter.unusedSectionVars false
set_option linter.unusedSimpArgs false
set_option linter.unusedVariables false
set_option linter.constructorNameAsVariable false
namespace Go.Am

section
variable [Val] [Kno] {R HT : Type} {A : Alg R HT} {X : Ctxt} {Sg : FuncId → Option Sig} {holds : R → Prop} {abs : HT → List HObj}
variable {ev : Env} {σ : St} {h : HT} {o : Oper} {K : KN R HT}

def StepO (C : Cfg) (pts : List Nat) (o : Oper) (σ σ' : St) : Prop :=
  (∃ e, effOf C pts (oval σ.tmps) o = some e ∧ effRel (uB C) e o.dst σ σ') ∨ (∃ v, symRel C σ.tmps o v ∧ σ' = σ.put o.dst v)

/-- The row that an operation makes. -/
def opKey (pts : List Nat) (o : Oper) : Option Nat :=
  match o.op, o.dst with
  | .box .., some d => if pts.getD d 0 = d + 2 then some d else none
  | .alloc _, some d => if pts.getD d 0 = d + 2 then some d else none
  | _, _ => none

def Done (X : Ctxt) (holds : R → Prop) (abs : HT → List HObj) (o : Oper) (σ : St) (K : KN R HT) : Prop :=
  ∃ σ' ev' h', StepO X.C X.pts o σ σ' ∧ Rp ev' σ' ∧ abs h' = σ'.heap ∧ Fr o.dst.toList (opKey X.pts o).toList (opRow X.pts o).toList σ σ' ∧ holds (K ev' h')

theorem setD_ok (hR : Rp ev σ) {dst : Option Tmp} {s : SV} (hs : s.gd) (hk : holds (setD dst s ev h K)) : ∃ ev', Rp ev' (σ.put dst s.val) ∧ holds (K ev' h) := by
  unfold setD at hk
  cases dst with
  | none => exact ⟨ev, hR, hk⟩
  | some d =>
    simp only [setK_eq] at hk
    exact ⟨_, hR.put d hs, hk⟩

theorem done_heap (hR : Rp ev σ) (H' : List HObj) (ha : abs h = H') {s : SV} (hs : s.gd)
    (hst : StepO X.C X.pts o σ (({ σ with heap := H' } : St).put o.dst s.val)) (hk : holds (setD o.dst s ev h K)) : Done X holds abs o σ K := by
  obtain ⟨ev', h1, h2⟩ := setD_ok (hR.heap H') hs hk
  refine ⟨_, ev', h, hst, h1, ?_, ?_, h2⟩
  · rw [ha]; cases o.dst <;> rfl
  · have := Fr.put (σ := ({ σ with heap := H' } : St)) o.dst s.val (opKey X.pts o).toList (opRow X.pts o).toList
    exact ⟨this.tlen, this.llen, this.tm, this.tp, this.row, this.rlen⟩

theorem done_val (hR : Rp ev σ) (ha : abs h = σ.heap) {s : SV} (hs : s.gd) (he : effOf X.C X.pts (oval σ.tmps) o = some (.val s.val)) (hk : holds (setD o.dst s ev h K)) :
    Done X holds abs o σ K :=
  done_heap hR σ.heap ha hs (.inl ⟨_, he, _, rfl, rfl⟩) hk

theorem done_sym (hR : Rp ev σ) (ha : abs h = σ.heap) {s : SV} (hs : s.gd) (he : symRel X.C σ.tmps o s.val) (hk : holds (setD o.dst s ev h K)) :
    Done X holds abs o σ K :=
  done_heap hR σ.heap ha hs (.inr ⟨_, he, rfl⟩) hk

theorem done_hget (hR : Rp ev σ) (ha : abs h = σ.heap) {s : SV} (hs : s.gd) {f : List HObj → Option Value} (he : effOf X.C X.pts (oval σ.tmps) o = some (.hget f)) (hf : f σ.heap = some s.val)
    (hk : holds (setD o.dst s ev h K)) : Done X holds abs o σ K :=
  done_heap hR σ.heap ha hs (.inl ⟨_, he, (σ, s.val), by simp [applyEff, hf], rfl⟩) hk

theorem done_hop (hR : Rp ev σ) {H' : List HObj} (ha : abs h = H') {s : SV} (hs : s.gd) {f : List HObj → Option (List HObj × Value)} (he : effOf X.C X.pts (oval σ.tmps) o = some (.hop f))
    (hf : f σ.heap = some (H', s.val)) (hk : holds (setD o.dst s ev h K)) : Done X holds abs o σ K :=
  done_heap hR H' ha hs (.inl ⟨_, he, ({ σ with heap := H' }, s.val), by simp [applyEff, hf], rfl⟩) hk

/-! ### Moves -/

theorem move_ok (hR : Rp ev σ) (ha : abs h = σ.heap) {x : Operand} (ho : o.op = .move x ∨ o.op = .assign x) {y : SV} (hy : sval ev x = y) (hn : y ≠ .no) (hk : holds (setD o.dst y ev h K)) : Done X holds abs o σ K := by
  obtain ⟨h1, h2⟩ := hR.sval hy hn
  refine done_val hR ha h2 ?_ hk
  rcases ho with ho | ho <;> simp only [effOf, ho, h1]

theorem pick_ok (hA : AlgOk A X.C Sg X.T holds abs) (hR : Rp ev σ) (ha : abs h = σ.heap) {c a b : Operand} (ho : o.op = .pick c a b)
    (hk : holds (match sval ev c, sval ev a, sval ev b with
    | .st (.leaf (.l true)), .st y, _ => setD o.dst (.st y) ev h K
    | .st (.leaf (.l false)), _, .st y => setD o.dst (.st y) ev h K
    | .st (.leaf (.b t)), .st y, .st z => A.cond t (setD o.dst (.st y) ev h K) (setD o.dst (.st z) ev h K)
    | _, _, _ => A.fail)) : Done X holds abs o σ K := by
  split at hk
  · rename_i y e1 e2
    obtain ⟨h1, _⟩ := hR.sval e1 (by simp)
    obtain ⟨h2, g2⟩ := hR.sval e2 (by simp)
    refine done_val hR ha g2 ?_ hk
    simp only [effOf, ho, h1, SV.val, S0.val, SL.val, if_true, h2]
  · rename_i y e1 e2
    obtain ⟨h1, _⟩ := hR.sval e1 (by simp)
    obtain ⟨h2, g2⟩ := hR.sval e2 (by simp)
    refine done_val hR ha g2 ?_ hk
    simp only [effOf, ho, h1, SV.val, S0.val, SL.val, h2, Bool.false_eq_true, if_false]
  · rename_i t y z e1 e2 e3
    obtain ⟨h1, _⟩ := hR.sval e1 (by simp)
    obtain ⟨h2, g2⟩ := hR.sval e2 (by simp)
    obtain ⟨h3, g3⟩ := hR.sval e3 (by simp)
    rcases hA.cond _ _ _ hk with ⟨ht, hk⟩ | ⟨ht, hk⟩
    · refine done_val hR ha g2 ?_ hk
      simp only [effOf, ho, h1, SV.val, S0.val, SL.val, ht, if_true, h2]
    · refine done_val hR ha g3 ?_ hk
      simp only [effOf, ho, h1, SV.val, S0.val, SL.val, ht, h3, Bool.false_eq_true, if_false]
  · exact absurd hk hA.fail

/-! ### New variables -/

theorem newV_ok (hA : AlgOk A X.C Sg X.T holds abs) (hR : Rp ev σ) (ha : abs h = σ.heap) {t : TypeId} {x : S0} (hx : x.good) (he : effOf X.C X.pts (oval σ.tmps) o = newVarEff X.C X.pts o.dst t x.val)
    (hb : (∃ y, o.op = .box t y) ∨ o.op = .alloc t) (hk : holds (newV A X o.dst t x ev h K)) : Done X holds abs o σ K := by
  unfold newV at hk
  split at hk
  · exact absurd hk hA.fail
  · rename_i d hd
    have hcells := S0.cells_val hx
    have hok := S0.cells_ok hx
    have hnt := S0.not_tuple hx
    split at hk
    · rename_i hp
      have hp : X.pts.getD d 0 = d + 2 := by simpa using hp
      split at hk
      · rename_i hl
        rw [setK_eq, setK_eq] at hk
        have hrow : ev.lc[d]? = some .nil := by
          rw [List.getD_eq_getElem?_getD] at hl
          cases he : ev.lc[d]? with
          | none => rw [he] at hl; cases hl
          | some r => rw [he] at hl; simp at hl; rw [hl]
        have hloc : σ.loc[d]? = some none := hR.row d _ hrow
        have heff : effOf X.C X.pts (oval σ.tmps) o = some (.lnew d (x.cells.map SL.val)) := by
          rw [he, hd]
          unfold newVarEff
          simp only [hnt, Bool.false_eq_true, if_false, hcells, cells_ok' hx, Bool.not_true, hp, if_true]
        let σ₁ : St := { σ with loc := σ.loc.set d (some (x.cells.map SL.val)) }
        have hR1 : Rp ⟨ev.tm, ev.lc.set d (.row x.cells)⟩ σ₁ := by
          refine ⟨hR.len, hR.val, by simp [σ₁, hR.llen], fun i r hr => ?_⟩
          simp only [List.getElem?_set] at hr
          split at hr
          · rename_i hi
            subst hi
            split at hr
            · rename_i hlt
              cases hr
              exact ⟨by simp only [σ₁]; rw [List.getElem?_set_self (by rw [← hR.llen]; exact hlt)], hx⟩
            · cases hr
          · rename_i hi
            have := hR.row i r hr
            have hne : σ₁.loc[i]? = σ.loc[i]? := by simp only [σ₁]; rw [List.getElem?_set_ne hi]
            cases r <;> first | trivial | (simp only [LR.ok] at this ⊢; rw [hne]; exact this)
        have hkey : opKey X.pts o = some d := by
          rcases hb with ⟨y, hb⟩ | hb <;> (simp only [opKey, hb, hd]; rw [if_pos hp])
        have hrow' : opRow X.pts o = some d := by
          rcases hb with ⟨y, hb⟩ | hb <;> (simp only [opRow, hb, hd]; rw [if_pos hp])
        refine ⟨σ₁.put o.dst (.pointer (some ⟨d, 0, some 0⟩)), _, h, .inl ⟨_, heff, (σ₁, .pointer (some ⟨d, 0, some 0⟩)), by simp [applyEff, hloc, σ₁], rfl⟩, ?_, ?_, ?_, hk⟩
        · rw [hd]; exact hR1.put d (s := .lad d 0) trivial
        · rw [ha]; cases o.dst <;> rfl
        · have hf := Fr.put (σ := σ₁) o.dst (.pointer (some ⟨d, 0, some 0⟩)) [d] [d]
          have h0 : Fr o.dst.toList [d] [d] σ σ₁ := by
            refine ⟨rfl, by simp [σ₁], fun _ _ h _ _ => h, fun _ _ _ h _ _ => h, fun s y hs hn => ?_, fun s vs hs hn => ?_⟩
            · simp only [List.mem_singleton] at hn
              simp only [σ₁]
              rw [List.getElem?_set_ne (fun e => hn e.symm)]; exact hs
            · simp only [List.mem_singleton] at hn
              refine ⟨vs, ?_, rfl⟩
              simp only [σ₁]
              rw [List.getElem?_set_ne (fun e => hn e.symm)]; exact hs
          rw [hkey, hrow']
          exact h0.trans hf
      · exact absurd hk hA.fail
    · rename_i hp
      have hp : ¬ X.pts.getD d 0 = d + 2 := fun e => by rw [e] at hp; simp at hp
      obtain ⟨h', e1, e2⟩ := hA.new _ _ _ hk
      rw [ha] at e1 e2
      have heff : effOf X.C X.pts (oval σ.tmps) o = some (.hop fun H => some (H ++ [.cells x.val.cells.toList (rowSize X.C.P t) true], .pointer (some ⟨H.length, 0, none⟩))) := by
        rw [he, hd]
        unfold newVarEff
        simp only [hnt, Bool.false_eq_true, if_false, hok, Bool.not_true, hp]
      rw [← hd] at e2
      refine done_hop (s := .st (.leaf (.v (.pointer (some ⟨σ.heap.length, 0, none⟩))))) hR e1 (fun l hl => ?_) heff ?_ e2
      · simp only [S0.cells, List.mem_singleton] at hl
        subst hl; rfl
      · simp only [hcells]; rfl

/-! ### Structs -/

theorem zipIdx_fold (new : List Value) : ∀ (off k : Nat) (cs : List Value), off + k + new.length ≤ cs.length →
    ((new.zipIdx k).foldl (fun (acc : Array Value) (p : Value × Nat) => acc.setIfInBounds (off + p.2) p.1) cs.toArray).toList = cs.take (off + k) ++ new ++ cs.drop (off + k + new.length) := by
  induction new with
  | nil => intro off k cs h; simp
  | cons a l ih =>
    intro off k cs h
    simp only [List.length_cons] at h
    simp only [List.zipIdx_cons, List.foldl_cons]
    have hset : (cs.toArray.setIfInBounds (off + k) a) = (cs.set (off + k) a).toArray := by simp
    rw [hset, ih off (k + 1) (cs.set (off + k) a) (by simp; omega)]
    rw [List.take_set, List.drop_set]
    have h1 : (cs.take (off + (k + 1))).set (off + k) a = cs.take (off + k) ++ [a] := by
      rw [show off + (k + 1) = (off + k) + 1 from by omega]
      rw [List.take_succ_eq_append_getElem (by omega), List.set_append]
      simp [Nat.min_eq_left (show off + k ≤ cs.length by omega)]
    rw [h1]
    rw [if_pos (show off + k < off + (k + 1) + l.length by omega), show off + (k + 1) + l.length = off + k + (l.length + 1) by omega]
    simp only [List.append_assoc, List.cons_append, List.nil_append, List.length_cons]

theorem fillS_ok (pl : Nat → Option (Nat × Nat)) : ∀ (ps : List (Nat × S0)) (cs r : List SL), (∀ p ∈ ps, p.2.good) → fillS pl cs ps = some r →
    Instr.fill pl ⟨cs.map SL.val⟩ (ps.map fun p => (p.1, p.2.val)) = some ⟨r.map SL.val⟩
  | [], cs, r, _, hf => by cases hf; rfl
  | (i, x) :: ps, cs, r, hg, hf => by
    simp only [fillS] at hf
    split at hf
    · rename_i off n hpl
      split at hf
      · rename_i hn
        split at hf
        · rename_i cs1 hs
          have hn : x.cells.length = n := by simpa using hn
          have hx : x.good := hg (i, x) (by simp)
          have hc := S0.cells_val hx
          unfold spliceS at hs
          split at hs
          · rename_i hle
            cases hs
            have ih := fillS_ok pl ps _ r (fun p hp => hg p (by simp [hp])) hf
            simp only [List.map_cons, Instr.fill, hpl, hc]
            have hsz : (⟨x.cells.map SL.val⟩ : Array Value).size = n := by simp [hn]
            rw [if_neg (by
              have h2 : (⟨cs.map SL.val⟩ : Array Value).size = cs.length := by simp
              rw [hsz, h2]; simp; omega)]
            rw [← ih]
            congr 1
            have hfold := zipIdx_fold (x.cells.map SL.val) off 0 (cs.map SL.val) (by simp; omega)
            apply Array.toList_inj.1
            rw [← Array.foldl_toList, Array.toList_zipIdx]
            refine Eq.trans hfold ?_
            simp [List.map_take, List.map_drop]
          · cases hs
        · cases hf
      · cases hf
    · cases hf

theorem fillS_good (pl : Nat → Option (Nat × Nat)) : ∀ (ps : List (Nat × S0)) (cs r : List SL), (∀ c ∈ cs, c.good) → (∀ p ∈ ps, p.2.good) → fillS pl cs ps = some r → ∀ c ∈ r, c.good
  | [], cs, r, hc, _, hf => by cases hf; exact hc
  | (i, x) :: ps, cs, r, hc, hg, hf => by
    simp only [fillS] at hf
    split at hf
    · split at hf
      · split at hf
        · rename_i cs1 hs
          refine fillS_good pl ps cs1 r (fun c hm => ?_) (fun p hp => hg p (by simp [hp])) hf
          unfold spliceS at hs
          split at hs
          · cases hs
            simp only [List.mem_append] at hm
            rcases hm with (hm | hm) | hm
            · exact hc c (List.mem_of_mem_take hm)
            · exact hg (i, x) (by simp) c hm
            · exact hc c (List.mem_of_mem_drop hm)
          · cases hs
        · cases hf
      · cases hf
    · cases hf

theorem zip_map_eq {ps : List (Nat × Operand)} {xs : List S0} (hv : (ps.map (·.2)).map (oval σ.tmps) = valsOf xs) :
    ps.map (fun p => (p.1, oval σ.tmps p.2)) = ((ps.map (·.1)).zip xs).map fun p => (p.1, p.2.val) := by
  induction ps generalizing xs with
  | nil => simp
  | cons p ps ih =>
    cases xs with
    | nil => simp [valsOf] at hv
    | cons x xs =>
      simp only [List.map_cons, valsOf, List.cons.injEq] at hv
      simp only [List.map_cons, List.zip_cons_cons, hv.1]
      rw [ih (xs := xs) hv.2]

theorem zip_good {is : List Nat} {xs : List S0} (hg : ∀ x ∈ xs, x.good) : ∀ p ∈ is.zip xs, p.2.good := fun _ hp => hg _ (List.of_mem_zip hp).2

theorem zeroS_ok {P : Program} {t : TypeId} {x : S0} (hz : zeroS P t = some x) : ∃ z, zeroOf P t = some z ∧ x.val = z ∧ x.good := by
  unfold zeroS at hz
  obtain ⟨z, h1, h2⟩ := Option.bind_eq_some_iff.1 hz
  obtain ⟨h3, h4, _⟩ := s0Of_ok h2
  exact ⟨z, h1, h3, h4⟩

theorem build_ok (hA : AlgOk A X.C Sg X.T holds abs) (hR : Rp ev σ) (ha : abs h = σ.heap) {t : TypeId} {ps : Array (Nat × Operand)} (ho : o.op = .build t ps)
    (hk : holds (match zeroS X.C.P t, placesOf X.C.P t, svals ev (ps.toList.map (·.2)) with
    | some z, some pl, some xs => match fillS pl z.cells ((ps.toList.map (·.1)).zip xs) with
      | some cs => setD o.dst (.st (.agg cs)) ev h K
      | none => A.fail
    | _, _, _ => A.fail)) : Done X holds abs o σ K := by
  split at hk
  · rename_i z pl xs e1 e2 e3
    split at hk
    · rename_i cs e4
      obtain ⟨zv, hz1, hz2, hz3⟩ := zeroS_ok e1
      obtain ⟨hv, hg⟩ := hR.svals e3
      have hzc := S0.cells_val hz3
      have hfill := fillS_ok pl _ _ _ (zip_good (is := ps.toList.map (·.1)) hg) e4
      have hgood := fillS_good pl _ _ _ (fun c hc => hz3 c hc) (zip_good (is := ps.toList.map (·.1)) hg) e4
      refine done_val hR ha (s := .st (.agg cs)) hgood ?_ hk
      have hall : (ps.toList.all fun p => !isTuple (oval σ.tmps p.2)) = true := by
        simp only [List.all_eq_true, Bool.not_eq_true']
        intro p hp
        have hm : oval σ.tmps p.2 ∈ valsOf xs := by
          rw [← hv]
          exact List.mem_map.2 ⟨p.2, List.mem_map.2 ⟨p, hp, rfl⟩, rfl⟩
        simp only [valsOf, List.mem_map] at hm
        obtain ⟨x, hx, e⟩ := hm
        rw [← e]
        exact S0.not_tuple (hg x hx)
      simp only [effOf, ho, hall, if_true, buildA, hz1, e2]
      rw [zip_map_eq hv, ← hz2, hzc, hfill]
      rfl
    · exact absurd hk hA.fail
  · exact absurd hk hA.fail

end
end Go.Am
