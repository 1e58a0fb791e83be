/-
  OPERATIONS, fifth part: addresses, parts, new rows.
-/
import Derived.Test.YtdngmncaohgacaaDoorSx6d
set_option linter.unusedSectionVars false
set_option linter.unusedSimpArgs false
set_option linter.unusedVariables false
set_option linter.constructorNameAsVariable false
namespace Go.Am
namespace Sx

section
variable [Val] [Kno] {R HT : Type} {A : Alg R HT} {X : Ctxt} {Sg : FuncId → Option Sig} {holds : R → Prop} {abs : HT → List HObj}
variable {ev : Env} {σ : St} {h : HT} {o : Oper} {K : KN R HT}

theorem offX_snoc : ∀ (ix : List (Int × Nat)) (base : Nat) (p : Int × Nat), offX base (ix ++ [p]) = offX base ix + p.1.toNat * p.2
  | [], _, _ => rfl
  | q :: l, base, p => offX_snoc l (base + q.1.toNat * q.2) p
theorem offX_add : ∀ (ix : List (Int × Nat)) (base n : Nat), offX (base + n) ix = offX base ix + n
  | [], _, _ => rfl
  | q :: l, base, n => by
    simp only [offX]
    rw [show base + n + q.1.toNat * q.2 = base + q.1.toNat * q.2 + n by omega]
    exact offX_add l _ n

theorem nilCheck_ok (hA : AlgOk A X.C Sg X.T holds abs) (hR : Rp ev σ) (ha : abs h = σ.heap) {x : Operand} (ho : o.op = .nilCheck x)
    (hk : holds (match sval ev x with
    | .st (.leaf (.v p)) => A.opt (nilP p) fun q => A.chk q (setD o.dst (.st (.leaf (.v q))) ev h K)
    | .lad s off => setD o.dst (.lad s off) ev h K
    | .gad s off => setD o.dst (.gad s off) ev h K
    | _ => A.fail)) : Done X holds abs o σ K := by
  split at hk
  · rename_i p e
    obtain ⟨h1, _⟩ := hR.sval e (by simp)
    simp only [SV.val, S0.val, SL.val] at h1
    obtain ⟨q, hq, hk1⟩ := hA.opt _ _ hk
    obtain ⟨hg, hk2⟩ := hA.chk _ _ hk1
    refine done_val hR ha (s := .st (.leaf (.v q))) (leaf_good hg) ?_ hk2
    simp only [effOf, ho, h1]
    unfold nilP at hq
    split at hq <;> cases hq <;> rfl
  · rename_i s off e
    obtain ⟨h1, _⟩ := hR.sval e (by simp)
    exact done_val hR ha (s := .lad s off) trivial (by simp only [effOf, ho, h1, SV.val]) hk
  · rename_i s off e
    obtain ⟨h1, _⟩ := hR.sval e (by simp)
    exact done_val hR ha (s := .gad s off) trivial (by simp only [effOf, ho, h1, SV.val]) hk
  · exact absurd hk hA.fail

theorem fieldAddr_ok (hA : AlgOk A X.C Sg X.T holds abs) (hR : Rp ev σ) (ha : abs h = σ.heap) {t : TypeId} {x : Operand} {f : Nat} (ho : o.op = .fieldAddr t x f)
    (hk : holds (fieldAddrE A X o.dst t x f ev h K)) : Done X holds abs o σ K := by
  unfold fieldAddrE at hk
  split at hk
  · rename_i fs hu
    split at hk
    · rename_i fd hf
      have heff : ∀ {b off : Nat} {sp : Option Nat}, Nat.beq (X.C.P.cellsOf fd.type) 0 = false → oval σ.tmps x = .pointer (some ⟨b, off, sp⟩) →
          effOf X.C X.pts (oval σ.tmps) o = some (.val (.pointer (some ⟨b, off + fd.offset, sp⟩))) := by
        intro b off sp hz hx
        have hz : ¬ X.C.P.cellsOf fd.type = 0 := fun e => by rw [e] at hz; cases hz
        simp only [effOf, ho, hx, fieldAddrA, hu, hf, if_neg hz, Option.map_some]
      split at hk
      · rename_i s off hz e
        obtain ⟨h1, _⟩ := hR.sval e (by simp)
        exact done_val hR ha (s := .lad s (off + fd.offset)) trivial (heff hz h1) hk
      · rename_i s off hz e
        obtain ⟨h1, _⟩ := hR.sval e (by simp)
        exact done_val hR ha (s := .gad s (off + fd.offset)) trivial (heff hz h1) hk
      · rename_i s base ix hz e
        obtain ⟨h1, _⟩ := hR.sval e (by simp)
        refine done_val hR ha (s := .ldx s (base + fd.offset) ix) trivial ?_ hk
        rw [heff hz h1, SV.val, offX_add]
      · rename_i s base ix hz e
        obtain ⟨h1, _⟩ := hR.sval e (by simp)
        refine done_val hR ha (s := .gdx s (base + fd.offset) ix) trivial ?_ hk
        rw [heff hz h1, SV.val, offX_add]
      · rename_i p hz e
        obtain ⟨h1, _⟩ := hR.sval e (by simp)
        simp only [SV.val, S0.val, SL.val] at h1
        obtain ⟨q, hq, hk1⟩ := hA.opt _ _ hk
        obtain ⟨hg, hk2⟩ := hA.chk _ _ hk1
        refine done_val hR ha (s := .st (.leaf (.v q))) (leaf_good hg) ?_ hk2
        unfold fdP at hq
        split at hq
        · rename_i a
          cases hq
          exact heff hz h1
        · cases hq
      · exact absurd hk hA.fail
    · exact absurd hk hA.fail
  · exact absurd hk hA.fail

theorem constI_ok {i : Operand} {n : Nat} (h : constI i = some n) : intOf (oval σ.tmps i) = some (n : Int) := by
  unfold constI at h
  split at h
  · cases h
    simp [oval, flat, flat1, scalar, Am.intOf]
  · cases h

theorem inB_ok {len : Nat} {j : Int} {u : Unit} (h : inB len j = some u) : 0 ≤ j ∧ j < (len : Int) := by
  unfold inB at h
  split at h
  · assumption
  · cases h

theorem idS_ok {esz : Nat} {x q : Value} {i : Int} (h : idS esz x i = some q) :
    ∃ a len cx, x = .slice (some a) len cx ∧ (0 ≤ i ∧ i < (len : Int)) ∧ q = .pointer (some ⟨a.block, a.off + i.toNat * esz, if a.spot = some 1 then some 1 else none⟩) := by
  cases x <;> simp only [idS, reduceCtorEq] at h
  rename_i a len cx
  cases a with
  | none => cases h
  | some a =>
    simp only at h
    split at h
    · rename_i hb; cases h; exact ⟨a, len, cx, rfl, hb, rfl⟩
    · cases h

theorem indexAddr_ok (hA : AlgOk A X.C Sg X.T holds abs) (hR : Rp ev σ) (ha : abs h = σ.heap) {t : TypeId} {x i : Operand} (ho : o.op = .indexAddr t x i)
    (hk : holds (indexAddrE A X o.dst t x i ev h K)) : Done X holds abs o σ K := by
  unfold indexAddrE at hk
  split at hk
  · rename_i len e hu
    have heff : ∀ {b off : Nat} {sp : Option Nat} {j : Int}, Nat.beq (X.C.P.cellsOf e) 0 = false → oval σ.tmps x = .pointer (some ⟨b, off, sp⟩) → intOf (oval σ.tmps i) = some j → 0 ≤ j → j < (len : Int) →
        effOf X.C X.pts (oval σ.tmps) o = some (.val (.pointer (some ⟨b, off + j.toNat * X.C.P.cellsOf e, sp⟩))) := by
      intro b off sp j hz hx hi h0 h1
      have hz : ¬ X.C.P.cellsOf e = 0 := fun e => by rw [e] at hz; cases hz
      simp only [effOf, ho, hx, indexAddrA, hi, hu, if_neg hz, if_pos (And.intro h0 h1), Option.map_some]
    have hint : ∀ {k : IntKind} {j : Int}, sval ev i = .st (.leaf (.i k j)) → intOf (oval σ.tmps i) = some j := by
      intro k j hs
      obtain ⟨h1, _⟩ := hR.sval hs (by simp)
      rw [h1]; rfl
    simp only at hk
    split at hk
    · rename_i s off n hz e1 hc
      obtain ⟨h1, _⟩ := hR.sval e1 (by simp)
      split at hk
      · rename_i hlt
        have hlt : n < len := by simpa [Nat.blt_eq] using hlt
        refine done_val hR ha (s := .lad s (off + n * X.C.P.cellsOf e)) trivial ?_ hk
        rw [heff hz h1 (constI_ok hc) (by omega) (by omega)]; simp [SV.val]
      · exact absurd hk hA.fail
    · rename_i s off n hz e1 hc
      obtain ⟨h1, _⟩ := hR.sval e1 (by simp)
      split at hk
      · rename_i hlt
        have hlt : n < len := by simpa [Nat.blt_eq] using hlt
        refine done_val hR ha (s := .gad s (off + n * X.C.P.cellsOf e)) trivial ?_ hk
        rw [heff hz h1 (constI_ok hc) (by omega) (by omega)]; simp [SV.val]
      · exact absurd hk hA.fail
    · rename_i s base ix n hz e1 hc
      obtain ⟨h1, _⟩ := hR.sval e1 (by simp)
      split at hk
      · rename_i hlt
        have hlt : n < len := by simpa [Nat.blt_eq] using hlt
        refine done_val hR ha (s := .ldx s (base + n * X.C.P.cellsOf e) ix) trivial ?_ hk
        rw [heff hz h1 (constI_ok hc) (by omega) (by omega)]; simp [SV.val, offX_add]
      · exact absurd hk hA.fail
    · rename_i s base ix n hz e1 hc
      obtain ⟨h1, _⟩ := hR.sval e1 (by simp)
      split at hk
      · rename_i hlt
        have hlt : n < len := by simpa [Nat.blt_eq] using hlt
        refine done_val hR ha (s := .gdx s (base + n * X.C.P.cellsOf e) ix) trivial ?_ hk
        rw [heff hz h1 (constI_ok hc) (by omega) (by omega)]; simp [SV.val, offX_add]
      · exact absurd hk hA.fail
    · rename_i s off k j hz e1 e2 _
      obtain ⟨h1, _⟩ := hR.sval e1 (by simp)
      obtain ⟨u, hu2, hk1⟩ := hA.opt _ _ hk
      obtain ⟨b1, b2⟩ := inB_ok hu2
      exact done_val hR ha (s := .ldx s off [(j, X.C.P.cellsOf e)]) trivial (by rw [heff hz h1 (hint e2) b1 b2]; rfl) hk1
    · rename_i s off k j hz e1 e2 _
      obtain ⟨h1, _⟩ := hR.sval e1 (by simp)
      obtain ⟨u, hu2, hk1⟩ := hA.opt _ _ hk
      obtain ⟨b1, b2⟩ := inB_ok hu2
      exact done_val hR ha (s := .gdx s off [(j, X.C.P.cellsOf e)]) trivial (by rw [heff hz h1 (hint e2) b1 b2]; rfl) hk1
    · rename_i s base ix k j hz e1 e2 _
      obtain ⟨h1, _⟩ := hR.sval e1 (by simp)
      obtain ⟨u, hu2, hk1⟩ := hA.opt _ _ hk
      obtain ⟨b1, b2⟩ := inB_ok hu2
      exact done_val hR ha (s := .ldx s base (ix ++ [(j, X.C.P.cellsOf e)])) trivial (by rw [heff hz h1 (hint e2) b1 b2, SV.val, offX_snoc]) hk1
    · rename_i s base ix k j hz e1 e2 _
      obtain ⟨h1, _⟩ := hR.sval e1 (by simp)
      obtain ⟨u, hu2, hk1⟩ := hA.opt _ _ hk
      obtain ⟨b1, b2⟩ := inB_ok hu2
      exact done_val hR ha (s := .gdx s base (ix ++ [(j, X.C.P.cellsOf e)])) trivial (by rw [heff hz h1 (hint e2) b1 b2, SV.val, offX_snoc]) hk1
    · rename_i p k j hz e1 e2
      obtain ⟨h1, _⟩ := hR.sval e1 (by simp)
      simp only [SV.val, S0.val, SL.val] at h1
      obtain ⟨q, hq, hk1⟩ := hA.opt _ _ hk
      obtain ⟨hg, hk2⟩ := hA.chk _ _ hk1
      unfold idP at hq
      split at hq
      · rename_i a
        split at hq
        · rename_i hb
          cases hq
          exact done_val hR ha (s := .st (.leaf (.v _))) (leaf_good hg) (heff hz h1 (hint e2) hb.1 hb.2) hk2
        · cases hq
      · cases hq
    · exact absurd hk hA.fail
  · rename_i e hu
    simp only at hk
    split at hk
    · rename_i p k j hz e1 e2
      obtain ⟨h1, _⟩ := hR.sval e1 (by simp)
      obtain ⟨h2, _⟩ := hR.sval e2 (by simp)
      simp only [SV.val, S0.val, SL.val] at h1 h2
      obtain ⟨q, hq, hk1⟩ := hA.opt _ _ hk
      have hz : ¬ X.C.P.cellsOf e = 0 := fun e => by rw [e] at hz; cases hz
      obtain ⟨a, len, cx, rfl, hb, rfl⟩ := idS_ok hq
      refine done_val hR ha (s := .st (.leaf (.v _))) (leaf_good ?_) ?_ hk1
      · show goodV _ = true
        by_cases hs : a.spot = some 1 <;> simp [hs, goodV, noLoc, noLoc3, noLoc2, noLoc1, oneCell, isTuple]
      · simp only [effOf, ho, h1, h2, indexAddrA, Am.intOf, hu, if_neg hz, if_pos hb, Option.map_some]; rfl
    · exact absurd hk hA.fail
  · exact absurd hk hA.fail

theorem partS_ok {C : Cfg} {t : TypeId} {ag : Bool} {cs ds : List SL} {off : Nat} {x : S0} (hag : aggT C.P t = some ag) (hc : cutS cs off (if ag then C.P.cellsOf t else 1) = some ds) (hx : mkS0 ag ds = some x) :
    partA C t ⟨cs.map SL.val⟩ off = some x.val ∧ x.cells = ds := by
  obtain ⟨h1, h2⟩ := mkS0_ok hx
  refine ⟨?_, h1⟩
  unfold cutS at hc
  unfold aggT at hag
  unfold partA
  split at hag
  · rename_i fs e
    cases hag
    simp only [if_true] at hc
    split at hc
    · rename_i hle
      cases hc
      rcases h2 with ⟨_, h2⟩ | ⟨h0, _⟩
      · rw [e]
        simp only [h2, Option.some.injEq, Value.agg.injEq]
        apply Array.toList_inj.1
        rw [Array.toList_extract]
        simp [List.extract, List.map_take, List.map_drop]
      · cases h0
    · cases hc
  · rename_i n el e
    cases hag
    simp only [if_true] at hc
    split at hc
    · rename_i hle
      cases hc
      rcases h2 with ⟨_, h2⟩ | ⟨h0, _⟩
      · rw [e]
        simp only [h2, Option.some.injEq, Value.agg.injEq]
        apply Array.toList_inj.1
        rw [Array.toList_extract]
        simp [List.extract, List.map_take, List.map_drop]
      · cases h0
    · cases hc
  · rename_i d h3 h4 e
    cases hag
    simp only [Bool.false_eq_true, if_false] at hc
    split at hc
    · rename_i hle
      cases hc
      rcases h2 with ⟨h0, _⟩ | ⟨_, h2⟩
      · cases h0
      · rw [e]
        have hlt : off < cs.length := by omega
        rw [List.drop_eq_getElem_cons hlt] at h2
        simp only [List.take_succ_cons, List.take_zero, List.map_cons, List.map_nil, List.cons.injEq, and_true] at h2
        rw [← h2]
        have hlt' : off < (⟨cs.map SL.val⟩ : Array Value).size := by simpa using hlt
        have hget : (⟨cs.map SL.val⟩ : Array Value)[off]? = some cs[off].val := by
          rw [Array.getElem?_eq_getElem hlt']
          simp
        rw [hget]
        split
        · rename_i fs e2; exact absurd (Option.some.inj e2) (h3 _)
        · rename_i a b e2; exact absurd (Option.some.inj e2) (h4 _ _)
        · rfl
        · rename_i e2; cases e2
    · cases hc
  · cases hag

theorem field_ok (hA : AlgOk A X.C Sg X.T holds abs) (hR : Rp ev σ) (ha : abs h = σ.heap) {t : TypeId} {x : Operand} {f : Nat} (ho : o.op = .field t x f)
    (hk : holds (match X.C.P.underlying t, sval ev x with
    | some (.struct fs), .st (.agg cs) => match fs[f]? with
      | some fd => match (aggT X.C.P fd.type).bind (fun ag => (cutS cs fd.offset (if ag then X.C.P.cellsOf fd.type else 1)).bind (mkS0 ag)) with
        | some x => setD o.dst (.st x) ev h K
        | none => A.fail
      | none => A.fail
    | _, _ => A.fail)) : Done X holds abs o σ K := by
  split at hk
  · rename_i fs cs hu e
    obtain ⟨h1, g1⟩ := hR.sval e (by simp)
    split at hk
    · rename_i fd hf
      split at hk
      · rename_i x' hx
        obtain ⟨ag, hag, hx⟩ := Option.bind_eq_some_iff.1 hx
        obtain ⟨ds, hc, hx⟩ := Option.bind_eq_some_iff.1 hx
        obtain ⟨h2, h3⟩ := partS_ok hag hc hx
        refine done_val hR ha (s := .st x') (fun l hl => ?_) ?_ hk
        · rw [h3] at hl
          exact g1 l ((cutS_ok hc).2 l hl)
        · simp only [effOf, ho, h1, SV.val, S0.val, fieldA, hu, hf, Option.bind_some, h2, Option.map_some]
      · exact absurd hk hA.fail
    · exact absurd hk hA.fail
  · exact absurd hk hA.fail

theorem extract_ok (hA : AlgOk A X.C Sg X.T holds abs) (hR : Rp ev σ) (ha : abs h = σ.heap) {t : Operand} {i : Nat} (ho : o.op = .extract t i)
    (hk : holds (match sval ev t with
    | .tup xs => match xs[i]? with
      | some x => setD o.dst (.st x) ev h K
      | none => A.fail
    | _ => A.fail)) : Done X holds abs o σ K := by
  split at hk
  · rename_i xs e
    obtain ⟨h1, g1, g2⟩ := hR.sval e (by simp)
    split at hk
    · rename_i x hx
      refine done_val hR ha (s := .st x) (g1 x (List.mem_of_getElem? hx)) ?_ hk
      simp only [effOf, ho, h1, SV.val]
      rw [if_neg (by simp; omega)]
      have : (⟨xs.map S0.val⟩ : Array Value)[i]? = some x.val := by simp [hx]
      rw [this]; rfl
    · exact absurd hk hA.fail
  · exact absurd hk hA.fail

theorem makeFunc_ok (hA : AlgOk A X.C Sg X.T holds abs) (hR : Rp ev σ) (ha : abs h = σ.heap) {fn : Fn} {first cap : Array Operand} (ho : o.op = .makeFunc fn first cap)
    (hk : holds (match (generalizing := false) fn, svals ev first.toList, svals ev cap.toList with
    | .func g, some a, some b => A.chk (.func (.func g) ⟨valsOf a⟩ ⟨valsOf b⟩) (setD o.dst (.st (.leaf (.v (.func (.func g) ⟨valsOf a⟩ ⟨valsOf b⟩)))) ev h K)
    | _, _, _ => A.fail)) : Done X holds abs o σ K := by
  split at hk
  · rename_i g a b _ e1 e2
    obtain ⟨h1, _⟩ := hR.svals e1
    obtain ⟨h2, _⟩ := hR.svals e2
    obtain ⟨hg, hk1⟩ := hA.chk _ _ hk
    refine done_val hR ha (s := .st (.leaf (.v _))) (leaf_good hg) ?_ hk1
    simp only [effOf, ho, SV.val, S0.val, SL.val, Option.some.injEq, Eff.val.injEq, Value.func.injEq, true_and]
    refine ⟨?_, ?_⟩ <;> apply Array.toList_inj.1 <;> simp [h1, h2]
  · exact absurd hk hA.fail

theorem optI_ok (hR : Rp ev σ) {r : Option Operand} {x : Option Int} (h : optI ev r = some x) : (r = none ∧ x = none) ∨ ∃ y k n, r = some y ∧ oval σ.tmps y = .int k n ∧ x = some n := by
  unfold optI at h
  split at h
  · cases h; exact .inl ⟨rfl, rfl⟩
  · rename_i y
    split at h
    · rename_i k n e
      cases h
      obtain ⟨h1, _⟩ := hR.sval e (by simp)
      exact .inr ⟨y, k, n, rfl, h1, rfl⟩
    · cases h

theorem boundOf_ok (hR : Rp ev σ) {r : Option Operand} {x : Option Int} (h : optI ev r = some x) : boundOf (r.map (oval σ.tmps)) = some x := by
  rcases optI_ok hR h with ⟨rfl, rfl⟩ | ⟨y, k, n, rfl, h1, rfl⟩
  · rfl
  · simp [h1, boundOf]

theorem makeMap_ok (hA : AlgOk A X.C Sg X.T holds abs) (hR : Rp ev σ) (ha : abs h = σ.heap) {t : TypeId} {r : Option Operand} (ho : o.op = .makeMap t r)
    (hk : holds (match hintOk X.C t (r.map fun _ => .int .i64 0), optI ev r with
    | true, some _ => A.new (.map [] 0) h fun n h => setD o.dst (.st (.leaf (.v (.map (some n))))) ev h K
    | _, _ => A.fail)) : Done X holds abs o σ K := by
  split at hk
  · rename_i x hh e
    obtain ⟨h', e1, hk1⟩ := hA.new _ _ _ hk
    rw [ha] at e1 hk1
    refine done_hop hR e1 (s := .st (.leaf (.v (.map (some σ.heap.length))))) (leaf_good rfl) (f := fun H => some (H ++ [.map [] 0], .map (some H.length))) ?_ rfl hk1
    have : hintOk X.C t (r.map (oval σ.tmps)) = true := by
      rcases optI_ok hR e with ⟨rfl, rfl⟩ | ⟨y, k, n, rfl, h1, rfl⟩
      · rfl
      · simp only [Option.map_some, hintOk, h1] at hh ⊢
        exact hh
    simp only [effOf, ho, this, if_true]
  · exact absurd hk hA.fail

theorem tag_good (n esz a b : Nat) : goodV (.slice (some ⟨n, 0, tag esz⟩) a b) = true := by
  simp [goodV, noLoc, noLoc3, noLoc2, noLoc1, oneCell, isTuple, tag]

theorem makeSlice_ok (hA : AlgOk A X.C Sg X.T holds abs) (hR : Rp ev σ) (ha : abs h = σ.heap) {t : TypeId} {l c : Operand} (ho : o.op = .makeSlice t l c)
    (hk : holds (match X.C.P.underlying t, sval ev l, sval ev c with
    | some (.slice e), .st (.leaf (.i _ l)), .st (.leaf (.i _ c)) => match X.C.P.info? e with
      | some info => match Nat.beq info.size 0 || Nat.blt 4096 info.bytes, (zeroI info).bind s0Of with
        | false, some z => A.opt (mkOk l c) fun _ =>
            A.new (.cells (zerosA (z.cells.map SL.val) c.toNat) info.size true) h fun n h => setD o.dst (.st (.leaf (.v (.slice (some ⟨n, 0, tag info.size⟩) l.toNat (c.toNat + 1))))) ev h K
        | _, _ => A.fail
      | none => A.fail
    | _, _, _ => A.fail)) : Done X holds abs o σ K := by
  split at hk
  · rename_i e k1 l' k2 c' hu e1 e2
    obtain ⟨h1, _⟩ := hR.sval e1 (by simp)
    obtain ⟨h2, _⟩ := hR.sval e2 (by simp)
    split at hk
    · rename_i info hi
      split at hk
      · rename_i z hz hz0
        obtain ⟨zv, hz1, hz2⟩ := Option.bind_eq_some_iff.1 hz0
        obtain ⟨z1, z2, _⟩ := s0Of_ok hz2
        obtain ⟨u, hm, hk1⟩ := hA.opt _ _ hk
        obtain ⟨h', n1, hk2⟩ := hA.new _ _ _ hk1
        rw [ha] at n1 hk2
        unfold mkOk at hm
        split at hm
        · rename_i hmm
          simp only [Bool.or_eq_false_iff] at hz
          have hs0 : ¬ info.size = 0 := fun e => by rw [e] at hz; cases hz.1
          have hby : info.bytes ≤ 4096 := by
            have := hz.2
            rw [← Bool.not_eq_true, Nat.blt_eq] at this
            omega
          refine done_hop hR n1 (s := .st (.leaf (.v _))) (leaf_good (tag_good _ _ _ _)) (f := makeSliceA X.C t (.int k1 l') (.int k2 c')) ?_ ?_ hk2
          · simp only [effOf, ho, h1, h2]; rfl
          · simp only [makeSliceA, Am.intOf, hu, hi, if_neg hs0, hz1]
            rw [if_pos ⟨hmm.1, hmm.2.1, hmm.2.2, hby⟩, ← z1, S0.cells_val z2]
            rfl
        · cases hm
      · exact absurd hk hA.fail
    · exact absurd hk hA.fail
  · exact absurd hk hA.fail

theorem buildSlice_ok (hA : AlgOk A X.C Sg X.T holds abs) (hR : Rp ev σ) (ha : abs h = σ.heap) {t : TypeId} {n : Nat} {ps : Array (Nat × Operand)} (ho : o.op = .buildSlice t n ps)
    (hk : holds (match X.C.P.underlying t, svals ev (ps.toList.map (·.2)) with
    | some (.slice e), some xs => match X.C.P.info? e with
      | some info => match Nat.beq info.size 0 || Nat.beq n 0 || Nat.blt 16777216 (n * info.size), (zeroI info).bind s0Of with
        | false, some z => match fillS (fun i => some (i * info.size, info.size)) (List.replicate n z.cells).flatten ((ps.toList.map (·.1)).zip xs) with
          | some cs => A.new (.cells (cs.map SL.val) info.size true) h fun m h => setD o.dst (.st (.leaf (.v (.slice (some ⟨m, 0, tag info.size⟩) n (n + 1))))) ev h K
          | none => A.fail
        | _, _ => A.fail
      | none => A.fail
    | _, _ => A.fail)) : Done X holds abs o σ K := by
  split at hk
  · rename_i e xs hu e1
    split at hk
    · rename_i info hi
      split at hk
      · rename_i z hz hz0
        obtain ⟨zv, hz1, hz2⟩ := Option.bind_eq_some_iff.1 hz0
        obtain ⟨z1, z2, _⟩ := s0Of_ok hz2
        split at hk
        · rename_i cs hf
          obtain ⟨h', n1, hk1⟩ := hA.new _ _ _ hk
          rw [ha] at n1 hk1
          obtain ⟨hv, hg⟩ := hR.svals e1
          have hzg : ∀ c ∈ (List.replicate n z.cells).flatten, c.good := by
            intro c hc
            obtain ⟨l, hl, hc⟩ := List.mem_flatten.1 hc
            rw [List.mem_replicate] at hl
            rw [hl.2] at hc
            exact z2 c hc
          have hfill := fillS_ok _ _ _ _ (zip_good (is := ps.toList.map (·.1)) hg) hf
          simp only [Bool.or_eq_false_iff] at hz
          obtain ⟨⟨ha1, ha2⟩, ha3⟩ := hz
          have ha1 : ¬ info.size = 0 := fun e => by rw [e] at ha1; cases ha1
          have ha2 : ¬ n = 0 := fun e => by rw [e] at ha2; cases ha2
          have ha3 : ¬ n * info.size > 16777216 := by rw [← Bool.not_eq_true, Nat.blt_eq] at ha3; omega
          refine done_hop hR n1 (s := .st (.leaf (.v _))) (leaf_good (tag_good _ _ _ _))
            (f := fun H => some (H ++ [.cells (cs.map SL.val) info.size true], .slice (some ⟨H.length, 0, tag info.size⟩) n (n + 1))) ?_ rfl hk1
          have hall : (ps.toList.all fun p => (oval σ.tmps p.2).cells.toList.all cellOk) = true := by
            rw [List.all_eq_true]
            intro p hp
            have hm : oval σ.tmps p.2 ∈ valsOf xs := by
              rw [← hv]
              exact List.mem_map.2 ⟨p.2, List.mem_map.2 ⟨p, hp, rfl⟩, rfl⟩
            simp only [valsOf, List.mem_map] at hm
            obtain ⟨x, hx, e⟩ := hm
            rw [← e]
            exact S0.cells_ok (hg x hx)
          have hflat : (zerosA zv.cells.toList n).toArray = ⟨((List.replicate n z.cells).flatten).map SL.val⟩ := by
            rw [← z1, S0.cells_val z2]
            simp [zerosA, List.map_flatten]
          simp only [effOf, ho, hall, if_true, buildSliceA, hu, hi]
          rw [if_neg (by simp; exact ⟨ha1, ha2⟩), if_neg ha3]
          simp only [hz1]
          rw [zip_map_eq hv, hflat, hfill]
          rfl
        · exact absurd hk hA.fail
      · exact absurd hk hA.fail
    · exact absurd hk hA.fail
  · exact absurd hk hA.fail

end
end Sx
end Go.Am
