/-
  FUNCTIONS AND ROUNDS: what the algebra says of them, the abstract machine does.
-/
import Derived.Test.YtdngmncaohgacaaDoorSx7b
set_option linter.unusedSectionVars false
set_option linter.unusedSimpArgs false
set_option linter.unusedVariables false
set_option linter.constructorNameAsVariable false
namespace Go.Am
namespace Sx

section
variable [Val] [Kno] {R HT : Type} {A : Alg R HT} {X : Ctxt} {Sg : FuncId → Option Sig} {holds : R → Prop} {abs : HT → List HObj}

/-- Leaves that may be handed on. -/
def GoodLs (ls : List Lf) : Prop := ∀ l ∈ ls, match l with
  | .v x => goodV x = true
  | _ => True

theorem good_of_ls {xs : List S0} (h : GoodLs (lfsOf xs)) : ∀ x ∈ xs, x.good := by
  intro x hx l hl
  have hm : l.lf ∈ lfsOf xs := by
    induction xs with
    | nil => cases hx
    | cons y ys ih =>
      simp only [lfsOf, List.mem_append, List.mem_map]
      rcases List.mem_cons.1 hx with rfl | hx
      · exact .inl ⟨l, hl, rfl⟩
      · exact .inr (ih (fun l hl => h l (by simp only [lfsOf, List.mem_append]; exact .inr hl)) hx)
  have := h _ hm
  cases l <;> first | trivial | exact this
theorem ls_of_good : ∀ {xs : List S0}, (∀ x ∈ xs, x.good) → GoodLs (lfsOf xs)
  | [], _, l, hl => by cases hl
  | x :: xs, h, l, hl => by
    simp only [lfsOf, List.mem_append, List.mem_map] at hl
    rcases hl with ⟨c, hc, rfl⟩ | hl
    · have := h x (by simp) c hc
      cases c <;> first | trivial | exact this
    · exact ls_of_good (fun y hy => h y (by simp [hy])) l hl

theorem chkAll_ok {C : Cfg} {T : Nat → Site} (hA : AlgOk A C Sg T holds abs) : ∀ {cs : List SL} {K : R}, holds (chkAll A cs K) → (∀ c ∈ cs, noLoc2 c.val = true) ∧ holds K
  | [], K, h => ⟨by simp, h⟩
  | c :: cs, K, h => by
    cases c with
    | v x =>
      have h' : holds (A.opt (chk2 x) fun _ => chkAll A cs K) := h
      obtain ⟨u, hu, h1⟩ := hA.opt _ _ h'
      obtain ⟨h2, h3⟩ := chkAll_ok hA h1
      refine ⟨List.forall_mem_cons.2 ⟨?_, h2⟩, h3⟩
      unfold chk2 at hu
      split at hu
      · assumption
      · cases hu
    | i k n => obtain ⟨h2, h3⟩ := chkAll_ok (cs := cs) (K := K) hA h; exact ⟨List.forall_mem_cons.2 ⟨rfl, h2⟩, h3⟩
    | b t => obtain ⟨h2, h3⟩ := chkAll_ok (cs := cs) (K := K) hA h; exact ⟨List.forall_mem_cons.2 ⟨rfl, h2⟩, h3⟩
    | l t => obtain ⟨h2, h3⟩ := chkAll_ok (cs := cs) (K := K) hA h; exact ⟨List.forall_mem_cons.2 ⟨rfl, h2⟩, h3⟩

theorem chkRes_ok {C : Cfg} {T : Nat → Site} (hA : AlgOk A C Sg T holds abs) {many : Bool} {x : S0} {K : R} (hx : x.good) (h : holds (chkRes A many x K)) : (many = true → noLoc3 x.val = true) ∧ holds K := by
  unfold chkRes at h
  split at h
  · rename_i cs
    obtain ⟨h1, h2⟩ := chkAll_ok hA h
    refine ⟨fun _ => ?_, h2⟩
    simp only [S0.val, noLoc3, List.all_eq_true, List.mem_map]
    rintro _ ⟨c, hc, rfl⟩
    exact h1 c hc
  · rename_i hne
    refine ⟨fun hm => ?_, h⟩
    cases x with
    | agg cs => exact absurd rfl (hne cs hm)
    | leaf l => exact (goodV_iff.1 (SL.val_good (hx l (by simp [S0.cells])))).2.1

theorem resE_ok (hA : AlgOk A X.C Sg X.T holds abs) {ev : Env} {σ : St} {h : HT} (hR : Rp ev σ) (ha : abs h = σ.heap) {many : Bool} : ∀ (rvs : List ResultVar) (sks : List SK) (acc : List Lf) (K : List Lf → HT → R), holds (resE A X many ev h rvs sks acc K) →
    ∃ ys, areIs ys sks = true ∧ (∀ y ∈ ys, y.good) ∧ (many = true → ∀ y ∈ ys, noLoc3 y.val = true) ∧ ys.length = rvs.length ∧ resultsA X.C σ rvs = some (valsOf ys) ∧ holds (K (acc ++ lfsOf ys) h)
  | [], sks, acc, K, hk => by
    cases sks with
    | nil =>
      have hk' : holds (K acc h) := hk
      exact ⟨[], rfl, by simp, by simp, rfl, rfl, by rw [lfsOf, List.append_nil]; exact hk'⟩
    | cons _ _ => exact absurd hk hA.fail
  | rv :: rvs, sks, acc, K, hk => by
    cases sks with
    | nil => exact absurd hk hA.fail
    | cons sk sks =>
      have fin : ∀ x : S0, x.is sk = true → x.good → resultA X.C σ rv = some x.val → holds (chkRes A many x (resE A X many ev h rvs sks (acc ++ x.cells.map SL.lf) K)) →
          ∃ ys, areIs ys (sk :: sks) = true ∧ (∀ y ∈ ys, y.good) ∧ (many = true → ∀ y ∈ ys, noLoc3 y.val = true) ∧ ys.length = (rv :: rvs).length ∧ resultsA X.C σ (rv :: rvs) = some (valsOf ys) ∧ holds (K (acc ++ lfsOf ys) h) := by
        intro x hx hg hres hk
        obtain ⟨h1, h2⟩ := chkRes_ok hA hg hk
        obtain ⟨ys, a1, a2, a3, a4, a5, a6⟩ := resE_ok hA hR ha rvs sks _ K h2
        refine ⟨x :: ys, by simp [areIs, hx, a1], List.forall_mem_cons.2 ⟨hg, a2⟩, fun hm => List.forall_mem_cons.2 ⟨h1 hm, a3 hm⟩, by simp [a4], ?_, by simpa [lfsOf] using a6⟩
        simp only [resultsA, hres, a5]; rfl
      cases rv with
      | tmp t =>
        have hk' : holds (match ev.tm.getD t .no with
          | .st x => match x.is sk with
            | true => chkRes A many x (resE A X many ev h rvs sks (acc ++ x.cells.map SL.lf) K)
            | false => A.fail
          | _ => A.fail) := hk
        split at hk'
        · rename_i x hx
          obtain ⟨g1, g2⟩ := hR.at hx (by simp)
          split at hk'
          · rename_i his
            exact fin x his g2 (by simp [resultA, List.getD_eq_getElem?_getD, g1]; rfl) hk'
          · exact absurd hk' hA.fail
        · exact absurd hk' hA.fail
      | cell a t =>
        have hk' : holds (match (generalizing := false) aggT X.C.P t with
          | some agg =>
            let n := if agg then X.C.P.cellsOf t else 1
            match (generalizing := false) ev.tm.getD a .no with
            | .lad s off => match (rowAt ev s).bind (fun cs => (cutS cs off n).bind (mkS0 agg)) with
              | some x => match x.is sk with
                | true => chkRes A many x (resE A X many ev h rvs sks (acc ++ x.cells.map SL.lf) K)
                | false => A.fail
              | none => A.fail
            | .st (.leaf (.v p)) => match (generalizing := false) agg, sk with
              | true, .agg _ => A.peek (ldP n p) h fun cs => ucS A sk cs fun x r => A.uc0 r (chkRes A many x (resE A X many ev h rvs sks (acc ++ x.cells.map SL.lf) K))
              | false, .leaf _ => A.peek (ldP n p) h fun cs => ucS A sk cs fun x r => A.uc0 r (chkRes A many x (resE A X many ev h rvs sks (acc ++ x.cells.map SL.lf) K))
              | _, _ => A.fail
            | _ => A.fail
          | none => A.fail) := hk
        clear hk
        split at hk'
        · rename_i agg hag
          simp only at hk'
          split at hk'
          · rename_i s off hl
            obtain ⟨g1, _⟩ := hR.at hl (by simp)
            split at hk'
            · rename_i x hx
              obtain ⟨cs, hr, hx⟩ := Option.bind_eq_some_iff.1 hx
              obtain ⟨ds, hd, hx⟩ := Option.bind_eq_some_iff.1 hx
              obtain ⟨r1, r2, _⟩ := rowAt_ok hR hr
              obtain ⟨c1, c2⟩ := cutS_ok hd
              obtain ⟨v, v1, v2⟩ := readVar_ok hag c1
              obtain ⟨m1, m2⟩ := mkS0_ok hx
              split at hk'
              · rename_i his
                have hv : x.val = v := by
                  rcases m2 with ⟨a1, a2⟩ | ⟨a1, a2⟩ <;> rcases v2 with ⟨b1, b2⟩ | ⟨b1, b2⟩
                  · rw [a2, b2]
                  · rw [a1] at b1; cases b1
                  · rw [a1] at b1; cases b1
                  · rw [a2] at b2; simpa using b2
                refine fin x his (fun l hl => ?_) ?_ hk'
                · rw [m1] at hl; exact r2 l (c2 l hl)
                · simp only [resultA, List.getD_eq_getElem?_getD, g1, Option.getD_some, SV.val, r1, v1, hv]
              · exact absurd hk' hA.fail
            · exact absurd hk' hA.fail
          · rename_i p hl
            obtain ⟨g1, _⟩ := hR.at hl (by simp)
            have common : agg = skAgg sk → holds (A.peek (ldP (if agg then X.C.P.cellsOf t else 1) p) h fun cs => ucS A sk cs fun x r => A.uc0 r (chkRes A many x (resE A X many ev h rvs sks (acc ++ x.cells.map SL.lf) K))) →
                ∃ ys, areIs ys (sk :: sks) = true ∧ (∀ y ∈ ys, y.good) ∧ (many = true → ∀ y ∈ ys, noLoc3 y.val = true) ∧ ys.length = (ResultVar.cell a t :: rvs).length ∧ resultsA X.C σ (.cell a t :: rvs) = some (valsOf ys) ∧ holds (K (acc ++ lfsOf ys) h) := by
              intro hsk hk
              obtain ⟨cs, h2, hk1⟩ := hA.peek _ _ _ hk
              rw [ha] at h2
              obtain ⟨id, off, vs, rfl, h3, h4⟩ := ldP_ok h2
              rw [cellsG_at] at h3
              obtain ⟨v, h5, h6⟩ := readVar_ok hag h4
              rw [hsk] at h6
              obtain ⟨x, r, q1, q2, q3, hk2⟩ := ucS_ok hA hk1
              obtain ⟨hr, hk3⟩ := hA.uc0 _ _ hk2
              rw [hr, List.append_nil] at q1
              rw [q1] at h6
              refine fin x q2 q3 ?_ hk3
              rw [mkV_is q2 h6]
              simp only [resultA, List.getD_eq_getElem?_getD, g1, Option.getD_some, SV.val, S0.val, SL.val, h3, Option.bind_some, h5]
            split at hk'
            · exact common rfl hk'
            · exact common rfl hk'
            · exact absurd hk' hA.fail
          · exact absurd hk' hA.fail
        · exact absurd hk' hA.fail

/-- The function of the program and the one that is told are the same. -/
structure FnIs (X : Ctxt) (Sg : FuncId → Option Sig) (f : FuncId) (fn : Fn1) : Prop where
  is : ∃ g, X.C.P.funcs[f]? = some g ∧ g.body = some (er X fn.code) ∧ (g.name == "runtime.NumGoroutine") = false ∧ g.ntmps = fn.nt ∧ g.results.toList = fn.rvs
  pts : X.pts = X.C.pts f
  sg : Sg f = some fn.sg

theorem packA_noLoc {ys : List S0} (hg : ∀ y ∈ ys, y.good) (hm : 1 < ys.length → ∀ y ∈ ys, noLoc3 y.val = true) : noLoc (packA (valsOf ys)) = true := by
  match ys with
  | [] => rfl
  | [y] => exact S0.noLoc (hg y (by simp))
  | a :: b :: l =>
    have h := hm (by simp)
    have e : packA (valsOf (a :: b :: l)) = .tuple (valsOf (a :: b :: l)).toArray := rfl
    rw [e]
    simp only [Am.noLoc, List.all_eq_true]
    intro v hv
    simp only [valsOf, List.mem_map] at hv
    obtain ⟨y, hy, rfl⟩ := hv
    exact h y hy

theorem areIs_length : ∀ {a : List S0} {sks : List SK}, areIs a sks = true → a.length = sks.length
  | [], [], _ => rfl
  | x :: a, k :: sks, h => by
    simp only [areIs, Bool.and_eq_true] at h
    simp [areIs_length h.2]
  | [], _ :: _, h => by cases h
  | _ :: _, [], h => by cases h

theorem start_rp {xs : List S0} (hg : ∀ x ∈ xs, x.good) (nt : Nat) (H : List HObj) :
    Rp ⟨xs.map .st ++ List.replicate (nt - xs.length) .no, List.replicate nt .nil⟩ { tmps := valsOf xs ++ List.replicate (nt - (valsOf xs).length) undef, loc := List.replicate nt none, heap := H } := by
  refine ⟨by simp [valsOf], fun i s hs => ?_, by simp, fun i r hr => ?_⟩
  · rw [List.getElem?_append] at hs
    split at hs
    · rename_i hi
      simp only [List.length_map] at hi
      simp only [List.getElem?_map, Option.map_eq_some_iff] at hs
      obtain ⟨x, hx, rfl⟩ := hs
      refine ⟨?_, hg x (List.mem_of_getElem? hx)⟩
      rw [List.getElem?_append_left (by simpa [valsOf] using hi)]
      simp [valsOf, hx, SV.val]
    · rw [List.getElem?_replicate] at hs
      split at hs
      · cases hs; trivial
      · cases hs
  · simp only [List.getElem?_replicate] at hr
    split at hr
    · rename_i hi; cases hr
      simp [LR.ok, hi]
    · cases hr

/-- A FUNCTION. -/
theorem execF_ok (hA : AlgOk A X.C Sg X.T holds abs) {dr : List Nat → Array Oper → Bool}
    (hdr : ∀ pts ops, dr pts ops = true → ∀ (n : Nat) (σ σ' : St), opsRel X.C (sm X.C n).toBelow pts ops (List.range ops.size) σ σ' → anyRel X.C (sm X.C n).toBelow pts ops σ σ')
    {f : FuncId} {fn : Fn1} (hf : FnIs X Sg f fn) {ls : List Lf} {h : HT} {K : List Lf → HT → R} (hls : GoodLs ls) (hk : holds (execF A X Sg dr fn ls h K)) :
    ∃ rs h', CallL X.C Sg f ls (abs h) rs (abs h') ∧ GoodLs rs ∧ holds (K rs h') := by
  obtain ⟨g, f1, f2, f3, f4, f5⟩ := hf.is
  obtain ⟨xs, r, e1, e2, hk1⟩ := unSs_ok hA hk
  obtain ⟨hr, hk2⟩ := hA.un0 _ _ hk1
  rw [hr, List.append_nil] at e1
  subst e1
  have hg := good_of_ls hls
  have hR := start_rp hg fn.nt (abs h)
  obtain ⟨e, σ', ev', h', q1, q2, q3, _, q5⟩ := exec_ok hA hdr fn.code _ h _ _ _ hR rfl hk2
  have main : (e = .normal ∨ e = .ret) → holds (resE A X (Nat.blt 1 fn.rvs.length) ev' h' fn.rvs fn.sg.rs [] K) → ∃ rs h', CallL X.C Sg f (lfsOf xs) (abs h) rs (abs h') ∧ GoodLs rs ∧ holds (K rs h') := by
    intro he hk
    obtain ⟨ys, a1, a2, a3, a4, a5, a6⟩ := resE_ok hA q2 q3 fn.rvs fn.sg.rs [] K hk
    rw [List.nil_append] at a6
    refine ⟨lfsOf ys, h', ⟨fn.sg, xs, ys, hf.sg, ⟨e2, rfl, hg⟩, ⟨a1, rfl, a2⟩, ?_⟩, ls_of_good a2, a6⟩
    rw [q3]
    refine uCall.intro f1 f2 f3 ?_ he (by rw [f5]; exact a5) (packA_noLoc a2 fun hl => a3 (by rw [Nat.blt_eq]; omega))
    rw [hf.pts] at q1
    simpa [enterA, f4] using q1
  rcases q5 with ⟨rfl, q5⟩ | ⟨q5, q6⟩
  · exact main (.inl rfl) q5
  · cases e with
    | ret => exact main (.inr rfl) q6
    | _ => exact absurd q6 hA.fail

/-! ### Rounds -/

theorem capEnv_ok : ∀ (caps : List (Nat × SK)) (xs : List S0) (tm : List SV) (tmps : List Value), tm.length = tmps.length → (∀ x ∈ xs, x.good) → (∀ (i : Nat) s, tm[i]? = some s → s.ok tmps i) →
    (capEnv 0 caps xs tm).length = tm.length ∧ ∀ (i : Nat) s, (capEnv 0 caps xs tm)[i]? = some s → s.ok (putAll (caps.map (·.1)) (valsOf xs) tmps) i
  | [], xs, tm, tmps, _, _, h => ⟨by simp [capEnv], by simpa [capEnv, putAll] using h⟩
  | (t, sk) :: caps, [], tm, tmps, _, _, h => ⟨by simp [capEnv], by simpa [capEnv, putAll, valsOf] using h⟩
  | (t, sk) :: caps, x :: xs, tm, tmps, hl, hg, h => by
    have := capEnv_ok caps xs (tm.set t (.st x)) (tmps.set t x.val) (by simp [hl]) (fun y hy => hg y (by simp [hy])) (fun i s hs => ?_)
    · simpa [capEnv, putAll, valsOf] using this
    · simp only [List.getElem?_set] at hs
      split at hs
      · rename_i hi
        subst hi
        split at hs
        · rename_i hlt
          cases hs
          exact ⟨by rw [List.getElem?_set_self (by omega)]; rfl, hg x (by simp)⟩
        · cases hs
      · rename_i hi
        have := h i s hs
        cases s <;> first | trivial | exact ⟨by rw [List.getElem?_set_ne hi]; exact this.1, this.2⟩

theorem capEnv_nt (nt nt' : Nat) : ∀ (caps : List (Nat × SK)) (xs : List S0) (tm : List SV), capEnv nt caps xs tm = capEnv nt' caps xs tm
  | [], _, _ => rfl
  | _ :: _, [], _ => rfl
  | (t, _) :: caps, x :: xs, tm => capEnv_nt nt nt' caps xs _
theorem capTm_putAll (nt : Nat) : ∀ (caps : List (Nat × SK)) (vs tm : List Value), capTm nt caps vs tm = putAll (caps.map (·.1)) vs tm
  | [], _, _ => by simp [capTm, putAll]
  | _ :: _, [], _ => by simp [capTm, putAll]
  | (t, _) :: caps, v :: vs, tm => by simp only [capTm, List.map_cons, putAll]; exact capTm_putAll nt caps vs _

theorem noRF_erase {T T' : Nat → Tmp → Code} : ∀ {c : AC}, noRF c = true → c.erase T = c.erase T' := by
  intro c
  induction c with
  | seq a b iha ihb => intro h; simp only [noRF, Bool.and_eq_true] at h; simp only [AC.erase, iha h.1, ihb h.2]
  | scope b ih => intro h; simp only [AC.erase, ih h]
  | cond c a b j iha ihb => intro h; simp only [noRF, Bool.and_eq_true] at h; simp only [AC.erase, iha h.1, ihb h.2]
  | block id b j ih => intro h; simp only [AC.erase, ih h]
  | loop b lv ih => intro h; simp only [AC.erase, ih h]
  | rangeFunc f κ ids => intro h; cases h
  | _ => intro _; rfl

theorem leaf_vals : ∀ {caps : List (Nat × SK)} {xs : List S0}, leafOnly caps = true → areIs xs (caps.map (·.2)) = true → cellsOf0 xs = valsOf xs
  | [], [], _, _ => rfl
  | p :: caps, x :: xs, h1, h2 => by
    simp only [leafOnly, List.all_cons, Bool.and_eq_true] at h1
    simp only [List.map_cons, areIs, Bool.and_eq_true] at h2
    have ih := leaf_vals (caps := caps) h1.2 h2.2
    obtain ⟨t, sk⟩ := p
    cases sk with
    | agg ks => cases h1.1
    | leaf k =>
      cases x with
      | agg _ => cases h2.1
      | leaf l =>
        simp only [cellsOf0, List.flatMap_cons, valsOf, List.map_cons] at ih ⊢
        rw [ih]; rfl
  | [], _ :: _, _, h => by cases h
  | _ :: _, [], _, h => by cases h

/-- A ROUND. -/
theorem execY_ok (hA : AlgOk A X.C Sg X.T holds abs) {dr : List Nat → Array Oper → Bool}
    (hdr : ∀ pts ops, dr pts ops = true → ∀ (n : Nat) (σ σ' : St), opsRel X.C (sm X.C n).toBelow pts ops (List.range ops.size) σ σ' → anyRel X.C (sm X.C n).toBelow pts ops σ σ')
    {st : Site} {vs : List Value} {l : Nat} {ls : List Lf} {h : HT} {K : List Lf → HT → R} {lp : ALoop} {ys : List S0} (h1 : hloop (abs h) l = some lp) (h2 : lp.tmps = capTm st.nt st.caps vs (List.replicate st.nt poison))
    (h3 : lp.params = st.params.map (·.1)) (h4 : lp.assign = st.assign.erase noSite) (h5 : lp.body = st.body.erase noSite) (hy : Told (st.params.map (·.2)) ls ys)
    (hk : holds (execY A X Sg dr st vs l ls h K)) : ∃ b h', uYield X.C l (valsOf ys) (abs h) (.bool b) (abs h') ∧ holds (K [.b b] h') := by
  unfold execY at hk
  split at hk
  · exact absurd hk hA.fail
  · rename_i hc
    simp only [Bool.and_eq_true] at hc
    obtain ⟨⟨c1, c2⟩, c3⟩ := hc
    obtain ⟨xs, r, e1, e2, e3, hk1⟩ := ucSs_ok hA hk
    obtain ⟨hr, hk2⟩ := hA.uc0 _ _ hk1
    rw [hr, List.append_nil, leaf_vals c1 e2] at e1
    subst e1
    obtain ⟨zs, r', d1, d2, hk3⟩ := unSs_ok hA hk2
    obtain ⟨hr', hk4⟩ := hA.un0 _ _ hk3
    rw [hr', List.append_nil] at d1
    obtain ⟨y1, y2, y3⟩ := hy
    obtain ⟨w1, w2⟩ := areIs_val y1 d2 (y2.trans d1)
    have hzg := w2 y3
    let X' : Ctxt := { X with pts := [] }
    let σ₀ : St := { tmps := putAll lp.params (valsOf ys) lp.tmps, loc := [], heap := abs h }
    have hR : Rp ⟨capEnv st.nt st.params zs (capEnv st.nt st.caps xs (List.replicate st.nt .no)), []⟩ σ₀ := by
      have a1 := capEnv_ok st.caps xs (List.replicate st.nt .no) (List.replicate st.nt poison) (by simp) e3 (fun i s hs => by
        rw [List.getElem?_replicate] at hs; split at hs
        · cases hs; trivial
        · cases hs)
      have plen : ∀ (ts : List Tmp) (vs tm : List Value), (putAll ts vs tm).length = tm.length := by
        intro ts
        induction ts with
        | nil => intro vs tm; simp [putAll]
        | cons t ts ih => intro vs tm; cases vs with
          | nil => simp [putAll]
          | cons v vs => simp [putAll, ih]
      have a2 := capEnv_ok st.params zs _ _ (by rw [a1.1, plen]; simp) hzg a1.2
      have etm : σ₀.tmps = putAll (st.params.map (·.1)) (valsOf zs) (putAll (st.caps.map (·.1)) (valsOf xs) (List.replicate st.nt poison)) := by
        show putAll lp.params (valsOf ys) lp.tmps = _
        rw [h3, h2, capTm_putAll, w1]
      refine ⟨?_, fun i s hs => ?_, rfl, fun i r hr => by simp at hr⟩
      · rw [etm, plen, plen, capEnv_nt st.nt 0, capEnv_nt st.nt 0, a2.1, a1.1]; simp
      · rw [capEnv_nt st.nt 0, capEnv_nt st.nt 0] at hs
        rw [etm]
        exact a2.2 i s hs
    obtain ⟨e, σ₁, ev₁, h₁, q1, q2, q3, _, q5⟩ := exec_ok (X := X') hA hdr st.assign _ h σ₀ _ _ hR rfl hk4
    rcases q5 with ⟨rfl, q5⟩ | ⟨_, q5⟩
    · obtain ⟨lp₁, h₂, p1, p2, p3, q6⟩ := hA.lp1 _ _ _ q5
      rw [q3] at p1 p3
      obtain ⟨e, σ₂, ev₂, h₃, s1, s2, s3, _, s5⟩ := exec_ok (X := X') hA hdr st.body ev₁ h₂ { σ₁ with heap := σ₁.heap.set l (.loop { lp₁ with state := .busy }) } _ _ (q2.heap _) p3 q6
      have u1 : uEx X.C [] lp.assign { tmps := putAll lp.params (valsOf ys) lp.tmps, loc := [], heap := abs h } .normal σ₁ := by
        rw [h4, noRF_erase (T' := fun κ t => siteCode (X.T κ) t) c2]; exact q1
      have u2 : uEx X.C [] lp.body { σ₁ with heap := σ₁.heap.set l (.loop { lp₁ with state := .busy }) } e σ₂ := by
        rw [h5, noRF_erase (T' := fun κ t => siteCode (X.T κ) t) c3]; exact s1
      have hlen : (valsOf ys).length = lp.params.length := by
        rw [h3]
        have := areIs_length y1
        simpa [valsOf] using this
      have fin : ∀ (j : Option Code) (b : Bool), jumpOf e = some j → b = j.isNone → holds (A.lp2 l j h₃ fun h => K [.b b] h) → ∃ b h', uYield X.C l (valsOf ys) (abs h) (.bool b) (abs h') ∧ holds (K [.b b] h') := by
        intro j b hj hb hk
        obtain ⟨lp₂, h₄, z1, z2, z3⟩ := hA.lp2 _ _ _ _ hk
        rw [s3] at z1 z2
        refine ⟨b, h₄, ?_, z3⟩
        rw [z2, hb]
        exact uYield.intro h1 hlen u1 p1 p2 u2 hj z1
      rcases s5 with ⟨rfl, s5⟩ | ⟨s5, s6⟩
      · exact fin none true rfl rfl s5
      · cases e with
        | ret => exact fin (some .ret) false rfl rfl s6
        | exit id => exact fin (some (.exit id)) false rfl rfl s6
        | _ => exact absurd s6 hA.fail
    · exact absurd q5 hA.fail

end
end Sx
end Go.Am
