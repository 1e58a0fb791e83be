/-
  THE ALGEBRA OF RUNS TELLS THE TRUTH; whole runs.
-/
import Derived.Test.YtdngmncaohgacaaDoorSx4
import Derived.Test.YtdngmncaohgacaaDoorSx9c
set_option linter.unusedSectionVars false
set_option linter.unusedSimpArgs false
set_option linter.unusedVariables false
set_option linter.constructorNameAsVariable false
namespace Go.Am
namespace Sx

section
variable [Val] [Kno]

theorem forceN_eq' (n : Nat) (k : Nat → Bool) : forceN n k = k n := by cases n <;> rfl

theorem fitsK {k : IntKind} {c : Int} {K : Int → Bool} (h : (match fits k c with | true => K c | false => forceI (k.wrap c) K) = true) : K (k.wrap c) = true := by
  split at h
  · rename_i hf; rw [fits_wrap hf]; exact h
  · rw [forceI_eq] at h; exact h

theorem ariB_ok {op : BinOp} {k : IntKind} {a b : Int} {K : Int → Bool} (h : ariB op k a b K = true) : ∃ n, ArRun op k a b n ∧ K n = true := by
  cases op <;> simp only [ariB, Bool.false_eq_true] at h
  · rw [forceI_eq] at h
    have h : K (k.wrap (a + b)) = true := fitsK h
    exact ⟨_, fun P t w => by simp [binOp, Op.intArith], h⟩
  · rw [forceI_eq] at h
    have h : K (k.wrap (a - b)) = true := fitsK h
    exact ⟨_, fun P t w => by simp [binOp, Op.intArith], h⟩
  · rw [forceI_eq] at h
    have h : K (k.wrap (a * b)) = true := fitsK h
    exact ⟨_, fun P t w => by simp [binOp, Op.intArith], h⟩
  · split at h
    · cases h
    · rename_i hb
      have hb := eqI_false.1 hb
      rw [forceI_eq] at h
      exact ⟨_, fun P t w => by simp [binOp, Op.intDiv, hb], fitsK h⟩
  · split at h
    · cases h
    · rename_i hb
      have hb := eqI_false.1 hb
      rw [forceI_eq] at h
      exact ⟨_, fun P t w => by simp [binOp, Op.intDiv, hb], h⟩
  · split at h
    · rename_i hb
      have hb := eqI_iff.1 hb
      subst hb
      rw [forceI_eq] at h
      exact ⟨_, run_and_one rfl, h⟩
    · split at h
      · rw [forceI_eq] at h
        exact ⟨_, run_and_nat _ _, fitsK h⟩
      · cases h

theorem leI_eq (x y : Int) : leI x y = decide (x ≤ y) := by rw [Bool.eq_iff_iff, leI_iff, decide_eq_true_iff]
theorem eqI_eq (x y : Int) : eqI x y = (x == y) := by rw [Bool.eq_iff_iff, eqI_iff, beq_iff_eq]

theorem cmpB_ok {op : BinOp} {a b : Int} {K : Bool → Bool} (h : cmpB op a b K = true) : ∃ t, cmpRes op a b = some t ∧ K t = true := by
  cases op <;> simp only [cmpB, Bool.false_eq_true, eqI_eq, leI_eq] at h
  · exact ⟨_, rfl, by split at h <;> rename_i he <;> rw [he] <;> exact h⟩
  · refine ⟨_, rfl, ?_⟩
    split at h <;> rename_i he
    · have : (a != b) = false := by simp [bne, he]
      rw [this]; exact h
    · have : (a != b) = true := by simp [bne, he]
      rw [this]; exact h
  · refine ⟨_, rfl, ?_⟩
    split at h <;> rename_i he
    · have : decide (a < b) = false := by simp at he ⊢; omega
      rw [this]; exact h
    · have : decide (a < b) = true := by simp at he ⊢; omega
      rw [this]; exact h
  · exact ⟨_, rfl, by split at h <;> rename_i he <;> rw [he] <;> exact h⟩
  · refine ⟨_, rfl, ?_⟩
    split at h <;> rename_i he
    · have : decide (a > b) = false := by simp at he ⊢; omega
      rw [this]; exact h
    · have : decide (a > b) = true := by simp at he ⊢; omega
      rw [this]; exact h
  · refine ⟨_, rfl, ?_⟩
    split at h <;> rename_i he
    · have : decide (a ≥ b) = true := by simp at he ⊢; omega
      rw [this]; exact h
    · have : decide (a ≥ b) = false := by simp at he ⊢; omega
      rw [this]; exact h

theorem eqLf_eq (a b : Lf) : eqLf a b = eqLfD a b := by
  cases a <;> cases b <;> try rfl
  · exact eqI_eq _ _
  · rename_i x y; cases x <;> cases y <;> rfl
theorem eqsB_ok {l : List (Lf × Lf)} {K : Bool → Bool} (h : eqsB l K = true) : K (eqAll l) = true := by
  unfold eqAll
  induction l with
  | nil => exact h
  | cons p l ih =>
    have h : (match eqLf p.1 p.2 with | true => eqsB l K | false => K false) = true := h
    rw [eqLf_eq] at h
    rw [List.all_cons]
    cases hp : eqLfD p.1 p.2 with
    | true => rw [hp] at h; rw [Bool.true_and]; exact ih h
    | false => rw [hp] at h; rw [Bool.false_and]; exact h

/-- Calls that are told truly. -/
structure CallBOk (C : Cfg) (Sg : FuncId → Option Sig) (T : Nat → Site) (call : CallB) : Prop where
  f : ∀ g ls h K, GoodLs ls → call (.f g) ls h K = true → ∃ rs h', CallL C Sg g ls (absH T h) rs (absH T h') ∧ K rs h' = true
  y : ∀ κ vs l ls h K st pd xs, h[l]? = some (.lp κ st pd vs) → Told ((T κ).params.map (·.2)) ls xs → call (.y κ vs l) ls h K = true →
    ∃ b h', uYield C l (valsOf xs) (absH T h) (.bool b) (absH T h') ∧ K [.b b] h' = true

theorem getH_eq (T : Nat → Site) (h : HL) : getH T h = fun i => (absH T h)[i]? := by
  funext i
  simp only [getH, absH, List.getElem?_map]
  cases h[i]? <;> rfl
theorem absH_len (T : Nat → Site) (h : HL) : (absH T h).length = h.length := by simp [absH]
theorem absH_set (T : Nat → Site) (h : HL) (i : Nat) (o : HO) : absH T (h.set i o) = (absH T h).set i (absO T o) := by simp [absH, List.map_set]
theorem absH_push (T : Nat → Site) (h : HL) (o : HO) : absH T (h ++ [o]) = absH T h ++ [absO T o] := by simp [absH]
theorem actsOnH_ok (T : Nat → Site) : ∀ (l : List Act1) (h : HL), absH T (actsOnH h l) = actsOn (absH T h) l
  | [], h => rfl
  | a :: l, h => by
    have ih := actsOnH_ok T l (a.onH h)
    show absH T (actsOnH (a.onH h) l) = actsOn (a.on (absH T h)) l
    rw [ih]
    congr 1
    cases a with
    | set i o => exact absH_set T h i _
    | push o => exact absH_push T h _

theorem toSL_ok {k : LK} {v : Value} {l : SL} (h : toSL k v = some l) : l.is k = true ∧ l.val = v ∧ l.good := by
  cases k with
  | i k =>
    cases v <;> simp only [toSL] at h <;> first | cases h | skip
    split at h
    · rename_i e; cases h; exact ⟨e, rfl, trivial⟩
    · cases h
  | b =>
    cases v <;> simp only [toSL] at h <;> cases h
    exact ⟨rfl, rfl, trivial⟩
  | v =>
    simp only [toSL] at h
    split at h
    · rename_i e; cases h; exact ⟨rfl, rfl, e⟩
    · cases h
theorem toSLs_ok : ∀ {ks : List LK} {vs : List Value} {xs : List SL}, toSLs ks vs = some xs → allIs xs ks = true ∧ xs.map SL.val = vs ∧ ∀ x ∈ xs, x.good
  | [], [], xs, h => by cases h; exact ⟨rfl, rfl, fun _ h => by cases h⟩
  | k :: ks, v :: vs, xs, h => by
    simp only [toSLs] at h
    split at h
    · rename_i x e
      split at h
      · rename_i ys e2
        cases h
        obtain ⟨a1, a2, a3⟩ := toSL_ok e
        obtain ⟨b1, b2, b3⟩ := toSLs_ok e2
        refine ⟨by simp [allIs, a1, b1], by simp [a2, b2], fun y hy => ?_⟩
        rcases List.mem_cons.1 hy with rfl | hy
        · exact a3
        · exact b3 y hy
      · cases h
    · cases h
  | [], _ :: _, _, h => by cases h
  | _ :: _, [], _, h => by cases h
theorem toS0_ok {sk : SK} {v : Value} {x : S0} (h : toS0 sk v = some x) : x.is sk = true ∧ x.val = v ∧ x.good := by
  cases sk with
  | leaf k =>
    obtain ⟨l, e, rfl⟩ := Option.map_eq_some_iff.1 h
    obtain ⟨a1, a2, a3⟩ := toSL_ok e
    refine ⟨a1, a2, fun y hy => ?_⟩
    simp only [S0.cells, List.mem_singleton] at hy
    subst hy; exact a3
  | agg ks =>
    cases v <;> simp only [toS0] at h <;> first | cases h | skip
    obtain ⟨l, e, rfl⟩ := Option.map_eq_some_iff.1 h
    obtain ⟨a1, a2, a3⟩ := toSLs_ok e
    exact ⟨a1, by simp [S0.val, a2], a3⟩
theorem toS0s_ok : ∀ {sks : List SK} {vs : List Value} {xs : List S0}, toS0s sks vs = some xs → areIs xs sks = true ∧ valsOf xs = vs ∧ ∀ x ∈ xs, x.good
  | [], [], xs, h => by cases h; exact ⟨rfl, rfl, fun _ h => by cases h⟩
  | k :: ks, v :: vs, xs, h => by
    simp only [toS0s] at h
    split at h
    · rename_i x e
      split at h
      · rename_i ys e2
        cases h
        obtain ⟨a1, a2, a3⟩ := toS0_ok e
        obtain ⟨b1, b2, b3⟩ := toS0s_ok e2
        refine ⟨by simp [areIs, a1, b1], by simp only [valsOf, List.map_cons, a2] at b2 ⊢; rw [b2], fun y hy => ?_⟩
        rcases List.mem_cons.1 hy with rfl | hy
        · exact a3
        · exact b3 y hy
      · cases h
    · cases h
  | [], _ :: _, _, h => by cases h
  | _ :: _, [], _, h => by cases h

theorem eqLK_ok {a b : LK} (h : eqLK a b = true) : a = b := by
  cases a <;> cases b <;> simp only [eqLK] at h <;> first | rfl | cases h | skip
  rw [kNo_inj h]
theorem eqLKs_ok : ∀ {a b : List LK}, eqLKs a b = true → a = b
  | [], [], _ => rfl
  | a :: l, b :: m, h => by
    simp only [eqLKs, Bool.and_eq_true] at h
    rw [eqLK_ok h.1, eqLKs_ok h.2]
  | [], _ :: _, h => by cases h
  | _ :: _, [], h => by cases h
theorem eqSK_ok {a b : SK} (h : eqSK a b = true) : a = b := by
  cases a <;> cases b <;> simp only [eqSK] at h <;> first | cases h | skip
  · rw [eqLK_ok h]
  · rw [eqLKs_ok h]
theorem eqSKs_ok : ∀ {a b : List SK}, eqSKs a b = true → a = b
  | [], [], _ => rfl
  | a :: l, b :: m, h => by
    simp only [eqSKs, Bool.and_eq_true] at h
    rw [eqSK_ok h.1, eqSKs_ok h.2]
  | [], _ :: _, h => by cases h
  | _ :: _, [], h => by cases h

theorem goodLs_ok {ls : List Lf} (h : goodLs ls = true) : GoodLs ls := by
  intro l hl
  have := List.all_eq_true.1 h l hl
  cases l <;> first | trivial | exact this

theorem callB_ok {C : Cfg} {Sg : FuncId → Option Sig} {T : Nat → Site} {call : CallB} (hc : CallBOk C Sg T call) {g : FuncId} {ls : List Lf} {h : HL} {K : List Lf → HL → Bool} (hk : callB call g ls h K = true) :
    ∃ rs h', CallL C Sg g ls (absH T h) rs (absH T h') ∧ K rs h' = true := by
  unfold callB at hk
  split at hk
  · rename_i e; exact hc.f g ls h K (goodLs_ok e) hk
  · cases hk

theorem callVals_ok {C : Cfg} {Sg : FuncId → Option Sig} {T : Nat → Site} {call : CallB} (hc : CallBOk C Sg T call) {g : FuncId} {hs : Option (List SK)} {vals : List Value} {h : HL} {K : List Lf → HL → Bool} (hk : callVals Sg call g hs vals h K = true) :
    ∃ sg rs ys h', Sg g = some sg ∧ (∀ x, hs = some x → sg.rs = x) ∧ Told sg.rs rs ys ∧ uCall C g vals (absH T h) (packA (valsOf ys)) (absH T h') ∧ K rs h' = true := by
  unfold callVals at hk
  split at hk
  · cases hk
  · rename_i sg e
    split at hk
    · cases hk
    · rename_i e2
      split at hk
      · cases hk
      · rename_i xs e3
        obtain ⟨rs, h', ⟨sg', xs', ys, c1, c2, c3, c4⟩, hk⟩ := callB_ok hc hk
        rw [e] at c1
        cases c1
        obtain ⟨d1, d2, d3⟩ := toS0s_ok e3
        obtain ⟨w1, _⟩ := areIs_val c2.1 d1 c2.2.1
        rw [w1, d2] at c4
        refine ⟨sg, rs, ys, h', e, fun x hx => ?_, c3, c4, hk⟩
        subst hx
        exact eqSKs_ok e2

theorem hloop_at {T : Nat → Site} {h : HL} {l κ : Nat} {st : LoopState} {pd : Option Code} {vs : List Value} (e : h[l]? = some (.lp κ st pd vs)) : hloop (absH T h) l = some { lpOf (T κ) κ vs with state := st, pending := pd } := by
  unfold hloop absH
  rw [List.getElem?_map, e]
  rfl

theorem callvB_ok {C : Cfg} {Sg : FuncId → Option Sig} {T : Nat → Site} {call : CallB} (hc : CallBOk C Sg T call) {v : Value} {args : List Value} {hs : List SK} {h : HL} {K : List Lf → HL → Bool} (hk : callvB Sg T call v args hs h K = true) :
    ∃ rs h', CallV C v args hs (absH T h) rs (absH T h') ∧ K rs h' = true := by
  unfold callvB at hk
  split at hk
  · rename_i fn first cap
    split at hk
    · rename_i g
      obtain ⟨sg, rs, ys, h', c1, c2, c3, c4, c5⟩ := callVals_ok hc hk
      rw [c2 _ rfl] at c3
      exact ⟨rs, h', ⟨ys, c3, .inl ⟨g, first, cap, rfl, c4⟩⟩, c5⟩
    · rename_i l
      split at hk
      · rename_i e1 e2
        have e1 : first = #[] := Array.toList_inj.1 e1
        have e2 : cap = #[] := Array.toList_inj.1 e2
        subst e1 e2
        split at hk
        · rename_i κ st pd vs e
          split at hk
          · cases hk
          · rename_i e3
            have e3 := eqSKs_ok e3
            subst e3
            split at hk
            · cases hk
            · rename_i xs e4
              split at hk
              · rename_i e5
                obtain ⟨d1, d2, d3⟩ := toS0s_ok e4
                obtain ⟨b, h', y1, y2⟩ := hc.y κ vs l _ h K st pd xs e ⟨d1, rfl, d3⟩ hk
                rw [d2] at y1
                refine ⟨[.b b], h', ⟨[.leaf (.b b)], ⟨rfl, rfl, fun x hx => ?_⟩, .inr ⟨l, rfl, y1⟩⟩, y2⟩
                simp only [List.mem_singleton] at hx
                subst hx
                intro y hy
                simp only [S0.cells, List.mem_singleton] at hy
                subst hy; trivial
              · cases hk
        · cases hk
      · cases hk
    · cases hk
  · cases hk

theorem rfunB_ok {C : Cfg} {Sg : FuncId → Option Sig} {T : Nat → Site} {call : CallB} (hc : CallBOk C Sg T call) {κ : Nat} {v : Value} {vals : List Value} {h : HL} {K : Option Code → HL → Bool} (hk : rfunB Sg call κ v vals h K = true) :
    ∃ g first cap r H1 lp h2, v = .func (.func g) first cap ∧ uCall C g (first.toList ++ [.func (.yield (absH T h).length) #[] #[]] ++ cap.toList) (absH T h ++ [.loop (lpOf (T κ) κ vals)]) r H1 ∧
      hloop H1 (absH T h).length = some lp ∧ lp.state ≠ .busy ∧ absH T h2 = H1.set (absH T h).length (.loop { lp with state := .exhausted }) ∧ K lp.pending h2 = true := by
  unfold rfunB at hk
  split at hk
  · rename_i fn first cap
    split at hk
    · rename_i g
      rw [forceN_eq'] at hk
      obtain ⟨sg, rs, ys, h', _, _, c3, c4, c5⟩ := callVals_ok hc hk
      split at c5
      · rename_i κ' st pd vs e
        have hl := hloop_at (T := T) e
        rw [absH_push] at c4
        have fin : ∀ (hst : st ≠ .busy), K pd (h'.set h.length (.lp κ' .exhausted pd vs)) = true → ∃ g' first' cap' r H1 lp h2, (Value.func (.func g) first cap) = .func (.func g') first' cap' ∧ uCall C g' (first'.toList ++ [.func (.yield (absH T h).length) #[] #[]] ++ cap'.toList) (absH T h ++ [.loop (lpOf (T κ) κ vals)]) r H1 ∧
            hloop H1 (absH T h).length = some lp ∧ lp.state ≠ .busy ∧ absH T h2 = H1.set (absH T h).length (.loop { lp with state := .exhausted }) ∧ K lp.pending h2 = true := by
          intro hst hk
          refine ⟨g, first, cap, packA (valsOf ys), absH T h', { lpOf (T κ') κ' vs with state := st, pending := pd }, h'.set h.length (.lp κ' .exhausted pd vs), rfl, ?_, ?_, hst, ?_, hk⟩
          · rw [absH_len]; exact c4
          · rw [absH_len]; exact hl
          · rw [absH_set, absH_len]; rfl
        cases st with
        | busy => cases c5
        | _ => exact fin (by simp) c5
      · cases c5
    · cases hk
  · cases hk

theorem pend_exit {id : Nat} : ∀ {ks : List (Nat × Bool)}, (List.rec false (fun p _ ih => match Nat.beq p.1 id with | true => p.2 | false => ih) ks : Bool) = true →
    ∃ id' x, some (Code.exit id) = some (Code.exit id') ∧ (id', x) ∈ ks ∧ x = true
  | [], h => by cases h
  | p :: ks, h => by
    have h : (match Nat.beq p.1 id with | true => p.2 | false => (List.rec false (fun p _ ih => match Nat.beq p.1 id with | true => p.2 | false => ih) ks : Bool)) = true := h
    split at h
    · rename_i e
      exact ⟨id, p.2, rfl, by rw [← Nat.eq_of_beq_eq_true e]; exact List.mem_cons_self, h⟩
    · obtain ⟨id', x, a, b, c⟩ := pend_exit h
      exact ⟨id', x, a, List.mem_cons_of_mem _ b, c⟩

theorem BA_ok {C : Cfg} {Sg : FuncId → Option Sig} {T : Nat → Site} {call : CallB} (hc : CallBOk C Sg T call) : AlgOk (BA Sg T call) C Sg T (fun b => b = true) (absH T) where
  fail := by intro h; cases h
  cond := by
    intro b x y h
    cases b
    · exact .inr ⟨rfl, h⟩
    · exact .inl ⟨rfl, h⟩
  ari := fun op k a b K h => ariB_ok h
  shf := fun op k a k' b K h => by cases h
  cmp := fun op a b K h => cmpB_ok h
  eqs := fun l K h => eqsB_ok h
  conv := fun k a K h => fitsK h
  sel := by intro t a b K h; cases t <;> exact h
  opt := by
    intro α o K h
    cases o with
    | none => cases h
    | some x => exact ⟨x, rfl, h⟩
  chk := by
    intro v K h
    have h : chkB v K = true := h
    unfold chkB at h
    split at h
    · rename_i e; exact ⟨e, h⟩
    · cases h
  unI := by
    intro ls K h
    match ls, h with
    | .i n :: r, h => exact ⟨n, r, rfl, h⟩
  unB := by
    intro ls K h
    match ls, h with
    | .b n :: r, h => exact ⟨n, r, rfl, h⟩
  unV := by
    intro ls K h
    match ls, h with
    | .v n :: r, h => exact ⟨n, r, rfl, h⟩
  un0 := by
    intro ls K h
    match ls, h with
    | [], h => exact ⟨rfl, h⟩
  ucI := by
    intro k ls K h
    match ls, h with
    | .int k' n :: r, h =>
      have h : (match kSame k k' with | true => K n r | false => false) = true := h
      split at h
      · rename_i e; rw [kNo_inj e]; exact ⟨n, r, rfl, h⟩
      · cases h
  ucB := by
    intro ls K h
    match ls, h with
    | .bool n :: r, h => exact ⟨n, r, rfl, h⟩
  ucV := by
    intro ls K h
    match ls, h with
    | n :: r, h => exact ⟨n, r, rfl, h⟩
  uc0 := by
    intro ls K h
    match ls, h with
    | [], h => exact ⟨rfl, h⟩
  peek := by
    intro f h K hk
    have hk : peekB T f h K = true := hk
    unfold peekB at hk
    rw [getH_eq] at hk
    split at hk
    · rename_i x e; exact ⟨x, e, hk⟩
    · cases hk
  heap := by
    intro f h K hk
    have hk : heapB T f h K = true := hk
    unfold heapB at hk
    rw [getH_eq] at hk
    split at hk
    · rename_i p e; exact ⟨p.1, p.2, _, by rw [absH_len]; exact e, actsOnH_ok T p.1 h, hk⟩
    · cases hk
  new := by
    intro o h K hk
    have hk : newB o h K = true := hk
    unfold newB at hk
    rw [forceN_eq'] at hk
    exact ⟨_, absH_push T h _, by rw [absH_len]; exact hk⟩
  call := fun g ls h K hk => callB_ok hc hk
  callv := fun v args hs h K hk => callvB_ok hc hk
  join := fun b m h => h
  loop := by
    intro F ls h hk
    refine ⟨fun n => Nat.rec (motive := fun _ => List Lf → HL → Bool) (fun _ _ => false) (fun _ ih ls h => F ih ls h) n, fun ls h => (by simp), fun n ls h => rfl, 1000000, hk⟩
  rfun := fun κ v vals h K hk => rfunB_ok hc hk
  pend := by
    intro pd kn kr ks h
    cases pd with
    | none => exact .inl ⟨rfl, h⟩
    | some c =>
      cases c <;> first | exact .inr (.inl ⟨rfl, h⟩) | skip
      case exit id =>
        exact .inr (.inr (pend_exit h))
      all_goals cases h
  lp1 := by
    intro l h K hk
    have hk : lp1B l h K = true := hk
    unfold lp1B at hk
    split at hk
    · rename_i κ st pd vs e
      split at hk
      · exact ⟨_, _, hloop_at e, rfl, absH_set T h l _, hk⟩
      · cases hk
    · cases hk
  lp2 := by
    intro l j h K hk
    have hk : lp2B l j h K = true := hk
    unfold lp2B at hk
    split at hk
    · rename_i κ st pd vs e
      cases j with
      | none => exact ⟨_, _, hloop_at e, absH_set T h l _, hk⟩
      | some c => exact ⟨_, _, hloop_at e, absH_set T h l _, hk⟩
    · cases hk

/-- Runs to a depth. -/
noncomputable def runT (Sg : FuncId → Option Sig) (T : Nat → Site) (tab : Alg Bool HL → CK → List Lf → HL → (List Lf → HL → Bool) → Bool) (n : Nat) : CallB :=
  Nat.rec (motive := fun _ => CallB) (fun _ _ _ _ => false) (fun _ ih f ls h K => tab (BA Sg T ih) f ls h K) n

theorem runT_ok {C : Cfg} {Sg : FuncId → Option Sig} {T : Nat → Site} {X : FuncId → Ctxt} {dr : List Nat → Array Oper → Bool}
    (hdr : ∀ pts ops, dr pts ops = true → ∀ (n : Nat) (σ σ' : St), opsRel C (sm C n).toBelow pts ops (List.range ops.size) σ σ' → anyRel C (sm C n).toBelow pts ops σ σ')
    (hX : ∀ f, (X f).C = C ∧ (X f).T = T) {tab : Alg Bool HL → CK → List Lf → HL → (List Lf → HL → Bool) → Bool}
    (htab : ∀ A f ls h K, tab A (.f f) ls h K = true → (∃ fn, FnIs (X f) Sg f fn ∧ execF A (X f) Sg dr fn ls h K = true) ∨ ∃ rs, (∀ H, CallL C Sg f ls H rs H) ∧ K rs h = true)
    (htabY : ∀ A κ vs l ls h K, tab A (.y κ vs l) ls h K = true → ∃ f, execY A (X f) Sg dr (T κ) vs l ls h K = true) : ∀ n, CallBOk C Sg T (runT Sg T tab n)
  | 0 => ⟨fun _ _ _ _ _ h => by (cases h), fun _ _ _ _ _ _ _ _ _ _ _ h => by (cases h)⟩
  | n + 1 => by
    have hA := BA_ok (runT_ok hdr hX htab htabY n)
    refine ⟨fun f ls h K hls hk => ?_, fun κ vs l ls h K st pd xs e hy hk => ?_⟩
    · rcases htab _ _ _ _ _ hk with ⟨fn, h1, h2⟩ | ⟨rs, h1, h2⟩
      case inr => exact ⟨rs, h, h1 _, h2⟩
      obtain ⟨x1, x2⟩ := hX f
      have hA' : AlgOk (BA Sg T (runT Sg T tab n)) (X f).C Sg (X f).T (fun b => b = true) (absH T) := by rw [x1, x2]; exact hA
      obtain ⟨rs, h', a1, _, a3⟩ := execF_ok hA' (by rw [x1]; exact hdr) h1 hls h2
      rw [x1] at a1
      exact ⟨rs, h', a1, a3⟩
    · obtain ⟨f, h2⟩ := htabY _ _ _ _ _ _ _ hk
      obtain ⟨x1, x2⟩ := hX f
      have hA' : AlgOk (BA Sg T (runT Sg T tab n)) (X f).C Sg (X f).T (fun b => b = true) (absH T) := by rw [x1, x2]; exact hA
      obtain ⟨b, h', a1, a3⟩ := execY_ok hA' (by rw [x1]; exact hdr) (hloop_at e) rfl rfl rfl rfl hy h2
      rw [x1] at a1
      exact ⟨b, h', a1, a3⟩

end
end Sx
end Go.Am
