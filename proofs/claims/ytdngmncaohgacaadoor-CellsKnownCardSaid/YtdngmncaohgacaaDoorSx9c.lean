/-
  REGIONS THAT DRAW THEIR ORDER, third part: functions that have nothing to do with the heap.
-/
import Derived.Test.YtdngmncaohgacaaDoorSx9b
set_option linter.unusedSectionVars false
set_option linter.unusedSimpArgs false
set_option linter.unusedVariables false
set_option linter.constructorNameAsVariable false
namespace Go.Am
namespace Sx

section
variable [Val] [Kno] {C : Cfg}

/-- Not the address of something in the heap. -/
def Lo (v : Value) : Prop := match v with
  | .pointer (some p) => p.spot = some 0
  | _ => True

theorem plain_lo {v : Value} (h : plain v = true) : Lo v := by
  cases v <;> try trivial
  rename_i a
  cases a <;> first | trivial | (simp [plain, plain1, scalar, isSym] at h)

theorem clearV_lo {keys : List Nat} {v : Value} (h : Lo v) : Lo (clearV keys v) := by
  unfold clearV
  repeat' split
  all_goals first | exact h | trivial

/-- The slots that hold local rows. -/
def LoS (as : List Nat) (σ : St) : Prop := ∀ a ∈ as, ∀ v, σ.tmps[a]? = some v → Lo v

def neuOp (N : FuncId → Option Nat) (pts as : List Nat) (o : Oper) : Bool :=
  (match memOf N pts o with
  | some .no => true
  | some (.row _ _) => true
  | some (.neu _) => true
  | _ => false) &&
  match o.dst with
  | some d => !as.contains d || (Nat.beq (pts.getD d 0) (d + 2) && match o.op with
    | .alloc _ => true
    | .box _ _ => true
    | _ => false)
  | none => true
def neuC (N : FuncId → Option Nat) (pts as : List Nat) : Code → Bool
  | .skip | .label _ | .ret | .exit _ => true
  | .seq a b => neuC N pts as a && neuC N pts as b
  | .cond _ a b => neuC N pts as a && neuC N pts as b
  | .block _ b => neuC N pts as b
  | .loop b => neuC N pts as b
  | .scope b => neuC N pts as b
  | .region _ ops _ => ops.toList.all (neuOp N pts as)
  | _ => false
def cellRes (l : List ResultVar) : List Nat := l.filterMap fun r => match r with
  | .cell a _ => some a
  | .tmp _ => none
/-- A function that has nothing to do with the heap. -/
def neuF (N : FuncId → Option Nat) (C : Cfg) (f : FuncId) (n : Nat) : Bool :=
  match C.P.funcs[f]? with
  | some fn => match fn.body with
    | some b => neuC N (C.pts f) (cellRes fn.results.toList) b && (cellRes fn.results.toList).all fun a => Nat.ble n a
    | none => false
  | none => false

theorem newVar_lo {pts : List Nat} {d : Nat} {t : TypeId} {v : Value} {e : Eff} (hp : pts.getD d 0 = d + 2) (he : newVarEff C pts (some d) t v = some e) : ∃ s vs, e = .lnew s vs := by
  unfold newVarEff at he
  split at he
  · cases he
  · simp only at he
    split at he
    · cases he
    · exact ⟨_, _, (Option.some.inj he).symm⟩

theorem put_lo {as : List Nat} {σ τ : St} {dst : Option Tmp} {v : Value} (h : LoS as σ) (ht : τ.tmps = σ.tmps) (hv : (∀ d, dst = some d → d ∉ as) ∨ Lo v) : LoS as (τ.put dst v) := by
  intro a ha x hx
  cases dst with
  | none => exact h a ha x (by rw [← ht]; exact hx)
  | some d =>
    simp only [St.put, List.getElem?_set, ht] at hx
    split at hx
    · rename_i hd
      subst hd
      split at hx
      · cases hx
        rcases hv with hv | hv
        · exact absurd ha (hv _ rfl)
        · exact hv
      · cases hx
    · exact h a ha x hx

theorem step_neu {N : FuncId → Option Nat} {B : Below} (hN : NeuB N B) {pts as : List Nat} {ops : Array Oper} (hops : ops.toList.all (neuOp N pts as) = true) {i : Nat} {σ σ' : St} (hl : LoS as σ) (h : stepRel C B pts ops i σ σ') :
    σ'.heap = σ.heap ∧ LoS as σ' ∧ ∀ H, stepRel C B pts ops i { σ with heap := H } { σ' with heap := H } := by
  cases hi : ops[i]? with
  | none =>
    have : σ' = σ := by simpa [stepRel, hi] using h
    subst this
    exact ⟨rfl, hl, fun H => by simp [stepRel, hi]⟩
  | some o =>
    have ho : neuOp N pts as o = true := List.all_eq_true.1 hops o (by
      have := Array.mem_of_getElem? hi
      simpa using this)
    unfold neuOp at ho
    rw [Bool.and_eq_true] at ho
    obtain ⟨o1, o2⟩ := ho
    have hm : memOf N pts o ≠ none := by intro e; rw [e] at o1; cases o1
    obtain ⟨e, rfl, te, le⟩ := local_ok hN hi hm h
    have hh : e.hp = none := by
      cases he : e.hp with
      | none => rfl
      | some x =>
        have := te.2 (by rw [he]; simp)
        rw [this] at o1; cases o1
    refine ⟨by rw [on_heap, hh]; rfl, ?_, fun H => ?_⟩
    · by_cases hd : ∀ d, o.dst = some d → d ∉ as
      · unfold Ef.on
        exact put_lo hl rfl (.inl hd)
      · -- a local row is laid
        obtain ⟨d, hd⟩ := Classical.not_forall.1 hd
        obtain ⟨hdst, hd⟩ := Classical.not_imp.1 hd
        have hd := Classical.not_not.1 hd
        rw [hdst] at o2
        simp only [List.contains_eq_mem, hd, decide_true, Bool.not_true, Bool.false_or, Bool.and_eq_true] at o2
        have hp : pts.getD d 0 = d + 2 := by simpa using o2.1
        unfold stepRel at h
        simp only [hi] at h
        split at h
        · exact h.elim
        · rw [h]; exact put_lo hl rfl (.inr trivial)
        · rcases h with ⟨ef, h1, h2⟩ | ⟨v, h1, h2⟩
          · have hef : ∃ s vs, ef = .lnew s vs := by
              have o3 := o2.2
              obtain ⟨dst, op, ty, pos, after, guard⟩ := o
              simp only at hdst o3
              subst hdst
              cases op <;> first | cases o3 | skip
              · simp only [effOf] at h1
                obtain ⟨z, _, hz⟩ := Option.bind_eq_some_iff.1 h1
                exact newVar_lo hp hz
              · exact newVar_lo hp h1
            obtain ⟨s, vs, rfl⟩ := hef
            obtain ⟨p, hp1, hp2⟩ := h2
            rw [hp2]
            simp only [applyEff] at hp1
            split at hp1
            · cases hp1
              exact put_lo hl rfl (.inr rfl)
            · cases hp1
          · rw [h2]
            exact put_lo hl rfl (.inr (plain_lo h1.2.2.1))
    · have hs : Sees N pts ops o σ { σ with heap := H } := by
        refine ⟨fun t _ => rfl, ?_⟩
        cases hmm : memOf N pts o with
        | none => trivial
        | some m => rw [hmm] at o1; cases m <;> first | trivial | cases o1 | rfl
      have := le _ hs
      have e2 : e.on o.dst { σ with heap := H } = { e.on o.dst σ with heap := H } := by
        unfold Ef.on
        rw [hh]
        cases o.dst <;> rfl
      rw [e2] at this
      exact this

theorem ops_neu {N : FuncId → Option Nat} {B : Below} (hN : NeuB N B) {pts as : List Nat} {ops : Array Oper} (hops : ops.toList.all (neuOp N pts as) = true) : ∀ (l : List Nat) {σ σ' : St}, LoS as σ → opsRel C B pts ops l σ σ' →
    σ'.heap = σ.heap ∧ LoS as σ' ∧ ∀ H, opsRel C B pts ops l { σ with heap := H } { σ' with heap := H }
  | [], σ, σ', hl, h => by
    have : σ' = σ := h
    subst this
    exact ⟨rfl, hl, fun H => rfl⟩
  | i :: l, σ, σ', hl, ⟨σ₁, h1, h2⟩ => by
    obtain ⟨a1, a2, a3⟩ := step_neu hN hops hl h1
    obtain ⟨b1, b2, b3⟩ := ops_neu hN hops l a2 h2
    exact ⟨b1.trans a1, b2, fun H => ⟨_, a3 H, b3 H⟩⟩

theorem restate_lo {as : List Nat} {σ σ' : St} (hl : LoS as σ) (h : Restate σ σ') : LoS as σ' := by
  intro a ha v hv
  obtain ⟨_, _, h3, h4⟩ := h
  have hlt : a < σ'.tmps.length := (List.getElem?_eq_some_iff.1 hv).1
  have hx : σ.tmps[a]? = some (σ.tmps[a]'(by omega)) := List.getElem?_eq_getElem _
  rcases h4 a _ _ hx hv with e | ⟨_, h5, _⟩
  · rw [e]; exact hl a ha _ hx
  · exact plain_lo h5
theorem restate_heap {σ σ' : St} (h : Restate σ σ') (H : List HObj) : Restate { σ with heap := H } { σ' with heap := H } := ⟨h.1, rfl, h.2.2.1, h.2.2.2⟩

theorem opsR_neu {N : FuncId → Option Nat} {B : Below} (hN : NeuB N B) {pts as : List Nat} {ops : Array Oper} (hops : ops.toList.all (neuOp N pts as) = true) : ∀ (l : List Nat) {σ σ' : St}, LoS as σ → opsRelR C B pts ops l σ σ' →
    σ'.heap = σ.heap ∧ LoS as σ' ∧ ∀ H, opsRelR C B pts ops l { σ with heap := H } { σ' with heap := H }
  | [], σ, σ', hl, h => by
    have : σ' = σ := h
    subst this
    exact ⟨rfl, hl, fun H => rfl⟩
  | i :: l, σ, σ', hl, ⟨σ₀, σ₁, h0, h1, h2⟩ => by
    obtain ⟨a1, a2, a3⟩ := step_neu hN hops (restate_lo hl h0) h1
    obtain ⟨b1, b2, b3⟩ := opsR_neu hN hops l a2 h2
    exact ⟨b1.trans (a1.trans h0.2.1), b2, fun H => ⟨_, _, restate_heap h0 H, a3 H, b3 H⟩⟩

theorem clear_lo {as : List Nat} {σ : St} {keys : List Nat} (hl : LoS as σ) : LoS as (σ.clear keys) := by
  unfold St.clear
  split
  · exact hl
  · intro a ha v hv
    simp only [List.getElem?_map, Option.map_eq_some_iff] at hv
    obtain ⟨x, hx, rfl⟩ := hv
    exact clearV_lo (hl a ha x hx)
theorem clearHp (σ : St) (keys : List Nat) (H : List HObj) : St.clear { σ with heap := H } keys = { σ.clear keys with heap := H } := by
  unfold St.clear
  split <;> rfl
theorem clearHp' (σ : St) (keys : List Nat) : (σ.clear keys).heap = σ.heap := by
  unfold St.clear
  split <;> rfl

theorem result_neu {σ : St} {r : ResultVar} {as : List Nat} (hl : LoS as σ) (ha : ∀ a ∈ cellRes [r], a ∈ as) (H : List HObj) : resultA C { σ with heap := H } r = resultA C σ r := by
  cases r with
  | tmp t => rfl
  | cell a t =>
    have hm : a ∈ as := ha a (by simp [cellRes])
    unfold resultA
    simp only
    cases hv : σ.tmps[a]? with
    | none => simp [List.getD_eq_getElem?_getD, hv, undef]
    | some v =>
      have := hl a hm v hv
      simp only [List.getD_eq_getElem?_getD, hv, Option.getD_some]
      cases v <;> try rfl
      rename_i p
      cases p with
      | none => rfl
      | some p =>
        have hs : p.spot = some 0 := this
        simp only [hs]
theorem results_neu {σ : St} {as : List Nat} (hl : LoS as σ) (H : List HObj) : ∀ (l : List ResultVar), (∀ a ∈ cellRes l, a ∈ as) → resultsA C { σ with heap := H } l = resultsA C σ l
  | [], _ => rfl
  | r :: l, ha => by
    have h1 := result_neu (C := C) (r := r) hl (fun a h => ha a (by cases r <;> simp [cellRes] at h ⊢; exact .inl h)) H
    have h2 := results_neu hl H l (fun a h => ha a (by cases r <;> simp [cellRes] at h ⊢ <;> first | exact h | exact .inr h))
    simp only [resultsA, h1, h2]

/-- NEUTRAL FUNCTIONS. -/
theorem neu_ok {N : FuncId → Option Nat} (hN : ∀ f n, N f = some n → neuF N C f n = true) : ∀ n, NeuB N (sm C n).toBelow ∧
    ∀ pts as c, neuC N pts as c = true → ∀ σ e σ', LoS as σ → (sm C n).ex pts c σ e σ' → σ'.heap = σ.heap ∧ LoS as σ' ∧ ∀ H, (sm C n).ex pts c { σ with heap := H } e { σ' with heap := H }
  | 0 => ⟨fun f args H r H' _ h => ⟨h.2, fun H2 => ⟨h.1, rfl⟩⟩, fun _ _ _ _ _ _ _ _ h => absurd h id⟩
  | n + 1 => by
    obtain ⟨ihc, ihe⟩ := neu_ok hN n
    refine ⟨fun f args H r H' hf h => ?_, fun pts as c hc σ e σ' hl h => ?_⟩
    · rcases h with h | ⟨fn, b, e, σ, vs, c1, c2, c3, c4, c5, c6, c7, c8, c9⟩
      · exact ⟨h.2, fun H2 => .inl ⟨h.1, rfl⟩⟩
      · have hn := hN f _ hf
        unfold neuF at hn
        simp only [c1, c2, Bool.and_eq_true, List.all_eq_true] at hn
        have hl : LoS (cellRes fn.results.toList) (enterA fn args H) := by
          intro a ha v hv
          have hge : args.length ≤ a := by simpa using hn.2 a ha
          simp only [enterA] at hv
          rw [List.getElem?_append_right hge, List.getElem?_replicate] at hv
          split at hv
          · cases hv; trivial
          · cases hv
        obtain ⟨d1, d2, d3⟩ := ihe _ _ _ hn.1 _ _ _ hl c4
        refine ⟨c9.trans d1, fun H2 => .inr ⟨fn, b, e, _, vs, c1, c2, c3, d3 H2, c5, ?_, c7, c8, rfl⟩⟩
        rw [results_neu d2 H2 _ (fun a h => h)]
        exact c6
    · have h : exNext C (sm C n) pts c σ e σ' := h
      show _ ∧ _ ∧ ∀ H, exNext C (sm C n) pts c { σ with heap := H } e { σ' with heap := H }
      cases c with
      | skip => obtain ⟨rfl, rfl⟩ := h; exact ⟨rfl, hl, fun H => ⟨rfl, rfl⟩⟩
      | label l => obtain ⟨rfl, rfl⟩ := h; exact ⟨rfl, hl, fun H => ⟨rfl, rfl⟩⟩
      | ret => obtain ⟨rfl, rfl⟩ := h; exact ⟨rfl, hl, fun H => ⟨rfl, rfl⟩⟩
      | exit id => obtain ⟨rfl, rfl⟩ := h; exact ⟨rfl, hl, fun H => ⟨rfl, rfl⟩⟩
      | seq a b =>
        simp only [neuC, Bool.and_eq_true] at hc
        obtain ⟨e₁, σ₁, h1, h2⟩ := h
        obtain ⟨a1, a2, a3⟩ := ihe _ _ _ hc.1 _ _ _ hl h1
        rcases h2 with ⟨rfl, h2⟩ | ⟨h2, rfl, rfl⟩
        · obtain ⟨b1, b2, b3⟩ := ihe _ _ _ hc.2 _ _ _ a2 h2
          exact ⟨b1.trans a1, b2, fun H => ⟨_, _, a3 H, .inl ⟨rfl, b3 H⟩⟩⟩
        · exact ⟨a1, a2, fun H => ⟨_, _, a3 H, .inr ⟨h2, rfl, rfl⟩⟩⟩
      | cond x a b =>
        simp only [neuC, Bool.and_eq_true] at hc
        obtain ⟨t, h1, h2⟩ := h
        cases t with
        | true =>
          obtain ⟨b1, b2, b3⟩ := ihe _ _ _ hc.1 _ _ _ hl h2
          exact ⟨b1, b2, fun H => ⟨true, h1, b3 H⟩⟩
        | false =>
          obtain ⟨b1, b2, b3⟩ := ihe _ _ _ hc.2 _ _ _ hl h2
          exact ⟨b1, b2, fun H => ⟨false, h1, b3 H⟩⟩
      | block id b =>
        obtain ⟨e₁, h1, rfl⟩ := h
        obtain ⟨b1, b2, b3⟩ := ihe pts as b hc _ _ _ hl h1
        exact ⟨b1, b2, fun H => ⟨_, b3 H, rfl⟩⟩
      | scope b => exact ihe pts as b hc _ _ _ hl h
      | loop b =>
        obtain ⟨e₁, σ₁, h1, h2⟩ := h
        obtain ⟨a1, a2, a3⟩ := ihe pts as b hc _ _ _ (clear_lo hl) h1
        rw [clearHp'] at a1
        rcases h2 with ⟨rfl, h2⟩ | ⟨h2, rfl, rfl⟩
        · obtain ⟨b1, b2, b3⟩ := ihe pts as (.loop b) hc _ _ _ a2 h2
          exact ⟨b1.trans a1, b2, fun H => ⟨_, _, by rw [clearHp]; exact a3 H, .inl ⟨rfl, b3 H⟩⟩⟩
        · exact ⟨a1, a2, fun H => ⟨_, _, by rw [clearHp]; exact a3 H, .inr ⟨h2, rfl, rfl⟩⟩⟩
      | region id ops draw =>
        obtain ⟨rfl, hq⟩ := h
        cases draw with
        | true =>
          obtain ⟨σ₀, h0, h1⟩ : ∃ σ₀, Restate σ σ₀ ∧ anyRel C (sm C n).toBelow pts ops σ₀ σ' := hq
          have hl0 := restate_lo hl h0
          obtain ⟨a1, a2, _⟩ := ops_neu ihc hc _ hl0 (h1 0)
          refine ⟨a1.trans h0.2.1, a2, fun H => ⟨rfl, ⟨_, restate_heap h0 H, fun t => ?_⟩⟩⟩
          exact (ops_neu ihc hc _ hl0 (h1 t)).2.2 H
        | false =>
          have hq : opsRelR C (sm C n).toBelow pts ops (List.range ops.size) σ σ' := hq
          obtain ⟨a1, a2, a3⟩ := opsR_neu ihc hc _ hl hq
          exact ⟨a1, a2, fun H => ⟨rfl, a3 H⟩⟩
      | _ => cases hc

/-- REGIONS WITH CALLS OF NEUTRAL FUNCTIONS. -/
theorem dr_ok {N : FuncId → Option Nat} (hN : ∀ f n, N f = some n → neuF N C f n = true) (pts : List Nat) (ops : Array Oper) (h : regOk N pts ops = true) (n : Nat) (σ σ' : St) (hx : opsRel C (sm C n).toBelow pts ops (List.range ops.size) σ σ') :
    anyRel C (sm C n).toBelow pts ops σ σ' := any_ok (neu_ok hN n).1 h hx

end
end Sx
end Go.Am
