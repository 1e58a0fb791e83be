/-
  PART 5 OF THE PROOF: Sx9c Sx10 Sx11 Gq Sx12 Sx13 Px1 Gr Ph1 Ph2 Pq Gp Pb D1 Lv Lv5 Cd1 D2 St4 U1 U2 U3 U4 U5 Ls4 Cd2 (no conditions).
-/
import Derived.Test.YtdngmncaohgacaaDoorQu4
import Derived.Calls
import Derived.LaidMore
import Derived.MakeChecks
import Derived.OpenShut
import Derived.ProofKit
import Derived.SevenTiedAt
import Derived.Stop.Joined
import Derived.Test.YtdngmncaohgacaaDoorCards
import Derived.Test.YtdngmncaohgacaaDoorRows
import Derived.Test.YtdngmncaohgacaaDoorTie
import GoSem.ClaimJoined
set_option linter.unusedSectionVars false
set_option linter.unusedSimpArgs false
set_option linter.unusedVariables false
set_option linter.constructorNameAsVariable false
set_option linter.defProp false
/-
  REGIONS THAT DRAW THEIR ORDER, third part: functions that have nothing to do with the heap.
-/
namespace Go.Am
namespace Sx

section
variable [Val] [Kno] {C : Cfg}

/-- Not the address of something in the heap. -/
def Lo (v : Value) : Prop := match v with
  | .pointer (some p) => p.spot = some 0
  | _ => True

theorem plain_lo {v : Value} (h : plain v = true) : Lo v := by
  cases v <;> try trivial
  rename_i a
  cases a <;> first | trivial | (simp [plain, plain1, scalar, isSym] at h)

theorem clearV_lo {keys : List Nat} {v : Value} (h : Lo v) : Lo (clearV keys v) := by
  unfold clearV
  repeat' split
  all_goals first | exact h | trivial

/-- The slots that hold local rows. -/
def LoS (as0 : List Nat) (σ : St) : Prop := ∀ a ∈ as0, ∀ v, σ.tmps[a]? = some v → Lo v

def neuOp (N : FuncId → Option Nat) (pts as0 : List Nat) (o : Oper) : Bool :=
  (match memOf N pts o with
  | some .no => true
  | some (.row _ _) => true
  | some (.neu _) => true
  | _ => false) &&
  match o.dst with
  | some d => !as0.contains d || (Nat.beq (pts.getD d 0) (d + 2) && match o.op with
    | .alloc _ => true
    | .box _ _ => true
    | _ => false)
  | none => true
def neuC (N : FuncId → Option Nat) (pts as0 : List Nat) : Code → Bool
  | .skip | .label _ | .ret | .exit _ => true
  | .seq a b => neuC N pts as0 a && neuC N pts as0 b
  | .cond _ a b => neuC N pts as0 a && neuC N pts as0 b
  | .block _ b => neuC N pts as0 b
  | .loop b => neuC N pts as0 b
  | .scope b => neuC N pts as0 b
  | .region _ ops _ => ops.toList.all (neuOp N pts as0)
  | _ => false
def cellRes (l : List ResultVar) : List Nat := l.filterMap fun r => match r with
  | .cell a _ => some a
  | .tmp _ => none
/-- A function that has nothing to do with the heap. -/
def neuF (N : FuncId → Option Nat) (C : Cfg) (f : FuncId) (n : Nat) : Bool :=
  match C.P.funcs[f]? with
  | some fn => match fn.body with
    | some b => neuC N (C.pts f) (cellRes fn.results.toList) b && (cellRes fn.results.toList).all fun a => Nat.ble n a
    | none => false
  | none => false

theorem newVar_lo {pts : List Nat} {d : Nat} {t : TypeId} {v : Value} {e : Eff} (hp : pts.getD d 0 = d + 2) (he : newVarEff C pts (some d) t v = some e) : ∃ s vs, e = .lnew s vs := by
  unfold newVarEff at he
  split at he
  · cases he
  · simp only at he
    split at he
    · cases he
    · exact ⟨_, _, (Option.some.inj he).symm⟩

theorem put_lo {as0 : List Nat} {σ τ : St} {dst : Option Tmp} {v : Value} (h : LoS as0 σ) (ht : τ.tmps = σ.tmps) (hv : (∀ d, dst = some d → d ∉ as0) ∨ Lo v) : LoS as0 (τ.put dst v) := by
  intro a ha x hx
  cases dst with
  | none => exact h a ha x (by rw [← ht]; exact hx)
  | some d =>
    simp only [St.put, List.getElem?_set, ht] at hx
    split at hx
    · rename_i hd
      subst hd
      split at hx
      · cases hx
        rcases hv with hv | hv
        · exact absurd ha (hv _ rfl)
        · exact hv
      · cases hx
    · exact h a ha x hx

theorem step_neu {N : FuncId → Option Nat} {B : Below} (hN : NeuB N B) {pts as0 : List Nat} {ops : Array Oper} (hops : ops.toList.all (neuOp N pts as0) = true) {i : Nat} {σ σ' : St} (hl : LoS as0 σ) (h : stepRel C B pts ops i σ σ') :
    σ'.heap = σ.heap ∧ LoS as0 σ' ∧ ∀ H, stepRel C B pts ops i { σ with heap := H } { σ' with heap := H } := by
  cases hi : ops[i]? with
  | none =>
    have : σ' = σ := by simpa [stepRel, hi] using h
    subst this
    exact ⟨rfl, hl, fun H => by simp [stepRel, hi]⟩
  | some o =>
    have ho : neuOp N pts as0 o = true := List.all_eq_true.1 hops o (by
      have := Array.mem_of_getElem? hi
      simpa using this)
    unfold neuOp at ho
    rw [Bool.and_eq_true] at ho
    obtain ⟨o1, o2⟩ := ho
    have hm : memOf N pts o ≠ none := by intro e; rw [e] at o1; cases o1
    obtain ⟨e, rfl, te, le⟩ := local_ok hN hi hm h
    have hh : e.hp = none := by
      cases he : e.hp with
      | none => rfl
      | some x =>
        have := te.2 (by rw [he]; simp)
        rw [this] at o1; cases o1
    refine ⟨by rw [on_heap, hh]; rfl, ?_, fun H => ?_⟩
    · by_cases hd : ∀ d, o.dst = some d → d ∉ as0
      · unfold Ef.on
        exact put_lo hl rfl (.inl hd)
      · -- a local row is laid
        obtain ⟨d, hd⟩ := Classical.not_forall.1 hd
        obtain ⟨hdst, hd⟩ := Classical.not_imp.1 hd
        have hd := Classical.not_not.1 hd
        rw [hdst] at o2
        simp only [List.contains_eq_mem, hd, decide_true, Bool.not_true, Bool.false_or, Bool.and_eq_true] at o2
        have hp : pts.getD d 0 = d + 2 := by simpa using o2.1
        unfold stepRel at h
        simp only [hi] at h
        split at h
        · exact h.elim
        · rw [h]; exact put_lo hl rfl (.inr trivial)
        · rcases h with ⟨ef, h1, h2⟩ | ⟨v, h1, h2⟩
          · have hef : ∃ s vs, ef = .lnew s vs := by
              have o3 := o2.2
              obtain ⟨dst, op, ty, pos, after, guard⟩ := o
              simp only at hdst o3
              subst hdst
              cases op <;> first | cases o3 | skip
              · simp only [effOf] at h1
                obtain ⟨z, _, hz⟩ := Option.bind_eq_some_iff.1 h1
                exact newVar_lo hp hz
              · exact newVar_lo hp h1
            obtain ⟨s, vs, rfl⟩ := hef
            obtain ⟨p, hp1, hp2⟩ := h2
            rw [hp2]
            simp only [applyEff] at hp1
            split at hp1
            · cases hp1
              exact put_lo hl rfl (.inr rfl)
            · cases hp1
          · rw [h2]
            exact put_lo hl rfl (.inr (plain_lo h1.2.2.1))
    · have hs : Sees N pts ops o σ { σ with heap := H } := by
        refine ⟨fun t _ => rfl, ?_⟩
        cases hmm : memOf N pts o with
        | none => trivial
        | some m => rw [hmm] at o1; cases m <;> first | trivial | cases o1 | rfl
      have := le _ hs
      have e2 : e.on o.dst { σ with heap := H } = { e.on o.dst σ with heap := H } := by
        unfold Ef.on
        rw [hh]
        cases o.dst <;> rfl
      rw [e2] at this
      exact this

theorem ops_neu {N : FuncId → Option Nat} {B : Below} (hN : NeuB N B) {pts as0 : List Nat} {ops : Array Oper} (hops : ops.toList.all (neuOp N pts as0) = true) : ∀ (l : List Nat) {σ σ' : St}, LoS as0 σ → opsRel C B pts ops l σ σ' →
    σ'.heap = σ.heap ∧ LoS as0 σ' ∧ ∀ H, opsRel C B pts ops l { σ with heap := H } { σ' with heap := H }
  | [], σ, σ', hl, h => by
    have : σ' = σ := h
    subst this
    exact ⟨rfl, hl, fun H => rfl⟩
  | i :: l, σ, σ', hl, ⟨σ₁, h1, h2⟩ => by
    obtain ⟨a1, a2, a3⟩ := step_neu hN hops hl h1
    obtain ⟨b1, b2, b3⟩ := ops_neu hN hops l a2 h2
    exact ⟨b1.trans a1, b2, fun H => ⟨_, a3 H, b3 H⟩⟩

theorem restate_lo {as0 : List Nat} {σ σ' : St} (hl : LoS as0 σ) (h : Restate σ σ') : LoS as0 σ' := by
  intro a ha v hv
  obtain ⟨_, _, h3, h4⟩ := h
  have hlt : a < σ'.tmps.length := (List.getElem?_eq_some_iff.1 hv).1
  have hx : σ.tmps[a]? = some (σ.tmps[a]'(by omega)) := List.getElem?_eq_getElem _
  rcases h4 a _ _ hx hv with e | ⟨_, h5, _⟩
  · rw [e]; exact hl a ha _ hx
  · exact plain_lo h5
theorem restate_heap {σ σ' : St} (h : Restate σ σ') (H : List HObj) : Restate { σ with heap := H } { σ' with heap := H } := ⟨h.1, rfl, h.2.2.1, h.2.2.2⟩

theorem opsR_neu {N : FuncId → Option Nat} {B : Below} (hN : NeuB N B) {pts as0 : List Nat} {ops : Array Oper} (hops : ops.toList.all (neuOp N pts as0) = true) : ∀ (l : List Nat) {σ σ' : St}, LoS as0 σ → opsRelR C B pts ops l σ σ' →
    σ'.heap = σ.heap ∧ LoS as0 σ' ∧ ∀ H, opsRelR C B pts ops l { σ with heap := H } { σ' with heap := H }
  | [], σ, σ', hl, h => by
    have : σ' = σ := h
    subst this
    exact ⟨rfl, hl, fun H => rfl⟩
  | i :: l, σ, σ', hl, ⟨σ₀, σ₁, h0, h1, h2⟩ => by
    obtain ⟨a1, a2, a3⟩ := step_neu hN hops (restate_lo hl h0) h1
    obtain ⟨b1, b2, b3⟩ := opsR_neu hN hops l a2 h2
    exact ⟨b1.trans (a1.trans h0.2.1), b2, fun H => ⟨_, _, restate_heap h0 H, a3 H, b3 H⟩⟩

theorem clear_lo {as0 : List Nat} {σ : St} {keys : List Nat} (hl : LoS as0 σ) : LoS as0 (σ.clear keys) := by
  unfold St.clear
  split
  · exact hl
  · intro a ha v hv
    simp only [List.getElem?_map, Option.map_eq_some_iff] at hv
    obtain ⟨x, hx, rfl⟩ := hv
    exact clearV_lo (hl a ha x hx)
theorem clearHp (σ : St) (keys : List Nat) (H : List HObj) : St.clear { σ with heap := H } keys = { σ.clear keys with heap := H } := by
  unfold St.clear
  split <;> rfl
theorem clearHp' (σ : St) (keys : List Nat) : (σ.clear keys).heap = σ.heap := by
  unfold St.clear
  split <;> rfl

theorem result_neu {σ : St} {r : ResultVar} {as0 : List Nat} (hl : LoS as0 σ) (ha : ∀ a ∈ cellRes [r], a ∈ as0) (H : List HObj) : resultA C { σ with heap := H } r = resultA C σ r := by
  cases r with
  | tmp t => rfl
  | cell a t =>
    have hm : a ∈ as0 := ha a (by simp [cellRes])
    unfold resultA
    simp only
    cases hv : σ.tmps[a]? with
    | none => simp [List.getD_eq_getElem?_getD, hv, undef]
    | some v =>
      have := hl a hm v hv
      simp only [List.getD_eq_getElem?_getD, hv, Option.getD_some]
      cases v <;> try rfl
      rename_i p
      cases p with
      | none => rfl
      | some p =>
        have hs : p.spot = some 0 := this
        simp only [hs]
theorem results_neu {σ : St} {as0 : List Nat} (hl : LoS as0 σ) (H : List HObj) : ∀ (l : List ResultVar), (∀ a ∈ cellRes l, a ∈ as0) → resultsA C { σ with heap := H } l = resultsA C σ l
  | [], _ => rfl
  | r :: l, ha => by
    have h1 := result_neu (C := C) (r := r) hl (fun a h => ha a (by cases r <;> simp [cellRes] at h ⊢; exact .inl h)) H
    have h2 := results_neu hl H l (fun a h => ha a (by cases r <;> simp [cellRes] at h ⊢ <;> first | exact h | exact .inr h))
    simp only [resultsA, h1, h2]

/-- NEUTRAL FUNCTIONS. -/
theorem neu_ok {N : FuncId → Option Nat} (hN : ∀ f n, N f = some n → neuF N C f n = true) : ∀ n, NeuB N (sm C n).toBelow ∧
    ∀ pts as0 c, neuC N pts as0 c = true → ∀ σ e σ', LoS as0 σ → (sm C n).ex pts c σ e σ' → σ'.heap = σ.heap ∧ LoS as0 σ' ∧ ∀ H, (sm C n).ex pts c { σ with heap := H } e { σ' with heap := H }
  | 0 => ⟨fun f args H r H' _ h => ⟨h.2, fun H2 => ⟨h.1, rfl⟩⟩, fun _ _ _ _ _ _ _ _ h => absurd h id⟩
  | n + 1 => by
    obtain ⟨ihc, ihe⟩ := neu_ok hN n
    refine ⟨fun f args H r H' hf h => ?_, fun pts as0 c hc σ e σ' hl h => ?_⟩
    · rcases h with h | ⟨fn, b, e, σ, vs, c1, c2, c3, c4, c5, c6, c7, c8, c9⟩
      · exact ⟨h.2, fun H2 => .inl ⟨h.1, rfl⟩⟩
      · have hn := hN f _ hf
        unfold neuF at hn
        simp only [c1, c2, Bool.and_eq_true, List.all_eq_true] at hn
        have hl : LoS (cellRes fn.results.toList) (enterA fn args H) := by
          intro a ha v hv
          have hge : args.length ≤ a := by simpa using hn.2 a ha
          simp only [enterA] at hv
          rw [List.getElem?_append_right hge, List.getElem?_replicate] at hv
          split at hv
          · cases hv; trivial
          · cases hv
        obtain ⟨d1, d2, d3⟩ := ihe _ _ _ hn.1 _ _ _ hl c4
        refine ⟨c9.trans d1, fun H2 => .inr ⟨fn, b, e, _, vs, c1, c2, c3, d3 H2, c5, ?_, c7, c8, rfl⟩⟩
        rw [results_neu d2 H2 _ (fun a h => h)]
        exact c6
    · have h : exNext C (sm C n) pts c σ e σ' := h
      show _ ∧ _ ∧ ∀ H, exNext C (sm C n) pts c { σ with heap := H } e { σ' with heap := H }
      cases c with
      | skip => obtain ⟨rfl, rfl⟩ := h; exact ⟨rfl, hl, fun H => ⟨rfl, rfl⟩⟩
      | label l => obtain ⟨rfl, rfl⟩ := h; exact ⟨rfl, hl, fun H => ⟨rfl, rfl⟩⟩
      | ret => obtain ⟨rfl, rfl⟩ := h; exact ⟨rfl, hl, fun H => ⟨rfl, rfl⟩⟩
      | exit id => obtain ⟨rfl, rfl⟩ := h; exact ⟨rfl, hl, fun H => ⟨rfl, rfl⟩⟩
      | seq a b =>
        simp only [neuC, Bool.and_eq_true] at hc
        obtain ⟨e₁, σ₁, h1, h2⟩ := h
        obtain ⟨a1, a2, a3⟩ := ihe _ _ _ hc.1 _ _ _ hl h1
        rcases h2 with ⟨rfl, h2⟩ | ⟨h2, rfl, rfl⟩
        · obtain ⟨b1, b2, b3⟩ := ihe _ _ _ hc.2 _ _ _ a2 h2
          exact ⟨b1.trans a1, b2, fun H => ⟨_, _, a3 H, .inl ⟨rfl, b3 H⟩⟩⟩
        · exact ⟨a1, a2, fun H => ⟨_, _, a3 H, .inr ⟨h2, rfl, rfl⟩⟩⟩
      | cond x a b =>
        simp only [neuC, Bool.and_eq_true] at hc
        obtain ⟨t, h1, h2⟩ := h
        cases t with
        | true =>
          obtain ⟨b1, b2, b3⟩ := ihe _ _ _ hc.1 _ _ _ hl h2
          exact ⟨b1, b2, fun H => ⟨true, h1, b3 H⟩⟩
        | false =>
          obtain ⟨b1, b2, b3⟩ := ihe _ _ _ hc.2 _ _ _ hl h2
          exact ⟨b1, b2, fun H => ⟨false, h1, b3 H⟩⟩
      | block id b =>
        obtain ⟨e₁, h1, rfl⟩ := h
        obtain ⟨b1, b2, b3⟩ := ihe pts as0 b hc _ _ _ hl h1
        exact ⟨b1, b2, fun H => ⟨_, b3 H, rfl⟩⟩
      | scope b => exact ihe pts as0 b hc _ _ _ hl h
      | loop b =>
        obtain ⟨e₁, σ₁, h1, h2⟩ := h
        obtain ⟨a1, a2, a3⟩ := ihe pts as0 b hc _ _ _ (clear_lo hl) h1
        rw [clearHp'] at a1
        rcases h2 with ⟨rfl, h2⟩ | ⟨h2, rfl, rfl⟩
        · obtain ⟨b1, b2, b3⟩ := ihe pts as0 (.loop b) hc _ _ _ a2 h2
          exact ⟨b1.trans a1, b2, fun H => ⟨_, _, by rw [clearHp]; exact a3 H, .inl ⟨rfl, b3 H⟩⟩⟩
        · exact ⟨a1, a2, fun H => ⟨_, _, by rw [clearHp]; exact a3 H, .inr ⟨h2, rfl, rfl⟩⟩⟩
      | region id ops draw =>
        obtain ⟨rfl, hq⟩ := h
        cases draw with
        | true =>
          obtain ⟨σ₀, h0, h1⟩ : ∃ σ₀, Restate σ σ₀ ∧ anyRel C (sm C n).toBelow pts ops σ₀ σ' := hq
          have hl0 := restate_lo hl h0
          obtain ⟨a1, a2, _⟩ := ops_neu ihc hc _ hl0 (h1 0)
          refine ⟨a1.trans h0.2.1, a2, fun H => ⟨rfl, ⟨_, restate_heap h0 H, fun t => ?_⟩⟩⟩
          exact (ops_neu ihc hc _ hl0 (h1 t)).2.2 H
        | false =>
          have hq : opsRelR C (sm C n).toBelow pts ops (List.range ops.size) σ σ' := hq
          obtain ⟨a1, a2, a3⟩ := opsR_neu ihc hc _ hl hq
          exact ⟨a1, a2, fun H => ⟨rfl, a3 H⟩⟩
      | _ => cases hc

/-- REGIONS WITH CALLS OF NEUTRAL FUNCTIONS. -/
theorem dr_ok {N : FuncId → Option Nat} (hN : ∀ f n, N f = some n → neuF N C f n = true) (pts : List Nat) (ops : Array Oper) (h : regOk N pts ops = true) (n : Nat) (σ σ' : St) (hx : opsRel C (sm C n).toBelow pts ops (List.range ops.size) σ σ') :
    anyRel C (sm C n).toBelow pts ops σ σ' := any_ok (neu_ok hN n).1 h hx

end
end Sx
end Go.Am

/-
  THE ALGEBRA OF RUNS TELLS THE TRUTH; whole runs.
-/
namespace Go.Am
def LK.plain : LK → Bool
  | .v => false
  | _ => true
def SK.plain : SK → Bool
  | .leaf k => k.plain
  | .agg ks => ks.all LK.plain
def Sig.plain (s : Sig) : Bool := s.ps.all SK.plain && s.rs.all SK.plain
namespace Sx

section
variable [Val] [Kno]

variable {w : List Lf}

theorem outG_eq (k : IntKind) (c : Int) (K : Int → RT) : outG k c K = K (k.wrap c) := by
  unfold outG
  cases e : fits k c with
  | true => rw [fits_wrap e]
  | false => exact fI_eq _ _
theorem out64_eq (c : Int) (K : Int → RT) : out64 c K = K (IntKind.wrap .i64 c) := by
  refine Eq.trans ?_ (outG_eq .i64 c K)
  cases c <;> rfl
theorem outU8_eq (c : Int) (K : Int → RT) : outU8 c K = K (IntKind.wrap .u8 c) := by
  refine Eq.trans ?_ (outG_eq .u8 c K)
  cases c <;> rfl
theorem outK_eq (k : IntKind) (c : Int) (K : Int → RT) : outK k c K = K (k.wrap c) := by
  cases k <;> first | exact outG_eq _ _ _ | exact out64_eq _ _ | exact outU8_eq _ _
theorem addK_eq (a b : Int) (K : Int → RT) : addK a b K = K (a + b) := by
  unfold addK
  cases a with
  | ofNat m =>
    cases b with
    | ofNat n => exact congrArg K rfl
    | negSucc n =>
      simp only [fN_eq]
      cases e : Nat.blt n m with
      | true => rw [Nat.blt_eq] at e; exact congrArg K (show Int.ofNat (m - (n + 1)) = Int.ofNat m + Int.negSucc n by simp only [Int.ofNat_eq_natCast, Int.negSucc_eq]; omega)
      | false =>
        have e : ¬ n < m := fun h => by rw [← Nat.blt_eq, e] at h; cases h
        exact congrArg K (show Int.negSucc (n - m) = Int.ofNat m + Int.negSucc n by simp only [Int.ofNat_eq_natCast, Int.negSucc_eq]; omega)
  | negSucc m =>
    cases b with
    | ofNat n =>
      simp only [fN_eq]
      cases e : Nat.blt m n with
      | true => rw [Nat.blt_eq] at e; exact congrArg K (show Int.ofNat (n - (m + 1)) = Int.negSucc m + Int.ofNat n by simp only [Int.ofNat_eq_natCast, Int.negSucc_eq]; omega)
      | false =>
        have e : ¬ m < n := fun h => by rw [← Nat.blt_eq, e] at h; cases h
        exact congrArg K (show Int.negSucc (m - n) = Int.negSucc m + Int.ofNat n by simp only [Int.ofNat_eq_natCast, Int.negSucc_eq]; omega)
    | negSucc n => exact congrArg K (show Int.negSucc (m + n + 1) = Int.negSucc m + Int.negSucc n by simp only [Int.negSucc_eq]; omega)
theorem subK_eq (a b : Int) (K : Int → RT) : subK a b K = K (a - b) := by
  unfold subK
  cases a with
  | ofNat m =>
    cases b with
    | ofNat n =>
      simp only [fN_eq]
      cases e : Nat.ble n m with
      | true => rw [Nat.ble_eq] at e; exact congrArg K (show Int.ofNat (m - n) = Int.ofNat m - Int.ofNat n by simp only [Int.ofNat_eq_natCast]; omega)
      | false =>
        have e : ¬ n ≤ m := fun h => by rw [← Nat.ble_eq, e] at h; cases h
        exact congrArg K (show Int.negSucc (n - (m + 1)) = Int.ofNat m - Int.ofNat n by simp only [Int.ofNat_eq_natCast, Int.negSucc_eq]; omega)
    | negSucc n => exact congrArg K (show Int.ofNat (m + n + 1) = Int.ofNat m - Int.negSucc n by simp only [Int.ofNat_eq_natCast, Int.negSucc_eq]; omega)
  | negSucc m =>
    cases b with
    | ofNat n => exact congrArg K (show Int.negSucc (m + n) = Int.negSucc m - Int.ofNat n by simp only [Int.ofNat_eq_natCast, Int.negSucc_eq]; omega)
    | negSucc n =>
      simp only [fN_eq]
      cases e : Nat.ble m n with
      | true => rw [Nat.ble_eq] at e; exact congrArg K (show Int.ofNat (n - m) = Int.negSucc m - Int.negSucc n by simp only [Int.ofNat_eq_natCast, Int.negSucc_eq]; omega)
      | false =>
        have e : ¬ m ≤ n := fun h => by rw [← Nat.ble_eq, e] at h; cases h
        exact congrArg K (show Int.negSucc (m - (n + 1)) = Int.negSucc m - Int.negSucc n by simp only [Int.negSucc_eq]; omega)
theorem mulK_eq (a b : Int) (K : Int → RT) : mulK a b K = K (a * b) := by
  unfold mulK
  cases a with
  | ofNat m =>
    cases b with
    | ofNat n => exact congrArg K rfl
    | negSucc n =>
      cases m with
      | zero => exact congrArg K (show Int.ofNat 0 = Int.ofNat 0 * Int.negSucc n by simp)
      | succ m =>
        refine congrArg K (show Int.negSucc ((m + 1) * n + m) = Int.ofNat (m + 1) * Int.negSucc n from ?_)
        simp only [Int.ofNat_eq_natCast, Int.negSucc_eq, Int.natCast_add, Int.natCast_mul]
        simp only [Int.natCast_one, Int.mul_neg, Int.mul_add, Int.add_mul]
        omega
  | negSucc m =>
    cases b with
    | ofNat n =>
      cases n with
      | zero => exact congrArg K (show Int.ofNat 0 = Int.negSucc m * Int.ofNat 0 by simp)
      | succ n =>
        refine congrArg K (show Int.negSucc (m * (n + 1) + n) = Int.negSucc m * Int.ofNat (n + 1) from ?_)
        simp only [Int.ofNat_eq_natCast, Int.negSucc_eq, Int.natCast_add, Int.natCast_mul]
        simp only [Int.natCast_one, Int.neg_mul, Int.mul_add, Int.add_mul]
        omega
    | negSucc n =>
      refine congrArg K (show Int.ofNat ((m + 1) * (n + 1)) = Int.negSucc m * Int.negSucc n from ?_)
      simp only [Int.ofNat_eq_natCast, Int.negSucc_eq, Int.natCast_add, Int.natCast_mul]
      simp only [Int.natCast_one, Int.neg_mul_neg]
theorem quoK_eq (a b : Int) (K : Int → RT) : quoK a b K = K (Int.tdiv a b) := by
  unfold quoK
  cases a with
  | ofNat m =>
    cases b with
    | ofNat n => exact congrArg K rfl
    | negSucc n => exact fI_eq _ _
  | negSucc m => exact fI_eq _ _
theorem remK_eq (a b : Int) (K : Int → RT) : remK a b K = K (Int.tmod a b) := by
  unfold remK
  cases a with
  | ofNat m =>
    cases b with
    | ofNat n => exact congrArg K rfl
    | negSucc n => exact fI_eq _ _
  | negSucc m => exact fI_eq _ _
theorem isZ_false {b : Int} (h : isZ b = false) : b ≠ 0 := by
  intro e; subst e; cases h
theorem fitsK {k : IntKind} {c : Int} {K : Int → RT} (h : outK k c K = some w) : K (k.wrap c) = some w := (outK_eq k c K).symm.trans h

theorem ariB_ok {op : BinOp} {k : IntKind} {a b : Int} {K : Int → RT} (h : ariB op k a b K = some w) : ∃ n, ArRun op k a b n ∧ K n = some w := by
  cases op <;> simp only [ariB, reduceCtorEq] at h
  · rw [addK_eq, outK_eq] at h
    exact ⟨_, fun P t w => by simp [binOp, Op.intArith], h⟩
  · rw [subK_eq, outK_eq] at h
    exact ⟨_, fun P t w => by simp [binOp, Op.intArith], h⟩
  · rw [mulK_eq, outK_eq] at h
    exact ⟨_, fun P t w => by simp [binOp, Op.intArith], h⟩
  · cases hb : isZ b with
    | true => rw [hb] at h; cases h
    | false =>
      rw [hb] at h
      simp only [quoK_eq, outK_eq] at h
      have hb := isZ_false hb
      exact ⟨_, fun P t w => by simp [binOp, Op.intDiv, hb], h⟩
  · cases hb : isZ b with
    | true => rw [hb] at h; cases h
    | false =>
      rw [hb] at h
      simp only [remK_eq] at h
      have hb := isZ_false hb
      exact ⟨_, fun P t w => by simp [binOp, Op.intDiv, hb], h⟩
  · split at h
    · rename_i hb
      have hb := eqI_iff.1 hb
      subst hb
      rw [fI_eq] at h
      exact ⟨_, run_and_one rfl, h⟩
    · split at h
      · rw [fI_eq] at h
        exact ⟨_, run_and_nat _ _, fitsK h⟩
      · cases h

theorem leI_eq (x y : Int) : leI x y = decide (x ≤ y) := by rw [Bool.eq_iff_iff, leI_iff, decide_eq_true_iff]
theorem eqI_eq (x y : Int) : eqI x y = (x == y) := by rw [Bool.eq_iff_iff, eqI_iff, beq_iff_eq]
theorem eqZK_eq (x y : Int) : eqZK x y = (x == y) := by
  rw [← eqI_eq]
  cases x <;> cases y <;> rfl
theorem leZ_eq (x y : Int) : leZ x y = decide (x ≤ y) := by rw [Bool.eq_iff_iff, leZ_iff, decide_eq_true_iff]
theorem notK_eq (b : Bool) : notK b = !b := by cases b <;> rfl

theorem cmpB_ok {op : BinOp} {a b : Int} {K : Bool → RT} (h : cmpB op a b K = some w) : ∃ t, cmpRes op a b = some t ∧ K t = some w := by
  cases op <;> simp only [cmpB, reduceCtorEq, eqZK_eq, leZ_eq, notK_eq] at h
  · exact ⟨_, rfl, h⟩
  · exact ⟨_, rfl, h⟩
  · exact ⟨_, rfl, by rw [show decide (a < b) = !decide (b ≤ a) by rw [Bool.eq_iff_iff]; simp]; exact h⟩
  · exact ⟨_, rfl, h⟩
  · exact ⟨_, rfl, by rw [show decide (a > b) = !decide (a ≤ b) by rw [Bool.eq_iff_iff]; simp]; exact h⟩
  · exact ⟨_, rfl, h⟩

theorem eqLf_eq (a b : Lf) : eqLf a b = eqLfD a b := by
  cases a <;> cases b <;> try rfl
  · exact eqZK_eq _ _
  · rename_i x y; cases x <;> cases y <;> rfl
theorem eqsV_eq (l : List (Lf × Lf)) : eqsV l = eqAll l := by
  unfold eqAll
  induction l with
  | nil => rfl
  | cons p l ih =>
    show (Bool.rec false (eqsV l) (eqLf p.1 p.2) : Bool) = _
    rw [eqLf_eq, List.all_cons, ih]
    cases eqLfD p.1 p.2 <;> rfl
theorem eqsB_ok {l : List (Lf × Lf)} {K : Bool → RT} (h : eqsB l K = some w) : K (eqAll l) = some w := by
  rw [← eqsV_eq]; exact h

/-- Calls that are told truly. -/
structure CallBOk (C : Cfg) (Sg : FuncId → Option Sig) (T : Nat → Site) (call : CallB) : Prop where
  f : ∀ g ls h K w, GoodLs ls → call (.f g) ls h K = some w → ∃ rs h', CallL C Sg g ls (absH T (toL h)) rs (absH T (toL h')) ∧ K rs h' = some w
  y : ∀ κ vs l ls h K w st pd xs, h.at l = some (.lp κ st pd vs) → Told ((T κ).params.map (·.2)) ls xs → call (.y κ vs l) ls h K = some w →
    ∃ b h', uYield C l (valsOf xs) (absH T (toL h)) (.bool b) (absH T (toL h')) ∧ K [.b b] h' = some w

theorem getH_eq (T : Nat → Site) (h : HL) : getH T h = fun i => (absH T h)[i]? := by
  funext i
  simp only [getH, absH, List.getElem?_map]
  cases h[i]? <;> rfl
theorem getT_eq (T : Nat → Site) (h : HTr) : getT T h = fun i => (absH T (toL h))[i]? := by
  funext i
  simp only [getT, absH, List.getElem?_map, toL_get, Option.map_map]
  cases h.at i <;> rfl
theorem getT_toL (T : Nat → Site) (h : HTr) : getT T h = getH T (toL h) := (getT_eq T h).trans (getH_eq T (toL h)).symm
theorem getH_at {T : Nat → Site} {h : HTr} {i : Nat} {x : HOT} (e : h.at i = some x) : getH T (toL h) i = some (absO T x.ho) := by
  rw [← getT_toL]; unfold getT; rw [e]
theorem absH_len (T : Nat → Site) (h : HL) : (absH T h).length = h.length := by simp [absH]
theorem absH_set (T : Nat → Site) (h : HL) (i : Nat) (o : HO) : absH T (h.set i o) = (absH T h).set i (absO T o) := by simp [absH, List.map_set]
theorem absH_push (T : Nat → Site) (h : HL) (o : HO) : absH T (h ++ [o]) = absH T h ++ [absO T o] := by simp [absH]
theorem actsOnH_ok (T : Nat → Site) : ∀ (l : List Act1) (h : HL), absH T (actsOnH h l) = actsOn (absH T h) l
  | [], h => rfl
  | a :: l, h => by
    have ih := actsOnH_ok T l (a.onH h)
    show absH T (actsOnH (a.onH h) l) = actsOn (a.on (absH T h)) l
    rw [ih]
    congr 1
    cases a with
    | set i o => exact absH_set T h i _
    | push o => exact absH_push T h _

theorem actsK_ok : ∀ {l : List Act1} {h : HTr} {k : HTr → RT}, actsK l h k = some w → ∃ h', toL h' = actsOnH (toL h) l ∧ k h' = some w
  | [], h, k, hk => ⟨h, rfl, hk⟩
  | .set i o :: l, h, k, hk => by
    have hk : (keepO o fun o => putK h i o fun h => actsK l h k) = some w := hk
    obtain ⟨x, e1, e2⟩ := keepO_ok (o := o) (k := fun o => putK h i o fun h => actsK l h k)
    rw [e2, putK_eq] at hk
    obtain ⟨h', e, hk⟩ := actsK_ok hk
    exact ⟨h', by rw [e, toL_put, e1]; rfl, hk⟩
  | .push o :: l, h, k, hk => by
    have hk : (keepO o fun o => pushK h o fun h => actsK l h k) = some w := hk
    obtain ⟨x, e1, e2⟩ := keepO_ok (o := o) (k := fun o => pushK h o fun h => actsK l h k)
    rw [e2, pushK_eq] at hk
    obtain ⟨h', e, hk⟩ := actsK_ok hk
    exact ⟨h', by rw [e, toL_push, e1]; rfl, hk⟩

theorem spot0_eq (s : Option Nat) : spot0 s = (s != some 0) := by
  cases s with
  | none => rfl
  | some k => cases k <;> rfl
theorem goodF_eq (v : Value) : goodF v = goodV v := by
  unfold goodF
  split
  · rename_i a
    rw [spot0_eq]
    simp [goodV, noLoc, noLoc3, noLoc2, noLoc1, oneCell, isTuple]
  · rename_i a _ _
    rw [spot0_eq]
    simp [goodV, noLoc, noLoc3, noLoc2, noLoc1, oneCell, isTuple]
  · rfl
theorem lenR_eq {α : Type} (l : List α) : lenR l = l.length := by
  induction l with
  | nil => rfl
  | cons a l ih => exact congrArg Nat.succ ih
theorem ldB_ok {T : Nat → Site} {n : Nat} {p : Value} {h : HTr} {K : List Value → RT} (hk : ldB n p h K = some w) : ∃ cs, ldP n p (getH T (toL h)) = some cs ∧ K cs = some w := by
  unfold ldB at hk
  split at hk
  · rename_i a
    split at hk
    · rename_i hs
      split at hk
      · rename_i m e rw' c hat
        split at hk
        · rename_i hle
          rw [Nat.ble_eq] at hle
          refine ⟨_, ?_, hk⟩
          unfold ldP
          simp only [hs, cellsG, getH_at hat, HOT.ho, absO, Option.bind_some, cut]
          rw [if_pos (by rw [cellsT_len]; exact hle), readT_eq c n a.off m hle]
        · cases hk
      · cases hk
    · cases hk
  · cases hk
theorem stB_ok {T : Nat → Site} {p : Value} {new : List Value} {h : HTr} {K : List Value → HTr → RT} {n0 : Nat} (hk : stB p new h K = some w) :
    ∃ acts cs h', stP p new (getH T (toL h)) n0 = some (acts, cs) ∧ toL h' = actsOnH (toL h) acts ∧ K cs h' = some w := by
  unfold stB at hk
  split at hk
  · rename_i a
    split at hk
    · rename_i hs
      split at hk
      · rename_i m e c hat
        split at hk
        · rename_i hle
          rw [Nat.ble_eq, lenR_eq] at hle
          rw [insK_eq, putK_eq] at hk
          refine ⟨[.set a.block (.cells (cellsT (insT new a.off c) m) e true)], [], _, ?_, ?_, hk⟩
          · unfold stP
            simp only [hs, getH_at hat, HOT.ho, absO, splice]
            rw [if_pos (by rw [cellsT_len]; exact hle), cellsT_ins hle]
            rfl
          · rw [toL_put]; rfl
        · cases hk
      · cases hk
    · cases hk
  · cases hk
theorem tagB_iff {s : Option Nat} {esz : Nat} : tagB s esz = true ↔ s = tag esz := by
  unfold tagB tag
  cases s with
  | none => simp
  | some k => simp only [Nat.beq_eq, Option.some.injEq]; try rfl
theorem slB_ok {C : Cfg} {T : Nat → Site} {esz : Nat} {x : Value} {h : HTr} {K : List Value → Nat → RT} (hk : slB C T esz x h K = some w) :
    ∃ l n, slG C esz (getH T (toL h)) x = some (l, n) ∧ K l n = some w := by
  have gen : ∀ {x : Value}, (match slG C esz (getT T h) x with | some p => K p.1 p.2 | none => none) = some w → ∃ l n, slG C esz (getH T (toL h)) x = some (l, n) ∧ K l n = some w := by
    intro x hk
    split at hk
    · rename_i p e
      rw [getT_toL] at e
      exact ⟨p.1, p.2, e, hk⟩
    · cases hk
  unfold slB at hk
  split at hk
  · rename_i a len cx
    split at hk
    · rename_i ht
      have ht := tagB_iff.1 ht
      split at hk
      · rename_i m e rw' c hat
        split at hk
        · rename_i h1 h2
          have h1 := Nat.eq_of_beq_eq_true h1
          rw [Nat.ble_eq] at h2
          subst h1
          refine ⟨_, _, ?_, hk⟩
          unfold slG
          simp only [getH_at hat, HOT.ho, absO]
          rw [if_neg (by rw [ht]; simp [tag]), if_pos ht]
          first | rw [if_pos rfl] | rw [if_pos trivial]
          rw [cut, if_pos (by rw [cellsT_len]; exact h2), readT_eq c _ a.off m h2]
          rfl
        · cases hk
      · cases hk
    · exact gen hk
  · exact gen hk
theorem growB_ok {c : Tr Value} {m off wd esz : Nat} {new : List Value} {k : HOT → RT} (hle : off + wd ≤ m) (hk : growB c m off wd esz new k = some w) :
    ∃ x : HOT, x.ho = .o (.cells (((cellsT c m).drop off).take wd ++ new) esz true) ∧ k x = some w := by
  unfold growB at hk
  split at hk
  · rename_i h1 h2
    have h1 := Nat.eq_of_beq_eq_true h1
    have h2 := Nat.eq_of_beq_eq_true h2
    subst h1 h2
    rw [insK_eq, fN_eq, lenR_eq] at hk
    refine ⟨_, ?_, hk⟩
    show HO.o (.cells (cellsT (insT new wd c) (wd + new.length)) esz true) = _
    rw [cellsT_more, List.drop_zero, List.take_of_length_le (by rw [cellsT_len]; exact Nat.le_refl _)]
  · rw [readT_eq c wd off m hle] at hk
    obtain ⟨x, e1, e2⟩ := keepO_ok (o := .cells (((cellsT c m).drop off).take wd ++ new) esz true) (k := k)
    rw [e2] at hk
    exact ⟨x, e1, hk⟩
theorem apB_ok {C : Cfg} {T : Nat → Site} {esz bytes : Nat} {s x : Value} {h : HTr} {K : List Value → HTr → RT} (hk : apB T C esz bytes s x h K = some w) :
    ∃ acts cs h', apG C esz bytes s x (getH T (toL h)) (toL h).length = some (acts, cs) ∧ toL h' = actsOnH (toL h) acts ∧ K cs h' = some w := by
  obtain ⟨new, n, hsl, hk⟩ := slB_ok hk
  unfold apG
  rw [hsl, toL_len]
  simp only at hk ⊢
  split at hk
  · cases n with
    | zero => exact ⟨_, _, h, rfl, rfl, hk⟩
    | succ n =>
      simp only at hk
      split at hk
      · rename_i hz
        obtain ⟨y, e1, e2⟩ := keepO_ok (o := .cells new esz true) (k := fun o => pushK h o fun h' => fN (n + 1) fun n => K [.slice (some ⟨h.n, 0, tag esz⟩) n 0] h')
        rw [e2, pushK_eq, fN_eq] at hk
        refine ⟨[.push (.cells new esz true)], _, _, ?_, ?_, hk⟩
        · show (if n + 1 = 0 then some ([], [Value.slice none 0 0]) else if sizeOk (n + 1) bytes then _ else none) = _
          rw [if_neg (by omega), if_pos hz]
        · rw [toL_push, e1]; rfl
      · cases hk
  · rename_i a len cx _
    split at hk
    · cases hk
    · rename_i ht
      have ht := tagB_iff.1 ht
      split at hk
      · rename_i m e rw' c hat
        split at hk
        · rename_i h1 h2
          have h1 := Nat.eq_of_beq_eq_true h1
          rw [Nat.ble_eq] at h2
          subst h1
          have hb : a.off + len * e ≤ m := h2
          have hcut : cut (cellsT c m) a.off (len * e) = some (((cellsT c m).drop a.off).take (len * e)) := by rw [cut, if_pos (by rw [cellsT_len]; exact hb)]
          simp only [ht, ne_eq, not_true_eq_false, if_false, getH_at hat, HOT.ho, absO, hcut]
          cases cx with
          | zero =>
            simp only at hk ⊢
            cases n with
            | zero => exact ⟨[], _, h, by first | rw [if_pos rfl] | rw [if_pos trivial], rfl, hk⟩
            | succ n =>
              simp only at hk
              split at hk
              · rename_i q1 q2
                obtain ⟨y, e1, hk⟩ := growB_ok hb hk
                rw [putK_eq, pushK_eq, fN_eq] at hk
                refine ⟨[.set a.block .dead, .push (.cells (((cellsT c m).drop a.off).take (len * e) ++ new) e true)], _, _, by rw [if_neg (by omega), if_pos (by rw [q2]; rfl)], ?_, hk⟩
                rw [toL_push, toL_put, e1]; rfl
              · cases hk
          | succ cap =>
            simp only at hk ⊢
            split at hk
            · rename_i q0
              rw [Nat.ble_eq] at q0
              split at hk
              · rename_i q1 q2
                rw [Nat.ble_eq, lenR_eq] at q2
                have q2 : a.off + len * e + new.length ≤ m := q2
                rw [insK_eq, putK_eq, fN_eq] at hk
                refine ⟨[.set a.block (.cells ((cellsT c m).take (a.off + len * e) ++ new ++ (cellsT c m).drop (a.off + len * e + new.length)) e true)], _, _, by rw [if_pos q0, if_pos rfl, splice, if_pos (by rw [cellsT_len]; exact q2)]; rfl, ?_, hk⟩
                rw [toL_put]
                show (toL h).set a.block (.o (.cells (cellsT (insT new (a.off + len * e) c) m) e true)) = _
                rw [cellsT_ins q2]; rfl
              · cases hk
            · rename_i q0
              have q0 : ¬ len + n ≤ cap := fun h => by rw [← Nat.ble_eq, q0] at h; cases h
              split at hk
              · rename_i q1
                obtain ⟨y, e1, hk⟩ := growB_ok hb hk
                rw [pushK_eq, fN_eq] at hk
                refine ⟨[.push (.cells (((cellsT c m).drop a.off).take (len * e) ++ new) e true)], _, _, by rw [if_neg q0, if_pos q1], ?_, hk⟩
                rw [toL_push, e1]; rfl
              · cases hk
        · cases hk
      · cases hk
  · cases hk

theorem heapB_ok {T : Nat → Site} {f : Hp} {h : HTr} {K : List Value → HTr → RT} (hk : heapB T f h K = some w) :
    ∃ acts cs h', f.run (getH T (toL h)) (toL h).length = some (acts, cs) ∧ toL h' = actsOnH (toL h) acts ∧ K cs h' = some w := by
  unfold heapB at hk
  cases f with
  | st p new => exact stB_ok (n0 := (toL h).length) hk
  | ap C esz bytes s x => exact apB_ok hk
  | fn f =>
    simp only at hk
    rw [getT_toL] at hk
    split at hk
    · rename_i p e
      rw [plainL_eq] at hk
      obtain ⟨h', e2, hk⟩ := actsK_ok hk
      exact ⟨p.1, p.2, h', by rw [toL_len]; exact e, e2, hk⟩
    · cases hk
theorem toSL_ok {k : LK} {v : Value} {l : SL} (h : toSL k v = some l) : l.is k = true ∧ l.val = v ∧ l.good := by
  cases k with
  | i k =>
    cases v <;> simp only [toSL] at h <;> first | cases h | skip
    split at h
    · rename_i e; cases h; exact ⟨e, rfl, trivial⟩
    · cases h
  | b =>
    cases v <;> simp only [toSL] at h <;> cases h
    exact ⟨rfl, rfl, trivial⟩
  | v =>
    simp only [toSL] at h
    split at h
    · rename_i e; cases h; exact ⟨rfl, rfl, e⟩
    · cases h
theorem toSLs_ok : ∀ {ks : List LK} {vs : List Value} {xs : List SL}, toSLs ks vs = some xs → allIs xs ks = true ∧ xs.map SL.val = vs ∧ ∀ x ∈ xs, x.good
  | [], [], xs, h => by cases h; exact ⟨rfl, rfl, fun _ h => by cases h⟩
  | k :: ks, v :: vs, xs, h => by
    simp only [toSLs] at h
    split at h
    · rename_i x e
      split at h
      · rename_i ys e2
        cases h
        obtain ⟨a1, a2, a3⟩ := toSL_ok e
        obtain ⟨b1, b2, b3⟩ := toSLs_ok e2
        refine ⟨by simp [allIs, a1, b1], by simp [a2, b2], fun y hy => ?_⟩
        rcases List.mem_cons.1 hy with rfl | hy
        · exact a3
        · exact b3 y hy
      · cases h
    · cases h
  | [], _ :: _, _, h => by cases h
  | _ :: _, [], _, h => by cases h
theorem toS0_ok {sk : SK} {v : Value} {x : S0} (h : toS0 sk v = some x) : x.is sk = true ∧ x.val = v ∧ x.good := by
  cases sk with
  | leaf k =>
    obtain ⟨l, e, rfl⟩ := Option.map_eq_some_iff.1 h
    obtain ⟨a1, a2, a3⟩ := toSL_ok e
    refine ⟨a1, a2, fun y hy => ?_⟩
    simp only [S0.cells, List.mem_singleton] at hy
    subst hy; exact a3
  | agg ks =>
    cases v <;> simp only [toS0] at h <;> first | cases h | skip
    obtain ⟨l, e, rfl⟩ := Option.map_eq_some_iff.1 h
    obtain ⟨a1, a2, a3⟩ := toSLs_ok e
    exact ⟨a1, by simp [S0.val, a2], a3⟩
theorem toS0s_ok : ∀ {sks : List SK} {vs : List Value} {xs : List S0}, toS0s sks vs = some xs → areIs xs sks = true ∧ valsOf xs = vs ∧ ∀ x ∈ xs, x.good
  | [], [], xs, h => by cases h; exact ⟨rfl, rfl, fun _ h => by cases h⟩
  | k :: ks, v :: vs, xs, h => by
    simp only [toS0s] at h
    split at h
    · rename_i x e
      split at h
      · rename_i ys e2
        cases h
        obtain ⟨a1, a2, a3⟩ := toS0_ok e
        obtain ⟨b1, b2, b3⟩ := toS0s_ok e2
        refine ⟨by simp [areIs, a1, b1], by simp only [valsOf, List.map_cons, a2] at b2 ⊢; rw [b2], fun y hy => ?_⟩
        rcases List.mem_cons.1 hy with rfl | hy
        · exact a3
        · exact b3 y hy
      · cases h
    · cases h
  | [], _ :: _, _, h => by cases h
  | _ :: _, [], _, h => by cases h

theorem eqLK_ok {a b : LK} (h : eqLK a b = true) : a = b := by
  cases a <;> cases b <;> simp only [eqLK] at h <;> first | rfl | cases h | skip
  rw [kNo_inj h]
theorem eqLKs_ok : ∀ {a b : List LK}, eqLKs a b = true → a = b
  | [], [], _ => rfl
  | a :: l, b :: m, h => by
    simp only [eqLKs, Bool.and_eq_true] at h
    rw [eqLK_ok h.1, eqLKs_ok h.2]
  | [], _ :: _, h => by cases h
  | _ :: _, [], h => by cases h
theorem eqSK_ok {a b : SK} (h : eqSK a b = true) : a = b := by
  cases a <;> cases b <;> simp only [eqSK] at h <;> first | cases h | skip
  · rw [eqLK_ok h]
  · rw [eqLKs_ok h]
theorem eqSKs_ok : ∀ {a b : List SK}, eqSKs a b = true → a = b
  | [], [], _ => rfl
  | a :: l, b :: m, h => by
    simp only [eqSKs, Bool.and_eq_true] at h
    rw [eqSK_ok h.1, eqSKs_ok h.2]
  | [], _ :: _, h => by cases h
  | _ :: _, [], h => by cases h

theorem goodLs_ok : ∀ {ls : List Lf}, goodLs ls = true → GoodLs ls
  | [], _ => fun _ h => by cases h
  | .i n :: ls, h => fun l hl => by
    rcases List.mem_cons.1 hl with rfl | hl
    · trivial
    · exact goodLs_ok (ls := ls) h l hl
  | .b n :: ls, h => fun l hl => by
    rcases List.mem_cons.1 hl with rfl | hl
    · trivial
    · exact goodLs_ok (ls := ls) h l hl
  | .v n :: ls, h => fun l hl => by
    have h : (match goodF n with | true => goodLs ls | false => false) = true := h
    split at h
    · rename_i e
      rw [goodF_eq] at e
      rcases List.mem_cons.1 hl with rfl | hl
      · exact e
      · exact goodLs_ok (ls := ls) h l hl
    · cases h

theorem callB_ok {C : Cfg} {Sg : FuncId → Option Sig} {T : Nat → Site} {call : CallB} (hc : CallBOk C Sg T call) {g : FuncId} {ls : List Lf} {h : HTr} {K : List Lf → HTr → RT} (hk : callB call g ls h K = some w) :
    ∃ rs h', CallL C Sg g ls (absH T (toL h)) rs (absH T (toL h')) ∧ K rs h' = some w := by
  unfold callB at hk
  split at hk
  · rename_i e; exact hc.f g ls h K w (goodLs_ok e) hk
  · cases hk

theorem callVals_ok {C : Cfg} {Sg : FuncId → Option Sig} {T : Nat → Site} {call : CallB} (hc : CallBOk C Sg T call) {g : FuncId} {hs : Option (List SK)} {vals : List Value} {h : HTr} {K : List Lf → HTr → RT} (hk : callVals Sg call g hs vals h K = some w) :
    ∃ sg rs ys h', Sg g = some sg ∧ (∀ x, hs = some x → sg.rs = x) ∧ Told sg.rs rs ys ∧ uCall C g vals (absH T (toL h)) (packA (valsOf ys)) (absH T (toL h')) ∧ K rs h' = some w := by
  unfold callVals at hk
  split at hk
  · cases hk
  · rename_i sg e
    split at hk
    · cases hk
    · rename_i e2
      split at hk
      · cases hk
      · rename_i xs e3
        obtain ⟨rs, h', ⟨sg', xs', ys, c1, c2, c3, c4⟩, hk⟩ := callB_ok hc hk
        rw [e] at c1
        cases c1
        obtain ⟨d1, d2, d3⟩ := toS0s_ok e3
        obtain ⟨w1, _⟩ := areIs_val c2.1 d1 c2.2.1
        rw [w1, d2] at c4
        refine ⟨sg, rs, ys, h', e, fun x hx => ?_, c3, c4, hk⟩
        subst hx
        exact eqSKs_ok e2

theorem hloop_at {T : Nat → Site} {h : HTr} {l κ : Nat} {st : LoopState} {pd : Option Code} {vs : List Value} (e : h.at l = some (.lp κ st pd vs)) : hloop (absH T (toL h)) l = some { lpOf (T κ) κ vs with state := st, pending := pd } := by
  unfold hloop absH
  rw [List.getElem?_map, toL_get, e]
  rfl

theorem callvB_ok {C : Cfg} {Sg : FuncId → Option Sig} {T : Nat → Site} {call : CallB} (hc : CallBOk C Sg T call) {v : Value} {args : List Value} {hs : List SK} {h : HTr} {K : List Lf → HTr → RT} (hk : callvB Sg T call v args hs h K = some w) :
    ∃ rs h', CallV C v args hs (absH T (toL h)) rs (absH T (toL h')) ∧ K rs h' = some w := by
  unfold callvB at hk
  split at hk
  · rename_i fn first cap
    split at hk
    · rename_i g
      obtain ⟨sg, rs, ys, h', c1, c2, c3, c4, c5⟩ := callVals_ok hc hk
      rw [c2 _ rfl] at c3
      exact ⟨rs, h', ⟨ys, c3, .inl ⟨g, first, cap, rfl, c4⟩⟩, c5⟩
    · rename_i l
      split at hk
      · rename_i e1 e2
        have e1 : first = #[] := Array.toList_inj.1 e1
        have e2 : cap = #[] := Array.toList_inj.1 e2
        subst e1 e2
        split at hk
        · rename_i κ st pd vs e
          split at hk
          · cases hk
          · rename_i e3
            have e3 := eqSKs_ok e3
            subst e3
            split at hk
            · cases hk
            · rename_i xs e4
              split at hk
              · rename_i e5
                obtain ⟨d1, d2, d3⟩ := toS0s_ok e4
                obtain ⟨b, h', y1, y2⟩ := hc.y κ vs l _ h K w st pd xs e ⟨d1, rfl, d3⟩ hk
                rw [d2] at y1
                refine ⟨[.b b], h', ⟨[.leaf (.b b)], ⟨rfl, rfl, fun x hx => ?_⟩, .inr ⟨l, rfl, y1⟩⟩, y2⟩
                simp only [List.mem_singleton] at hx
                subst hx
                intro y hy
                simp only [S0.cells, List.mem_singleton] at hy
                subst hy; trivial
              · cases hk
        · cases hk
      · cases hk
    · cases hk
  · cases hk

theorem rfunB_ok {C : Cfg} {Sg : FuncId → Option Sig} {T : Nat → Site} {call : CallB} (hc : CallBOk C Sg T call) {κ : Nat} {v : Value} {vals : List Value} {h : HTr} {K : Option Code → HTr → RT} (hk : rfunB Sg call κ v vals h K = some w) :
    ∃ g first cap r H1 lp h2, v = .func (.func g) first cap ∧ uCall C g (first.toList ++ [.func (.yield (absH T (toL h)).length) #[] #[]] ++ cap.toList) (absH T (toL h) ++ [.loop (lpOf (T κ) κ vals)]) r H1 ∧
      hloop H1 (absH T (toL h)).length = some lp ∧ lp.state ≠ .busy ∧ absH T (toL h2) = H1.set (absH T (toL h)).length (.loop { lp with state := .exhausted }) ∧ K lp.pending h2 = some w := by
  unfold rfunB at hk
  split at hk
  · rename_i fn first cap
    split at hk
    · rename_i g
      rw [pushK_eq] at hk
      obtain ⟨sg, rs, ys, h', _, _, c3, c4, c5⟩ := callVals_ok hc hk
      have hlen : (absH T (toL h)).length = h.n := by rw [absH_len, toL_len]
      split at c5
      · rename_i κ' st pd vs e
        have hl := hloop_at (T := T) e
        rw [toL_push, absH_push] at c4
        have fin : ∀ (hst : st ≠ .busy), (putK h' h.n (.lp κ' .exhausted pd vs) fun h2 => K pd h2) = some w → ∃ g' first' cap' r H1 lp h2, (Value.func (.func g) first cap) = .func (.func g') first' cap' ∧ uCall C g' (first'.toList ++ [.func (.yield (absH T (toL h)).length) #[] #[]] ++ cap'.toList) (absH T (toL h) ++ [.loop (lpOf (T κ) κ vals)]) r H1 ∧
            hloop H1 (absH T (toL h)).length = some lp ∧ lp.state ≠ .busy ∧ absH T (toL h2) = H1.set (absH T (toL h)).length (.loop { lp with state := .exhausted }) ∧ K lp.pending h2 = some w := by
          intro hst hk
          rw [putK_eq] at hk
          refine ⟨g, first, cap, packA (valsOf ys), absH T (toL h'), { lpOf (T κ') κ' vs with state := st, pending := pd }, h'.put h.n (.lp κ' .exhausted pd vs), rfl, ?_, ?_, hst, ?_, hk⟩
          · rw [hlen]; exact c4
          · rw [hlen]; exact hl
          · rw [toL_put, absH_set, hlen]; rfl
        cases st with
        | busy => cases c5
        | _ => exact fin (by simp) c5
      · cases c5
    · cases hk
  · cases hk

theorem pend_exit {id : Nat} : ∀ {ks : List (Nat × RT)}, (List.rec none (fun p _ ih => match Nat.beq p.1 id with | true => p.2 | false => ih) ks : RT) = some w →
    ∃ id' x, some (Code.exit id) = some (Code.exit id') ∧ (id', x) ∈ ks ∧ x = some w
  | [], h => by cases h
  | p :: ks, h => by
    have h : (match Nat.beq p.1 id with | true => p.2 | false => (List.rec none (fun p _ ih => match Nat.beq p.1 id with | true => p.2 | false => ih) ks : RT)) = some w := h
    split at h
    · rename_i e
      exact ⟨id, p.2, rfl, by rw [← Nat.eq_of_beq_eq_true e]; exact List.mem_cons_self, h⟩
    · obtain ⟨id', x, a, b, c⟩ := pend_exit h
      exact ⟨id', x, a, List.mem_cons_of_mem _ b, c⟩

theorem BA_ok {C : Cfg} {Sg : FuncId → Option Sig} {T : Nat → Site} {call : CallB} (hc : CallBOk C Sg T call) : AlgOk (BA Sg T call) C Sg T (fun b => b = some w) (fun h => absH T (toL h)) where
  fail := by intro h; cases h
  cond := by
    intro b x y h
    cases b
    · exact .inr ⟨rfl, h⟩
    · exact .inl ⟨rfl, h⟩
  ari := fun op k a b K h => ariB_ok h
  shf := fun op k a k' b K h => by cases h
  cmp := fun op a b K h => cmpB_ok h
  eqs := fun l K h => eqsB_ok h
  conv := fun k a K h => fitsK h
  sel := by intro t a b K h; cases t <;> exact h
  opt := by
    intro α o K h
    cases o with
    | none => cases h
    | some x => exact ⟨x, rfl, h⟩
  chk := by
    intro v K h
    have h : chkB v K = some w := h
    unfold chkB at h
    split at h
    · rename_i e; rw [goodF_eq] at e; exact ⟨e, h⟩
    · cases h
  unI := by
    intro ls K h
    match ls, h with
    | .i n :: r, h => exact ⟨n, r, rfl, h⟩
  unB := by
    intro ls K h
    match ls, h with
    | .b n :: r, h => exact ⟨n, r, rfl, h⟩
  unV := by
    intro ls K h
    match ls, h with
    | .v n :: r, h => exact ⟨n, r, rfl, h⟩
  un0 := by
    intro ls K h
    match ls, h with
    | [], h => exact ⟨rfl, h⟩
  ucI := by
    intro k ls K h
    match ls, h with
    | .int k' n :: r, h =>
      have h : (match kSame k k' with | true => K n r | false => none) = some w := h
      split at h
      · rename_i e; rw [kNo_inj e]; exact ⟨n, r, rfl, h⟩
      · cases h
  ucB := by
    intro ls K h
    match ls, h with
    | .bool n :: r, h => exact ⟨n, r, rfl, h⟩
  ucV := by
    intro ls K h
    match ls, h with
    | n :: r, h => exact ⟨n, r, rfl, h⟩
  uc0 := by
    intro ls K h
    match ls, h with
    | [], h => exact ⟨rfl, h⟩
  peek := by
    intro f h K hk
    have hk : peekB T f h K = some w := hk
    unfold peekB at hk
    rw [← getH_eq]
    cases f with
    | ld n p => exact ldB_ok hk
    | fn f =>
      simp only at hk
      rw [getT_toL] at hk
      split at hk
      · rename_i x e; exact ⟨x, e, hk⟩
      · cases hk
  heap := by
    intro f h K hk
    have hk : heapB T f h K = some w := hk
    obtain ⟨acts, cs, h', a1, a2, a3⟩ := heapB_ok hk
    exact ⟨acts, cs, h', by rw [← getH_eq, absH_len]; exact a1, by rw [a2]; exact actsOnH_ok T acts (toL h), a3⟩
  new := by
    intro o h K hk
    have hk : newB o h K = some w := hk
    unfold newB at hk
    obtain ⟨x, e1, e2⟩ := keepO_ok (o := o) (k := fun o => pushK h o fun h' => K h.n h')
    rw [e2, pushK_eq] at hk
    exact ⟨h.push x, by rw [toL_push, e1]; exact absH_push T (toL h) _, by rw [absH_len, toL_len]; exact hk⟩
  call := fun g ls h K hk => callB_ok hc hk
  callv := fun v args hs h K hk => callvB_ok hc hk
  join := fun b m h => h
  loop := by
    intro F ls h hk
    refine ⟨fun n => Nat.rec (motive := fun _ => List Lf → HTr → RT) (fun _ _ => none) (fun _ ih ls h => F ih ls h) n, fun ls h => (by simp), fun n ls h => rfl, 1000000, hk⟩
  rfun := fun κ v vals h K hk => rfunB_ok hc hk
  pend := by
    intro pd kn kr ks h
    cases pd with
    | none => exact .inl ⟨rfl, h⟩
    | some c =>
      cases c <;> first | exact .inr (.inl ⟨rfl, h⟩) | skip
      case exit id =>
        exact .inr (.inr (pend_exit h))
      all_goals cases h
  lp1 := by
    intro l h K hk
    have hk : lp1B l h K = some w := hk
    unfold lp1B at hk
    split at hk
    · rename_i κ st pd vs e
      split at hk
      · rw [putK_eq] at hk
        exact ⟨_, _, hloop_at e, rfl, by rw [toL_put]; exact absH_set T (toL h) l _, hk⟩
      · cases hk
    · cases hk
  lp2 := by
    intro l j h K hk
    have hk : lp2B l j h K = some w := hk
    unfold lp2B at hk
    split at hk
    · rename_i κ st pd vs e
      cases j with
      | none =>
        have hk : putK h l (.lp κ .ready none vs) K = some w := hk
        rw [putK_eq] at hk
        exact ⟨_, h.put l (.lp κ .ready none vs), hloop_at e, (congrArg (absH T) (toL_put h l (.lp κ .ready none vs))).trans (absH_set T (toL h) l (.lp κ .ready none vs)), hk⟩
      | some c =>
        have hk : putK h l (.lp κ .done (some c) vs) K = some w := hk
        rw [putK_eq] at hk
        exact ⟨_, h.put l (.lp κ .done (some c) vs), hloop_at e, (congrArg (absH T) (toL_put h l (.lp κ .done (some c) vs))).trans (absH_set T (toL h) l (.lp κ .done (some c) vs)), hk⟩
    · cases hk

/-- Runs to a depth. -/
noncomputable def runT (Sg : FuncId → Option Sig) (T : Nat → Site) (tab : Alg RT HTr → CK → List Lf → HTr → (List Lf → HTr → RT) → RT) (n : Nat) : CallB :=
  Nat.rec (motive := fun _ => CallB) (fun _ _ _ _ => none) (fun _ ih f ls h K => tab (BA Sg T ih) f ls h K) n

/-- How a table of runs may answer for a function: by what the function does; by what is known of it; by what a run of it over an empty heap answers. -/
inductive TabOk (C : Cfg) (Sg : FuncId → Option Sig) (X : Ctxt) (dr : List Nat → Array Oper → Bool) (A : Alg RT HTr) (f : FuncId) (ls : List Lf) (h : HTr) (K : List Lf → HTr → RT) (w : List Lf) : Prop
  | run (fn : Fn1) (hi : FnIs X Sg f fn) (he : execF A X Sg dr fn ls h K = some w)
  | known (rs : List Lf) (hc : ∀ H, CallL C Sg f ls H rs H) (hk : K rs h = some w)
  | alone (fn : Fn1) (rs : List Lf) (sg : Sig) (hi : FnIs X Sg f fn) (hs : Sg f = some sg) (hp : sg.plain = true) (he : execF A X Sg dr fn ls .empty (fun rs _ => some rs) = some rs) (hk : K rs h = some w)
theorem absH_empty (T : Nat → Site) : absH T (toL .empty) = [] := rfl
theorem runT_ok {C : Cfg} {Sg : FuncId → Option Sig} {T : Nat → Site} {X : FuncId → Ctxt} {dr : List Nat → Array Oper → Bool}
    (hdr : ∀ pts ops, dr pts ops = true → ∀ (n : Nat) (σ σ' : St), opsRel C (sm C n).toBelow pts ops (List.range ops.size) σ σ' → anyRel C (sm C n).toBelow pts ops σ σ')
    (hX : ∀ f, (X f).C = C ∧ (X f).T = T) {tab : Alg RT HTr → CK → List Lf → HTr → (List Lf → HTr → RT) → RT}
    (hpl : ∀ f sg ls rs H', Sg f = some sg → sg.plain = true → CallL C Sg f ls [] rs H' → ∀ H, CallL C Sg f ls H rs H)
    (htab : ∀ A f ls h K w, tab A (.f f) ls h K = some w → TabOk C Sg (X f) dr A f ls h K w)
    (htabY : ∀ A κ vs l ls h K w, tab A (.y κ vs l) ls h K = some w → ∃ f, execY A (X f) Sg dr (T κ) vs l ls h K = some w) : ∀ n, CallBOk C Sg T (runT Sg T tab n)
  | 0 => ⟨fun _ _ _ _ _ _ h => by (cases h), fun _ _ _ _ _ _ _ _ _ _ _ _ h => by (cases h)⟩
  | n + 1 => by
    have hA := fun w => BA_ok (w := w) (runT_ok hdr hX hpl htab htabY n)
    refine ⟨fun f ls h K w hls hk => ?_, fun κ vs l ls h K w st pd xs e hy hk => ?_⟩
    · obtain ⟨x1, x2⟩ := hX f
      have hA' : ∀ w, AlgOk (BA Sg T (runT Sg T tab n)) (X f).C Sg (X f).T (fun b => b = some w) (fun h => absH T (toL h)) := by rw [x1, x2]; exact hA
      cases htab _ _ _ _ _ _ hk with
      | known rs h1 h2 => exact ⟨rs, h, h1 _, h2⟩
      | run fn h1 h2 =>
        obtain ⟨rs, h', a1, _, a3⟩ := execF_ok (hA' w) (by rw [x1]; exact hdr) h1 hls h2
        rw [x1] at a1
        exact ⟨rs, h', a1, a3⟩
      | alone fn rs sg h1 hs hp h2 h3 =>
        obtain ⟨rs', h', a1, _, a3⟩ := execF_ok (hA' rs) (by rw [x1]; exact hdr) h1 hls h2
        rw [x1] at a1
        cases a3
        exact ⟨rs, h, hpl f sg ls rs _ hs hp a1 _, h3⟩
    · obtain ⟨f, h2⟩ := htabY _ _ _ _ _ _ _ _ hk
      obtain ⟨x1, x2⟩ := hX f
      have hA' : AlgOk (BA Sg T (runT Sg T tab n)) (X f).C Sg (X f).T (fun b => b = some w) (fun h => absH T (toL h)) := by rw [x1, x2]; exact hA w
      obtain ⟨b, h', a1, a3⟩ := execY_ok hA' (by rw [x1]; exact hdr) (hloop_at e) rfl rfl rfl rfl hy h2
      rw [x1] at a1
      exact ⟨b, h', a1, a3⟩

end
end Sx
end Go.Am

/-
  CALLS THAT LEAVE NOTHING BEHIND: a run that begins with an empty heap is a run over any heap.
-/
namespace Go.Am
namespace Sx

section
variable [Val]

theorem objR_keep {mu : HMap} {p : Pl} {x y : Option Obj} {o : HObj} (hxy : ∀ a, x = some a → y = some a) (h : objR mu p x o) : objR mu p y o := by
  cases o with
  | cells vs esz rw =>
    obtain ⟨h1, h2, h3, c, e, fr, h4, h5⟩ := h
    exact ⟨h1, h2, h3, c, e, fr, hxy _ h4, h5⟩
  | map es clock =>
    obtain ⟨es', h1, h2⟩ := h
    exact ⟨es', hxy _ h1, h2⟩
  | loop r =>
    obtain ⟨L, h1, h2⟩ := h
    exact ⟨L, hxy _ h1, h2⟩
  | siter s pos => exact hxy _ h
  | dead => trivial

theorem flatVRs {la : LMap} {mu mu' : HMap} {vs cs : List Value} (hf : vs.all flat = true) (h : VRs la mu vs cs) : VRs la mu' vs cs := by
  refine ⟨h.1, fun i x y hx hy => ?_⟩
  have h1 := h.2 i x y hx hy
  have h2 : flat x = true := List.all_eq_true.1 hf x (List.mem_of_getElem? hx)
  rw [flat_eq h2 h1]
  exact .of_flat h2

theorem no_own {mu : HMap} {b : Nat} : ¬ Own mu [] b := by
  rintro ⟨id, o, p, h, _⟩
  simp at h

/-- THE FRAME. -/
theorem frame_ok {C : Cfg} (hG : ∀ g vs, C.G g = some vs → vs.all flat = true) {f : FuncId} {args : List Value} {r : Value} {H' : List HObj} (h : CallOk C f args [] r H') (ha : args.all flat = true) (hr : flat r = true) (H : List HObj) : CallOk C f args H r H := by
  intro base mu w args' hb hargs hW
  have hW0 : WR C w.heap.size (fun _ => none) [] w := by
    refine ⟨fun id o h => by simp at h, fun i j oi oj pi pj h => by simp at h, fun i o p h => by simp at h, fun i o p h => by simp at h, fun _ _ => rfl, fun g vs hg => ?_⟩
    obtain ⟨h1, h2, c, e, fr, h3, h4⟩ := hW.glob g vs hg
    exact ⟨by omega, h2, c, e, fr, h3, flatVRs (hG g vs hg) h4⟩
  obtain ⟨v, mu', w', a1, a2, a3, a4, a5⟩ := h w.heap.size (fun _ => none) w args' (Nat.le_refl _) (flatVRs ha hargs) hW0
  have hkeep : ∀ (b : Nat) x, w.heap[b]? = some x → w'.heap[b]? = some x := by
    intro b x hx
    have hlt : b < w.heap.size := by
      rcases Nat.lt_or_ge b w.heap.size with h | h
      · exact h
      · rw [Array.getElem?_eq_none h] at hx; cases hx
    rw [a3.keep b hlt no_own]; exact hx
  refine ⟨v, mu, w', ?_, ?_, ?_, a4, a5⟩
  · rw [flat_eq hr a1]; exact .of_flat hr
  · refine ⟨fun id o h1 h2 => ?_, hW.inj, hW.own, hW.ro, hW.dom, fun g vs hg => ?_⟩
    · obtain ⟨p, h3, h4⟩ := hW.obj id o h1 h2
      exact ⟨p, h3, objR_keep (hkeep p.b) h4⟩
    · obtain ⟨h1, h2, c, e, fr, h3, h4⟩ := hW.glob g vs hg
      exact ⟨h1, h2, c, e, fr, hkeep _ _ h3, h4⟩
  · exact ⟨Nat.le_refl _, fun _ _ => rfl, a3.size, fun b hb _ => a3.keep b hb no_own, fun b h => .inr h, a3.os, a3.tape, a3.output⟩

end

section
variable [Val] [Kno]

/-- What is known is a call. -/
theorem call_known {C : Cfg} {f : FuncId} {args : List Value} {r : Value} (h : Kno.kn f args r) (H : List HObj) : uCall C f args H r H := ⟨0, h, rfl⟩

end
end Sx
end Go.Am

/-
  THE FUNCTIONS OF THE PROGRAM ARE WHAT IS TOLD OF THEM, BY PROGRAM.
-/
set_option maxRecDepth 100000
namespace Go.Am
open Sx Go.Proofs

def neuT : List (Nat × Nat) := [(22, 2)]
def lookN (l : List (Nat × Nat)) (f : Nat) : Option Nat := match l with
  | [] => none
  | p :: l => match Nat.beq p.1 f with
    | true => some p.2
    | false => lookN l f
def neuN (f : FuncId) : Option Nat := lookN neuT f
theorem lookN_mem {f n : Nat} : ∀ {l : List (Nat × Nat)}, lookN l f = some n → (f, n) ∈ l
  | p :: l, h => by
    unfold lookN at h
    split at h
    · rename_i e
      cases h
      have := Nat.eq_of_beq_eq_true e
      subst this
      exact List.mem_cons_self
    · exact List.mem_cons_of_mem _ (lookN_mem h)
theorem neuT_ok : (neuT.all fun p => neuF neuN cc p.1 p.2) = true := by kernel_rfl
theorem neuN_ok (f n : Nat) (h : neuN f = some n) : neuF neuN cc f n = true := List.all_eq_true.1 neuT_ok (f, n) (lookN_mem h)
def drN (pts : List Nat) (ops : Array Oper) : Bool := regOk neuN pts ops

noncomputable def n4 : Fn1 := fn1 cc.P 4 ((sgTab 4).getD ⟨[], []⟩) an4
noncomputable def n17 : Fn1 := fn1 cc.P 17 ((sgTab 17).getD ⟨[], []⟩) an17
noncomputable def n18 : Fn1 := fn1 cc.P 18 ((sgTab 18).getD ⟨[], []⟩) an18
noncomputable def n19 : Fn1 := fn1 cc.P 19 ((sgTab 19).getD ⟨[], []⟩) an19
noncomputable def n20 : Fn1 := fn1 cc.P 20 ((sgTab 20).getD ⟨[], []⟩) an20
noncomputable def n21 : Fn1 := fn1 cc.P 21 ((sgTab 21).getD ⟨[], []⟩) an21
noncomputable def n22 : Fn1 := fn1 cc.P 22 ((sgTab 22).getD ⟨[], []⟩) an22
noncomputable def n23 : Fn1 := fn1 cc.P 23 ((sgTab 23).getD ⟨[], []⟩) an23
noncomputable def n24 : Fn1 := fn1 cc.P 24 ((sgTab 24).getD ⟨[], []⟩) an24
noncomputable def n25 : Fn1 := fn1 cc.P 25 ((sgTab 25).getD ⟨[], []⟩) an25
noncomputable def n26 : Fn1 := fn1 cc.P 26 ((sgTab 26).getD ⟨[], []⟩) an26
noncomputable def n27 : Fn1 := fn1 cc.P 27 ((sgTab 27).getD ⟨[], []⟩) an27
noncomputable def n28 : Fn1 := fn1 cc.P 28 ((sgTab 28).getD ⟨[], []⟩) an28
noncomputable def n29 : Fn1 := fn1 cc.P 29 ((sgTab 29).getD ⟨[], []⟩) an29
noncomputable def n31 : Fn1 := fn1 cc.P 31 ((sgTab 31).getD ⟨[], []⟩) an31
noncomputable def n33 : Fn1 := fn1 cc.P 33 ((sgTab 33).getD ⟨[], []⟩) an33
noncomputable def n34 : Fn1 := fn1 cc.P 34 ((sgTab 34).getD ⟨[], []⟩) an34
noncomputable def n35 : Fn1 := fn1 cc.P 35 ((sgTab 35).getD ⟨[], []⟩) an35
noncomputable def n36 : Fn1 := fn1 cc.P 36 ((sgTab 36).getD ⟨[], []⟩) an36
noncomputable def n38 : Fn1 := fn1 cc.P 38 ((sgTab 38).getD ⟨[], []⟩) an38
noncomputable def n39 : Fn1 := fn1 cc.P 39 ((sgTab 39).getD ⟨[], []⟩) an39
noncomputable def n40 : Fn1 := fn1 cc.P 40 ((sgTab 40).getD ⟨[], []⟩) an40
noncomputable def n41 : Fn1 := fn1 cc.P 41 ((sgTab 41).getD ⟨[], []⟩) an41
noncomputable def n43 : Fn1 := fn1 cc.P 43 ((sgTab 43).getD ⟨[], []⟩) an43
noncomputable def n45 : Fn1 := fn1 cc.P 45 ((sgTab 45).getD ⟨[], []⟩) an45
noncomputable def n47 : Fn1 := fn1 cc.P 47 ((sgTab 47).getD ⟨[], []⟩) an47
noncomputable def n49 : Fn1 := fn1 cc.P 49 ((sgTab 49).getD ⟨[], []⟩) an49
noncomputable def n67 : Fn1 := fn1 cc.P 67 ((sgTab 67).getD ⟨[], []⟩) an67
noncomputable def n68 : Fn1 := fn1 cc.P 68 ((sgTab 68).getD ⟨[], []⟩) an68
noncomputable def n69 : Fn1 := fn1 cc.P 69 ((sgTab 69).getD ⟨[], []⟩) an69
noncomputable def n70 : Fn1 := fn1 cc.P 70 ((sgTab 70).getD ⟨[], []⟩) an70
noncomputable def n71 : Fn1 := fn1 cc.P 71 ((sgTab 71).getD ⟨[], []⟩) an71
noncomputable def n72 : Fn1 := fn1 cc.P 72 ((sgTab 72).getD ⟨[], []⟩) an72
noncomputable def n73 : Fn1 := fn1 cc.P 73 ((sgTab 73).getD ⟨[], []⟩) an73
noncomputable def n74 : Fn1 := fn1 cc.P 74 ((sgTab 74).getD ⟨[], []⟩) an74
noncomputable def n76 : Fn1 := fn1 cc.P 76 ((sgTab 76).getD ⟨[], []⟩) an76
noncomputable def n77 : Fn1 := fn1 cc.P 77 ((sgTab 77).getD ⟨[], []⟩) an77
noncomputable def n89 : Fn1 := fn1 cc.P 89 ((sgTab 89).getD ⟨[], []⟩) an89
theorem i4 : FnIs (xc 4) sgTab 4 n4 := ⟨⟨Tryd.f4, Tryd.func4, by kernel_rfl, by kernel_rfl, by kernel_rfl, by kernel_rfl⟩, rfl, by kernel_rfl⟩
theorem e4 : @f4 = fun R HT A ls h K => execF A (xc 4) sgTab drN n4 ls h K := by kernel_rfl
theorem i17 : FnIs (xc 17) sgTab 17 n17 := ⟨⟨Tryd.f17, Tryd.func17, by kernel_rfl, by kernel_rfl, by kernel_rfl, by kernel_rfl⟩, rfl, by kernel_rfl⟩
theorem e17 : @f17 = fun R HT A ls h K => execF A (xc 17) sgTab drN n17 ls h K := by kernel_rfl
theorem i18 : FnIs (xc 18) sgTab 18 n18 := ⟨⟨Tryd.f18, Tryd.func18, by kernel_rfl, by kernel_rfl, by kernel_rfl, by kernel_rfl⟩, rfl, by kernel_rfl⟩
theorem e18 : @f18 = fun R HT A ls h K => execF A (xc 18) sgTab drN n18 ls h K := by kernel_rfl
theorem i19 : FnIs (xc 19) sgTab 19 n19 := ⟨⟨Tryd.f19, Tryd.func19, by kernel_rfl, by kernel_rfl, by kernel_rfl, by kernel_rfl⟩, rfl, by kernel_rfl⟩
theorem e19 : @f19 = fun R HT A ls h K => execF A (xc 19) sgTab drN n19 ls h K := by kernel_rfl
theorem i20 : FnIs (xc 20) sgTab 20 n20 := ⟨⟨Tryd.f20, Tryd.func20, by kernel_rfl, by kernel_rfl, by kernel_rfl, by kernel_rfl⟩, rfl, by kernel_rfl⟩
theorem e20 : @f20 = fun R HT A ls h K => execF A (xc 20) sgTab drN n20 ls h K := by kernel_rfl
theorem i21 : FnIs (xc 21) sgTab 21 n21 := ⟨⟨Tryd.f21, Tryd.func21, by kernel_rfl, by kernel_rfl, by kernel_rfl, by kernel_rfl⟩, rfl, by kernel_rfl⟩
theorem e21 : @f21 = fun R HT A ls h K => execF A (xc 21) sgTab drN n21 ls h K := by kernel_rfl
theorem i22 : FnIs (xc 22) sgTab 22 n22 := ⟨⟨Tryd.f22, Tryd.func22, by kernel_rfl, by kernel_rfl, by kernel_rfl, by kernel_rfl⟩, rfl, by kernel_rfl⟩
theorem e22 : @f22 = fun R HT A ls h K => execF A (xc 22) sgTab drN n22 ls h K := by kernel_rfl
theorem i23 : FnIs (xc 23) sgTab 23 n23 := ⟨⟨Tryd.f23, Tryd.func23, by kernel_rfl, by kernel_rfl, by kernel_rfl, by kernel_rfl⟩, rfl, by kernel_rfl⟩
theorem e23 : @f23 = fun R HT A ls h K => execF A (xc 23) sgTab drN n23 ls h K := by kernel_rfl
theorem i24 : FnIs (xc 24) sgTab 24 n24 := ⟨⟨Tryd.f24, Tryd.func24, by kernel_rfl, by kernel_rfl, by kernel_rfl, by kernel_rfl⟩, rfl, by kernel_rfl⟩
theorem e24 : @f24 = fun R HT A ls h K => execF A (xc 24) sgTab drN n24 ls h K := by kernel_rfl
theorem i25 : FnIs (xc 25) sgTab 25 n25 := ⟨⟨Tryd.f25, Tryd.func25, by kernel_rfl, by kernel_rfl, by kernel_rfl, by kernel_rfl⟩, rfl, by kernel_rfl⟩
theorem e25 : @f25 = fun R HT A ls h K => execF A (xc 25) sgTab drN n25 ls h K := by kernel_rfl
theorem i26 : FnIs (xc 26) sgTab 26 n26 := ⟨⟨Tryd.f26, Tryd.func26, by kernel_rfl, by kernel_rfl, by kernel_rfl, by kernel_rfl⟩, rfl, by kernel_rfl⟩
theorem e26 : @f26 = fun R HT A ls h K => execF A (xc 26) sgTab drN n26 ls h K := by kernel_rfl
theorem i27 : FnIs (xc 27) sgTab 27 n27 := ⟨⟨Tryd.f27, Tryd.func27, by kernel_rfl, by kernel_rfl, by kernel_rfl, by kernel_rfl⟩, rfl, by kernel_rfl⟩
theorem e27 : @f27 = fun R HT A ls h K => execF A (xc 27) sgTab drN n27 ls h K := by kernel_rfl
theorem i28 : FnIs (xc 28) sgTab 28 n28 := ⟨⟨Tryd.f28, Tryd.func28, by kernel_rfl, by kernel_rfl, by kernel_rfl, by kernel_rfl⟩, rfl, by kernel_rfl⟩
theorem e28 : @f28 = fun R HT A ls h K => execF A (xc 28) sgTab drN n28 ls h K := by kernel_rfl
theorem i29 : FnIs (xc 29) sgTab 29 n29 := ⟨⟨Tryd.f29, Tryd.func29, by kernel_rfl, by kernel_rfl, by kernel_rfl, by kernel_rfl⟩, rfl, by kernel_rfl⟩
theorem e29 : @f29 = fun R HT A ls h K => execF A (xc 29) sgTab drN n29 ls h K := by kernel_rfl
theorem i31 : FnIs (xc 31) sgTab 31 n31 := ⟨⟨Tryd.f31, Tryd.func31, by kernel_rfl, by kernel_rfl, by kernel_rfl, by kernel_rfl⟩, rfl, by kernel_rfl⟩
theorem e31 : @f31 = fun R HT A ls h K => execF A (xc 31) sgTab drN n31 ls h K := by kernel_rfl
theorem i33 : FnIs (xc 33) sgTab 33 n33 := ⟨⟨Tryd.f33, Tryd.func33, by kernel_rfl, by kernel_rfl, by kernel_rfl, by kernel_rfl⟩, rfl, by kernel_rfl⟩
theorem e33 : @f33 = fun R HT A ls h K => execF A (xc 33) sgTab drN n33 ls h K := by kernel_rfl
theorem i34 : FnIs (xc 34) sgTab 34 n34 := ⟨⟨Tryd.f34, Tryd.func34, by kernel_rfl, by kernel_rfl, by kernel_rfl, by kernel_rfl⟩, rfl, by kernel_rfl⟩
theorem e34 : @f34 = fun R HT A ls h K => execF A (xc 34) sgTab drN n34 ls h K := by kernel_rfl
theorem i35 : FnIs (xc 35) sgTab 35 n35 := ⟨⟨Tryd.f35, Tryd.func35, by kernel_rfl, by kernel_rfl, by kernel_rfl, by kernel_rfl⟩, rfl, by kernel_rfl⟩
theorem e35 : @f35 = fun R HT A ls h K => execF A (xc 35) sgTab drN n35 ls h K := by kernel_rfl
theorem i36 : FnIs (xc 36) sgTab 36 n36 := ⟨⟨Tryd.f36, Tryd.func36, by kernel_rfl, by kernel_rfl, by kernel_rfl, by kernel_rfl⟩, rfl, by kernel_rfl⟩
theorem e36 : @f36 = fun R HT A ls h K => execF A (xc 36) sgTab drN n36 ls h K := by kernel_rfl
theorem i38 : FnIs (xc 38) sgTab 38 n38 := ⟨⟨Tryd.f38, Tryd.func38, by kernel_rfl, by kernel_rfl, by kernel_rfl, by kernel_rfl⟩, rfl, by kernel_rfl⟩
theorem e38 : @f38 = fun R HT A ls h K => execF A (xc 38) sgTab drN n38 ls h K := by kernel_rfl
theorem i39 : FnIs (xc 39) sgTab 39 n39 := ⟨⟨Tryd.f39, Tryd.func39, by kernel_rfl, by kernel_rfl, by kernel_rfl, by kernel_rfl⟩, rfl, by kernel_rfl⟩
theorem e39 : @f39 = fun R HT A ls h K => execF A (xc 39) sgTab drN n39 ls h K := by kernel_rfl
theorem i40 : FnIs (xc 40) sgTab 40 n40 := ⟨⟨Tryd.f40, Tryd.func40, by kernel_rfl, by kernel_rfl, by kernel_rfl, by kernel_rfl⟩, rfl, by kernel_rfl⟩
theorem e40 : @f40 = fun R HT A ls h K => execF A (xc 40) sgTab drN n40 ls h K := by kernel_rfl
theorem i41 : FnIs (xc 41) sgTab 41 n41 := ⟨⟨Tryd.f41, Tryd.func41, by kernel_rfl, by kernel_rfl, by kernel_rfl, by kernel_rfl⟩, rfl, by kernel_rfl⟩
theorem e41 : @f41 = fun R HT A ls h K => execF A (xc 41) sgTab drN n41 ls h K := by kernel_rfl
theorem i43 : FnIs (xc 43) sgTab 43 n43 := ⟨⟨Tryd.f43, Tryd.func43, by kernel_rfl, by kernel_rfl, by kernel_rfl, by kernel_rfl⟩, rfl, by kernel_rfl⟩
theorem e43 : @f43 = fun R HT A ls h K => execF A (xc 43) sgTab drN n43 ls h K := by kernel_rfl
theorem i45 : FnIs (xc 45) sgTab 45 n45 := ⟨⟨Tryd.f45, Tryd.func45, by kernel_rfl, by kernel_rfl, by kernel_rfl, by kernel_rfl⟩, rfl, by kernel_rfl⟩
theorem e45 : @f45 = fun R HT A ls h K => execF A (xc 45) sgTab drN n45 ls h K := by kernel_rfl
theorem i47 : FnIs (xc 47) sgTab 47 n47 := ⟨⟨Tryd.f47, Tryd.func47, by kernel_rfl, by kernel_rfl, by kernel_rfl, by kernel_rfl⟩, rfl, by kernel_rfl⟩
theorem e47 : @f47 = fun R HT A ls h K => execF A (xc 47) sgTab drN n47 ls h K := by kernel_rfl
theorem i49 : FnIs (xc 49) sgTab 49 n49 := ⟨⟨Tryd.f49, Tryd.func49, by kernel_rfl, by kernel_rfl, by kernel_rfl, by kernel_rfl⟩, rfl, by kernel_rfl⟩
theorem e49 : @f49 = fun R HT A ls h K => execF A (xc 49) sgTab drN n49 ls h K := by kernel_rfl
theorem i67 : FnIs (xc 67) sgTab 67 n67 := ⟨⟨Tryd.f67, Tryd.func67, by kernel_rfl, by kernel_rfl, by kernel_rfl, by kernel_rfl⟩, rfl, by kernel_rfl⟩
theorem e67 : @f67 = fun R HT A ls h K => execF A (xc 67) sgTab drN n67 ls h K := by kernel_rfl
theorem i68 : FnIs (xc 68) sgTab 68 n68 := ⟨⟨Tryd.f68, Tryd.func68, by kernel_rfl, by kernel_rfl, by kernel_rfl, by kernel_rfl⟩, rfl, by kernel_rfl⟩
theorem e68 : @f68 = fun R HT A ls h K => execF A (xc 68) sgTab drN n68 ls h K := by kernel_rfl
theorem i69 : FnIs (xc 69) sgTab 69 n69 := ⟨⟨Tryd.f69, Tryd.func69, by kernel_rfl, by kernel_rfl, by kernel_rfl, by kernel_rfl⟩, rfl, by kernel_rfl⟩
theorem e69 : @f69 = fun R HT A ls h K => execF A (xc 69) sgTab drN n69 ls h K := by kernel_rfl
theorem i70 : FnIs (xc 70) sgTab 70 n70 := ⟨⟨Tryd.f70, Tryd.func70, by kernel_rfl, by kernel_rfl, by kernel_rfl, by kernel_rfl⟩, rfl, by kernel_rfl⟩
theorem e70 : @f70 = fun R HT A ls h K => execF A (xc 70) sgTab drN n70 ls h K := by kernel_rfl
theorem i71 : FnIs (xc 71) sgTab 71 n71 := ⟨⟨Tryd.f71, Tryd.func71, by kernel_rfl, by kernel_rfl, by kernel_rfl, by kernel_rfl⟩, rfl, by kernel_rfl⟩
theorem e71 : @f71 = fun R HT A ls h K => execF A (xc 71) sgTab drN n71 ls h K := by kernel_rfl
theorem i72 : FnIs (xc 72) sgTab 72 n72 := ⟨⟨Tryd.f72, Tryd.func72, by kernel_rfl, by kernel_rfl, by kernel_rfl, by kernel_rfl⟩, rfl, by kernel_rfl⟩
theorem e72 : @f72 = fun R HT A ls h K => execF A (xc 72) sgTab drN n72 ls h K := by kernel_rfl
theorem i73 : FnIs (xc 73) sgTab 73 n73 := ⟨⟨Tryd.f73, Tryd.func73, by kernel_rfl, by kernel_rfl, by kernel_rfl, by kernel_rfl⟩, rfl, by kernel_rfl⟩
theorem e73 : @f73 = fun R HT A ls h K => execF A (xc 73) sgTab drN n73 ls h K := by kernel_rfl
theorem i74 : FnIs (xc 74) sgTab 74 n74 := ⟨⟨Tryd.f74, Tryd.func74, by kernel_rfl, by kernel_rfl, by kernel_rfl, by kernel_rfl⟩, rfl, by kernel_rfl⟩
theorem e74 : @f74 = fun R HT A ls h K => execF A (xc 74) sgTab drN n74 ls h K := by kernel_rfl
theorem i76 : FnIs (xc 76) sgTab 76 n76 := ⟨⟨Tryd.f76, Tryd.func76, by kernel_rfl, by kernel_rfl, by kernel_rfl, by kernel_rfl⟩, rfl, by kernel_rfl⟩
theorem e76 : @f76 = fun R HT A ls h K => execF A (xc 76) sgTab drN n76 ls h K := by kernel_rfl
theorem i77 : FnIs (xc 77) sgTab 77 n77 := ⟨⟨Tryd.f77, Tryd.func77, by kernel_rfl, by kernel_rfl, by kernel_rfl, by kernel_rfl⟩, rfl, by kernel_rfl⟩
theorem e77 : @f77 = fun R HT A ls h K => execF A (xc 77) sgTab drN n77 ls h K := by kernel_rfl
theorem i89 : FnIs (xc 89) sgTab 89 n89 := ⟨⟨Tryd.f89, Tryd.func89, by kernel_rfl, by kernel_rfl, by kernel_rfl, by kernel_rfl⟩, rfl, by kernel_rfl⟩
theorem e89 : @f89 = fun R HT A ls h K => execF A (xc 89) sgTab drN n89 ls h K := by kernel_rfl

end Go.Am

/-
  WHAT THE PACKAGE-LEVEL VARIABLES HOLD, read off the row's list; a call as the row sees it.
-/
namespace Go.Am
namespace Sx

/-- The cells of a datum of numbers, truth values, structs and arrays. -/
def unL (P : Program) (un : TypeId → DataW Unit → Option (List Value)) : List (Nat × TypeId) → List (DataW Unit) → Nat → Option (List Value)
  | [], [], _ => some []
  | (o, t) :: l, d :: ds, off => match Nat.beq o off, un t d with
    | true, some v => match Nat.beq v.length (P.cellsOf t), unL P un l ds (off + v.length) with
      | true, some vs => some (v ++ vs)
      | _, _ => none
    | _, _ => none
  | _, _, _ => none
def unD (P : Program) : Nat → TypeId → DataW Unit → Option (List Value)
  | 0, _, _ => none
  | fu + 1, t, d => match P.underlying t, d with
    | some .bool, .lit (.bool b) => some [.bool b]
    | some (.int k), .lit (.int _ n) => some [.int k n]
    | some (.struct fs), .agg ds => match unL P (unD P fu) (fs.toList.map fun f => (f.offset, f.type)) ds 0 with
      | some vs => if vs.length = P.cellsOf t then some vs else none
      | none => none
    | some (.array n e), .agg ds => match unL P (unD P fu) ((List.range n).map fun i => (i * P.cellsOf e, e)) ds 0 with
      | some vs => if vs.length = P.cellsOf t then some vs else none
      | none => none
    | _, _ => none

section
variable {P : Program} {w : World} {base : Nat} {spare : Nat → Bool} {held : Bool} {enc : TypeId × Value → Unit}

theorem seg_ok {un : TypeId → DataW Unit → Option (List Value)} {fuel : Nat} (hun : ∀ t d vs, un t d = some vs → ∀ cs p, DataW.trod enc P w base spare held fuel t cs = some (d, p) → cs = vs) {α : Type} (o : α → Nat) (ty : α → TypeId) (cs : List Value) :
    ∀ (l : List α) (xs : List (DataW Unit × List MemPlace)) (off : Nat) (vs : List Value), l.mapM (fun a => DataW.trod enc P w base spare held fuel (ty a) ((cs.drop (o a)).take (P.cellsOf (ty a)))) = some xs →
      unL P un (l.map fun a => (o a, ty a)) (xs.map (·.1)) off = some vs → (cs.drop off).take vs.length = vs
  | [], xs, off, vs, h1, h2 => by
    simp only [List.mapM_nil, Option.pure_def, Option.some.injEq] at h1
    subst h1
    simp only [List.map_nil, unL, Option.some.injEq] at h2
    subst h2
    simp
  | a :: l, xs, off, vs, h1, h2 => by
    rw [List.mapM_cons] at h1
    obtain ⟨x, h3, h1⟩ := Option.bind_eq_some_iff.1 h1
    obtain ⟨ys, h4, h1⟩ := Option.bind_eq_some_iff.1 h1
    cases h1
    simp only [List.map_cons, unL] at h2
    split at h2
    · rename_i v e1 e2
      split at h2
      · rename_i ws e3 e4
        cases h2
        have e1 := Nat.eq_of_beq_eq_true e1
        have e3 := Nat.eq_of_beq_eq_true e3
        have hv := hun _ _ _ e2 _ _ h3
        have ih := seg_ok hun o ty cs l ys _ _ h4 e4
        rw [e1, ← e3] at hv
        rw [List.length_append, List.take_add, hv, List.drop_drop]
        rw [ih]
      · cases h2
    · cases h2

theorem unD_ok : ∀ (fu : Nat) (t : TypeId) (d : DataW Unit) (vs : List Value), unD P fu t d = some vs → ∀ (fuel : Nat) (cs : List Value) (p : List MemPlace), DataW.trod enc P w base spare held fuel t cs = some (d, p) → cs = vs
  | 0, _, _, _, h => by cases h
  | fu + 1, t, d, vs, h => by
    intro fuel cs p hp
    cases fuel with
    | zero => simp [DataW.trod] at hp
    | succ fuel =>
      have hun : ∀ t d vs, unD P fu t d = some vs → ∀ cs p, DataW.trod enc P w base spare held fuel t cs = some (d, p) → cs = vs := fun t d vs h cs p => unD_ok fu t d vs h fuel cs p
      simp only [unD] at h
      split at h
      · rename_i b e
        cases h
        simp only [DataW.trod, e] at hp
        split at hp <;> simp_all
      · rename_i k k' n e
        cases h
        simp only [DataW.trod, e] at hp
        split at hp <;> first | cases hp | skip
        all_goals first
          | (split at hp
             · rename_i hh; simp at hp; obtain ⟨⟨rfl, rfl⟩, _⟩ := hp; rw [hh.1]
             · cases hp)
          | simp_all
      · rename_i fs ds e
        split at h
        · rename_i ws e2
          split at h
          · rename_i e3
            cases h
            simp only [DataW.trod, e] at hp
            split at hp
            · rename_i e4
              obtain ⟨xs, h5, h6⟩ := Option.map_eq_some_iff.1 hp
              simp only [Prod.mk.injEq, DataW.agg.injEq] at h6
              rw [← h6.1] at e2
              have := seg_ok hun (fun f : Field => f.offset) (fun f : Field => f.type) cs _ xs 0 _ h5 e2
              rw [List.drop_zero, List.take_of_length_le (by omega)] at this
              exact this
            · cases hp
          · cases h
        · cases h
      · rename_i n el ds e
        split at h
        · rename_i ws e2
          split at h
          · rename_i e3
            cases h
            simp only [DataW.trod, e] at hp
            split at hp
            · rename_i e4
              obtain ⟨xs, h5, h6⟩ := Option.map_eq_some_iff.1 hp
              simp only [Prod.mk.injEq, DataW.agg.injEq] at h6
              rw [← h6.1] at e2
              have := seg_ok hun (fun i => i * P.cellsOf el) (fun _ => el) cs _ xs 0 _ h5 e2
              rw [List.drop_zero, List.take_of_length_le (by omega)] at this
              exact this
            · cases hp
          · cases h
        · cases h
      · cases h

end

section
variable [Val]

/-- A call, as the row sees it. -/
theorem calls_of_ok {C : Cfg} {f : FuncId} {args : List Value} {r : Value} {H' : List HObj} (h : CallOk C f args [] r H') {args' : Array Value} {W : World} (ha : args.all flat = true) (hargs : args'.toList = args) (hr : flat r = true)
    (hG : ∀ g vs, C.G g = some vs → g < W.heap.size ∧ vs.all cellOk = true ∧ vs.all flat = true ∧ ∃ c e fr, W.heap[g]? = some (.cells c e fr) ∧ c.toList = vs) :
    Calls C.P f args' W fun e W' => e = .returned r ∧ W'.os = W.os ∧ W'.output = W.output ∧ W'.tape = W.tape ∧ ∀ b, b < W.heap.size → W'.heap[b]? = W.heap[b]? := by
  have hW0 : WR C W.heap.size (fun _ => none) [] W := by
    refine ⟨fun id o h => by simp at h, fun i j oi oj pi pj h => by simp at h, fun i o p h => by simp at h, fun i o p h => by simp at h, fun _ _ => rfl, fun g vs hg => ?_⟩
    obtain ⟨h1, h2, h3, c, e, fr, h4, h5⟩ := hG g vs hg
    refine ⟨h1, h2, c, e, fr, h4, ?_⟩
    rw [h5]
    exact ⟨rfl, fun i x y hx hy => by rw [hx] at hy; cases hy; exact .of_flat (List.all_eq_true.1 h3 x (List.mem_of_getElem? hx))⟩
  have hV : VRs noL (fun _ => none) args args'.toList := by
    rw [hargs]
    exact ⟨rfl, fun i x y hx hy => by rw [hx] at hy; cases hy; exact .of_flat (List.all_eq_true.1 ha x (List.mem_of_getElem? hx))⟩
  obtain ⟨v, mu', w', a1, a2, a3, _, a5⟩ := h W.heap.size (fun _ => none) W args' (Nat.le_refl _) hV hW0
  rw [flat_eq hr a1] at a5
  intro cs
  obtain ⟨fr, b1, b2, b3⟩ := a5 cs
  exact ⟨.returned r, w', fr, ⟨rfl, a3.os, a3.output, a3.tape, fun b hb => a3.keep b hb no_own⟩, b1, b2, b3⟩

end
end Sx
end Go.Am

/-
  FROM A CALL TO THE ROW: arguments without addresses.
-/
namespace Go.Am
namespace Sx
open Go.ChangeShapes Go.WideShapes Go.ChangeAt Go.WideMaps Go.WideElems Go.RowKit

theorem kept_of {W W' : World} (h1 : W'.os = W.os) (h2 : W'.output = W.output) (h3 : ∀ b, b < W.heap.size → W'.heap[b]? = W.heap[b]?) (may : MemPlace → Prop) : W.keptBut W' may := by
  refine ⟨h1, h2, fun i hi => ?_⟩
  rw [h3 i hi]
  exact (World.keptBut_refl W may).2.2 i hi

theorem post_flat {H : Type} {enc : TypeId × Value → H} {P : Program} {f : Func} {s : ChangeSpec} {apart fresh handsOn again : Bool} {W W' : World} {args : Array Value} {v : Value} {ds gs : List (DataW H)}
    (hW : DataW.Whole enc P f.params.toList s.vars apart W args.toList ds gs [])
    (hres : ∀ (b : Nat) (sp : Nat → Bool) (hd : Bool), DataW.TrodAll enc P W' b sp hd f.resultTypes.toList (v.resultList f.resultTypes.size) (s.fn H (ds ++ gs)).results [])
    (hargs : ∀ sp : Nat → Bool, DataW.TrodAll enc P W' 0 sp true f.params.toList args.toList (s.fn H (ds ++ gs)).args [])
    (hvars : ∀ sp : Nat → Bool, DataW.TrodVars enc P W' sp s.vars (s.fn H (ds ++ gs)).vars [])
    (h1 : W'.os = W.os) (h2 : W'.output = W.output) (h3 : ∀ b, b < W.heap.size → W'.heap[b]? = W.heap[b]?)
    (hok : ∀ (j : Nat) (t : TypeId) (r : Value), f.resultTypes[j]? = some t → (v.resultList f.resultTypes.size)[j]? = some r → Value.okWide P W' .any 0 t r) :
    s.post enc P f apart fresh handsOn again W args v W' := by
  refine ⟨ds, gs, [], [], [], [], hW, hres _ _ _, hargs _, hvars _, kept_of h1 h2 h3 _, fun _ => ?_⟩
  refine ⟨hok, _, _, [], ⟨[], [], trodAll_append (hargs _) (hres _ _ _), hvars _, rfl, ?_, ?_⟩, ?_⟩
  · intro b off hp; cases hp
  · intro _; exact List.nodup_nil
  · intro p hp; cases hp

/-- A variable that is listed. -/
theorem laid_cells {P : Program} {w : World} {laid : List (String × DataW Unit)} {ps : List MemPlace} (h : DataW.LaidVars P w laid ps) : ∀ n d, (n, d) ∈ laid → ∀ g t fu vs, P.globalNamed n = some g → (P.globals[g]?).map (·.type) = some t → unD P fu t d = some vs →
    ∃ c e fr, w.heap[g]? = some (.cells c e fr) ∧ c.toList = vs := by
  induction laid generalizing ps with
  | nil => intro n d h; cases h
  | cons x l ih =>
    obtain ⟨n0, d0⟩ := x
    obtain ⟨g0, t0, cs, fuel, p, q, a1, a2, a3, a4, a5, a6⟩ := h
    intro n d hm g t fu vs b1 b2 b3
    rcases List.mem_cons.1 hm with e | hm
    · cases e
      rw [a1] at b1; cases b1
      rw [a2] at b2; cases b2
      have hc := unD_ok fu _ _ vs b3 _ _ _ a4
      unfold World.var? at a3
      rw [a1] at a3
      simp only [Option.bind_some] at a3
      split at a3
      · rename_i c ty fr e
        cases a3
        exact ⟨_, _, _, e, hc⟩
      · cases a3
    · exact ih a5 n d hm g t fu vs b1 b2 b3

section
variable [Val] [Kno]
theorem ans_yes {t : Bool} (h : ans t = yes) : t = true := by cases t; cases h; rfl
/-- A closed function that says true. -/
theorem closed_true {C : Cfg} {Sg : FuncId → Option Sig} {T : Nat → Site} {call : CallB} (hc : CallBOk C Sg T call) {g : FuncId} (hs : Sg g = some ⟨[], [.leaf .b]⟩) (h : call (.f g) [] .empty (fun l _ => match l with | [.b t] => ans t | _ => none) = yes) :
    ∃ H', uCall C g [] [] (.bool true) H' := by
  obtain ⟨rs, h', ⟨sg, xs, ys, c1, c2, c3, c4⟩, hk⟩ := hc.f g [] .empty _ _ (fun _ h => by cases h) h
  rw [hs] at c1
  cases c1
  have hx : xs = [] := by
    have := c2.1
    cases xs with
    | nil => rfl
    | cons x l => cases this
  subst hx
  obtain ⟨d1, d2, _⟩ := c3
  obtain ⟨y, rfl⟩ : ∃ y, ys = [y] := List.length_eq_one_iff.1 (areIs_length d1)
  · simp only [areIs, Bool.and_true] at d1
    cases y with
    | agg _ => cases d1
    | leaf l =>
      cases l with
      | b t =>
        simp only [lfsOf, S0.cells, List.map_cons, SL.lf, List.map_nil, List.append_nil] at d2
        subst d2
        have hk : t = true := ans_yes hk
        subst hk
        exact ⟨_, c4⟩
      | l t =>
        simp only [lfsOf, S0.cells, List.map_cons, SL.lf, List.map_nil, List.append_nil] at d2
        subst d2
        have hk : t = true := ans_yes hk
        subst hk
        exact ⟨_, c4⟩
      | i _ _ => cases d1
      | v _ => cases d1
end
end Sx
end Go.Am

/-
  THE ALGEBRA OF PROPOSITIONS: what must hold, that code does as it is told to do.
-/
namespace Go.Am
namespace Sx

section
variable [Val] [Kno]

abbrev HO' := List HObj
def condP (b : Bool) (x y : Prop) : Prop := (b = true → x) ∧ (b = false → y)
def ariP (op : BinOp) (k : IntKind) (a b : Int) (K : Int → Prop) : Prop :=
  match op with
  | .add => K (k.wrap (a + b))
  | .sub => K (k.wrap (a - b))
  | .mul => K (k.wrap (a * b))
  | .quo => b ≠ 0 ∧ K (k.wrap (a.tdiv b))
  | .rem => b ≠ 0 ∧ K (a.tmod b)
  | .and => (b = 1 ∧ K (a % 2)) ∨ (b ≠ 1 ∧ ∃ n, ArRun .and k a b n ∧ K n)
  | op => ∃ n, ArRun op k a b n ∧ K n
def cmpP (op : BinOp) (a b : Int) (K : Bool → Prop) : Prop :=
  match op with
  | .eql => K (a == b)
  | .neq => K (a != b)
  | .lss => K (decide (a < b))
  | .leq => K (decide (a ≤ b))
  | .gtr => K (decide (a > b))
  | .geq => K (decide (a ≥ b))
  | _ => False
def optP {α : Type} (o : Option α) (K : α → Prop) : Prop := ∃ x, o = some x ∧ K x
def unIP (ls : List Lf) (K : Int → List Lf → Prop) : Prop := match ls with | .i n :: r => K n r | _ => False
def unBP (ls : List Lf) (K : Bool → List Lf → Prop) : Prop := match ls with | .b n :: r => K n r | _ => False
def unVP (ls : List Lf) (K : Value → List Lf → Prop) : Prop := match ls with | .v n :: r => K n r | _ => False
def un0P (ls : List Lf) (K : Prop) : Prop := match ls with | [] => K | _ => False
def ucIP (k : IntKind) (ls : List Value) (K : Int → List Value → Prop) : Prop := match ls with | .int k' n :: r => k = k' ∧ K n r | _ => False
def ucBP (ls : List Value) (K : Bool → List Value → Prop) : Prop := match ls with | .bool n :: r => K n r | _ => False
def ucVP (ls : List Value) (K : Value → List Value → Prop) : Prop := match ls with | n :: r => K n r | _ => False
def uc0P (ls : List Value) (K : Prop) : Prop := match ls with | [] => K | _ => False
def getL (h : List HObj) : Getter := fun i => h[i]?
def peekP (f : Pk) (h : List HObj) (K : List Value → Prop) : Prop := ∃ cs, f.run (getL h) = some cs ∧ K cs
def heapP (f : Hp) (h : List HObj) (K : List Value → List HObj → Prop) : Prop := ∃ acts cs, f.run (getL h) h.length = some (acts, cs) ∧ K cs (actsOn h acts)
def callP (C : Cfg) (Sg : FuncId → Option Sig) (g : FuncId) (ls : List Lf) (h : List HObj) (K : List Lf → List HObj → Prop) : Prop := ∃ rs h', CallL C Sg g ls h rs h' ∧ K rs h'
def callvP (C : Cfg) (v : Value) (args : List Value) (hs : List SK) (h : List HObj) (K : List Lf → List HObj → Prop) : Prop := ∃ rs h', CallV C v args hs h rs h' ∧ K rs h'
def itP (F : (List Lf → List HObj → Prop) → List Lf → List HObj → Prop) (n : Nat) : List Lf → List HObj → Prop :=
  match n with
  | 0 => fun _ _ => False
  | n + 1 => F (itP F n)
def loopP (F : (List Lf → List HObj → Prop) → List Lf → List HObj → Prop) (ls : List Lf) (h : List HObj) : Prop := ∃ n, itP F n ls h
def rfunP (C : Cfg) (T : Nat → Site) (κ : Nat) (v : Value) (vals : List Value) (h : List HObj) (K : Option Code → List HObj → Prop) : Prop :=
  ∃ g first cap r H1 lp, v = .func (.func g) first cap ∧
    uCall C g (first.toList ++ [.func (.yield h.length) #[] #[]] ++ cap.toList) (h ++ [.loop (lpOf (T κ) κ vals)]) r H1 ∧
    hloop H1 h.length = some lp ∧ lp.state ≠ .busy ∧ K lp.pending (H1.set h.length (.loop { lp with state := .exhausted }))
def pendP (pd : Option Code) (kn kr : Prop) (ks : List (Nat × Prop)) : Prop :=
  match pd with
  | none => kn
  | some .ret => kr
  | some (.exit id) => ∃ x, (id, x) ∈ ks ∧ x
  | _ => False
def lp1P (l : Nat) (h : List HObj) (K : List HObj → Prop) : Prop := ∃ lp, hloop h l = some lp ∧ lp.state = .ready ∧ K (h.set l (.loop { lp with state := .busy }))
def lp2P (l : Nat) (j : Option Code) (h : List HObj) (K : List HObj → Prop) : Prop := ∃ lp, hloop h l = some lp ∧ K (h.set l (.loop { lp with state := if j.isNone then .ready else .done, pending := j }))

def PA (C : Cfg) (Sg : FuncId → Option Sig) (T : Nat → Site) : Alg Prop (List HObj) where
  fail := False
  cond := condP
  ari := ariP
  shf := fun op k a k' b K => ∃ n, ShRun op k a k' b n ∧ K n
  cmp := cmpP
  eqs := fun l K => K (eqAll l)
  conv := fun k a K => K (k.wrap a)
  sel := fun t a b K => K (if t then a else b)
  opt := optP
  chk := fun v K => goodV v = true ∧ K
  unI := unIP
  unB := unBP
  unV := unVP
  un0 := un0P
  ucI := ucIP
  ucB := ucBP
  ucV := ucVP
  uc0 := uc0P
  peek := peekP
  heap := heapP
  new := fun o h K => K h.length (h ++ [o])
  call := callP C Sg
  callv := callvP C
  join := fun b m => m b
  loop := loopP
  rfun := rfunP C T
  pend := pendP
  lp1 := lp1P
  lp2 := lp2P

theorem PA_ok (C : Cfg) (Sg : FuncId → Option Sig) (T : Nat → Site) : AlgOk (PA C Sg T) C Sg T id id where
  fail := fun h => h
  cond := by
    intro b x y h
    cases b
    · exact .inr ⟨rfl, h.2 rfl⟩
    · exact .inl ⟨rfl, h.1 rfl⟩
  ari := by
    intro op k a b K h
    have h : ariP op k a b K := h
    cases op <;> simp only [ariP] at h
    · exact ⟨_, fun P t w => by simp [binOp, Op.intArith], h⟩
    · exact ⟨_, fun P t w => by simp [binOp, Op.intArith], h⟩
    · exact ⟨_, fun P t w => by simp [binOp, Op.intArith], h⟩
    · obtain ⟨hb, h⟩ := h
      exact ⟨_, fun P t w => by simp [binOp, Op.intDiv, hb], h⟩
    · obtain ⟨hb, h⟩ := h
      exact ⟨_, fun P t w => by simp [binOp, Op.intDiv, hb], h⟩
    · rcases h with ⟨rfl, h'⟩ | ⟨_, n, h1, h2⟩
      · exact ⟨_, run_and_one rfl, h'⟩
      · exact ⟨n, h1, h2⟩
    all_goals exact h
  shf := fun op k a k' b K h => h
  cmp := by
    intro op a b K h
    have h : cmpP op a b K := h
    cases op <;> simp only [cmpP] at h <;> exact ⟨_, rfl, h⟩
  eqs := fun l K h => h
  conv := fun k a K h => h
  sel := fun t a b K h => h
  opt := fun o K h => h
  chk := fun v K h => h
  unI := by
    intro ls K h
    match ls, h with
    | .i n :: r, h => exact ⟨n, r, rfl, h⟩
  unB := by
    intro ls K h
    match ls, h with
    | .b n :: r, h => exact ⟨n, r, rfl, h⟩
  unV := by
    intro ls K h
    match ls, h with
    | .v n :: r, h => exact ⟨n, r, rfl, h⟩
  un0 := by
    intro ls K h
    match ls, h with
    | [], h => exact ⟨rfl, h⟩
  ucI := by
    intro k ls K h
    match ls, h with
    | .int k' n :: r, h =>
      obtain ⟨rfl, h⟩ : k = k' ∧ K n r := h
      exact ⟨n, r, rfl, h⟩
  ucB := by
    intro ls K h
    match ls, h with
    | .bool n :: r, h => exact ⟨n, r, rfl, h⟩
  ucV := by
    intro ls K h
    match ls, h with
    | n :: r, h => exact ⟨n, r, rfl, h⟩
  uc0 := by
    intro ls K h
    match ls, h with
    | [], h => exact ⟨rfl, h⟩
  peek := fun f h K hk => hk
  heap := by
    intro f h K hk
    obtain ⟨acts, cs, h1, h2⟩ := hk
    exact ⟨acts, cs, _, h1, rfl, h2⟩
  new := fun o h K hk => ⟨_, rfl, hk⟩
  call := fun g ls h K hk => hk
  callv := fun v args hs h K hk => hk
  join := fun b m h => h
  loop := by
    intro F ls h hk
    obtain ⟨n, hk⟩ := hk
    exact ⟨itP F, fun ls h => (id : False → False), fun n ls h => rfl, n, hk⟩
  rfun := by
    intro κ v vals h K hk
    obtain ⟨g, first, cap, r, H1, lp, h1, h2, h3, h4, h5⟩ := hk
    exact ⟨g, first, cap, r, H1, lp, _, h1, h2, h3, h4, rfl, h5⟩
  pend := by
    intro pd kn kr ks h
    have h : pendP pd kn kr ks := h
    unfold pendP at h
    split at h
    · exact .inl ⟨rfl, h⟩
    · exact .inr (.inl ⟨rfl, h⟩)
    · obtain ⟨x, h1, h2⟩ := h
      exact .inr (.inr ⟨_, x, rfl, h1, h2⟩)
    · exact h.elim
  lp1 := by
    intro l h K hk
    obtain ⟨lp, h1, h2, h3⟩ := hk
    exact ⟨lp, _, h1, h2, rfl, h3⟩
  lp2 := by
    intro l j h K hk
    obtain ⟨lp, h1, h2⟩ := hk
    exact ⟨lp, _, h1, rfl, h2⟩

/-! ### Calls that leave nothing behind -/


theorem SL.plain_scalar {l : SL} {k : LK} (h : l.is k = true) (hk : k.plain = true) : scalar l.val = true := by
  cases l <;> cases k <;> first | (cases hk; done) | (cases h; done) | rfl
theorem allIs_scalar : ∀ {cs : List SL} {ks : List LK}, allIs cs ks = true → ks.all LK.plain = true → (cs.map SL.val).all scalar = true
  | [], [], _, _ => rfl
  | c :: cs, k :: ks, h, hk => by
    simp only [allIs, Bool.and_eq_true] at h
    simp only [List.all_cons, Bool.and_eq_true] at hk
    simp only [List.map_cons, List.all_cons, Bool.and_eq_true]
    exact ⟨SL.plain_scalar h.1 hk.1, allIs_scalar h.2 hk.2⟩
  | [], _ :: _, h, _ => by cases h
  | _ :: _, [], h, _ => by cases h
theorem S0.plain_flat1 {x : S0} {k : SK} (h : x.is k = true) (hk : k.plain = true) : flat1 x.val = true := by
  cases x with
  | leaf l =>
    cases k with
    | leaf k =>
      have := SL.plain_scalar h hk
      show flat1 l.val = true
      cases hv : l.val <;> rw [hv] at this <;> first | exact this | cases this
    | agg _ => cases h
  | agg cs =>
    cases k with
    | leaf k => cases h
    | agg ks => exact allIs_scalar h hk
theorem flat_of_flat1 {v : Value} (h : flat1 v = true) : flat v = true := by
  cases v <;> first | exact h | cases h
theorem areIs_flat1 : ∀ {xs : List S0} {sks : List SK}, areIs xs sks = true → sks.all SK.plain = true → (valsOf xs).all flat1 = true
  | [], [], _, _ => rfl
  | x :: xs, k :: ks, h, hk => by
    simp only [areIs, Bool.and_eq_true] at h
    simp only [List.all_cons, Bool.and_eq_true] at hk
    simp only [valsOf, List.map_cons, List.all_cons, Bool.and_eq_true]
    exact ⟨S0.plain_flat1 h.1 hk.1, areIs_flat1 h.2 hk.2⟩
  | [], _ :: _, h, _ => by cases h
  | _ :: _, [], h, _ => by cases h
theorem areIs_flat {xs : List S0} {sks : List SK} (h : areIs xs sks = true) (hk : sks.all SK.plain = true) : (valsOf xs).all flat = true := by
  have := areIs_flat1 h hk
  rw [List.all_eq_true] at this ⊢
  exact fun v hv => flat_of_flat1 (this v hv)
theorem packA_flat {vs : List Value} (h : vs.all flat1 = true) : flat (packA vs) = true := by
  match vs, h with
  | [], _ => rfl
  | [v], h =>
    simp only [List.all_cons, List.all_nil, Bool.and_true] at h
    exact flat_of_flat1 h
  | a :: b :: l, h =>
    show flat (.tuple (a :: b :: l).toArray) = true
    simp only [flat, Bool.and_eq_true]
    exact ⟨by simp, h⟩

end

/-- What is known: whatever has been shown of calls that leave nothing behind. -/
@[reducible] def KnoC (C : Cfg) [Val] : Kno := ⟨fun f args r => ∀ H, CallOk C f args H r H⟩

section
variable [Val]
/-- THE CONTRACT: the function answers so, and leaves nothing behind. -/
def Ct (C : Cfg) (Sg : FuncId → Option Sig) (g : FuncId) (ls rs : List Lf) : Prop := let _ : Kno := KnoC C; ∀ H, CallL C Sg g ls H rs H

theorem uCallC_ok {C : Cfg} (hm : C.P.follows .mixedOrders = true) {f : FuncId} {args : List Value} {H : List HObj} {r : Value} {H' : List HObj} (h : let _ : Kno := KnoC C; uCall C f args H r H') : CallOk C f args H r H' :=
  @uCall_ok _ _ (KnoC C) hm (fun _ _ _ h => h) _ _ _ _ _ h

theorem ct_of {C : Cfg} {Sg : FuncId → Option Sig} (hm : C.P.follows .mixedOrders = true) (hG : ∀ g vs, C.G g = some vs → vs.all flat = true) {g : FuncId} {sg : Sig} (hs : Sg g = some sg) (hp : sg.plain = true) {ls rs : List Lf} {H' : List HObj}
    (h : let _ : Kno := KnoC C; CallL C Sg g ls [] rs H') : Ct C Sg g ls rs := by
  let _ : Kno := KnoC C
  obtain ⟨sg', xs, ys, c1, c2, c3, c4⟩ := h
  rw [hs] at c1
  cases c1
  simp only [Sig.plain, Bool.and_eq_true] at hp
  have ha := areIs_flat c2.1 hp.1
  have hr := packA_flat (areIs_flat1 c3.1 hp.2)
  intro H
  exact ⟨sg, xs, ys, hs, c2, c3, ⟨0, fun H => frame_ok hG (uCallC_ok hm c4) ha hr H, rfl⟩⟩

theorem call_ct {C : Cfg} {Sg : FuncId → Option Sig} {g : FuncId} {ls rs : List Lf} {h : List HObj} {K : List Lf → List HObj → Prop} (hc : Ct C Sg g ls rs) (hk : K rs h) : let _ : Kno := KnoC C; callP C Sg g ls h K :=
  ⟨rs, h, hc h, hk⟩
end

section
variable [Val] [Kno]
theorem it_rule {F : (List Lf → List HObj → Prop) → List Lf → List HObj → Prop} (Inv : Nat → List Lf → List HObj → Prop)
    (step : ∀ m ls h, Inv m ls h → ∀ self : List Lf → List HObj → Prop, (∀ m' ls h, m' < m → Inv m' ls h → self ls h) → F self ls h) : ∀ n m ls h, m < n → Inv m ls h → itP F n ls h
  | 0, _, _, _, hm, _ => absurd hm (Nat.not_lt_zero _)
  | n + 1, m, ls, h, hm, hi => step m ls h hi (itP F n) fun m' ls h h' hi' => it_rule Inv step n m' ls h (by omega) hi'
/-- A loop: a measure and what holds. -/
theorem loop_rule {F : (List Lf → List HObj → Prop) → List Lf → List HObj → Prop} (Inv : Nat → List Lf → List HObj → Prop) {m : Nat} {ls : List Lf} {h : List HObj} (hi : Inv m ls h)
    (step : ∀ m ls h, Inv m ls h → ∀ self : List Lf → List HObj → Prop, (∀ m' ls h, m' < m → Inv m' ls h → self ls h) → F self ls h) : loopP F ls h :=
  ⟨m + 1, it_rule Inv step (m + 1) m ls h (Nat.lt_succ_self m) hi⟩

/-- Numbers that fit are as they are. -/
theorem wrap_i64 {n : Int} (h1 : -9223372036854775808 ≤ n) (h2 : n ≤ 9223372036854775807) : IntKind.wrap .i64 n = n := by
  simp only [IntKind.wrap, IntKind.bits, IntKind.signed, Bool.true_and, ge_iff_le, decide_eq_true_eq]
  split <;> omega
theorem wrap_u8 {n : Int} (h1 : 0 ≤ n) (h2 : n ≤ 255) : IntKind.wrap .u8 n = n := by
  simp only [IntKind.wrap, IntKind.bits, IntKind.signed, Bool.false_and, Bool.false_eq_true, if_false]
  omega
end
end Sx
end Go.Am

/-
  THE TABLE OF RUNS, BY PROGRAM.
-/
set_option maxRecDepth 100000
namespace Go.Am
open Sx Go.Proofs
instance val0 : Val := ⟨fun _ => 0⟩
noncomputable instance kno0 : Kno := KnoC cc
theorem mixed : cc.P.follows .mixedOrders = true := by kernel_rfl
theorem gl_flat (g : Nat) (vs : List Value) (h : cc.G g = some vs) : vs.all flat = true := by
  unfold cc at h
  simp only at h
  split at h <;> first | (cases h; done) | (obtain rfl := Option.some.inj h; kernel_rfl)
abbrev FB := List Lf → HTr → (List Lf → HTr → RT) → RT
def nf : FB := fun _ _ _ => none
noncomputable def tell (rs : List Lf) (_ : HTr) : RT := plainLs rs fun rs => some rs
/-- A function of numbers: what it answers is taken from a run over an empty heap (so the same call is run once). -/
noncomputable def memo (g : FB) : FB := fun ls h K => plainLs ls fun ls => Option.rec none (fun rs => K rs h) (g ls .empty tell)
noncomputable def tabB (A : Alg RT HTr) : Tr FB := (.node nf (.node nf (.node nf (.node nf (.node nf (.node (memo (f31 A)) .leaf .leaf) (.node (memo (f47 A)) .leaf .leaf)) (.node (f23 A) (.node (memo (f39 A)) (.node (f71 A) .leaf .leaf) .leaf) .leaf)) (.node nf (.node (memo (f19 A)) (.node (memo (f35 A)) (.node (f67 A) .leaf .leaf) .leaf) .leaf) (.node (memo (f27 A)) (.node (memo (f43 A)) .leaf .leaf) .leaf))) (.node nf (.node nf (.node (memo (f17 A)) (.node (memo (f33 A)) .leaf .leaf) (.node (memo (f49 A)) .leaf .leaf)) (.node (memo (f25 A)) (.node (memo (f41 A)) (.node (memo (f73 A)) .leaf .leaf) .leaf) (.node nf (.node (f89 A) .leaf .leaf) .leaf))) (.node nf (.node (memo (f21 A)) (.node nf (.node (memo (f69 A)) .leaf .leaf) .leaf) .leaf) (.node (f29 A) (.node (memo (f45 A)) (.node (memo (f77 A)) .leaf .leaf) .leaf) .leaf)))) (.node nf (.node (memo (f4 A)) (.node nf .leaf (.node (f24 A) (.node (memo (f40 A)) (.node (memo (f72 A)) .leaf .leaf) .leaf) .leaf)) (.node nf (.node (memo (f20 A)) (.node (memo (f36 A)) (.node (f68 A) .leaf .leaf) .leaf) .leaf) (.node (memo (f28 A)) (.node nf (.node (memo (f76 A)) .leaf .leaf) .leaf) .leaf))) (.node nf (.node nf (.node (memo (f18 A)) (.node (memo (f34 A)) .leaf .leaf) .leaf) (.node (memo (f26 A)) (.node nf (.node (memo (f74 A)) .leaf .leaf) .leaf) .leaf)) (.node nf (.node (memo (f22 A)) (.node (memo (f38 A)) (.node (memo (f70 A)) .leaf .leaf) .leaf) .leaf) .leaf))))
/-- Closed functions whose answer is known. -/
def knB (kn : List (FuncId × Bool)) (f : FuncId) : Option Bool := match kn with
  | [] => none
  | p :: l => match Nat.beq p.1 f with
    | true => some p.2
    | false => knB l f
noncomputable def tabT (kn : List (FuncId × Bool)) (A : Alg RT HTr) (k : CK) : FB := match k with
  | .f f => match knB kn f with
    | some t => fun ls h K => match ls with
      | [] => K [.b t] h
      | _ => none
    | none => match Nat.blt f 90 with
      | true => (pathOf f).get nf (tabB A)
      | false => nf
  | .y κ vs l => fun ls h K => execY A (xc 0) sgTab drN (siteTab κ) vs l ls h K
noncomputable abbrev runR (kn : List (FuncId × Bool)) (n : Nat) : CallB := Sx.runT sgTab siteTab (tabT kn) n
def isT (l : List Lf) (_ : HTr) : RT := match l with | [.b t] => ans t | _ => none
section
def TabP (k : Nat) : Prop := ∀ A ls h K w, (pathOf k).get nf (tabB A) ls h K = some w → TabOk cc sgTab (xc k) drN A k ls h K w
theorem TabP.of {k : Nat} {g : Alg RT HTr → FB} {fn : Fn1} (h1 : (fun A : Alg RT HTr => (pathOf k).get nf (tabB A)) = g) (h2 : g = fun A ls h K => execF A (xc k) sgTab drN fn ls h K) (h3 : FnIs (xc k) sgTab k fn) : TabP k := by
  intro A ls h K w hk
  have := congrFun (h1.trans h2) A
  rw [this] at hk
  exact .run fn h3 hk
theorem tell_eq : tell = fun rs _ => some rs := by
  funext rs h
  exact plainLs_eq rs _
theorem TabP.mem {k : Nat} {g : Alg RT HTr → FB} {fn : Fn1} {sg : Sig} (h1 : (fun A : Alg RT HTr => (pathOf k).get nf (tabB A)) = fun A => memo (g A)) (h2 : g = fun A ls h K => execF A (xc k) sgTab drN fn ls h K) (h3 : FnIs (xc k) sgTab k fn) (h4 : sgTab k = some sg) (h5 : sg.plain = true) : TabP k := by
  intro A ls h K w hk
  have := congrFun h1 A
  rw [this] at hk
  unfold memo at hk
  rw [plainLs_eq, tell_eq] at hk
  cases e : g A ls .empty (fun rs _ => some rs) with
  | none => rw [e] at hk; cases hk
  | some rs =>
    rw [e] at hk
    rw [h2] at e
    exact .alone fn rs sg h3 h4 h5 e hk
theorem TabP.no {k : Nat} (h1 : (fun A : Alg RT HTr => (pathOf k).get nf (tabB A)) = fun _ => nf) : TabP k := by
  intro A ls h K w hk
  have := congrFun h1 A
  rw [this] at hk
  cases hk

theorem t0 : TabP 0 := .no (by kernel_rfl)
theorem t1 : TabP 1 := .no (by kernel_rfl)
theorem t2 : TabP 2 := .no (by kernel_rfl)
theorem t3 : TabP 3 := .no (by kernel_rfl)
theorem t4 : TabP 4 := .mem (g := fun A => f4 A) (by kernel_rfl) (congrFun (congrFun e4 RT) HTr) i4 rfl (by kernel_rfl)
theorem t5 : TabP 5 := .no (by kernel_rfl)
theorem t6 : TabP 6 := .no (by kernel_rfl)
theorem t7 : TabP 7 := .no (by kernel_rfl)
theorem t8 : TabP 8 := .no (by kernel_rfl)
theorem t9 : TabP 9 := .no (by kernel_rfl)
theorem t10 : TabP 10 := .no (by kernel_rfl)
theorem t11 : TabP 11 := .no (by kernel_rfl)
theorem t12 : TabP 12 := .no (by kernel_rfl)
theorem t13 : TabP 13 := .no (by kernel_rfl)
theorem t14 : TabP 14 := .no (by kernel_rfl)
theorem t15 : TabP 15 := .no (by kernel_rfl)
theorem t16 : TabP 16 := .no (by kernel_rfl)
theorem t17 : TabP 17 := .mem (g := fun A => f17 A) (by kernel_rfl) (congrFun (congrFun e17 RT) HTr) i17 rfl (by kernel_rfl)
theorem t18 : TabP 18 := .mem (g := fun A => f18 A) (by kernel_rfl) (congrFun (congrFun e18 RT) HTr) i18 rfl (by kernel_rfl)
theorem t19 : TabP 19 := .mem (g := fun A => f19 A) (by kernel_rfl) (congrFun (congrFun e19 RT) HTr) i19 rfl (by kernel_rfl)
theorem t20 : TabP 20 := .mem (g := fun A => f20 A) (by kernel_rfl) (congrFun (congrFun e20 RT) HTr) i20 rfl (by kernel_rfl)
theorem t21 : TabP 21 := .mem (g := fun A => f21 A) (by kernel_rfl) (congrFun (congrFun e21 RT) HTr) i21 rfl (by kernel_rfl)
theorem t22 : TabP 22 := .mem (g := fun A => f22 A) (by kernel_rfl) (congrFun (congrFun e22 RT) HTr) i22 rfl (by kernel_rfl)
theorem t23 : TabP 23 := .of (g := fun A => f23 A) (by kernel_rfl) (congrFun (congrFun e23 RT) HTr) i23
theorem t24 : TabP 24 := .of (g := fun A => f24 A) (by kernel_rfl) (congrFun (congrFun e24 RT) HTr) i24
theorem t25 : TabP 25 := .mem (g := fun A => f25 A) (by kernel_rfl) (congrFun (congrFun e25 RT) HTr) i25 rfl (by kernel_rfl)
theorem t26 : TabP 26 := .mem (g := fun A => f26 A) (by kernel_rfl) (congrFun (congrFun e26 RT) HTr) i26 rfl (by kernel_rfl)
theorem t27 : TabP 27 := .mem (g := fun A => f27 A) (by kernel_rfl) (congrFun (congrFun e27 RT) HTr) i27 rfl (by kernel_rfl)
theorem t28 : TabP 28 := .mem (g := fun A => f28 A) (by kernel_rfl) (congrFun (congrFun e28 RT) HTr) i28 rfl (by kernel_rfl)
theorem t29 : TabP 29 := .of (g := fun A => f29 A) (by kernel_rfl) (congrFun (congrFun e29 RT) HTr) i29
theorem t30 : TabP 30 := .no (by kernel_rfl)
theorem t31 : TabP 31 := .mem (g := fun A => f31 A) (by kernel_rfl) (congrFun (congrFun e31 RT) HTr) i31 rfl (by kernel_rfl)
theorem t32 : TabP 32 := .no (by kernel_rfl)
theorem t33 : TabP 33 := .mem (g := fun A => f33 A) (by kernel_rfl) (congrFun (congrFun e33 RT) HTr) i33 rfl (by kernel_rfl)
theorem t34 : TabP 34 := .mem (g := fun A => f34 A) (by kernel_rfl) (congrFun (congrFun e34 RT) HTr) i34 rfl (by kernel_rfl)
theorem t35 : TabP 35 := .mem (g := fun A => f35 A) (by kernel_rfl) (congrFun (congrFun e35 RT) HTr) i35 rfl (by kernel_rfl)
theorem t36 : TabP 36 := .mem (g := fun A => f36 A) (by kernel_rfl) (congrFun (congrFun e36 RT) HTr) i36 rfl (by kernel_rfl)
theorem t37 : TabP 37 := .no (by kernel_rfl)
theorem t38 : TabP 38 := .mem (g := fun A => f38 A) (by kernel_rfl) (congrFun (congrFun e38 RT) HTr) i38 rfl (by kernel_rfl)
theorem t39 : TabP 39 := .mem (g := fun A => f39 A) (by kernel_rfl) (congrFun (congrFun e39 RT) HTr) i39 rfl (by kernel_rfl)
theorem t40 : TabP 40 := .mem (g := fun A => f40 A) (by kernel_rfl) (congrFun (congrFun e40 RT) HTr) i40 rfl (by kernel_rfl)
theorem t41 : TabP 41 := .mem (g := fun A => f41 A) (by kernel_rfl) (congrFun (congrFun e41 RT) HTr) i41 rfl (by kernel_rfl)
theorem t42 : TabP 42 := .no (by kernel_rfl)
theorem t43 : TabP 43 := .mem (g := fun A => f43 A) (by kernel_rfl) (congrFun (congrFun e43 RT) HTr) i43 rfl (by kernel_rfl)
theorem t44 : TabP 44 := .no (by kernel_rfl)
theorem t45 : TabP 45 := .mem (g := fun A => f45 A) (by kernel_rfl) (congrFun (congrFun e45 RT) HTr) i45 rfl (by kernel_rfl)
theorem t46 : TabP 46 := .no (by kernel_rfl)
theorem t47 : TabP 47 := .mem (g := fun A => f47 A) (by kernel_rfl) (congrFun (congrFun e47 RT) HTr) i47 rfl (by kernel_rfl)
theorem t48 : TabP 48 := .no (by kernel_rfl)
theorem t49 : TabP 49 := .mem (g := fun A => f49 A) (by kernel_rfl) (congrFun (congrFun e49 RT) HTr) i49 rfl (by kernel_rfl)
theorem t50 : TabP 50 := .no (by kernel_rfl)
theorem t51 : TabP 51 := .no (by kernel_rfl)
theorem t52 : TabP 52 := .no (by kernel_rfl)
theorem t53 : TabP 53 := .no (by kernel_rfl)
theorem t54 : TabP 54 := .no (by kernel_rfl)
theorem t55 : TabP 55 := .no (by kernel_rfl)
theorem t56 : TabP 56 := .no (by kernel_rfl)
theorem t57 : TabP 57 := .no (by kernel_rfl)
theorem t58 : TabP 58 := .no (by kernel_rfl)
theorem t59 : TabP 59 := .no (by kernel_rfl)
theorem t60 : TabP 60 := .no (by kernel_rfl)
theorem t61 : TabP 61 := .no (by kernel_rfl)
theorem t62 : TabP 62 := .no (by kernel_rfl)
theorem t63 : TabP 63 := .no (by kernel_rfl)
theorem t64 : TabP 64 := .no (by kernel_rfl)
theorem t65 : TabP 65 := .no (by kernel_rfl)
theorem t66 : TabP 66 := .no (by kernel_rfl)
theorem t67 : TabP 67 := .of (g := fun A => f67 A) (by kernel_rfl) (congrFun (congrFun e67 RT) HTr) i67
theorem t68 : TabP 68 := .of (g := fun A => f68 A) (by kernel_rfl) (congrFun (congrFun e68 RT) HTr) i68
theorem t69 : TabP 69 := .mem (g := fun A => f69 A) (by kernel_rfl) (congrFun (congrFun e69 RT) HTr) i69 rfl (by kernel_rfl)
theorem t70 : TabP 70 := .mem (g := fun A => f70 A) (by kernel_rfl) (congrFun (congrFun e70 RT) HTr) i70 rfl (by kernel_rfl)
theorem t71 : TabP 71 := .of (g := fun A => f71 A) (by kernel_rfl) (congrFun (congrFun e71 RT) HTr) i71
theorem t72 : TabP 72 := .mem (g := fun A => f72 A) (by kernel_rfl) (congrFun (congrFun e72 RT) HTr) i72 rfl (by kernel_rfl)
theorem t73 : TabP 73 := .mem (g := fun A => f73 A) (by kernel_rfl) (congrFun (congrFun e73 RT) HTr) i73 rfl (by kernel_rfl)
theorem t74 : TabP 74 := .mem (g := fun A => f74 A) (by kernel_rfl) (congrFun (congrFun e74 RT) HTr) i74 rfl (by kernel_rfl)
theorem t75 : TabP 75 := .no (by kernel_rfl)
theorem t76 : TabP 76 := .mem (g := fun A => f76 A) (by kernel_rfl) (congrFun (congrFun e76 RT) HTr) i76 rfl (by kernel_rfl)
theorem t77 : TabP 77 := .mem (g := fun A => f77 A) (by kernel_rfl) (congrFun (congrFun e77 RT) HTr) i77 rfl (by kernel_rfl)
theorem t78 : TabP 78 := .no (by kernel_rfl)
theorem t79 : TabP 79 := .no (by kernel_rfl)
theorem t80 : TabP 80 := .no (by kernel_rfl)
theorem t81 : TabP 81 := .no (by kernel_rfl)
theorem t82 : TabP 82 := .no (by kernel_rfl)
theorem t83 : TabP 83 := .no (by kernel_rfl)
theorem t84 : TabP 84 := .no (by kernel_rfl)
theorem t85 : TabP 85 := .no (by kernel_rfl)
theorem t86 : TabP 86 := .no (by kernel_rfl)
theorem t87 : TabP 87 := .no (by kernel_rfl)
theorem t88 : TabP 88 := .no (by kernel_rfl)
theorem t89 : TabP 89 := .of (g := fun A => f89 A) (by kernel_rfl) (congrFun (congrFun e89 RT) HTr) i89
theorem tabAll : ∀ f, Nat.blt f 90 = true → TabP f
  | 0, _ => t0
  | 1, _ => t1
  | 2, _ => t2
  | 3, _ => t3
  | 4, _ => t4
  | 5, _ => t5
  | 6, _ => t6
  | 7, _ => t7
  | 8, _ => t8
  | 9, _ => t9
  | 10, _ => t10
  | 11, _ => t11
  | 12, _ => t12
  | 13, _ => t13
  | 14, _ => t14
  | 15, _ => t15
  | 16, _ => t16
  | 17, _ => t17
  | 18, _ => t18
  | 19, _ => t19
  | 20, _ => t20
  | 21, _ => t21
  | 22, _ => t22
  | 23, _ => t23
  | 24, _ => t24
  | 25, _ => t25
  | 26, _ => t26
  | 27, _ => t27
  | 28, _ => t28
  | 29, _ => t29
  | 30, _ => t30
  | 31, _ => t31
  | 32, _ => t32
  | 33, _ => t33
  | 34, _ => t34
  | 35, _ => t35
  | 36, _ => t36
  | 37, _ => t37
  | 38, _ => t38
  | 39, _ => t39
  | 40, _ => t40
  | 41, _ => t41
  | 42, _ => t42
  | 43, _ => t43
  | 44, _ => t44
  | 45, _ => t45
  | 46, _ => t46
  | 47, _ => t47
  | 48, _ => t48
  | 49, _ => t49
  | 50, _ => t50
  | 51, _ => t51
  | 52, _ => t52
  | 53, _ => t53
  | 54, _ => t54
  | 55, _ => t55
  | 56, _ => t56
  | 57, _ => t57
  | 58, _ => t58
  | 59, _ => t59
  | 60, _ => t60
  | 61, _ => t61
  | 62, _ => t62
  | 63, _ => t63
  | 64, _ => t64
  | 65, _ => t65
  | 66, _ => t66
  | 67, _ => t67
  | 68, _ => t68
  | 69, _ => t69
  | 70, _ => t70
  | 71, _ => t71
  | 72, _ => t72
  | 73, _ => t73
  | 74, _ => t74
  | 75, _ => t75
  | 76, _ => t76
  | 77, _ => t77
  | 78, _ => t78
  | 79, _ => t79
  | 80, _ => t80
  | 81, _ => t81
  | 82, _ => t82
  | 83, _ => t83
  | 84, _ => t84
  | 85, _ => t85
  | 86, _ => t86
  | 87, _ => t87
  | 88, _ => t88
  | 89, _ => t89
  | n + 90, h => by rw [Nat.blt_eq] at h; omega
theorem knB_mem {f : FuncId} {t : Bool} : ∀ {l : List (FuncId × Bool)}, knB l f = some t → (f, t) ∈ l
  | p :: l, h => by
    unfold knB at h
    split at h
    · rename_i e
      cases h
      have := Nat.eq_of_beq_eq_true e
      subst this
      exact List.mem_cons_self
    · exact List.mem_cons_of_mem _ (knB_mem h)
theorem run_ok (kn : List (FuncId × Bool)) (hkn : ∀ p ∈ kn, sgTab p.1 = some ⟨[], [lb]⟩ ∧ Kno.kn p.1 [] (.bool p.2)) (n : Nat) : CallBOk cc sgTab siteTab (runR kn n) :=
  Sx.runT_ok (tab := tabT kn) (T := siteTab) (X := xc) (dr := drN) (fun pts ops h n σ σ' hx => dr_ok neuN_ok pts ops h n σ σ' hx) (fun _ => ⟨rfl, rfl⟩) (fun f sg ls rs H' hs hp hc => ct_of mixed gl_flat hs hp hc) (fun A f ls h K w hk => by
    simp only [tabT] at hk
    cases e0 : knB kn f with
    | some t =>
      rw [e0] at hk
      match ls, hk with
      | [], hk =>
        obtain ⟨h1, h2⟩ := hkn _ (knB_mem e0)
        exact .known [.b t] (fun H => ⟨⟨[], [lb]⟩, [], [.leaf (.b t)], h1, ⟨rfl, rfl, fun _ h => by cases h⟩, ⟨rfl, rfl, fun x hx => by
          simp only [List.mem_singleton] at hx
          subst hx
          intro y hy
          simp only [S0.cells, List.mem_singleton] at hy
          subst hy; trivial⟩, call_known h2 H⟩) hk
    | none =>
      rw [e0] at hk
      cases e : Nat.blt f 90 with
      | true => rw [e] at hk; exact tabAll f e A ls h K w hk
      | false => rw [e] at hk; cases hk) (fun A κ vs l ls h K w hk => ⟨0, hk⟩) n
end
end Go.Am

/-
  THE ALGEBRA OF PROPOSITIONS OVER THE HEAPS OF RUNS; what a run shows holds in it.
-/
namespace Go.Am
namespace Sx

section
variable [Val] [Kno]

def peekH (T : Nat → Site) (f : Pk) (h : HL) (K : List Value → Prop) : Prop := ∃ cs, f.run (getH T h) = some cs ∧ K cs
def heapH (T : Nat → Site) (f : Hp) (h : HL) (K : List Value → HL → Prop) : Prop := ∃ acts cs, f.run (getH T h) h.length = some (acts, cs) ∧ K cs (actsOnH h acts)
def callH (C : Cfg) (Sg : FuncId → Option Sig) (T : Nat → Site) (g : FuncId) (ls : List Lf) (h : HL) (K : List Lf → HL → Prop) : Prop := ∃ rs h', CallL C Sg g ls (absH T h) rs (absH T h') ∧ K rs h'
def callvH (C : Cfg) (T : Nat → Site) (v : Value) (args : List Value) (hs : List SK) (h : HL) (K : List Lf → HL → Prop) : Prop := ∃ rs h', CallV C v args hs (absH T h) rs (absH T h') ∧ K rs h'
def itH (F : (List Lf → HL → Prop) → List Lf → HL → Prop) (n : Nat) : List Lf → HL → Prop :=
  match n with
  | 0 => fun _ _ => False
  | n + 1 => F (itH F n)
def loopH (F : (List Lf → HL → Prop) → List Lf → HL → Prop) (ls : List Lf) (h : HL) : Prop := ∃ n, itH F n ls h
def rfunH (C : Cfg) (T : Nat → Site) (κ : Nat) (v : Value) (vals : List Value) (h : HL) (K : Option Code → HL → Prop) : Prop :=
  ∃ g first cap r H1 lp h2, v = .func (.func g) first cap ∧
    uCall C g (first.toList ++ [.func (.yield (absH T h).length) #[] #[]] ++ cap.toList) (absH T h ++ [.loop (lpOf (T κ) κ vals)]) r H1 ∧
    hloop H1 (absH T h).length = some lp ∧ lp.state ≠ .busy ∧ absH T h2 = H1.set (absH T h).length (.loop { lp with state := .exhausted }) ∧ K lp.pending h2
def lp1H (T : Nat → Site) (l : Nat) (h : HL) (K : HL → Prop) : Prop := ∃ lp h', hloop (absH T h) l = some lp ∧ lp.state = .ready ∧ absH T h' = (absH T h).set l (.loop { lp with state := .busy }) ∧ K h'
def lp2H (T : Nat → Site) (l : Nat) (j : Option Code) (h : HL) (K : HL → Prop) : Prop := ∃ lp h', hloop (absH T h) l = some lp ∧ absH T h' = (absH T h).set l (.loop { lp with state := if j.isNone then .ready else .done, pending := j }) ∧ K h'

def PH (C : Cfg) (Sg : FuncId → Option Sig) (T : Nat → Site) : Alg Prop HL where
  fail := False
  cond := condP
  ari := ariP
  shf := fun op k a k' b K => ∃ n, ShRun op k a k' b n ∧ K n
  cmp := cmpP
  eqs := fun l K => K (eqAll l)
  conv := fun k a K => K (k.wrap a)
  sel := fun t a b K => K (if t then a else b)
  opt := optP
  chk := fun v K => goodV v = true ∧ K
  unI := unIP
  unB := unBP
  unV := unVP
  un0 := un0P
  ucI := ucIP
  ucB := ucBP
  ucV := ucVP
  uc0 := uc0P
  peek := peekH T
  heap := heapH T
  new := fun o h K => K h.length (h ++ [.o o])
  call := callH C Sg T
  callv := callvH C T
  join := fun b m => m b
  loop := loopH
  rfun := rfunH C T
  pend := pendP
  lp1 := lp1H T
  lp2 := lp2H T

theorem PH_ok (C : Cfg) (Sg : FuncId → Option Sig) (T : Nat → Site) : AlgOk (PH C Sg T) C Sg T id (absH T) where
  fail := (PA_ok C Sg T).fail
  cond := (PA_ok C Sg T).cond
  ari := (PA_ok C Sg T).ari
  shf := (PA_ok C Sg T).shf
  cmp := (PA_ok C Sg T).cmp
  eqs := (PA_ok C Sg T).eqs
  conv := (PA_ok C Sg T).conv
  sel := (PA_ok C Sg T).sel
  opt := (PA_ok C Sg T).opt
  chk := (PA_ok C Sg T).chk
  unI := (PA_ok C Sg T).unI
  unB := (PA_ok C Sg T).unB
  unV := (PA_ok C Sg T).unV
  un0 := (PA_ok C Sg T).un0
  ucI := (PA_ok C Sg T).ucI
  ucB := (PA_ok C Sg T).ucB
  ucV := (PA_ok C Sg T).ucV
  uc0 := (PA_ok C Sg T).uc0
  peek := by
    intro f h K hk
    obtain ⟨cs, h1, h2⟩ := hk
    exact ⟨cs, by rw [← getH_eq]; exact h1, h2⟩
  heap := by
    intro f h K hk
    obtain ⟨acts, cs, h1, h2⟩ := hk
    exact ⟨acts, cs, _, by rw [← getH_eq, absH_len]; exact h1, actsOnH_ok T acts h, h2⟩
  new := fun o h K hk => ⟨_, absH_push T h _, by rw [absH_len]; exact hk⟩
  call := fun g ls h K hk => hk
  callv := fun v args hs h K hk => hk
  join := fun b m h => h
  loop := by
    intro F ls h hk
    obtain ⟨n, hk⟩ := hk
    exact ⟨itH F, fun ls h => (id : False → False), fun n ls h => rfl, n, hk⟩
  rfun := fun κ v vals h K hk => hk
  pend := (PA_ok C Sg T).pend
  lp1 := fun l h K hk => hk
  lp2 := fun l j h K hk => hk

/-! ### What a run shows -/
section
variable {C : Cfg} {Sg : FuncId → Option Sig} {T : Nat → Site} {call : CallB} (hc : CallBOk C Sg T call)
abbrev KLe (K : List Lf → HTr → RT) (K' : List Lf → HL → Prop) : Prop := ∀ ls h, K ls h = yes → K' ls (toL h)
include hc

theorem s_fail {X : Prop} : (BA Sg T call).fail = yes → X := fun h => by cases h
theorem s_cond {b : Bool} {x y : RT} {x' y' : Prop} (hx : x = yes → x') (hy : y = yes → y') (h : (BA Sg T call).cond b x y = yes) : (PH C Sg T).cond b x' y' := by
  rcases (BA_ok hc).cond b x y h with ⟨rfl, h⟩ | ⟨rfl, h⟩
  · exact ⟨fun _ => hx h, fun e => (by cases e)⟩
  · exact ⟨fun e => (by cases e), fun _ => hy h⟩
theorem s_ari {op : BinOp} {k : IntKind} {a b : Int} {K : Int → RT} {K' : Int → Prop} (hk : ∀ n, K n = yes → K' n) (h : (BA Sg T call).ari op k a b K = yes) : (PH C Sg T).ari op k a b K' := by
  replace h : ariB op k a b K = yes := h
  show ariP op k a b K'
  cases op <;> simp only [ariB, reduceCtorEq] at h <;> simp only [ariP]
  · rw [addK_eq, outK_eq] at h; exact hk _ h
  · rw [subK_eq, outK_eq] at h; exact hk _ h
  · rw [mulK_eq, outK_eq] at h; exact hk _ h
  · cases hb : isZ b with
    | true => rw [hb] at h; cases h
    | false => rw [hb] at h; simp only [quoK_eq, outK_eq] at h; exact ⟨isZ_false hb, hk _ h⟩
  · cases hb : isZ b with
    | true => rw [hb] at h; cases h
    | false => rw [hb] at h; simp only [remK_eq] at h; exact ⟨isZ_false hb, hk _ h⟩
  · split at h
    · rename_i hb
      have hb := eqI_iff.1 hb
      subst hb
      rw [fI_eq] at h
      exact .inl ⟨rfl, hk _ h⟩
    · rename_i hb
      split at h
      · rw [fI_eq] at h
        exact .inr ⟨eqI_false.1 hb, _, run_and_nat _ _, hk _ (fitsK h)⟩
      · cases h
theorem s_cmp {op : BinOp} {a b : Int} {K : Bool → RT} {K' : Bool → Prop} (hk : ∀ n, K n = yes → K' n) (h : (BA Sg T call).cmp op a b K = yes) : (PH C Sg T).cmp op a b K' := by
  obtain ⟨t, h1, h2⟩ := cmpB_ok h
  show cmpP op a b K'
  cases op <;> simp only [cmpRes, Option.some.injEq] at h1 <;> first | (cases h1; done) | (simp only [cmpP]; rw [h1]; exact hk _ h2)
theorem s_eqs {l : List (Lf × Lf)} {K : Bool → RT} {K' : Bool → Prop} (hk : ∀ n, K n = yes → K' n) (h : (BA Sg T call).eqs l K = yes) : (PH C Sg T).eqs l K' := hk _ (eqsB_ok h)
theorem s_conv {k : IntKind} {a : Int} {K : Int → RT} {K' : Int → Prop} (hk : ∀ n, K n = yes → K' n) (h : (BA Sg T call).conv k a K = yes) : (PH C Sg T).conv k a K' := hk _ ((BA_ok hc).conv k a K h)
theorem s_sel {t : Bool} {a b : Int} {K : Int → RT} {K' : Int → Prop} (hk : ∀ n, K n = yes → K' n) (h : (BA Sg T call).sel t a b K = yes) : (PH C Sg T).sel t a b K' := hk _ ((BA_ok hc).sel t a b K h)
theorem s_opt {α : Type} {o : Option α} {K : α → RT} {K' : α → Prop} (hk : ∀ n, K n = yes → K' n) (h : (BA Sg T call).opt o K = yes) : (PH C Sg T).opt o K' := by
  obtain ⟨x, h1, h2⟩ := (BA_ok hc).opt o K h
  exact ⟨x, h1, hk _ h2⟩
theorem s_chk {v : Value} {K : RT} {K' : Prop} (hk : K = yes → K') (h : (BA Sg T call).chk v K = yes) : (PH C Sg T).chk v K' := by
  obtain ⟨h1, h2⟩ := (BA_ok hc).chk v K h
  exact ⟨h1, hk h2⟩
theorem s_unI {l : List Lf} {K : Int → List Lf → RT} {K' : Int → List Lf → Prop} (hk : ∀ n r, K n r = yes → K' n r) (h : (BA Sg T call).unI l K = yes) : (PH C Sg T).unI l K' := by
  obtain ⟨n, r, rfl, h2⟩ := (BA_ok hc).unI l K h
  exact hk _ _ h2
theorem s_unB {l : List Lf} {K : Bool → List Lf → RT} {K' : Bool → List Lf → Prop} (hk : ∀ n r, K n r = yes → K' n r) (h : (BA Sg T call).unB l K = yes) : (PH C Sg T).unB l K' := by
  obtain ⟨n, r, rfl, h2⟩ := (BA_ok hc).unB l K h
  exact hk _ _ h2
theorem s_unV {l : List Lf} {K : Value → List Lf → RT} {K' : Value → List Lf → Prop} (hk : ∀ n r, K n r = yes → K' n r) (h : (BA Sg T call).unV l K = yes) : (PH C Sg T).unV l K' := by
  obtain ⟨n, r, rfl, h2⟩ := (BA_ok hc).unV l K h
  exact hk _ _ h2
theorem s_un0 {l : List Lf} {K : RT} {K' : Prop} (hk : K = yes → K') (h : (BA Sg T call).un0 l K = yes) : (PH C Sg T).un0 l K' := by
  obtain ⟨rfl, h2⟩ := (BA_ok hc).un0 l K h
  exact hk h2
theorem s_ucI {k : IntKind} {l : List Value} {K : Int → List Value → RT} {K' : Int → List Value → Prop} (hk : ∀ n r, K n r = yes → K' n r) (h : (BA Sg T call).ucI k l K = yes) : (PH C Sg T).ucI k l K' := by
  obtain ⟨n, r, rfl, h2⟩ := (BA_ok hc).ucI k l K h
  exact ⟨rfl, hk _ _ h2⟩
theorem s_ucB {l : List Value} {K : Bool → List Value → RT} {K' : Bool → List Value → Prop} (hk : ∀ n r, K n r = yes → K' n r) (h : (BA Sg T call).ucB l K = yes) : (PH C Sg T).ucB l K' := by
  obtain ⟨n, r, rfl, h2⟩ := (BA_ok hc).ucB l K h
  exact hk _ _ h2
theorem s_ucV {l : List Value} {K : Value → List Value → RT} {K' : Value → List Value → Prop} (hk : ∀ n r, K n r = yes → K' n r) (h : (BA Sg T call).ucV l K = yes) : (PH C Sg T).ucV l K' := by
  obtain ⟨n, r, rfl, h2⟩ := (BA_ok hc).ucV l K h
  exact hk _ _ h2
theorem s_uc0 {l : List Value} {K : RT} {K' : Prop} (hk : K = yes → K') (h : (BA Sg T call).uc0 l K = yes) : (PH C Sg T).uc0 l K' := by
  obtain ⟨rfl, h2⟩ := (BA_ok hc).uc0 l K h
  exact hk h2
theorem s_peek {f : Pk} {h : HTr} {K : List Value → RT} {K' : List Value → Prop} (hk : ∀ n, K n = yes → K' n) (e : (BA Sg T call).peek f h K = yes) : (PH C Sg T).peek f (toL h) K' := by
  obtain ⟨cs, h1, h2⟩ := (BA_ok hc).peek f h K e
  exact ⟨cs, by rw [getH_eq]; exact h1, hk _ h2⟩
theorem s_heap {f : Hp} {h : HTr} {K : List Value → HTr → RT} {K' : List Value → HL → Prop} (hk : ∀ l h, K l h = yes → K' l (toL h)) (e : (BA Sg T call).heap f h K = yes) : (PH C Sg T).heap f (toL h) K' := by
  have e : heapB T f h K = yes := e
  obtain ⟨acts, cs, h', a1, a2, a3⟩ := heapB_ok e
  exact ⟨acts, cs, a1, a2 ▸ hk _ _ a3⟩
theorem s_new {o : HObj} {h : HTr} {K : Nat → HTr → RT} {K' : Nat → HL → Prop} (hk : ∀ l h, K l h = yes → K' l (toL h)) (e : (BA Sg T call).new o h K = yes) : (PH C Sg T).new o (toL h) K' := by
  have e : newB o h K = yes := e
  unfold newB at e
  obtain ⟨x, e1, e2⟩ := keepO_ok (o := o) (k := fun o => pushK h o fun h' => K h.n h')
  rw [e2, pushK_eq] at e
  have e := hk _ _ e
  rw [toL_push, e1] at e
  show K' (toL h).length (toL h ++ [.o o])
  rw [toL_len]; exact e
theorem s_call {g : FuncId} {l : List Lf} {h : HTr} {K : List Lf → HTr → RT} {K' : List Lf → HL → Prop} (hk : ∀ l h, K l h = yes → K' l (toL h)) (e : (BA Sg T call).call g l h K = yes) : (PH C Sg T).call g l (toL h) K' := by
  obtain ⟨rs, h', h1, h2⟩ := callB_ok hc e
  exact ⟨rs, toL h', h1, hk _ _ h2⟩
theorem s_callv {v : Value} {l : List Value} {hs : List SK} {h : HTr} {K : List Lf → HTr → RT} {K' : List Lf → HL → Prop} (hk : ∀ l h, K l h = yes → K' l (toL h)) (e : (BA Sg T call).callv v l hs h K = yes) : (PH C Sg T).callv v l hs (toL h) K' := by
  obtain ⟨rs, h', h1, h2⟩ := callvB_ok hc e
  exact ⟨rs, toL h', h1, hk _ _ h2⟩
theorem s_join {b : List Lf → HTr → RT} {b' : List Lf → HL → Prop} {m : (List Lf → HTr → RT) → RT} {m' : (List Lf → HL → Prop) → Prop} (hb : KLe b b') (hm : ∀ j j', KLe j j' → m j = yes → m' j') (e : (BA Sg T call).join b m = yes) : (PH C Sg T).join b' m' := hm _ _ hb e
theorem s_loop {F : (List Lf → HTr → RT) → List Lf → HTr → RT} {F' : (List Lf → HL → Prop) → List Lf → HL → Prop} {l : List Lf} {h : HTr} (hF : ∀ s s', KLe s s' → ∀ l h, F s l h = yes → F' s' l (toL h)) (e : (BA Sg T call).loop F l h = yes) : (PH C Sg T).loop F' l (toL h) := by
  obtain ⟨it, i0, i1, n, hn⟩ := (BA_ok hc).loop F l h e
  refine ⟨n, ?_⟩
  have : ∀ n l h, it n l h = yes → itH F' n l (toL h) := by
    intro n
    induction n with
    | zero => intro l h hn; exact absurd hn (i0 l h)
    | succ n ih =>
      intro l h hn
      rw [i1] at hn
      exact hF _ _ (fun l h => ih l h) l h hn
  exact this n l h hn
theorem s_rfun {κ : Nat} {v : Value} {vals : List Value} {h : HTr} {K : Option Code → HTr → RT} {K' : Option Code → HL → Prop} (hk : ∀ l h, K l h = yes → K' l (toL h)) (e : (BA Sg T call).rfun κ v vals h K = yes) : (PH C Sg T).rfun κ v vals (toL h) K' := by
  obtain ⟨g, first, cap, r, H1, lp, h2, a1, a2, a3, a4, a5, a6⟩ := rfunB_ok hc e
  exact ⟨g, first, cap, r, H1, lp, toL h2, a1, a2, a3, a4, a5, hk _ _ a6⟩
/-- Answers to how a round ended, side by side. -/
inductive SL2 : List (Nat × RT) → List (Nat × Prop) → Prop
  | nil : SL2 [] []
  | cons {id : Nat} {x : RT} {x' : Prop} {l : List (Nat × RT)} {l' : List (Nat × Prop)} (hx : x = yes → x') (hl : SL2 l l') : SL2 ((id, x) :: l) ((id, x') :: l')
omit hc in
theorem SL2.mem {l : List (Nat × RT)} {l' : List (Nat × Prop)} (h : SL2 l l') {id : Nat} {x : RT} (hm : (id, x) ∈ l) (hx : x = yes) : ∃ y, (id, y) ∈ l' ∧ y := by
  induction h with
  | nil => cases hm
  | cons h1 h2 ih =>
    rcases List.mem_cons.1 hm with e | hm
    · cases e; exact ⟨_, List.mem_cons_self, h1 hx⟩
    · obtain ⟨y, a, b⟩ := ih hm
      exact ⟨y, List.mem_cons_of_mem _ a, b⟩
theorem s_pend {pd : Option Code} {kn kr : RT} {kn' kr' : Prop} {ks : List (Nat × RT)} {ks' : List (Nat × Prop)} (h1 : kn = yes → kn') (h2 : kr = yes → kr') (h3 : SL2 ks ks') (e : (BA Sg T call).pend pd kn kr ks = yes) : (PH C Sg T).pend pd kn' kr' ks' := by
  rcases (BA_ok hc).pend pd kn kr ks e with ⟨rfl, h⟩ | ⟨rfl, h⟩ | ⟨id, x, rfl, hm, hx⟩
  · exact h1 h
  · exact h2 h
  · exact h3.mem hm hx
theorem s_lp1 {l : Nat} {h : HTr} {K : HTr → RT} {K' : HL → Prop} (hk : ∀ h, K h = yes → K' (toL h)) (e : (BA Sg T call).lp1 l h K = yes) : (PH C Sg T).lp1 l (toL h) K' := by
  obtain ⟨lp, h', a1, a2, a3, a4⟩ := (BA_ok hc).lp1 l h K e
  exact ⟨lp, toL h', a1, a2, a3, hk _ a4⟩
theorem s_lp2 {l : Nat} {j : Option Code} {h : HTr} {K : HTr → RT} {K' : HL → Prop} (hk : ∀ h, K h = yes → K' (toL h)) (e : (BA Sg T call).lp2 l j h K = yes) : (PH C Sg T).lp2 l j (toL h) K' := by
  obtain ⟨lp, h', a1, a3, a4⟩ := (BA_ok hc).lp2 l j h K e
  exact ⟨lp, toL h', a1, a3, hk _ a4⟩
end

theorem itH_rule {F : (List Lf → HL → Prop) → List Lf → HL → Prop} (Inv : Nat → List Lf → HL → Prop)
    (step : ∀ m ls h, Inv m ls h → ∀ self : List Lf → HL → Prop, (∀ m' ls h, m' < m → Inv m' ls h → self ls h) → F self ls h) : ∀ n m ls h, m < n → Inv m ls h → itH F n ls h
  | 0, _, _, _, hm, _ => absurd hm (Nat.not_lt_zero _)
  | n + 1, m, ls, h, hm, hi => step m ls h hi (itH F n) fun m' ls h h' hi' => itH_rule Inv step n m' ls h (by omega) hi'
/-- A loop: a measure and what holds. -/
theorem loopH_rule {F : (List Lf → HL → Prop) → List Lf → HL → Prop} (Inv : Nat → List Lf → HL → Prop) {m : Nat} {ls : List Lf} {h : HL} (hi : Inv m ls h)
    (step : ∀ m ls h, Inv m ls h → ∀ self : List Lf → HL → Prop, (∀ m' ls h, m' < m → Inv m' ls h → self ls h) → F self ls h) : loopH F ls h :=
  ⟨m + 1, itH_rule Inv step (m + 1) m ls h (Nat.lt_succ_self m) hi⟩
end
end Sx
end Go.Am

/-
  THE ALGEBRA OF PROPOSITIONS, its rules as equations: a step each.
-/
namespace Go.Am
namespace Sx

/-- What comes behind, put away: no step looks into it. -/
class Bx (α : Sort _) where
  v : α
def hid {α : Sort _} [b : Bx α] : α := b.v
section
variable [Val] [Kno] {C : Cfg} {Sg : FuncId → Option Sig} {T : Nat → Site}

theorem b_unI {n : Int} {r : List Lf} {K : Int → List Lf → Prop} : (PH C Sg T).unI (.i n :: r) K = K n r := rfl
theorem b_unB {n : Bool} {r : List Lf} {K : Bool → List Lf → Prop} : (PH C Sg T).unB (.b n :: r) K = K n r := rfl
theorem b_unV {n : Value} {r : List Lf} {K : Value → List Lf → Prop} : (PH C Sg T).unV (.v n :: r) K = K n r := rfl
theorem b_un0 {K : Prop} : (PH C Sg T).un0 [] K = K := rfl
theorem b_ucI {k : IntKind} {n : Int} {r : List Value} {K : Int → List Value → Prop} : (PH C Sg T).ucI k (.int k n :: r) K = K n r := by
  show (k = k ∧ K n r) = K n r
  simp
theorem b_ucB {n : Bool} {r : List Value} {K : Bool → List Value → Prop} : (PH C Sg T).ucB (.bool n :: r) K = K n r := rfl
theorem b_ucV {n : Value} {r : List Value} {K : Value → List Value → Prop} : (PH C Sg T).ucV (n :: r) K = K n r := rfl
theorem b_uc0 {K : Prop} : (PH C Sg T).uc0 [] K = K := rfl
theorem p_chk {v : Value} {K : Prop} (h : goodV v = true) : (PH C Sg T).chk v K = K := by
  show (goodV v = true ∧ K) = K
  simp [h]
theorem b_cond_t {X Y : Prop} : (PH C Sg T).cond true X Y = X := by
  show ((true = true → X) ∧ (true = false → Y)) = X
  simp
theorem b_cond_f {X Y : Prop} : (PH C Sg T).cond false X Y = Y := by
  show ((false = true → X) ∧ (false = false → Y)) = Y
  simp
theorem b_lss_t {a b : Int} {K : Bool → Prop} (h : a < b) : (PH C Sg T).cmp .lss a b K = K true := by
  show K (decide (a < b)) = _; rw [decide_eq_true h]
theorem b_lss_f {a b : Int} {K : Bool → Prop} (h : b ≤ a) : (PH C Sg T).cmp .lss a b K = K false := by
  show K (decide (a < b)) = _; rw [decide_eq_false (by omega)]
theorem b_leq_t {a b : Int} {K : Bool → Prop} (h : a ≤ b) : (PH C Sg T).cmp .leq a b K = K true := by
  show K (decide (a ≤ b)) = _; rw [decide_eq_true h]
theorem b_leq_f {a b : Int} {K : Bool → Prop} (h : b < a) : (PH C Sg T).cmp .leq a b K = K false := by
  show K (decide (a ≤ b)) = _; rw [decide_eq_false (by omega)]
theorem b_gtr_t {a b : Int} {K : Bool → Prop} (h : b < a) : (PH C Sg T).cmp .gtr a b K = K true := by
  show K (decide (a > b)) = _; rw [decide_eq_true h]
theorem b_gtr_f {a b : Int} {K : Bool → Prop} (h : a ≤ b) : (PH C Sg T).cmp .gtr a b K = K false := by
  show K (decide (a > b)) = _; rw [decide_eq_false (by omega)]
theorem b_geq_t {a b : Int} {K : Bool → Prop} (h : b ≤ a) : (PH C Sg T).cmp .geq a b K = K true := by
  show K (decide (a ≥ b)) = _; rw [decide_eq_true h]
theorem b_geq_f {a b : Int} {K : Bool → Prop} (h : a < b) : (PH C Sg T).cmp .geq a b K = K false := by
  show K (decide (a ≥ b)) = _; rw [decide_eq_false (by omega)]
theorem b_eql_t {a b : Int} {K : Bool → Prop} (h : a = b) : (PH C Sg T).cmp .eql a b K = K true := by
  show K (a == b) = _; rw [beq_iff_eq.2 h]
theorem b_eql_f {a b : Int} {K : Bool → Prop} (h : a ≠ b) : (PH C Sg T).cmp .eql a b K = K false := by
  show K (a == b) = _; rw [beq_false_of_ne h]
theorem b_neq_t {a b : Int} {K : Bool → Prop} (h : a ≠ b) : (PH C Sg T).cmp .neq a b K = K true := by
  show K (a != b) = _; rw [bne_iff_ne.2 h]
theorem b_neq_f {a b : Int} {K : Bool → Prop} (h : a = b) : (PH C Sg T).cmp .neq a b K = K false := by
  show K (a != b) = _; subst h; simp
theorem b_add {a b : Int} {K : Int → Prop} (h1 : -9223372036854775808 ≤ a + b) (h2 : a + b ≤ 9223372036854775807) : (PH C Sg T).ari .add .i64 a b K = K (a + b) := by
  show K (IntKind.wrap .i64 (a + b)) = _; rw [wrap_i64 h1 h2]
theorem b_sub {a b : Int} {K : Int → Prop} (h1 : -9223372036854775808 ≤ a - b) (h2 : a - b ≤ 9223372036854775807) : (PH C Sg T).ari .sub .i64 a b K = K (a - b) := by
  show K (IntKind.wrap .i64 (a - b)) = _; rw [wrap_i64 h1 h2]
theorem b_mul {a b : Int} {K : Int → Prop} (h1 : -9223372036854775808 ≤ a * b) (h2 : a * b ≤ 9223372036854775807) : (PH C Sg T).ari .mul .i64 a b K = K (a * b) := by
  show K (IntKind.wrap .i64 (a * b)) = _; rw [wrap_i64 h1 h2]
theorem b_add8 {a b : Int} {K : Int → Prop} (h1 : 0 ≤ a + b) (h2 : a + b ≤ 255) : (PH C Sg T).ari .add .u8 a b K = K (a + b) := by
  show K (IntKind.wrap .u8 (a + b)) = _; rw [wrap_u8 h1 h2]
theorem b_sub8 {a b : Int} {K : Int → Prop} (h1 : 0 ≤ a - b) (h2 : a - b ≤ 255) : (PH C Sg T).ari .sub .u8 a b K = K (a - b) := by
  show K (IntKind.wrap .u8 (a - b)) = _; rw [wrap_u8 h1 h2]
theorem b_mul8 {a b : Int} {K : Int → Prop} (h1 : 0 ≤ a * b) (h2 : a * b ≤ 255) : (PH C Sg T).ari .mul .u8 a b K = K (a * b) := by
  show K (IntKind.wrap .u8 (a * b)) = _; rw [wrap_u8 h1 h2]
theorem tdiv_nn {a b : Int} (h : 0 ≤ a) : a.tdiv b = a / b := Int.tdiv_eq_ediv_of_nonneg h
theorem b_quo_nn {a b : Int} {K : Int → Prop} (h : 0 ≤ a) (hb : 0 < b) (h2 : a ≤ 9223372036854775807) : (PH C Sg T).ari .quo .i64 a b K = K (a / b) := by
  show (b ≠ 0 ∧ K (IntKind.wrap .i64 (a.tdiv b))) = _
  have h3 : a / b ≤ a := Int.ediv_le_self b h
  have h4 : 0 ≤ a / b := Int.ediv_nonneg h (by omega)
  rw [tdiv_nn h, wrap_i64 (by omega) (by omega)]
  simp; intro _ h; omega
theorem b_quo_ev {a : Int} {K : Int → Prop} (h : a % 2 = 0) (h1 : -9223372036854775808 ≤ a) (h2 : a ≤ 9223372036854775807) : (PH C Sg T).ari .quo .i64 a 2 K = K (a / 2) := by
  show ((2 : Int) ≠ 0 ∧ K (IntKind.wrap .i64 (a.tdiv 2))) = _
  rw [Int.tdiv_eq_ediv_of_dvd (Int.dvd_of_emod_eq_zero h), wrap_i64 (by omega) (by omega)]
  simp
theorem b_quo_dv {a b : Int} {K : Int → Prop} (h : a % b = 0) (hb : 0 < b) (h1 : -9223372036854775808 ≤ a) (h2 : a ≤ 9223372036854775807) : (PH C Sg T).ari .quo .i64 a b K = K (a / b) := by
  show (b ≠ 0 ∧ K (IntKind.wrap .i64 (a.tdiv b))) = _
  obtain ⟨q, rfl⟩ := Int.dvd_of_emod_eq_zero h
  rw [Int.mul_tdiv_cancel_left q (by omega), Int.mul_ediv_cancel_left q (by omega)]
  have hq : -9223372036854775808 ≤ q ∧ q ≤ 9223372036854775807 := by
    rcases Int.le_total 0 q with hs | hs
    · have := Int.mul_le_mul_of_nonneg_right (show (1 : Int) ≤ b by omega) hs
      omega
    · have := Int.mul_le_mul_of_nonneg_right (show (1 : Int) ≤ b by omega) (show 0 ≤ -q by omega)
      rw [Int.mul_neg b q] at this
      omega
  rw [wrap_i64 hq.1 hq.2]
  simp; intro _ h; omega
theorem b_rem_nn {k : IntKind} {a b : Int} {K : Int → Prop} (h : 0 ≤ a) (hb : 0 < b) : (PH C Sg T).ari .rem k a b K = K (a % b) := by
  show (b ≠ 0 ∧ K (a.tmod b)) = _
  rw [Int.tmod_eq_emod_of_nonneg h]
  simp; intro _ h; omega
theorem b_rem_np {k : IntKind} {a b : Int} {K : Int → Prop} (h : a ≤ 0) (hb : 0 < b) : (PH C Sg T).ari .rem k a b K = K (-((-a) % b)) := by
  show (b ≠ 0 ∧ K (a.tmod b)) = _
  have : a.tmod b = -((-a) % b) := by
    have h1 := Int.neg_tmod a b
    rw [Int.tmod_eq_emod_of_nonneg (a := -a) (by omega)] at h1
    omega
  rw [this]
  simp; intro _ h; omega
theorem b_and1 {a : Int} {K : Int → Prop} : (PH C Sg T).ari .and .i64 a 1 K = K (a % 2) := by
  show (((1 : Int) = 1 ∧ K (a % 2)) ∨ ((1 : Int) ≠ 1 ∧ ∃ n, ArRun .and .i64 a 1 n ∧ K n)) = K (a % 2)
  simp
theorem b_conv {a : Int} {K : Int → Prop} (h1 : -9223372036854775808 ≤ a) (h2 : a ≤ 9223372036854775807) : (PH C Sg T).conv .i64 a K = K a := by
  show K (IntKind.wrap .i64 a) = _; rw [wrap_i64 h1 h2]
theorem b_conv8 {a : Int} {K : Int → Prop} (h1 : 0 ≤ a) (h2 : a ≤ 255) : (PH C Sg T).conv .u8 a K = K a := by
  show K (IntKind.wrap .u8 a) = _; rw [wrap_u8 h1 h2]
theorem b_sel_t {a b : Int} {K : Int → Prop} : (PH C Sg T).sel true a b K = K a := rfl
theorem b_sel_f {a b : Int} {K : Int → Prop} : (PH C Sg T).sel false a b K = K b := rfl
theorem b_opt {α : Type} {x : α} {K : α → Prop} : (PH C Sg T).opt (some x) K = K x := by
  show (∃ y, some x = some y ∧ K y) = K x
  simp
theorem b_inB {n : Nat} {i : Int} {K : Unit → Prop} (h1 : 0 ≤ i) (h2 : i < (n : Int)) : (PH C Sg T).opt (inB n i) K = K () := by
  rw [show inB n i = some () from (inB_eq n i).trans (if_pos ⟨h1, h2⟩), b_opt]
theorem p_opt_eq {α : Type} {o : Option α} {x : α} {K : α → Prop} (h : o = some x) : (PH C Sg T).opt o K = K x := by
  rw [h, b_opt]
theorem b_join {b : List Lf → HL → Prop} {m : (List Lf → HL → Prop) → Prop} : (PH C Sg T).join b m = m b := rfl
theorem b_eqs0 {K : Bool → Prop} : (PH C Sg T).eqs [] K = K true := rfl
theorem b_eqs_t {a b : Int} {l : List (Lf × Lf)} {K : Bool → Prop} (h : a = b) : (PH C Sg T).eqs ((.i a, .i b) :: l) K = (PH C Sg T).eqs l K := by
  show K (eqAll _) = K (eqAll l)
  subst h
  simp [eqAll, eqLfD]
theorem b_eqs_f {a b : Int} {l : List (Lf × Lf)} {K : Bool → Prop} (h : a ≠ b) : (PH C Sg T).eqs ((.i a, .i b) :: l) K = K false := by
  show K (eqAll _) = K false
  have : (a == b) = false := beq_false_of_ne h
  simp [eqAll, eqLfD, this]
theorem p_loop {F : (List Lf → HL → Prop) → List Lf → HL → Prop} {ls : List Lf} {h : HL} (n : Nat) (hn : itH F n ls h) : (PH C Sg T).loop F ls h := ⟨n, hn⟩
theorem b_it {F : (List Lf → HL → Prop) → List Lf → HL → Prop} {n : Nat} {ls : List Lf} {h : HL} : itH F (n + 1) ls h = F (itH F n) ls h := rfl
theorem p_call {g : FuncId} {ls rs : List Lf} {h : HL} {K : List Lf → HL → Prop} (hc : ∀ H, CallL C Sg g ls H rs H) (hk : K rs h) : (PH C Sg T).call g ls h (@hid _ ⟨K⟩) := ⟨rs, h, hc _, hk⟩
theorem p_cond {b : Bool} {X Y : Prop} (h1 : b = true → X) (h2 : b = false → Y) : (PH C Sg T).cond b (@hid _ ⟨X⟩) (@hid _ ⟨Y⟩) := ⟨h1, h2⟩
/-- Truth values compared. -/
theorem b_eqsb_t {a b : Bool} {l : List (Lf × Lf)} {K : Bool → Prop} (h : a = b) : (PH C Sg T).eqs ((.b a, .b b) :: l) K = (PH C Sg T).eqs l K := by
  show K (eqAll _) = K (eqAll l)
  subst h
  simp [eqAll, eqLfD]
theorem b_eqsb_tf {l : List (Lf × Lf)} {K : Bool → Prop} : (PH C Sg T).eqs ((.b true, .b false) :: l) K = K false := rfl
theorem b_eqsb_ft {l : List (Lf × Lf)} {K : Bool → Prop} : (PH C Sg T).eqs ((.b false, .b true) :: l) K = K false := rfl
theorem b_mul_1 {b : Int} {K : Int → Prop} (h1 : -9223372036854775808 ≤ b) (h2 : b ≤ 9223372036854775807) : (PH C Sg T).ari .mul .i64 1 b K = K b := by
  show K (IntKind.wrap .i64 (1 * b)) = _; rw [Int.one_mul, wrap_i64 h1 h2]
theorem b_mul_0 {b : Int} {K : Int → Prop} : (PH C Sg T).ari .mul .i64 0 b K = K 0 := by
  show K (IntKind.wrap .i64 (0 * b)) = _; rw [Int.zero_mul]; rfl
theorem b_mul_m {b : Int} {K : Int → Prop} (h1 : -9223372036854775808 ≤ -b) (h2 : -b ≤ 9223372036854775807) : (PH C Sg T).ari .mul .i64 (-1) b K = K (-b) := by
  show K (IntKind.wrap .i64 (-1 * b)) = _
  have : (-1 * b : Int) = -b := by omega
  rw [this, wrap_i64 h1 h2]
theorem b_mul_r1 {b : Int} {K : Int → Prop} (h1 : -9223372036854775808 ≤ b) (h2 : b ≤ 9223372036854775807) : (PH C Sg T).ari .mul .i64 b 1 K = K b := by
  show K (IntKind.wrap .i64 (b * 1)) = _; rw [Int.mul_one, wrap_i64 h1 h2]
theorem b_mul_r0 {b : Int} {K : Int → Prop} : (PH C Sg T).ari .mul .i64 b 0 K = K 0 := by
  show K (IntKind.wrap .i64 (b * 0)) = _; rw [Int.mul_zero]; rfl
theorem b_mul_rm {b : Int} {K : Int → Prop} (h1 : -9223372036854775808 ≤ -b) (h2 : -b ≤ 9223372036854775807) : (PH C Sg T).ari .mul .i64 b (-1) K = K (-b) := by
  show K (IntKind.wrap .i64 (b * -1)) = _
  have : (b * -1 : Int) = -b := by omega
  rw [this, wrap_i64 h1 h2]
theorem b_add_0 {b : Int} {K : Int → Prop} (h1 : -9223372036854775808 ≤ b) (h2 : b ≤ 9223372036854775807) : (PH C Sg T).ari .add .i64 0 b K = K b := by
  show K (IntKind.wrap .i64 (0 + b)) = _; rw [Int.zero_add, wrap_i64 h1 h2]
theorem b_add_r0 {b : Int} {K : Int → Prop} (h1 : -9223372036854775808 ≤ b) (h2 : b ≤ 9223372036854775807) : (PH C Sg T).ari .add .i64 b 0 K = K b := by
  show K (IntKind.wrap .i64 (b + 0)) = _; rw [Int.add_zero, wrap_i64 h1 h2]
theorem b_add_11 {K : Int → Prop} : (PH C Sg T).ari .add .i64 1 1 K = K 2 := by
  show K (IntKind.wrap .i64 (1 + 1)) = _; rfl
theorem b_quo_1 {a : Int} {K : Int → Prop} (h1 : -9223372036854775808 ≤ a) (h2 : a ≤ 9223372036854775807) : (PH C Sg T).ari .quo .i64 a 1 K = K a := by
  show ((1 : Int) ≠ 0 ∧ K (IntKind.wrap .i64 (a.tdiv 1))) = _
  rw [Int.tdiv_one, wrap_i64 h1 h2]; simp
theorem p_ari_2 {op : BinOp} {k : IntKind} {a b b' : Int} {K : Int → Prop} (hb : b = b') (h : (PH C Sg T).ari op k a b' K) : (PH C Sg T).ari op k a b K := by rw [hb]; exact h
theorem p_opt_r {α : Type} {o : Option α} {x : α} {K : α → Prop} (h : o = some x) (hk : K x) : (PH C Sg T).opt o (@hid _ ⟨K⟩) := ⟨x, h, hk⟩
theorem pvx {vs : List Value} {base sz n : Nat} {i j : Int} {o : Option (List Value)} (h2 : pickV vs base [(j, sz)] n = o) (h : i = j) : pickV vs base [(i, sz)] n = o := by rw [h]; exact h2
theorem pvx2 {vs : List Value} {base sz sz' n : Nat} {i j i' j' : Int} {o : Option (List Value)} (h2 : pickV vs base [(j, sz), (j', sz')] n = o) (h : i = j) (h' : i' = j') : pickV vs base [(i, sz), (i', sz')] n = o := by rw [h, h']; exact h2
theorem plx {ls : List Lf} {base sz n : Nat} {i : Int} {o : Option (List Lf)} (j : Int) (h : i = j) (h2 : pickL ls base [(j, sz)] n = o) : pickL ls base [(i, sz)] n = o := by rw [h]; exact h2
theorem ptx {ls new : List Lf} {base sz : Nat} {i : Int} {o : Option (List Lf)} (j : Int) (h : i = j) (h2 : putL ls base [(j, sz)] new = o) : putL ls base [(i, sz)] new = o := by rw [h]; exact h2
/-! ### The same, with what comes behind put away -/
theorem p_unI {n : Int} {r : List Lf} {K : Int → List Lf → Prop} : (PH C Sg T).unI (.i n :: r) (@hid _ ⟨K⟩) = K n r := b_unI
theorem p_unB {n : Bool} {r : List Lf} {K : Bool → List Lf → Prop} : (PH C Sg T).unB (.b n :: r) (@hid _ ⟨K⟩) = K n r := b_unB
theorem p_unV {n : Value} {r : List Lf} {K : Value → List Lf → Prop} : (PH C Sg T).unV (.v n :: r) (@hid _ ⟨K⟩) = K n r := b_unV
theorem p_un0 {K : Prop} : (PH C Sg T).un0 [] (@hid _ ⟨K⟩) = K := b_un0
theorem p_ucI {k : IntKind} {n : Int} {r : List Value} {K : Int → List Value → Prop} : (PH C Sg T).ucI k (.int k n :: r) (@hid _ ⟨K⟩) = K n r := b_ucI
theorem p_ucB {n : Bool} {r : List Value} {K : Bool → List Value → Prop} : (PH C Sg T).ucB (.bool n :: r) (@hid _ ⟨K⟩) = K n r := b_ucB
theorem p_ucV {n : Value} {r : List Value} {K : Value → List Value → Prop} : (PH C Sg T).ucV (n :: r) (@hid _ ⟨K⟩) = K n r := b_ucV
theorem p_uc0 {K : Prop} : (PH C Sg T).uc0 [] (@hid _ ⟨K⟩) = K := b_uc0
theorem p_cond_t {X Y : Prop} : (PH C Sg T).cond true (@hid _ ⟨X⟩) Y = X := b_cond_t
theorem p_cond_f {X Y : Prop} : (PH C Sg T).cond false X (@hid _ ⟨Y⟩) = Y := b_cond_f
theorem p_lss_t {a b : Int} {K : Bool → Prop} (h : a < b) : (PH C Sg T).cmp .lss a b (@hid _ ⟨K⟩) = K true := b_lss_t h
theorem p_lss_f {a b : Int} {K : Bool → Prop} (h : b ≤ a) : (PH C Sg T).cmp .lss a b (@hid _ ⟨K⟩) = K false := b_lss_f h
theorem p_leq_t {a b : Int} {K : Bool → Prop} (h : a ≤ b) : (PH C Sg T).cmp .leq a b (@hid _ ⟨K⟩) = K true := b_leq_t h
theorem p_leq_f {a b : Int} {K : Bool → Prop} (h : b < a) : (PH C Sg T).cmp .leq a b (@hid _ ⟨K⟩) = K false := b_leq_f h
theorem p_gtr_t {a b : Int} {K : Bool → Prop} (h : b < a) : (PH C Sg T).cmp .gtr a b (@hid _ ⟨K⟩) = K true := b_gtr_t h
theorem p_gtr_f {a b : Int} {K : Bool → Prop} (h : a ≤ b) : (PH C Sg T).cmp .gtr a b (@hid _ ⟨K⟩) = K false := b_gtr_f h
theorem p_geq_t {a b : Int} {K : Bool → Prop} (h : b ≤ a) : (PH C Sg T).cmp .geq a b (@hid _ ⟨K⟩) = K true := b_geq_t h
theorem p_geq_f {a b : Int} {K : Bool → Prop} (h : a < b) : (PH C Sg T).cmp .geq a b (@hid _ ⟨K⟩) = K false := b_geq_f h
theorem p_eql_t {a b : Int} {K : Bool → Prop} (h : a = b) : (PH C Sg T).cmp .eql a b (@hid _ ⟨K⟩) = K true := b_eql_t h
theorem p_eql_f {a b : Int} {K : Bool → Prop} (h : a ≠ b) : (PH C Sg T).cmp .eql a b (@hid _ ⟨K⟩) = K false := b_eql_f h
theorem p_neq_t {a b : Int} {K : Bool → Prop} (h : a ≠ b) : (PH C Sg T).cmp .neq a b (@hid _ ⟨K⟩) = K true := b_neq_t h
theorem p_neq_f {a b : Int} {K : Bool → Prop} (h : a = b) : (PH C Sg T).cmp .neq a b (@hid _ ⟨K⟩) = K false := b_neq_f h
theorem p_add {a b : Int} {K : Int → Prop} (h1 : -9223372036854775808 ≤ a + b) (h2 : a + b ≤ 9223372036854775807) : (PH C Sg T).ari .add .i64 a b (@hid _ ⟨K⟩) = K (a + b) := b_add h1 h2
theorem p_sub {a b : Int} {K : Int → Prop} (h1 : -9223372036854775808 ≤ a - b) (h2 : a - b ≤ 9223372036854775807) : (PH C Sg T).ari .sub .i64 a b (@hid _ ⟨K⟩) = K (a - b) := b_sub h1 h2
theorem p_mul {a b : Int} {K : Int → Prop} (h1 : -9223372036854775808 ≤ a * b) (h2 : a * b ≤ 9223372036854775807) : (PH C Sg T).ari .mul .i64 a b (@hid _ ⟨K⟩) = K (a * b) := b_mul h1 h2
theorem p_add8 {a b : Int} {K : Int → Prop} (h1 : 0 ≤ a + b) (h2 : a + b ≤ 255) : (PH C Sg T).ari .add .u8 a b (@hid _ ⟨K⟩) = K (a + b) := b_add8 h1 h2
theorem p_sub8 {a b : Int} {K : Int → Prop} (h1 : 0 ≤ a - b) (h2 : a - b ≤ 255) : (PH C Sg T).ari .sub .u8 a b (@hid _ ⟨K⟩) = K (a - b) := b_sub8 h1 h2
theorem p_mul8 {a b : Int} {K : Int → Prop} (h1 : 0 ≤ a * b) (h2 : a * b ≤ 255) : (PH C Sg T).ari .mul .u8 a b (@hid _ ⟨K⟩) = K (a * b) := b_mul8 h1 h2
theorem p_quo_nn {a b : Int} {K : Int → Prop} (h : 0 ≤ a) (hb : 0 < b) (h2 : a ≤ 9223372036854775807) : (PH C Sg T).ari .quo .i64 a b (@hid _ ⟨K⟩) = K (a / b) := b_quo_nn h hb h2
theorem p_quo_ev {a : Int} {K : Int → Prop} (h : a % 2 = 0) (h1 : -9223372036854775808 ≤ a) (h2 : a ≤ 9223372036854775807) : (PH C Sg T).ari .quo .i64 a 2 (@hid _ ⟨K⟩) = K (a / 2) := b_quo_ev h h1 h2
theorem p_quo_dv {a b : Int} {K : Int → Prop} (h : a % b = 0) (hb : 0 < b) (h1 : -9223372036854775808 ≤ a) (h2 : a ≤ 9223372036854775807) : (PH C Sg T).ari .quo .i64 a b (@hid _ ⟨K⟩) = K (a / b) := b_quo_dv h hb h1 h2
theorem p_rem_nn {k : IntKind} {a b : Int} {K : Int → Prop} (h : 0 ≤ a) (hb : 0 < b) : (PH C Sg T).ari .rem k a b (@hid _ ⟨K⟩) = K (a % b) := b_rem_nn h hb
theorem p_rem_np {k : IntKind} {a b : Int} {K : Int → Prop} (h : a ≤ 0) (hb : 0 < b) : (PH C Sg T).ari .rem k a b (@hid _ ⟨K⟩) = K (-((-a) % b)) := b_rem_np h hb
theorem p_and1 {a : Int} {K : Int → Prop} : (PH C Sg T).ari .and .i64 a 1 (@hid _ ⟨K⟩) = K (a % 2) := b_and1
theorem p_conv {a : Int} {K : Int → Prop} (h1 : -9223372036854775808 ≤ a) (h2 : a ≤ 9223372036854775807) : (PH C Sg T).conv .i64 a (@hid _ ⟨K⟩) = K a := b_conv h1 h2
theorem p_conv8 {a : Int} {K : Int → Prop} (h1 : 0 ≤ a) (h2 : a ≤ 255) : (PH C Sg T).conv .u8 a (@hid _ ⟨K⟩) = K a := b_conv8 h1 h2
theorem p_sel_t {a b : Int} {K : Int → Prop} : (PH C Sg T).sel true a b (@hid _ ⟨K⟩) = K a := b_sel_t
theorem p_sel_f {a b : Int} {K : Int → Prop} : (PH C Sg T).sel false a b (@hid _ ⟨K⟩) = K b := b_sel_f
theorem p_opt {α : Type} {x : α} {K : α → Prop} : (PH C Sg T).opt (some x) (@hid _ ⟨K⟩) = K x := b_opt
theorem p_inB {n : Nat} {i : Int} {K : Unit → Prop} (h1 : 0 ≤ i) (h2 : i < (n : Int)) : (PH C Sg T).opt (inB n i) (@hid _ ⟨K⟩) = K () := b_inB h1 h2
theorem p_join {b : List Lf → HL → Prop} {m : (List Lf → HL → Prop) → Prop} : (PH C Sg T).join (@hid _ ⟨b⟩) (@hid _ ⟨m⟩) = m (@hid _ ⟨b⟩) := b_join
theorem p_eqs0 {K : Bool → Prop} : (PH C Sg T).eqs [] (@hid _ ⟨K⟩) = K true := b_eqs0
theorem p_eqs_t {a b : Int} {l : List (Lf × Lf)} {K : Bool → Prop} (h : a = b) : (PH C Sg T).eqs ((.i a, .i b) :: l) (@hid _ ⟨K⟩) = (PH C Sg T).eqs l (@hid _ ⟨K⟩) := b_eqs_t h
theorem p_eqs_f {a b : Int} {l : List (Lf × Lf)} {K : Bool → Prop} (h : a ≠ b) : (PH C Sg T).eqs ((.i a, .i b) :: l) (@hid _ ⟨K⟩) = K false := b_eqs_f h
theorem p_it {F : (List Lf → HL → Prop) → List Lf → HL → Prop} {n : Nat} {ls : List Lf} {h : HL} : itH (@hid _ ⟨F⟩) (n + 1) ls h = F (itH (@hid _ ⟨F⟩) n) ls h := b_it
theorem p_eqsb_t {a b : Bool} {l : List (Lf × Lf)} {K : Bool → Prop} (h : a = b) : (PH C Sg T).eqs ((.b a, .b b) :: l) (@hid _ ⟨K⟩) = (PH C Sg T).eqs l (@hid _ ⟨K⟩) := b_eqsb_t h
theorem p_eqsb_tf {l : List (Lf × Lf)} {K : Bool → Prop} : (PH C Sg T).eqs ((.b true, .b false) :: l) (@hid _ ⟨K⟩) = K false := b_eqsb_tf
theorem p_eqsb_ft {l : List (Lf × Lf)} {K : Bool → Prop} : (PH C Sg T).eqs ((.b false, .b true) :: l) (@hid _ ⟨K⟩) = K false := b_eqsb_ft
theorem p_mul_1 {b : Int} {K : Int → Prop} (h1 : -9223372036854775808 ≤ b) (h2 : b ≤ 9223372036854775807) : (PH C Sg T).ari .mul .i64 1 b (@hid _ ⟨K⟩) = K b := b_mul_1 h1 h2
theorem p_mul_0 {b : Int} {K : Int → Prop} : (PH C Sg T).ari .mul .i64 0 b (@hid _ ⟨K⟩) = K 0 := b_mul_0
theorem p_mul_m {b : Int} {K : Int → Prop} (h1 : -9223372036854775808 ≤ -b) (h2 : -b ≤ 9223372036854775807) : (PH C Sg T).ari .mul .i64 (-1) b (@hid _ ⟨K⟩) = K (-b) := b_mul_m h1 h2
theorem p_mul_r1 {b : Int} {K : Int → Prop} (h1 : -9223372036854775808 ≤ b) (h2 : b ≤ 9223372036854775807) : (PH C Sg T).ari .mul .i64 b 1 (@hid _ ⟨K⟩) = K b := b_mul_r1 h1 h2
theorem p_mul_r0 {b : Int} {K : Int → Prop} : (PH C Sg T).ari .mul .i64 b 0 (@hid _ ⟨K⟩) = K 0 := b_mul_r0
theorem p_mul_rm {b : Int} {K : Int → Prop} (h1 : -9223372036854775808 ≤ -b) (h2 : -b ≤ 9223372036854775807) : (PH C Sg T).ari .mul .i64 b (-1) (@hid _ ⟨K⟩) = K (-b) := b_mul_rm h1 h2
theorem p_add_0 {b : Int} {K : Int → Prop} (h1 : -9223372036854775808 ≤ b) (h2 : b ≤ 9223372036854775807) : (PH C Sg T).ari .add .i64 0 b (@hid _ ⟨K⟩) = K b := b_add_0 h1 h2
theorem p_add_r0 {b : Int} {K : Int → Prop} (h1 : -9223372036854775808 ≤ b) (h2 : b ≤ 9223372036854775807) : (PH C Sg T).ari .add .i64 b 0 (@hid _ ⟨K⟩) = K b := b_add_r0 h1 h2
theorem p_add_11 {K : Int → Prop} : (PH C Sg T).ari .add .i64 1 1 (@hid _ ⟨K⟩) = K 2 := b_add_11
theorem p_quo_1 {a : Int} {K : Int → Prop} (h1 : -9223372036854775808 ≤ a) (h2 : a ≤ 9223372036854775807) : (PH C Sg T).ari .quo .i64 a 1 (@hid _ ⟨K⟩) = K a := b_quo_1 h1 h2
theorem p_hid2 {f : List Lf → HL → Prop} {a : List Lf} {b : HL} : @hid _ ⟨f⟩ a b = f a b := rfl
theorem p_eqs2_f {a b c d : Int} {K : Bool → Prop} (h : ¬ (a = c ∧ b = d)) : (PH C Sg T).eqs [(.i a, .i c), (.i b, .i d)] (@hid _ ⟨K⟩) = K false := by
  show K (eqAll _) = K false
  have : eqAll [(.i a, .i c), (.i b, .i d)] = false := by
    rw [Bool.eq_false_iff]
    simpa [eqAll, eqLfD] using h
  rw [this]
theorem p_eqs3_f {a b c d e f : Int} {K : Bool → Prop} (h : ¬ (a = d ∧ b = e ∧ c = f)) : (PH C Sg T).eqs [(.i a, .i d), (.i b, .i e), (.i c, .i f)] (@hid _ ⟨K⟩) = K false := by
  show K (eqAll _) = K false
  have : eqAll [(.i a, .i d), (.i b, .i e), (.i c, .i f)] = false := by
    rw [Bool.eq_false_iff]
    simpa [eqAll, eqLfD] using h
  rw [this]
theorem p_callH {g : FuncId} {ls rs : List Lf} {h h' : HL} {K : List Lf → HL → Prop} (hc : CallL C Sg g ls (absH T h) rs (absH T h')) (hk : K rs h') : (PH C Sg T).call g ls h (@hid _ ⟨K⟩) := ⟨rs, h', hc, hk⟩
theorem p_callE {g : FuncId} {ls : List Lf} {h : HL} {P : Int → Prop} {K : List Lf → HL → Prop} (hc : ∃ r, P r ∧ ∀ H, CallL C Sg g ls H [.i r] H) (hk : ∀ r, P r → K [.i r] h) : (PH C Sg T).call g ls h (@hid _ ⟨K⟩) := by
  obtain ⟨r, h1, h2⟩ := hc
  exact ⟨_, h, h2 _, hk r h1⟩
theorem callv_ct {g : FuncId} {sg : Sig} {ls rs : List Lf} {H H' : List HObj} (hc : CallL C Sg g ls H rs H') (hs : Sg g = some sg) (xs : List S0) (h1 : areIs xs sg.ps = true) (h2 : lfsOf xs = ls) :
    CallV C (.func (.func g) #[] #[]) (valsOf xs) sg.rs H rs H' := by
  obtain ⟨sg', xs', ys, c1, c2, c3, c4⟩ := hc
  rw [hs] at c1
  cases c1
  obtain ⟨w1, _⟩ := areIs_val c2.1 h1 (c2.2.1.trans h2.symm)
  rw [w1] at c4
  exact ⟨ys, c3, .inl ⟨g, #[], #[], rfl, by simpa using c4⟩⟩
theorem p_callv {v : Value} {args : List Value} {hs : List SK} {rs : List Lf} {h h' : HL} {K : List Lf → HL → Prop} (hc : CallV C v args hs (absH T h) rs (absH T h')) (hk : K rs h') : (PH C Sg T).callv v args hs h (@hid _ ⟨K⟩) := ⟨rs, h', hc, hk⟩
theorem p_new {o : HObj} {h : HL} {K : Nat → HL → Prop} : (PH C Sg T).new o h (@hid _ ⟨K⟩) = K h.length (h ++ [.o o]) := rfl
theorem p_chk_r {v : Value} {K : Prop} (h : goodV v = true) (hk : K) : (PH C Sg T).chk v (@hid _ ⟨K⟩) := ⟨h, hk⟩
theorem p_heap_r {f : Hp} {h : HL} {K : List Value → HL → Prop} {acts : List Act1} {cs : List Value} (e : f.run (getH T h) h.length = some (acts, cs)) (hk : K cs (actsOnH h acts)) : (PH C Sg T).heap f h (@hid _ ⟨K⟩) := ⟨acts, cs, e, hk⟩
theorem p_peek_r {f : Pk} {h : HL} {K : List Value → Prop} {cs : List Value} (e : f.run (getH T h) = some cs) (hk : K cs) : (PH C Sg T).peek f h (@hid _ ⟨K⟩) := ⟨cs, e, hk⟩
/-- Rules in one. -/
def pxs (C : Cfg) (Sg : FuncId → Option Sig) (T : Nat → Site) := And.intro @p_hid2 (And.intro (@p_new _ _ C Sg T) (And.intro (@p_unI _ _ C Sg T) (And.intro (@p_unB _ _ C Sg T) (And.intro (@p_unV _ _ C Sg T) (And.intro (@p_un0 _ _ C Sg T) (And.intro (@p_ucI _ _ C Sg T) (And.intro (@p_ucB _ _ C Sg T) (And.intro (@p_ucV _ _ C Sg T) (And.intro (@p_uc0 _ _ C Sg T) (And.intro (@p_cond_t _ _ C Sg T) (And.intro (@p_cond_f _ _ C Sg T) (And.intro (@p_opt _ _ C Sg T) (And.intro (@p_inB _ _ C Sg T) (And.intro (@p_join _ _ C Sg T) (And.intro (@p_sel_t _ _ C Sg T) (And.intro (@p_sel_f _ _ C Sg T) ((@p_it))))))))))))))))))
/-- Rules in one. -/
def pxc (C : Cfg) (Sg : FuncId → Option Sig) (T : Nat → Site) := And.intro (@p_lss_t _ _ C Sg T) (And.intro (@p_lss_f _ _ C Sg T) (And.intro (@p_leq_t _ _ C Sg T) (And.intro (@p_leq_f _ _ C Sg T) (And.intro (@p_gtr_t _ _ C Sg T) (And.intro (@p_gtr_f _ _ C Sg T) (And.intro (@p_geq_t _ _ C Sg T) (And.intro (@p_geq_f _ _ C Sg T) (And.intro (@p_eql_t _ _ C Sg T) (And.intro (@p_eql_f _ _ C Sg T) (And.intro (@p_neq_t _ _ C Sg T) (And.intro (@p_neq_f _ _ C Sg T) (And.intro (@p_eqs0 _ _ C Sg T) (And.intro (@p_eqs_t _ _ C Sg T) (And.intro (@p_eqs_f _ _ C Sg T) (And.intro (@p_eqs2_f _ _ C Sg T) (And.intro (@p_eqs3_f _ _ C Sg T) (And.intro (@p_eqsb_t _ _ C Sg T) (And.intro (@p_eqsb_tf _ _ C Sg T) ((@p_eqsb_ft _ _ C Sg T))))))))))))))))))))
/-- Rules in one. -/
def pxa (C : Cfg) (Sg : FuncId → Option Sig) (T : Nat → Site) := And.intro (@p_mul_1 _ _ C Sg T) (And.intro (@p_mul_0 _ _ C Sg T) (And.intro (@p_mul_m _ _ C Sg T) (And.intro (@p_mul_r1 _ _ C Sg T) (And.intro (@p_mul_r0 _ _ C Sg T) (And.intro (@p_mul_rm _ _ C Sg T) (And.intro (@p_add_0 _ _ C Sg T) (And.intro (@p_add_r0 _ _ C Sg T) (And.intro (@p_add_11 _ _ C Sg T) (And.intro (@p_quo_1 _ _ C Sg T) (And.intro (@p_add _ _ C Sg T) (And.intro (@p_sub _ _ C Sg T) (And.intro (@p_mul _ _ C Sg T) (And.intro (@p_add8 _ _ C Sg T) (And.intro (@p_sub8 _ _ C Sg T) (And.intro (@p_mul8 _ _ C Sg T) (And.intro (@p_quo_nn _ _ C Sg T) (And.intro (@p_quo_dv _ _ C Sg T) (And.intro (@p_rem_nn _ _ C Sg T) (And.intro (@p_rem_np _ _ C Sg T) (And.intro (@p_and1 _ _ C Sg T) (And.intro (@p_conv _ _ C Sg T) ((@p_conv8 _ _ C Sg T)))))))))))))))))))))))
end
end Sx
end Go.Am

/-
  THE SEAT'S CALLS: what is known of them, and how it is shown (over the heaps of runs).
-/
set_option maxRecDepth 100000
namespace Go.Am
open Sx Go.Proofs

theorem gl_cell (g : Nat) (vs : List Value) (h : cc.G g = some vs) : vs.all cellOk = true := by
  unfold cc at h
  simp only at h
  split at h <;> first | (cases h; done) | (obtain rfl := Option.some.inj h; kernel_rfl)
noncomputable abbrev P1 : Alg Prop HL := PH cc sgTab siteTab
/-- It answers so, and leaves nothing behind. -/
abbrev Cc (g : FuncId) (ls rs : List Lf) : Prop := ∀ H, CallL cc sgTab g ls H rs H

theorem fn_ok {f : FuncId} {fn : Fn1} (hi : FnIs (xc f) sgTab f fn) {ls : List Lf} {H : HL} {K : List Lf → HL → Prop} (hls : goodLs ls = true)
    (h : execF P1 (xc f) sgTab drN fn ls H K) : ∃ rs H', CallL cc sgTab f ls (absH siteTab H) rs (absH siteTab H') ∧ K rs H' := by
  obtain ⟨rs, h', a1, _, a3⟩ := execF_ok (X := xc f) (holds := id) (abs := absH siteTab) (PH_ok cc sgTab siteTab) (fun pts ops h n σ σ' hx => dr_ok neuN_ok pts ops h n σ σ' hx) hi (goodLs_ok hls) h
  exact ⟨rs, h', a1, a3⟩
/-- The rules, here. -/
def qxs := pxs cc sgTab siteTab
/-- The rules, here. -/
def qxc := pxc cc sgTab siteTab
/-- The rules, here. -/
def qxa := pxa cc sgTab siteTab
end Go.Am

/-
  THE FUNCTIONS OVER THE ALGEBRA OF PROPOSITIONS, BY PROGRAM.
-/
set_option maxRecDepth 100000
namespace Go.Am
open Sx Go.Proofs

/-- crimp/crimplaw05.SheetsUnits -/
def p4 (A : Alg Prop (HL)) (ls : List Lf) (h : HL) (K : List Lf → HL → Prop) : Prop := A.unI ls (@hid _ ⟨fun n6 l7 => A.unI l7 (@hid _ ⟨fun n8 l9 => A.un0 l9 (@hid _ ⟨A.call 17 [(.i n6), (.i n8)] h (@hid _ ⟨fun l10 h11 => A.unI l10 (@hid _ ⟨fun n12 l13 => A.unI l13 (@hid _ ⟨fun n14 l15 => A.un0 l15 (@hid _ ⟨A.call 23 [(.i n12), (.i n14)] h11 (@hid _ ⟨fun l16 h17 => A.unV l16 (@hid _ ⟨fun x18 l19 => A.unI l19 (@hid _ ⟨fun n20 l21 => A.un0 l21 (@hid _ ⟨A.call 24 [(.i n12), (.i n14)] h17 (@hid _ ⟨fun l22 h23 => A.unV l22 (@hid _ ⟨fun x24 l25 => A.un0 l25 (@hid _ ⟨A.cmp .neq n20 0 (@hid _ ⟨fun t26 => A.cond t26 (@hid _ ⟨K [(.b false)] h23⟩) (@hid _ ⟨A.opt (lenS x18) (@hid _ ⟨fun x27 => A.opt (lenS x24) (@hid _ ⟨fun x28 => A.cmp .neq x27 x28 (@hid _ ⟨fun t29 => A.cond t29 (@hid _ ⟨K [(.b false)] h23⟩) (@hid _ ⟨A.opt (capS x18) (@hid _ ⟨fun x30 => A.opt (lenS x18) (@hid _ ⟨fun x31 => A.cmp .neq x30 x31 (@hid _ ⟨fun t32 => A.cond t32 (@hid _ ⟨K [(.b false)] h23⟩) (@hid _ ⟨A.opt (lenS x18) (@hid _ ⟨fun x33 => A.ari .mul .i64 6 n12 (@hid _ ⟨fun n34 => A.ari .mul .i64 n34 n14 (@hid _ ⟨fun n35 => A.ari .sub .i64 n35 n12 (@hid _ ⟨fun n36 => A.ari .sub .i64 n36 n14 (@hid _ ⟨fun n37 => A.cmp .neq x33 n37 (@hid _ ⟨fun t38 => A.cond t38 (@hid _ ⟨K [(.b false)] h23⟩) (@hid _ ⟨A.new (.map [] 0) h23 (@hid _ ⟨fun m39 h40 => A.loop (@hid _ ⟨fun s41 l42 h43 => A.unI l42 (@hid _ ⟨fun n44 l45 => A.un0 l45 (@hid _ ⟨A.opt (lenS x18) (@hid _ ⟨fun x46 => A.cmp .lss n44 x46 (@hid _ ⟨fun t47 => A.cond t47 (@hid _ ⟨A.opt (idS 2 x18 n44) (@hid _ ⟨fun x48 => A.peek (.ld 2 x48) h43 (@hid _ ⟨fun l49 => A.ucI .i64 l49 (@hid _ ⟨fun n50 l51 => A.ucI .u8 l51 (@hid _ ⟨fun n52 l53 => A.uc0 l53 (@hid _ ⟨A.call 25 [(.i n12), (.i n14), (.i n50), (.i n52)] h43 (@hid _ ⟨fun l54 h55 => A.unI l54 (@hid _ ⟨fun n56 l57 => A.unI l57 (@hid _ ⟨fun n58 l59 => A.unI l59 (@hid _ ⟨fun n60 l61 => A.unI l61 (@hid _ ⟨fun n62 l63 => A.unI l63 (@hid _ ⟨fun n64 l65 => A.un0 l65 (@hid _ ⟨A.opt (idS 2 x18 n44) (@hid _ ⟨fun x66 => A.peek (.ld 2 x66) h55 (@hid _ ⟨fun l67 => A.ucI .i64 l67 (@hid _ ⟨fun n68 l69 => A.ucI .u8 l69 (@hid _ ⟨fun n70 l71 => A.uc0 l71 (@hid _ ⟨A.call 26 [(.i n12), (.i n14), (.i n68), (.i n70)] h55 (@hid _ ⟨fun l72 h73 => A.unI l72 (@hid _ ⟨fun n74 l75 => A.unI l75 (@hid _ ⟨fun n76 l77 => A.unI l77 (@hid _ ⟨fun n78 l79 => A.un0 l79 (@hid _ ⟨A.opt (idS 2 x18 n44) (@hid _ ⟨fun x80 => A.peek (.ld 2 x80) h73 (@hid _ ⟨fun l81 => A.ucI .i64 l81 (@hid _ ⟨fun n82 l83 => A.ucI .u8 l83 (@hid _ ⟨fun n84 l85 => A.uc0 l85 (@hid _ ⟨A.opt (idS 2 x24 n44) (@hid _ ⟨fun x86 => A.peek (.ld 2 x86) h73 (@hid _ ⟨fun l87 => A.ucI .i64 l87 (@hid _ ⟨fun n88 l89 => A.ucI .u8 l89 (@hid _ ⟨fun n90 l91 => A.uc0 l91 (@hid _ ⟨A.eqs [((.i n82), (.i n88)), ((.i n84), (.i n90))] (@hid _ ⟨fun t92 => A.cond (!t92) (@hid _ ⟨K [(.b false)] h73⟩) (@hid _ ⟨A.cmp .neq n64 0 (@hid _ ⟨fun t93 => A.cond t93 (@hid _ ⟨K [(.b false)] h73⟩) (@hid _ ⟨A.cmp .neq n78 0 (@hid _ ⟨fun t94 => A.cond t94 (@hid _ ⟨K [(.b false)] h73⟩) (@hid _ ⟨A.opt (idS 2 x18 n44) (@hid _ ⟨fun x95 => A.peek (.ld 2 x95) h73 (@hid _ ⟨fun l96 => A.ucI .i64 l96 (@hid _ ⟨fun n97 l98 => A.ucI .u8 l98 (@hid _ ⟨fun n99 l100 => A.uc0 l100 (@hid _ ⟨A.call 27 [(.i n12), (.i n14), (.i n97), (.i n99)] h73 (@hid _ ⟨fun l101 h102 => A.unI l101 (@hid _ ⟨fun n103 l104 => A.unI l104 (@hid _ ⟨fun n105 l106 => A.unI l106 (@hid _ ⟨fun n107 l108 => A.unI l108 (@hid _ ⟨fun n109 l110 => A.un0 l110 (@hid _ ⟨A.eqs [((.i n56), (.i n103)), ((.i n58), (.i n105)), ((.i n60), (.i n107)), ((.i n62), (.i n109))] (@hid _ ⟨fun t111 => A.cond (!t111) (@hid _ ⟨K [(.b false)] h102⟩) (@hid _ ⟨A.call 28 [(.i n74), (.i n76), (.i n56), (.i n58)] h102 (@hid _ ⟨fun l112 h113 => A.unI l112 (@hid _ ⟨fun n114 l115 => A.un0 l115 (@hid _ ⟨A.cmp .neq n114 0 (@hid _ ⟨fun t116 => A.cond t116 (@hid _ ⟨K [(.b false)] h113⟩) (@hid _ ⟨A.call 28 [(.i n74), (.i n76), (.i n60), (.i n62)] h113 (@hid _ ⟨fun l117 h118 => A.unI l117 (@hid _ ⟨fun n119 l120 => A.un0 l120 (@hid _ ⟨A.cmp .neq n119 0 (@hid _ ⟨fun t121 => A.cond t121 (@hid _ ⟨K [(.b false)] h118⟩) (@hid _ ⟨A.peek (.fn (luG cc 44 false (.int .i64 0) (.map (some m39)) (.agg ⟨[(.int .i64 n56), (.int .i64 n58)]⟩) false)) h118 (@hid _ ⟨fun l122 => A.ucI .i64 l122 (@hid _ ⟨fun n123 l124 => A.uc0 l124 (@hid _ ⟨A.ari .add .i64 n123 1 (@hid _ ⟨fun n125 => A.heap (.fn (meG cc 44 false (.int .i64 0) (.map (some m39)) (.agg ⟨[(.int .i64 n56), (.int .i64 n58)]⟩))) h118 (@hid _ ⟨fun l126 h127 => A.ucI .i64 l126 (@hid _ ⟨fun n128 l129 => A.ucI .i64 l129 (@hid _ ⟨fun n130 l131 => A.uc0 l131 (@hid _ ⟨A.heap (.fn (esG (.map (some m39)) n130 (.int .i64 n125))) h127 (@hid _ ⟨fun l132 h133 => A.peek (.fn (luG cc 44 false (.int .i64 0) (.map (some m39)) (.agg ⟨[(.int .i64 n60), (.int .i64 n62)]⟩) false)) h133 (@hid _ ⟨fun l134 => A.ucI .i64 l134 (@hid _ ⟨fun n135 l136 => A.uc0 l136 (@hid _ ⟨A.ari .add .i64 n135 1 (@hid _ ⟨fun n137 => A.heap (.fn (meG cc 44 false (.int .i64 0) (.map (some m39)) (.agg ⟨[(.int .i64 n60), (.int .i64 n62)]⟩))) h133 (@hid _ ⟨fun l138 h139 => A.ucI .i64 l138 (@hid _ ⟨fun n140 l141 => A.ucI .i64 l141 (@hid _ ⟨fun n142 l143 => A.uc0 l143 (@hid _ ⟨A.heap (.fn (esG (.map (some m39)) n142 (.int .i64 n137))) h139 (@hid _ ⟨fun l144 h145 => A.ari .add .i64 n44 1 (@hid _ ⟨fun n146 => s41 [(.i n146)] h145⟩)⟩)⟩)⟩)⟩)⟩)⟩)⟩)⟩)⟩)⟩)⟩)⟩)⟩)⟩)⟩)⟩)⟩)⟩)⟩)⟩)⟩)⟩)⟩)⟩)⟩)⟩)⟩)⟩)⟩)⟩)⟩)⟩)⟩)⟩)⟩)⟩)⟩)⟩)⟩)⟩)⟩)⟩)⟩)⟩)⟩)⟩)⟩)⟩)⟩)⟩)⟩)⟩)⟩)⟩)⟩)⟩)⟩)⟩)⟩)⟩)⟩)⟩)⟩)⟩)⟩)⟩)⟩)⟩)⟩)⟩)⟩)⟩)⟩)⟩)⟩)⟩)⟩)⟩)⟩)⟩) (@hid _ ⟨A.call 29 [(.i n12), (.i n14)] h43 (@hid _ ⟨fun l147 h148 => A.unV l147 (@hid _ ⟨fun x149 l150 => A.unI l150 (@hid _ ⟨fun n151 l152 => A.un0 l152 (@hid _ ⟨A.loop (@hid _ ⟨fun s153 l154 h155 => A.unI l154 (@hid _ ⟨fun n156 l157 => A.unI l157 (@hid _ ⟨fun n158 l159 => A.un0 l159 (@hid _ ⟨A.ari .mul .i64 2 n14 (@hid _ ⟨fun n160 => A.cmp .leq n158 n160 (@hid _ ⟨fun t161 => A.cond t161 (@hid _ ⟨A.loop (@hid _ ⟨fun s162 l163 h164 => A.unI l163 (@hid _ ⟨fun n165 l166 => A.unI l166 (@hid _ ⟨fun n167 l168 => A.un0 l168 (@hid _ ⟨A.ari .mul .i64 2 n12 (@hid _ ⟨fun n169 => A.cmp .leq n167 n169 (@hid _ ⟨fun t170 => A.cond t170 (@hid _ ⟨A.join (@hid _ ⟨fun l171 h172 => A.unI l171 (@hid _ ⟨fun n173 l174 => A.un0 l174 (@hid _ ⟨A.ari .add .i64 n167 1 (@hid _ ⟨fun n175 => s162 [(.i n173), (.i n175)] h172⟩)⟩)⟩)⟩) (@hid _ ⟨fun j176 => A.join (@hid _ ⟨fun l177 h178 => A.unB l177 (@hid _ ⟨fun t179 l180 => A.un0 l180 (@hid _ ⟨A.cond (!t179) (@hid _ ⟨j176 [(.i n165)] h178⟩) (@hid _ ⟨A.ari .rem .i64 n167 2 (@hid _ ⟨fun n181 => A.cmp .eql n181 1 (@hid _ ⟨fun t182 => A.join (@hid _ ⟨fun l183 h184 => A.unI l183 (@hid _ ⟨fun n185 l186 => A.un0 l186 (@hid _ ⟨A.opt (lenS x149) (@hid _ ⟨fun x187 => A.cmp .geq n165 x187 (@hid _ ⟨fun t188 => A.cond t188 (@hid _ ⟨K [(.b false)] h184⟩) (@hid _ ⟨A.opt (idS 2 x149 n165) (@hid _ ⟨fun x189 => A.peek (.ld 2 x189) h184 (@hid _ ⟨fun l190 => A.ucI .i64 l190 (@hid _ ⟨fun n191 l192 => A.ucI .i64 l192 (@hid _ ⟨fun n193 l194 => A.uc0 l194 (@hid _ ⟨A.eqs [((.i n191), (.i n167)), ((.i n193), (.i n158))] (@hid _ ⟨fun t195 => A.cond (!t195) (@hid _ ⟨K [(.b false)] h184⟩) (@hid _ ⟨A.opt (idS 2 x149 n165) (@hid _ ⟨fun x196 => A.peek (.ld 2 x196) h184 (@hid _ ⟨fun l197 => A.ucI .i64 l197 (@hid _ ⟨fun n198 l199 => A.ucI .i64 l199 (@hid _ ⟨fun n200 l201 => A.uc0 l201 (@hid _ ⟨A.peek (.fn (luG cc 44 false (.int .i64 0) (.map (some m39)) (.agg ⟨[(.int .i64 n198), (.int .i64 n200)]⟩) false)) h184 (@hid _ ⟨fun l202 => A.ucI .i64 l202 (@hid _ ⟨fun n203 l204 => A.uc0 l204 (@hid _ ⟨A.cmp .neq n203 n185 (@hid _ ⟨fun t205 => A.cond t205 (@hid _ ⟨K [(.b false)] h184⟩) (@hid _ ⟨A.ari .add .i64 n165 1 (@hid _ ⟨fun n206 => j176 [(.i n206)] h184⟩)⟩)⟩)⟩)⟩)⟩)⟩)⟩)⟩)⟩)⟩)⟩)⟩)⟩)⟩)⟩)⟩)⟩)⟩)⟩)⟩)⟩)⟩)⟩) (@hid _ ⟨fun j207 => A.cond t182 (@hid _ ⟨j207 [(.i 4)] h178⟩) (@hid _ ⟨j207 [(.i 8)] h178⟩)⟩)⟩)⟩)⟩)⟩)⟩)⟩) (@hid _ ⟨fun j208 => A.cmp .gtr n167 0 (@hid _ ⟨fun t209 => A.cond t209 (@hid _ ⟨A.cmp .gtr n158 0 (@hid _ ⟨fun t210 => A.cond t210 (@hid _ ⟨A.ari .mul .i64 2 n12 (@hid _ ⟨fun n211 => A.cmp .lss n167 n211 (@hid _ ⟨fun t212 => A.cond t212 (@hid _ ⟨A.ari .mul .i64 2 n14 (@hid _ ⟨fun n213 => A.cmp .lss n158 n213 (@hid _ ⟨fun t214 => A.cond t214 (@hid _ ⟨A.ari .add .i64 n167 n158 (@hid _ ⟨fun n215 => A.ari .rem .i64 n215 2 (@hid _ ⟨fun n216 => A.cmp .eql n216 0 (@hid _ ⟨fun t217 => j208 [(.b t217)] h164⟩)⟩)⟩)⟩) (@hid _ ⟨j208 [(.b false)] h164⟩)⟩)⟩)⟩) (@hid _ ⟨j208 [(.b false)] h164⟩)⟩)⟩)⟩) (@hid _ ⟨j208 [(.b false)] h164⟩)⟩)⟩) (@hid _ ⟨j208 [(.b false)] h164⟩)⟩)⟩)⟩)⟩) (@hid _ ⟨A.ari .add .i64 n158 1 (@hid _ ⟨fun n218 => s153 [(.i n165), (.i n218)] h164⟩)⟩)⟩)⟩)⟩)⟩)⟩)⟩) [(.i n156), (.i 0)] h155⟩) (@hid _ ⟨A.join (@hid _ ⟨fun l219 h220 => A.unB l219 (@hid _ ⟨fun t221 l222 => A.un0 l222 (@hid _ ⟨K [(.b t221)] h220⟩)⟩)⟩) (@hid _ ⟨fun j223 => A.cmp .eql n151 0 (@hid _ ⟨fun t224 => A.cond t224 (@hid _ ⟨A.opt (lenS x149) (@hid _ ⟨fun x225 => A.cmp .eql n156 x225 (@hid _ ⟨fun t226 => A.cond t226 (@hid _ ⟨A.opt (capS x149) (@hid _ ⟨fun x227 => A.cmp .eql x227 n156 (@hid _ ⟨fun t228 => A.cond t228 (@hid _ ⟨A.call 21 [] h155 (@hid _ ⟨fun l229 h230 => A.unB l229 (@hid _ ⟨fun t231 l232 => A.un0 l232 (@hid _ ⟨j223 [(.b t231)] h230⟩)⟩)⟩)⟩) (@hid _ ⟨j223 [(.b false)] h155⟩)⟩)⟩)⟩) (@hid _ ⟨j223 [(.b false)] h155⟩)⟩)⟩)⟩) (@hid _ ⟨j223 [(.b false)] h155⟩)⟩)⟩)⟩)⟩)⟩)⟩)⟩)⟩)⟩) [(.i 0), (.i 0)] h148⟩)⟩)⟩)⟩)⟩)⟩)⟩)⟩)⟩)⟩) [(.i 0)] h40⟩)⟩)⟩)⟩)⟩)⟩)⟩)⟩)⟩)⟩)⟩)⟩)⟩)⟩)⟩)⟩)⟩)⟩)⟩)⟩)⟩)⟩)⟩)⟩)⟩)⟩)⟩)⟩)⟩)⟩)⟩)⟩)
theorem g4 : (fun A : Alg Prop (HL) => p4 A) = fun A => f4 A := by kernel_rfl
theorem h4 (ls : List Lf) (H : HL) (K : List Lf → HL → Prop) : p4 P1 ls H K = execF P1 (xc 4) sgTab drN n4 ls H K :=
  congrFun (congrFun (congrFun ((congrFun g4 P1).trans (congrFun (congrFun (congrFun e4 Prop) (HL)) P1)) ls) H) K
theorem u4 {ls : List Lf} {H : HL} {K : List Lf → HL → Prop} (hls : goodLs ls = true) (h : p4 P1 ls H K) : ∃ rs H', CallL cc sgTab 4 ls (absH siteTab H) rs (absH siteTab H') ∧ K rs H' :=
  fn_ok i4 hls (h4 ls H K ▸ h)
theorem q4 {ls rs : List Lf} (hls : goodLs ls = true) (h : p4 P1 ls [] fun rs' _ => rs' = rs) : Cc 4 ls rs := by
  obtain ⟨_, _, h1, rfl⟩ := u4 hls h
  exact ct_of mixed gl_flat (sg := ⟨[.agg [.i .u8, .i .u8]], [lb]⟩) rfl (by kernel_rfl) h1
/-- (crimp/crimplaw05.W).Of -/
def p17 (A : Alg Prop (HL)) (ls : List Lf) (h : HL) (K : List Lf → HL → Prop) : Prop := A.unI ls (@hid _ ⟨fun n6 l7 => A.unI l7 (@hid _ ⟨fun n8 l9 => A.un0 l9 (@hid _ ⟨A.ari .rem .u8 n6 5 (@hid _ ⟨fun n10 => A.conv .i64 n10 (@hid _ ⟨fun n11 => A.ari .add .i64 1 n11 (@hid _ ⟨fun n12 => A.ari .rem .u8 n8 5 (@hid _ ⟨fun n13 => A.conv .i64 n13 (@hid _ ⟨fun n14 => A.ari .add .i64 1 n14 (@hid _ ⟨fun n15 => K [(.i n12), (.i n15)] h⟩)⟩)⟩)⟩)⟩)⟩)⟩)⟩)⟩)
theorem g17 : (fun A : Alg Prop (HL) => p17 A) = fun A => f17 A := by kernel_rfl
theorem h17 (ls : List Lf) (H : HL) (K : List Lf → HL → Prop) : p17 P1 ls H K = execF P1 (xc 17) sgTab drN n17 ls H K :=
  congrFun (congrFun (congrFun ((congrFun g17 P1).trans (congrFun (congrFun (congrFun e17 Prop) (HL)) P1)) ls) H) K
theorem u17 {ls : List Lf} {H : HL} {K : List Lf → HL → Prop} (hls : goodLs ls = true) (h : p17 P1 ls H K) : ∃ rs H', CallL cc sgTab 17 ls (absH siteTab H) rs (absH siteTab H') ∧ K rs H' :=
  fn_ok i17 hls (h17 ls H K ▸ h)
theorem q17 {ls rs : List Lf} (hls : goodLs ls = true) (h : p17 P1 ls [] fun rs' _ => rs' = rs) : Cc 17 ls rs := by
  obtain ⟨_, _, h1, rfl⟩ := u17 hls h
  exact ct_of mixed gl_flat (sg := ⟨[.agg [.i .u8, .i .u8]], [.agg [.i .i64, .i .i64]]⟩) rfl (by kernel_rfl) h1
end Go.Am

/-
  RULES ON TRUTH VALUES.
-/
namespace Go.Am
open Sx Go.Proofs
theorem b_tt {l : List (Lf × Lf)} {K : Bool → Prop} : P1.eqs ((.b true, .b true) :: l) (@hid _ ⟨K⟩) = P1.eqs l (@hid _ ⟨K⟩) := rfl
theorem b_ff {l : List (Lf × Lf)} {K : Bool → Prop} : P1.eqs ((.b false, .b false) :: l) (@hid _ ⟨K⟩) = P1.eqs l (@hid _ ⟨K⟩) := rfl
theorem b_nt {X Y : Prop} : P1.cond (!true) X (@hid _ ⟨Y⟩) = Y := b_cond_f
theorem b_nf {X Y : Prop} : P1.cond (!false) (@hid _ ⟨X⟩) Y = X := b_cond_t
/-- These, in one. -/
def qxb := And.intro @b_tt (And.intro @b_ff (And.intro @b_nt @b_nf))
end Go.Am

/-
  CONTRACTS, BY PROGRAM: sheets.
-/
set_option maxRecDepth 100000
set_option maxHeartbeats 4000000
namespace Go.Am
open Sx Go.Proofs

theorem ofW {a b w v : Int} (h : 0 ≤ a ∧ a ≤ 255 ∧ 0 ≤ b ∧ b ≤ 255 ∧ w = 1 + a % 5 ∧ v = 1 + b % 5) : Cc 17 [.i a, .i b] [.i w, .i v] := by
  refine q17 rfl ?_; unfold p17
  repeat (first | simp (disch := omega) only [↓qxs, ↓qxc, ↓qxa])
  (try simp only [List.cons.injEq, Lf.i.injEq, and_true, true_and]); (try omega)
end Go.Am
/-
  CLOSED FUNCTIONS THAT THE KERNEL RUNS: their contracts.
-/
set_option maxRecDepth 100000
namespace Go.Am
open Sx Go.Proofs

/-- A closed function that a run shows to say true. -/
theorem ran {g : FuncId} {n : Nat} (hs : sgTab g = some ⟨[], [lb]⟩) (h : runR [] n (.f g) [] .empty isT = yes) : Cc g [] [.b true] := by
  obtain ⟨H', h1⟩ := closed_true (run_ok [] (fun _ h => by cases h) n) hs h
  intro H
  refine ⟨⟨[], [lb]⟩, [], [.leaf (.b true)], hs, ⟨rfl, rfl, fun _ h => by cases h⟩, ⟨rfl, rfl, fun x hx => ?_⟩, ⟨0, fun H => frame_ok gl_flat (uCallC_ok mixed h1) rfl rfl H, rfl⟩⟩
  simp only [List.mem_singleton] at hx
  subst hx
  intro y hy
  simp only [S0.cells, List.mem_singleton] at hy
  subst hy; trivial
end Go.Am

/-
  The examples of chapter 5.
-/
set_option maxRecDepth 100000
namespace Go.Am
open Sx Go.Proofs
theorem lives5 : Cc 21 [] [.b true] := ran (n := 60) rfl (by kernel_rfl)
end Go.Am

/-
  ARGUMENTS WITHOUT ADDRESSES, as the row reads them.
-/
namespace Go.Am
namespace Sx
open Go.ChangeShapes Go.WideShapes Go.ChangeAt Go.WideMaps Go.WideElems Go.RowKit

/-- The cells are of these kinds, in their ranges. -/
def FitC : List LK → List Value → Prop
  | [], [] => True
  | .i k :: ks, v :: vs => (∃ n, v = .int k n ∧ (Lit.int k n).wf = true) ∧ FitC ks vs
  | .b :: ks, v :: vs => (∃ t, v = .bool t) ∧ FitC ks vs
  | _, _ => False
/-- The leaves are of these kinds, in their ranges. -/
def FitL : List LK → List Lf → Prop
  | [], [] => True
  | .i k :: ks, .i n :: ls => (Lit.int k n).wf = true ∧ FitL ks ls
  | .b :: ks, .b _ :: ls => FitL ks ls
  | _, _ => False

theorem FitC.len : ∀ {ks : List LK} {vs : List Value}, FitC ks vs → vs.length = ks.length
  | [], [], _ => rfl
  | .i k :: ks, v :: vs, h => by simp [FitC.len h.2]
  | .b :: ks, v :: vs, h => by simp [FitC.len h.2]
  | .v :: _, _, h => by cases h
  | [], _ :: _, h => by cases h
  | .i _ :: _, [], h => by cases h
  | .b :: _, [], h => by cases h
theorem FitC.app : ∀ {ks ks' : List LK} {vs vs' : List Value}, FitC ks vs → FitC ks' vs' → FitC (ks ++ ks') (vs ++ vs')
  | [], _, [], _, _, h => h
  | .i k :: ks, _, v :: vs, _, h, h' => ⟨h.1, FitC.app h.2 h'⟩
  | .b :: ks, _, v :: vs, _, h, h' => ⟨h.1, FitC.app h.2 h'⟩
  | .v :: _, _, _, _, h, _ => by cases h
  | [], _, _ :: _, _, h, _ => by cases h
  | .i _ :: _, _, [], _, h, _ => by cases h
  | .b :: _, _, [], _, h, _ => by cases h
theorem FitL.app : ∀ {ks ks' : List LK} {vs vs' : List Lf}, FitL ks vs → FitL ks' vs' → FitL (ks ++ ks') (vs ++ vs')
  | [], _, [], _, _, h => h
  | .i k :: ks, _, .i v :: vs, _, h, h' => ⟨h.1, FitL.app h.2 h'⟩
  | .b :: ks, _, .b v :: vs, _, h, h' => FitL.app (ks := ks) h h'
  | .v :: _, _, _, _, h, _ => by cases h
  | [], _, _ :: _, _, h, _ => by cases h
  | .i _ :: _, _, [], _, h, _ => by cases h
  | .b :: _, _, [], _, h, _ => by cases h
  | .i _ :: _, _, .b _ :: _, _, h, _ => by cases h
  | .i _ :: _, _, .v _ :: _, _, h, _ => by cases h
  | .b :: _, _, .i _ :: _, _, h, _ => by cases h
  | .b :: _, _, .v _ :: _, _, h, _ => by cases h
/-- Cells as leaves. -/
theorem FitC.sl : ∀ {ks : List LK} {vs : List Value}, FitC ks vs → ∃ xs : List SL, xs.map SL.val = vs ∧ allIs xs ks = true ∧ (∀ x ∈ xs, x.good) ∧ FitL ks (xs.map SL.lf)
  | [], [], _ => ⟨[], rfl, rfl, fun _ h => (by cases h), trivial⟩
  | .i k :: ks, v :: vs, h => by
    obtain ⟨⟨n, rfl, hw⟩, h2⟩ := h
    obtain ⟨xs, a, b, c, d⟩ := FitC.sl h2
    exact ⟨.i k n :: xs, by simp [a, SL.val], by simp [allIs, b, SL.is, kSame_self], fun x hx => by
      rcases List.mem_cons.1 hx with rfl | hx
      · trivial
      · exact c x hx, hw, d⟩
  | .b :: ks, v :: vs, h => by
    obtain ⟨⟨n, rfl⟩, h2⟩ := h
    obtain ⟨xs, a, b, c, d⟩ := FitC.sl h2
    exact ⟨.b n :: xs, by simp [a, SL.val], by simp [allIs, b, SL.is], fun x hx => by
      rcases List.mem_cons.1 hx with rfl | hx
      · trivial
      · exact c x hx, d⟩
  | .v :: _, _, h => by cases h
  | [], _ :: _, h => by cases h
  | .i _ :: _, [], h => by cases h
  | .b :: _, [], h => by cases h

/-- The kinds of the cells of a type of numbers, truth values and structs. -/
def flatF (F : TypeId → Option (List LK)) : List Field → Nat → Option (List LK)
  | [], _ => some []
  | f :: fs, off => match Nat.beq f.offset off, F f.type with
    | true, some ks => (flatF F fs (off + ks.length)).map (ks ++ ·)
    | _, _ => none
def flatT (P : Program) : Nat → TypeId → Option (List LK)
  | 0, _ => none
  | d + 1, t => match P.underlying t with
    | some (.int k) => some [.i k]
    | some .bool => some [.b]
    | some (.struct fs) => match flatF (flatT P d) fs.toList 0 with
      | some ks => match Nat.beq ks.length (P.cellsOf t) with
        | true => some ks
        | false => none
      | none => none
    | _ => none
def skT (P : Program) (t : TypeId) : Option SK :=
  match P.underlying t with
  | some (.int k) => some (.leaf (.i k))
  | some .bool => some (.leaf .b)
  | some (.struct _) => (flatT P 20 t).map .agg
  | _ => none

section
variable {H : Type} {enc : TypeId × Value → H} {P : Program}

theorem take_take_len {α : Type} (l : List α) (c : Nat) : l.take (l.take c).length = l.take c := by
  rw [List.length_take]
  rcases Nat.le_total c l.length with h | h
  · rw [Nat.min_eq_left h]
  · rw [Nat.min_eq_right h, List.take_of_length_le h, List.take_of_length_le (Nat.le_refl _)]

theorem flatF_ok {F : TypeId → Option (List LK)} {w : World} {base : Nat} {sp : Nat → Bool} {held : Bool} {fuel : Nat}
    (hF : ∀ t ks, F t = some ks → ∀ cs (x : DataW H × List MemPlace), DataW.trod enc P w base sp held fuel t cs = some x → x.2 = [] ∧ FitC ks cs ∧ ∀ w' b' s' h', DataW.trod enc P w' b' s' h' fuel t cs = some x) (cs : List Value) :
    ∀ (fs : List Field) (off : Nat) (ks : List LK) (xs : List (DataW H × List MemPlace)), flatF F fs off = some ks → fs.mapM (fun f => DataW.trod enc P w base sp held fuel f.type ((cs.drop f.offset).take (P.cellsOf f.type))) = some xs →
      xs.flatMap (·.2) = [] ∧ FitC ks ((cs.drop off).take ks.length) ∧ ∀ w' b' s' h', fs.mapM (fun f => DataW.trod enc P w' b' s' h' fuel f.type ((cs.drop f.offset).take (P.cellsOf f.type))) = some xs
  | [], off, ks, xs, h1, h2 => by
    simp only [flatF, Option.some.injEq] at h1
    subst h1
    simp only [List.mapM_nil, Option.pure_def, Option.some.injEq] at h2
    subst h2
    refine ⟨rfl, by simp [FitC], fun _ _ _ _ => by simp⟩
  | f :: fs, off, ks, xs, h1, h2 => by
    simp only [flatF] at h1
    split at h1
    · rename_i k1 e1 e2
      obtain ⟨k2, e3, rfl⟩ := Option.map_eq_some_iff.1 h1
      have e1 := Nat.eq_of_beq_eq_true e1
      rw [List.mapM_cons] at h2
      obtain ⟨x, h3, h2⟩ := Option.bind_eq_some_iff.1 h2
      obtain ⟨ys, h4, h2⟩ := Option.bind_eq_some_iff.1 h2
      cases h2
      obtain ⟨a1, a2, a3⟩ := hF _ _ e2 _ _ h3
      obtain ⟨b1, b2, b3⟩ := flatF_ok hF cs fs _ k2 ys e3 h4
      refine ⟨by simp [a1, b1], ?_, fun w' b' s' h' => ?_⟩
      · rw [List.length_append, List.take_add]
        refine FitC.app ?_ (by rw [List.drop_drop]; exact b2)
        have hl := FitC.len a2
        rw [e1] at a2 hl
        rw [← hl, take_take_len]
        exact a2
      · rw [List.mapM_cons, a3 w' b' s' h', b3 w' b' s' h']
        rfl
    · cases h1

theorem flatT_ok : ∀ (d : Nat) (t : TypeId) (ks : List LK), flatT P d t = some ks → ∀ (w : World) (base : Nat) (sp : Nat → Bool) (held : Bool) (fuel : Nat) (cs : List Value) (x : DataW H × List MemPlace), DataW.trod enc P w base sp held fuel t cs = some x →
    x.2 = [] ∧ FitC ks cs ∧ ∀ w' b' s' h', DataW.trod enc P w' b' s' h' fuel t cs = some x
  | 0, _, _, h => by cases h
  | d + 1, t, ks, h => by
    intro w base sp held fuel cs x hx
    simp only [flatT] at h
    split at h
    · rename_i k e
      cases h
      obtain ⟨n, rfl, rfl, hw⟩ := DataW.trod_int e hx
      refine ⟨rfl, ⟨⟨n, rfl, hw⟩, trivial⟩, fun w' b' s' h' => ?_⟩
      cases fuel with
      | zero => simp [DataW.trod] at hx
      | succ m => simp [DataW.trod, e, hw]
    · rename_i e
      cases h
      obtain ⟨n, rfl, rfl⟩ := DataW.trod_bool e hx
      refine ⟨rfl, ⟨⟨n, rfl⟩, trivial⟩, fun w' b' s' h' => ?_⟩
      cases fuel with
      | zero => simp [DataW.trod] at hx
      | succ m => simp [DataW.trod, e]
    · rename_i fs e
      split at h
      · rename_i k2 e2
        split at h
        · rename_i e3
          cases h
          have e3 := Nat.eq_of_beq_eq_true e3
          cases fuel with
          | zero => simp [DataW.trod] at hx
          | succ m =>
            simp only [DataW.trod, e] at hx
            split at hx
            · rename_i hl
              obtain ⟨xs, h5, rfl⟩ := Option.map_eq_some_iff.1 hx
              obtain ⟨a1, a2, a3⟩ := flatF_ok (fun t ks h cs x hx => flatT_ok d t ks h w base sp held m cs x hx) cs fs.toList 0 ks xs e2 h5
              rw [List.drop_zero, List.take_of_length_le (by omega)] at a2
              refine ⟨a1, a2, fun w' b' s' h' => ?_⟩
              simp only [DataW.trod, e, hl, if_true]
              rw [a3 w' b' s' h']
              rfl
            · cases hx
        · cases h
      · cases h
    · cases h

theorem open_flat {w : World} {r : Reach} {b0 base : Nat} {sp : Nat → Bool} {held : Bool} {t : TypeId} {sk : SK} {v : Value} {d : DataW H} {ps : List MemPlace} (h : skT P t = some sk) (hval : Value.okWide P w r b0 t v) (hd : DataW.Trod enc P w base sp held t v d ps) :
    ∃ x : S0, v = x.val ∧ x.is sk = true ∧ x.good ∧ FitL (skKs sk) (x.cells.map SL.lf) ∧ ps = [] ∧ ∀ w' b' s' h', DataW.Trod enc P w' b' s' h' t v d [] := by
  unfold skT at h
  split at h
  · rename_i k e
    cases h
    obtain ⟨n, rfl, rfl, rfl, hw⟩ := open_int e hval hd
    refine ⟨.leaf (.i k n), rfl, by simp [S0.is, SL.is, kSame_self], fun x hx => ?_, ⟨hw, trivial⟩, rfl, fun w' b' s' h' => shut_int e hw⟩
    simp only [S0.cells, List.mem_singleton] at hx
    subst hx; trivial
  · rename_i e
    cases h
    obtain ⟨n, rfl, rfl, rfl⟩ := open_bool e hval hd
    refine ⟨.leaf (.b n), rfl, rfl, fun x hx => ?_, trivial, rfl, fun w' b' s' h' => shut_bool e n⟩
    simp only [S0.cells, List.mem_singleton] at hx
    subst hx; trivial
  · rename_i fs e
    obtain ⟨ks, e2, rfl⟩ := Option.map_eq_some_iff.1 h
    obtain ⟨cs, rfl, hc⟩ := okWide_struct e hval
    obtain ⟨fuel, hf⟩ := hd
    obtain ⟨a1, a2, a3⟩ := flatT_ok 20 t ks e2 w base sp held fuel _ _ hf
    obtain ⟨xs, b1, b2, b3, b4⟩ := FitC.sl a2
    have a1 : ps = [] := a1
    subst a1
    refine ⟨.agg xs, ?_, b2, b3, b4, rfl, fun w' b' s' h' => ⟨fuel, a3 w' b' s' h'⟩⟩
    show Value.agg cs = .agg ⟨xs.map SL.val⟩
    rw [b1]
    rfl
  · cases h

def skTs (P : Program) : List TypeId → Option (List SK)
  | [] => some []
  | t :: ts => match skT P t, skTs P ts with
    | some k, some ks => some (k :: ks)
    | _, _ => none

theorem open_args {w : World} {b0 base : Nat} {r : Reach} {sp : Nat → Bool} {held : Bool} : ∀ (ts : List TypeId) (sks : List SK) (vs : List Value) (ds : List (DataW H)) (ps : List MemPlace), skTs P ts = some sks →
    (∀ (j : Nat) t v, ts[j]? = some t → vs[j]? = some v → Value.okWide P w r b0 t v) → DataW.TrodAll enc P w base sp held ts vs ds ps →
    ∃ xs : List S0, vs = valsOf xs ∧ areIs xs sks = true ∧ (∀ x ∈ xs, x.good) ∧ FitL (sks.flatMap skKs) (lfsOf xs) ∧ ps = [] ∧ ∀ w' b' s' h', DataW.TrodAll enc P w' b' s' h' ts vs ds []
  | [], sks, [], [], ps, h, _, ht => by
    cases h
    have ht : ps = [] := ht
    exact ⟨[], rfl, rfl, fun _ h => (by cases h), trivial, ht, fun _ _ _ _ => rfl⟩
  | t :: ts, sks, v :: vs, d :: ds, ps, h, hv, ht => by
    simp only [skTs] at h
    split at h
    · rename_i k ks e1 e2
      cases h
      obtain ⟨p, q, h1, h2, rfl⟩ := ht
      obtain ⟨x, a1, a2, a3, a4, rfl, a6⟩ := open_flat e1 (hv 0 t v rfl rfl) h1
      obtain ⟨xs, b1, b2, b3, b4, rfl, b6⟩ := open_args ts ks vs ds q e2 (fun j t v h1 h2 => hv (j + 1) t v h1 h2) h2
      refine ⟨x :: xs, by rw [a1, b1]; rfl, by simp [areIs, a2, b2], fun y hy => ?_, ?_, rfl, fun w' b' s' h' => ⟨[], [], a6 w' b' s' h', b6 w' b' s' h', rfl⟩⟩
      · rcases List.mem_cons.1 hy with rfl | hy
        · exact a3
        · exact b3 y hy
      · exact FitL.app a4 b4
    · cases h
  | [], _, _ :: _, _, _, _, _, ht => by cases ht
  | [], _, [], _ :: _, _, _, _, ht => by cases ht
  | _ :: _, _, [], _, _, _, _, ht => by cases ht
  | _ :: _, _, _ :: _, [], _, _, _, ht => by cases ht
end

section
variable [Val]
/-- A contract, as a call. -/
theorem callok_of_ct {C : Cfg} {Sg : FuncId → Option Sig} (hm : C.P.follows .mixedOrders = true) {g : FuncId} {sg : Sig} (hs : Sg g = some sg) {ls rs : List Lf} (hc : Ct C Sg g ls rs) {xs ys : List S0} (h1 : areIs xs sg.ps = true) (h2 : lfsOf xs = ls) (h3 : areIs ys sg.rs = true) (h4 : lfsOf ys = rs) (H : List HObj) :
    CallOk C g (valsOf xs) H (packA (valsOf ys)) H := by
  let _ : Kno := KnoC C
  obtain ⟨sg', xs', ys', c1, c2, c3, c4⟩ := hc H
  rw [hs] at c1
  cases c1
  obtain ⟨w1, _⟩ := areIs_val c2.1 h1 (c2.2.1.trans h2.symm)
  obtain ⟨w2, _⟩ := areIs_val c3.1 h3 (c3.2.1.trans h4.symm)
  rw [w1, w2] at c4
  exact uCallC_ok hm c4
end
end Sx
end Go.Am
namespace Go.Am
namespace Sx
theorem FitL.i {k : IntKind} {ks : List LK} {ls : List Lf} (h : FitL (.i k :: ks) ls) : ∃ n r, ls = .i n :: r ∧ (Lit.int k n).wf = true ∧ FitL ks r := by
  match ls, h with
  | .i n :: r, h => exact ⟨n, r, rfl, h.1, h.2⟩
theorem FitL.b {ks : List LK} {ls : List Lf} (h : FitL (.b :: ks) ls) : ∃ n r, ls = .b n :: r ∧ FitL ks r := by
  match ls, h with
  | .b n :: r, h => exact ⟨n, r, rfl, h⟩
theorem FitL.nil {ls : List Lf} (h : FitL [] ls) : ls = [] := by
  match ls, h with
  | [], _ => rfl
theorem wf_i64 {n : Int} (h : (Lit.int .i64 n).wf = true) : -9223372036854775808 ≤ n ∧ n ≤ 9223372036854775807 := by
  simp only [Lit.wf, Bool.and_eq_true, decide_eq_true_eq] at h
  exact h
theorem wf_u8 {n : Int} (h : (Lit.int .u8 n).wf = true) : 0 ≤ n ∧ n ≤ 255 := by
  simp only [Lit.wf, Bool.and_eq_true, decide_eq_true_eq] at h
  exact h
theorem wf_i8 {n : Int} (h : (Lit.int .i8 n).wf = true) : -128 ≤ n ∧ n ≤ 127 := by
  simp only [Lit.wf, Bool.and_eq_true, decide_eq_true_eq] at h
  exact h
theorem trodAll_len {H : Type} {enc : TypeId × Value → H} {P : Program} {w : World} {base : Nat} {sp : Nat → Bool} {held : Bool} : ∀ {ts : List TypeId} {vs : List Value} {ds : List (DataW H)} {ps : List MemPlace}, DataW.TrodAll enc P w base sp held ts vs ds ps → ds.length = ts.length
  | [], [], [], _, _ => rfl
  | _ :: _, _ :: _, _ :: _, _, h => by
    obtain ⟨p, q, _, h2, _⟩ := h
    simp [trodAll_len h2]
  | [], _ :: _, _, _, h => by cases h
  | [], [], _ :: _, _, h => by cases h
  | _ :: _, [], _, _, h => by cases h
  | _ :: _, _ :: _, [], _, h => by cases h
end Sx
end Go.Am

/-
  CONTRACTS, BY PROGRAM: runs that take the examples as known.
-/
set_option maxRecDepth 100000
set_option maxHeartbeats 4000000
namespace Go.Am
open Sx Go.Proofs
theorem kn21 (H : List HObj) : CallOk cc 21 [] H (.bool true) H := callok_of_ct mixed (Sg := sgTab) (sg := ⟨[], [lb]⟩) rfl lives5 (xs := []) rfl rfl (ys := [.leaf (.b true)]) rfl rfl H
/-- Runs that take the examples as known. -/
noncomputable abbrev run5 : CallB := runR [(21, true)] 60
theorem hc5 : CallBOk cc sgTab siteTab run5 := run_ok _ (fun p hp => by
  simp only [List.mem_singleton] at hp
  subst hp
  exact ⟨by kernel_rfl, kn21⟩) 60
theorem isT_le : KLe isT (fun rs _ => rs = [.b true]) := by
  intro ls h hk
  match ls, hk with
  | [.b true], _ => rfl
  | [.b false], hk => cases (show (none : RT) = yes from hk)
theorem mem_nat {f : Nat → Bool} {n : Nat} (h : (List.range n).all f = true) {i : Int} (h0 : 0 ≤ i) (h1 : i < n) : ∃ k : Nat, i = .ofNat k ∧ f k = true := by
  obtain ⟨k, rfl⟩ := Int.eq_ofNat_of_zero_le h0
  exact ⟨k, rfl, List.all_eq_true.1 h k (List.mem_range.2 (by omega))⟩
end Go.Am

/-
  PARTS OF FUNCTIONS, BY PROGRAM: what a run of them shows, holds.
-/
set_option maxRecDepth 100000
namespace Go.Am
open Sx Go.Proofs
section
variable {R HT : Type} (A : Alg R HT)

noncomputable def ft4 (l10 : List Lf) (h11 : HT) (K : List Lf → HT → R) : R := A.unI l10 (fun n12 l13 => A.unI l13 (fun n14 l15 => A.un0 l15 ( A.call 23 [(.i n12), (.i n14)] h11 (fun l16 h17 => A.unV l16 (fun x18 l19 => A.unI l19 (fun n20 l21 => A.un0 l21 ( A.call 24 [(.i n12), (.i n14)] h17 (fun l22 h23 => A.unV l22 (fun x24 l25 => A.un0 l25 ( A.cmp .neq n20 (.ofNat 0) (fun t26 => A.cond t26 ( K [(.b false)] h23) ( A.opt (lenS x18) (fun x27 => A.opt (lenS x24) (fun x28 => A.cmp .neq x27 x28 (fun t29 => A.cond t29 ( K [(.b false)] h23) ( A.opt (capS x18) (fun x30 => A.opt (lenS x18) (fun x31 => A.cmp .neq x30 x31 (fun t32 => A.cond t32 ( K [(.b false)] h23) ( A.opt (lenS x18) (fun x33 => A.ari .mul .i64 (.ofNat 6) n12 (fun n34 => A.ari .mul .i64 n34 n14 (fun n35 => A.ari .sub .i64 n35 n12 (fun n36 => A.ari .sub .i64 n36 n14 (fun n37 => A.cmp .neq x33 n37 (fun t38 => A.cond t38 ( K [(.b false)] h23) ( A.new (.map [] 0) h23 (fun m39 h40 => A.loop (fun s41 l42 h43 => A.unI l42 (fun n44 l45 => A.un0 l45 ( A.opt (lenS x18) (fun x46 => A.cmp .lss n44 x46 (fun t47 => A.cond t47 ( A.opt (idS 2 x18 n44) (fun x48 => A.peek (.ld 2 x48) h43 (fun l49 => A.ucI .i64 l49 (fun n50 l51 => A.ucI .u8 l51 (fun n52 l53 => A.uc0 l53 ( A.call 25 [(.i n12), (.i n14), (.i n50), (.i n52)] h43 (fun l54 h55 => A.unI l54 (fun n56 l57 => A.unI l57 (fun n58 l59 => A.unI l59 (fun n60 l61 => A.unI l61 (fun n62 l63 => A.unI l63 (fun n64 l65 => A.un0 l65 ( A.opt (idS 2 x18 n44) (fun x66 => A.peek (.ld 2 x66) h55 (fun l67 => A.ucI .i64 l67 (fun n68 l69 => A.ucI .u8 l69 (fun n70 l71 => A.uc0 l71 ( A.call 26 [(.i n12), (.i n14), (.i n68), (.i n70)] h55 (fun l72 h73 => A.unI l72 (fun n74 l75 => A.unI l75 (fun n76 l77 => A.unI l77 (fun n78 l79 => A.un0 l79 ( A.opt (idS 2 x18 n44) (fun x80 => A.peek (.ld 2 x80) h73 (fun l81 => A.ucI .i64 l81 (fun n82 l83 => A.ucI .u8 l83 (fun n84 l85 => A.uc0 l85 ( A.opt (idS 2 x24 n44) (fun x86 => A.peek (.ld 2 x86) h73 (fun l87 => A.ucI .i64 l87 (fun n88 l89 => A.ucI .u8 l89 (fun n90 l91 => A.uc0 l91 ( A.eqs [((.i n82), (.i n88)), ((.i n84), (.i n90))] (fun t92 => A.cond (!t92) ( K [(.b false)] h73) ( A.cmp .neq n64 (.ofNat 0) (fun t93 => A.cond t93 ( K [(.b false)] h73) ( A.cmp .neq n78 (.ofNat 0) (fun t94 => A.cond t94 ( K [(.b false)] h73) ( A.opt (idS 2 x18 n44) (fun x95 => A.peek (.ld 2 x95) h73 (fun l96 => A.ucI .i64 l96 (fun n97 l98 => A.ucI .u8 l98 (fun n99 l100 => A.uc0 l100 ( A.call 27 [(.i n12), (.i n14), (.i n97), (.i n99)] h73 (fun l101 h102 => A.unI l101 (fun n103 l104 => A.unI l104 (fun n105 l106 => A.unI l106 (fun n107 l108 => A.unI l108 (fun n109 l110 => A.un0 l110 ( A.eqs [((.i n56), (.i n103)), ((.i n58), (.i n105)), ((.i n60), (.i n107)), ((.i n62), (.i n109))] (fun t111 => A.cond (!t111) ( K [(.b false)] h102) ( A.call 28 [(.i n74), (.i n76), (.i n56), (.i n58)] h102 (fun l112 h113 => A.unI l112 (fun n114 l115 => A.un0 l115 ( A.cmp .neq n114 (.ofNat 0) (fun t116 => A.cond t116 ( K [(.b false)] h113) ( A.call 28 [(.i n74), (.i n76), (.i n60), (.i n62)] h113 (fun l117 h118 => A.unI l117 (fun n119 l120 => A.un0 l120 ( A.cmp .neq n119 (.ofNat 0) (fun t121 => A.cond t121 ( K [(.b false)] h118) ( A.peek (.fn (luG cc 44 false (.int .i64 (.ofNat 0)) (.map (some m39)) (.agg ⟨[(.int .i64 n56), (.int .i64 n58)]⟩) false)) h118 (fun l122 => A.ucI .i64 l122 (fun n123 l124 => A.uc0 l124 ( A.ari .add .i64 n123 (.ofNat 1) (fun n125 => A.heap (.fn (meG cc 44 false (.int .i64 (.ofNat 0)) (.map (some m39)) (.agg ⟨[(.int .i64 n56), (.int .i64 n58)]⟩))) h118 (fun l126 h127 => A.ucI .i64 l126 (fun n128 l129 => A.ucI .i64 l129 (fun n130 l131 => A.uc0 l131 ( A.heap (.fn (esG (.map (some m39)) n130 (.int .i64 n125))) h127 (fun l132 h133 => A.peek (.fn (luG cc 44 false (.int .i64 (.ofNat 0)) (.map (some m39)) (.agg ⟨[(.int .i64 n60), (.int .i64 n62)]⟩) false)) h133 (fun l134 => A.ucI .i64 l134 (fun n135 l136 => A.uc0 l136 ( A.ari .add .i64 n135 (.ofNat 1) (fun n137 => A.heap (.fn (meG cc 44 false (.int .i64 (.ofNat 0)) (.map (some m39)) (.agg ⟨[(.int .i64 n60), (.int .i64 n62)]⟩))) h133 (fun l138 h139 => A.ucI .i64 l138 (fun n140 l141 => A.ucI .i64 l141 (fun n142 l143 => A.uc0 l143 ( A.heap (.fn (esG (.map (some m39)) n142 (.int .i64 n137))) h139 (fun l144 h145 => A.ari .add .i64 n44 (.ofNat 1) (fun n146 => s41 [(.i n146)] h145))))))))))))))))))))))))))))))))))))))))))))))))))))))))))))))))))))))))))))))))) ( A.call 29 [(.i n12), (.i n14)] h43 (fun l147 h148 => A.unV l147 (fun x149 l150 => A.unI l150 (fun n151 l152 => A.un0 l152 ( A.loop (fun s153 l154 h155 => A.unI l154 (fun n156 l157 => A.unI l157 (fun n158 l159 => A.un0 l159 ( A.ari .mul .i64 (.ofNat 2) n14 (fun n160 => A.cmp .leq n158 n160 (fun t161 => A.cond t161 ( A.loop (fun s162 l163 h164 => A.unI l163 (fun n165 l166 => A.unI l166 (fun n167 l168 => A.un0 l168 ( A.ari .mul .i64 (.ofNat 2) n12 (fun n169 => A.cmp .leq n167 n169 (fun t170 => A.cond t170 ( A.join (fun l171 h172 => A.unI l171 (fun n173 l174 => A.un0 l174 ( A.ari .add .i64 n167 (.ofNat 1) (fun n175 => s162 [(.i n173), (.i n175)] h172)))) (fun j176 => A.join (fun l177 h178 => A.unB l177 (fun t179 l180 => A.un0 l180 ( A.cond (!t179) ( j176 [(.i n165)] h178) ( A.ari .rem .i64 n167 (.ofNat 2) (fun n181 => A.cmp .eql n181 (.ofNat 1) (fun t182 => A.join (fun l183 h184 => A.unI l183 (fun n185 l186 => A.un0 l186 ( A.opt (lenS x149) (fun x187 => A.cmp .geq n165 x187 (fun t188 => A.cond t188 ( K [(.b false)] h184) ( A.opt (idS 2 x149 n165) (fun x189 => A.peek (.ld 2 x189) h184 (fun l190 => A.ucI .i64 l190 (fun n191 l192 => A.ucI .i64 l192 (fun n193 l194 => A.uc0 l194 ( A.eqs [((.i n191), (.i n167)), ((.i n193), (.i n158))] (fun t195 => A.cond (!t195) ( K [(.b false)] h184) ( A.opt (idS 2 x149 n165) (fun x196 => A.peek (.ld 2 x196) h184 (fun l197 => A.ucI .i64 l197 (fun n198 l199 => A.ucI .i64 l199 (fun n200 l201 => A.uc0 l201 ( A.peek (.fn (luG cc 44 false (.int .i64 (.ofNat 0)) (.map (some m39)) (.agg ⟨[(.int .i64 n198), (.int .i64 n200)]⟩) false)) h184 (fun l202 => A.ucI .i64 l202 (fun n203 l204 => A.uc0 l204 ( A.cmp .neq n203 n185 (fun t205 => A.cond t205 ( K [(.b false)] h184) ( A.ari .add .i64 n165 (.ofNat 1) (fun n206 => j176 [(.i n206)] h184)))))))))))))))))))))))) (fun j207 => A.cond t182 ( j207 [(.i (.ofNat 4))] h178) ( j207 [(.i (.ofNat 8))] h178)))))))) (fun j208 => A.cmp .gtr n167 (.ofNat 0) (fun t209 => A.cond t209 ( A.cmp .gtr n158 (.ofNat 0) (fun t210 => A.cond t210 ( A.ari .mul .i64 (.ofNat 2) n12 (fun n211 => A.cmp .lss n167 n211 (fun t212 => A.cond t212 ( A.ari .mul .i64 (.ofNat 2) n14 (fun n213 => A.cmp .lss n158 n213 (fun t214 => A.cond t214 ( A.ari .add .i64 n167 n158 (fun n215 => A.ari .rem .i64 n215 (.ofNat 2) (fun n216 => A.cmp .eql n216 (.ofNat 0) (fun t217 => j208 [(.b t217)] h164)))) ( j208 [(.b false)] h164)))) ( j208 [(.b false)] h164)))) ( j208 [(.b false)] h164))) ( j208 [(.b false)] h164))))) ( A.ari .add .i64 n158 (.ofNat 1) (fun n218 => s153 [(.i n165), (.i n218)] h164)))))))) [(.i n156), (.i (.ofNat 0))] h155) ( A.join (fun l219 h220 => A.unB l219 (fun t221 l222 => A.un0 l222 ( K [(.b t221)] h220))) (fun j223 => A.cmp .eql n151 (.ofNat 0) (fun t224 => A.cond t224 ( A.opt (lenS x149) (fun x225 => A.cmp .eql n156 x225 (fun t226 => A.cond t226 ( A.opt (capS x149) (fun x227 => A.cmp .eql x227 n156 (fun t228 => A.cond t228 ( A.call 21 [] h155 (fun l229 h230 => A.unB l229 (fun t231 l232 => A.un0 l232 ( j223 [(.b t231)] h230)))) ( j223 [(.b false)] h155)))) ( j223 [(.b false)] h155)))) ( j223 [(.b false)] h155)))))))))) [(.i (.ofNat 0)), (.i (.ofNat 0))] h148)))))))))) [(.i (.ofNat 0))] h40))))))))))))))))))))))))))))

end

def pt4 (A : Alg Prop HL) (l10 : List Lf) (h11 : HL) (K : List Lf → HL → Prop) : Prop := A.unI l10 (@hid _ ⟨fun n12 l13 => A.unI l13 (@hid _ ⟨fun n14 l15 => A.un0 l15 (@hid _ ⟨A.call 23 [(.i n12), (.i n14)] h11 (@hid _ ⟨fun l16 h17 => A.unV l16 (@hid _ ⟨fun x18 l19 => A.unI l19 (@hid _ ⟨fun n20 l21 => A.un0 l21 (@hid _ ⟨A.call 24 [(.i n12), (.i n14)] h17 (@hid _ ⟨fun l22 h23 => A.unV l22 (@hid _ ⟨fun x24 l25 => A.un0 l25 (@hid _ ⟨A.cmp .neq n20 0 (@hid _ ⟨fun t26 => A.cond t26 (@hid _ ⟨K [(.b false)] h23⟩) (@hid _ ⟨A.opt (lenS x18) (@hid _ ⟨fun x27 => A.opt (lenS x24) (@hid _ ⟨fun x28 => A.cmp .neq x27 x28 (@hid _ ⟨fun t29 => A.cond t29 (@hid _ ⟨K [(.b false)] h23⟩) (@hid _ ⟨A.opt (capS x18) (@hid _ ⟨fun x30 => A.opt (lenS x18) (@hid _ ⟨fun x31 => A.cmp .neq x30 x31 (@hid _ ⟨fun t32 => A.cond t32 (@hid _ ⟨K [(.b false)] h23⟩) (@hid _ ⟨A.opt (lenS x18) (@hid _ ⟨fun x33 => A.ari .mul .i64 6 n12 (@hid _ ⟨fun n34 => A.ari .mul .i64 n34 n14 (@hid _ ⟨fun n35 => A.ari .sub .i64 n35 n12 (@hid _ ⟨fun n36 => A.ari .sub .i64 n36 n14 (@hid _ ⟨fun n37 => A.cmp .neq x33 n37 (@hid _ ⟨fun t38 => A.cond t38 (@hid _ ⟨K [(.b false)] h23⟩) (@hid _ ⟨A.new (.map [] 0) h23 (@hid _ ⟨fun m39 h40 => A.loop (@hid _ ⟨fun s41 l42 h43 => A.unI l42 (@hid _ ⟨fun n44 l45 => A.un0 l45 (@hid _ ⟨A.opt (lenS x18) (@hid _ ⟨fun x46 => A.cmp .lss n44 x46 (@hid _ ⟨fun t47 => A.cond t47 (@hid _ ⟨A.opt (idS 2 x18 n44) (@hid _ ⟨fun x48 => A.peek (.ld 2 x48) h43 (@hid _ ⟨fun l49 => A.ucI .i64 l49 (@hid _ ⟨fun n50 l51 => A.ucI .u8 l51 (@hid _ ⟨fun n52 l53 => A.uc0 l53 (@hid _ ⟨A.call 25 [(.i n12), (.i n14), (.i n50), (.i n52)] h43 (@hid _ ⟨fun l54 h55 => A.unI l54 (@hid _ ⟨fun n56 l57 => A.unI l57 (@hid _ ⟨fun n58 l59 => A.unI l59 (@hid _ ⟨fun n60 l61 => A.unI l61 (@hid _ ⟨fun n62 l63 => A.unI l63 (@hid _ ⟨fun n64 l65 => A.un0 l65 (@hid _ ⟨A.opt (idS 2 x18 n44) (@hid _ ⟨fun x66 => A.peek (.ld 2 x66) h55 (@hid _ ⟨fun l67 => A.ucI .i64 l67 (@hid _ ⟨fun n68 l69 => A.ucI .u8 l69 (@hid _ ⟨fun n70 l71 => A.uc0 l71 (@hid _ ⟨A.call 26 [(.i n12), (.i n14), (.i n68), (.i n70)] h55 (@hid _ ⟨fun l72 h73 => A.unI l72 (@hid _ ⟨fun n74 l75 => A.unI l75 (@hid _ ⟨fun n76 l77 => A.unI l77 (@hid _ ⟨fun n78 l79 => A.un0 l79 (@hid _ ⟨A.opt (idS 2 x18 n44) (@hid _ ⟨fun x80 => A.peek (.ld 2 x80) h73 (@hid _ ⟨fun l81 => A.ucI .i64 l81 (@hid _ ⟨fun n82 l83 => A.ucI .u8 l83 (@hid _ ⟨fun n84 l85 => A.uc0 l85 (@hid _ ⟨A.opt (idS 2 x24 n44) (@hid _ ⟨fun x86 => A.peek (.ld 2 x86) h73 (@hid _ ⟨fun l87 => A.ucI .i64 l87 (@hid _ ⟨fun n88 l89 => A.ucI .u8 l89 (@hid _ ⟨fun n90 l91 => A.uc0 l91 (@hid _ ⟨A.eqs [((.i n82), (.i n88)), ((.i n84), (.i n90))] (@hid _ ⟨fun t92 => A.cond (!t92) (@hid _ ⟨K [(.b false)] h73⟩) (@hid _ ⟨A.cmp .neq n64 0 (@hid _ ⟨fun t93 => A.cond t93 (@hid _ ⟨K [(.b false)] h73⟩) (@hid _ ⟨A.cmp .neq n78 0 (@hid _ ⟨fun t94 => A.cond t94 (@hid _ ⟨K [(.b false)] h73⟩) (@hid _ ⟨A.opt (idS 2 x18 n44) (@hid _ ⟨fun x95 => A.peek (.ld 2 x95) h73 (@hid _ ⟨fun l96 => A.ucI .i64 l96 (@hid _ ⟨fun n97 l98 => A.ucI .u8 l98 (@hid _ ⟨fun n99 l100 => A.uc0 l100 (@hid _ ⟨A.call 27 [(.i n12), (.i n14), (.i n97), (.i n99)] h73 (@hid _ ⟨fun l101 h102 => A.unI l101 (@hid _ ⟨fun n103 l104 => A.unI l104 (@hid _ ⟨fun n105 l106 => A.unI l106 (@hid _ ⟨fun n107 l108 => A.unI l108 (@hid _ ⟨fun n109 l110 => A.un0 l110 (@hid _ ⟨A.eqs [((.i n56), (.i n103)), ((.i n58), (.i n105)), ((.i n60), (.i n107)), ((.i n62), (.i n109))] (@hid _ ⟨fun t111 => A.cond (!t111) (@hid _ ⟨K [(.b false)] h102⟩) (@hid _ ⟨A.call 28 [(.i n74), (.i n76), (.i n56), (.i n58)] h102 (@hid _ ⟨fun l112 h113 => A.unI l112 (@hid _ ⟨fun n114 l115 => A.un0 l115 (@hid _ ⟨A.cmp .neq n114 0 (@hid _ ⟨fun t116 => A.cond t116 (@hid _ ⟨K [(.b false)] h113⟩) (@hid _ ⟨A.call 28 [(.i n74), (.i n76), (.i n60), (.i n62)] h113 (@hid _ ⟨fun l117 h118 => A.unI l117 (@hid _ ⟨fun n119 l120 => A.un0 l120 (@hid _ ⟨A.cmp .neq n119 0 (@hid _ ⟨fun t121 => A.cond t121 (@hid _ ⟨K [(.b false)] h118⟩) (@hid _ ⟨A.peek (.fn (luG cc 44 false (.int .i64 0) (.map (some m39)) (.agg ⟨[(.int .i64 n56), (.int .i64 n58)]⟩) false)) h118 (@hid _ ⟨fun l122 => A.ucI .i64 l122 (@hid _ ⟨fun n123 l124 => A.uc0 l124 (@hid _ ⟨A.ari .add .i64 n123 1 (@hid _ ⟨fun n125 => A.heap (.fn (meG cc 44 false (.int .i64 0) (.map (some m39)) (.agg ⟨[(.int .i64 n56), (.int .i64 n58)]⟩))) h118 (@hid _ ⟨fun l126 h127 => A.ucI .i64 l126 (@hid _ ⟨fun n128 l129 => A.ucI .i64 l129 (@hid _ ⟨fun n130 l131 => A.uc0 l131 (@hid _ ⟨A.heap (.fn (esG (.map (some m39)) n130 (.int .i64 n125))) h127 (@hid _ ⟨fun l132 h133 => A.peek (.fn (luG cc 44 false (.int .i64 0) (.map (some m39)) (.agg ⟨[(.int .i64 n60), (.int .i64 n62)]⟩) false)) h133 (@hid _ ⟨fun l134 => A.ucI .i64 l134 (@hid _ ⟨fun n135 l136 => A.uc0 l136 (@hid _ ⟨A.ari .add .i64 n135 1 (@hid _ ⟨fun n137 => A.heap (.fn (meG cc 44 false (.int .i64 0) (.map (some m39)) (.agg ⟨[(.int .i64 n60), (.int .i64 n62)]⟩))) h133 (@hid _ ⟨fun l138 h139 => A.ucI .i64 l138 (@hid _ ⟨fun n140 l141 => A.ucI .i64 l141 (@hid _ ⟨fun n142 l143 => A.uc0 l143 (@hid _ ⟨A.heap (.fn (esG (.map (some m39)) n142 (.int .i64 n137))) h139 (@hid _ ⟨fun l144 h145 => A.ari .add .i64 n44 1 (@hid _ ⟨fun n146 => s41 [(.i n146)] h145⟩)⟩)⟩)⟩)⟩)⟩)⟩)⟩)⟩)⟩)⟩)⟩)⟩)⟩)⟩)⟩)⟩)⟩)⟩)⟩)⟩)⟩)⟩)⟩)⟩)⟩)⟩)⟩)⟩)⟩)⟩)⟩)⟩)⟩)⟩)⟩)⟩)⟩)⟩)⟩)⟩)⟩)⟩)⟩)⟩)⟩)⟩)⟩)⟩)⟩)⟩)⟩)⟩)⟩)⟩)⟩)⟩)⟩)⟩)⟩)⟩)⟩)⟩)⟩)⟩)⟩)⟩)⟩)⟩)⟩)⟩)⟩)⟩)⟩)⟩)⟩)⟩)⟩)⟩)⟩)⟩) (@hid _ ⟨A.call 29 [(.i n12), (.i n14)] h43 (@hid _ ⟨fun l147 h148 => A.unV l147 (@hid _ ⟨fun x149 l150 => A.unI l150 (@hid _ ⟨fun n151 l152 => A.un0 l152 (@hid _ ⟨A.loop (@hid _ ⟨fun s153 l154 h155 => A.unI l154 (@hid _ ⟨fun n156 l157 => A.unI l157 (@hid _ ⟨fun n158 l159 => A.un0 l159 (@hid _ ⟨A.ari .mul .i64 2 n14 (@hid _ ⟨fun n160 => A.cmp .leq n158 n160 (@hid _ ⟨fun t161 => A.cond t161 (@hid _ ⟨A.loop (@hid _ ⟨fun s162 l163 h164 => A.unI l163 (@hid _ ⟨fun n165 l166 => A.unI l166 (@hid _ ⟨fun n167 l168 => A.un0 l168 (@hid _ ⟨A.ari .mul .i64 2 n12 (@hid _ ⟨fun n169 => A.cmp .leq n167 n169 (@hid _ ⟨fun t170 => A.cond t170 (@hid _ ⟨A.join (@hid _ ⟨fun l171 h172 => A.unI l171 (@hid _ ⟨fun n173 l174 => A.un0 l174 (@hid _ ⟨A.ari .add .i64 n167 1 (@hid _ ⟨fun n175 => s162 [(.i n173), (.i n175)] h172⟩)⟩)⟩)⟩) (@hid _ ⟨fun j176 => A.join (@hid _ ⟨fun l177 h178 => A.unB l177 (@hid _ ⟨fun t179 l180 => A.un0 l180 (@hid _ ⟨A.cond (!t179) (@hid _ ⟨j176 [(.i n165)] h178⟩) (@hid _ ⟨A.ari .rem .i64 n167 2 (@hid _ ⟨fun n181 => A.cmp .eql n181 1 (@hid _ ⟨fun t182 => A.join (@hid _ ⟨fun l183 h184 => A.unI l183 (@hid _ ⟨fun n185 l186 => A.un0 l186 (@hid _ ⟨A.opt (lenS x149) (@hid _ ⟨fun x187 => A.cmp .geq n165 x187 (@hid _ ⟨fun t188 => A.cond t188 (@hid _ ⟨K [(.b false)] h184⟩) (@hid _ ⟨A.opt (idS 2 x149 n165) (@hid _ ⟨fun x189 => A.peek (.ld 2 x189) h184 (@hid _ ⟨fun l190 => A.ucI .i64 l190 (@hid _ ⟨fun n191 l192 => A.ucI .i64 l192 (@hid _ ⟨fun n193 l194 => A.uc0 l194 (@hid _ ⟨A.eqs [((.i n191), (.i n167)), ((.i n193), (.i n158))] (@hid _ ⟨fun t195 => A.cond (!t195) (@hid _ ⟨K [(.b false)] h184⟩) (@hid _ ⟨A.opt (idS 2 x149 n165) (@hid _ ⟨fun x196 => A.peek (.ld 2 x196) h184 (@hid _ ⟨fun l197 => A.ucI .i64 l197 (@hid _ ⟨fun n198 l199 => A.ucI .i64 l199 (@hid _ ⟨fun n200 l201 => A.uc0 l201 (@hid _ ⟨A.peek (.fn (luG cc 44 false (.int .i64 0) (.map (some m39)) (.agg ⟨[(.int .i64 n198), (.int .i64 n200)]⟩) false)) h184 (@hid _ ⟨fun l202 => A.ucI .i64 l202 (@hid _ ⟨fun n203 l204 => A.uc0 l204 (@hid _ ⟨A.cmp .neq n203 n185 (@hid _ ⟨fun t205 => A.cond t205 (@hid _ ⟨K [(.b false)] h184⟩) (@hid _ ⟨A.ari .add .i64 n165 1 (@hid _ ⟨fun n206 => j176 [(.i n206)] h184⟩)⟩)⟩)⟩)⟩)⟩)⟩)⟩)⟩)⟩)⟩)⟩)⟩)⟩)⟩)⟩)⟩)⟩)⟩)⟩)⟩)⟩)⟩)⟩) (@hid _ ⟨fun j207 => A.cond t182 (@hid _ ⟨j207 [(.i 4)] h178⟩) (@hid _ ⟨j207 [(.i 8)] h178⟩)⟩)⟩)⟩)⟩)⟩)⟩)⟩) (@hid _ ⟨fun j208 => A.cmp .gtr n167 0 (@hid _ ⟨fun t209 => A.cond t209 (@hid _ ⟨A.cmp .gtr n158 0 (@hid _ ⟨fun t210 => A.cond t210 (@hid _ ⟨A.ari .mul .i64 2 n12 (@hid _ ⟨fun n211 => A.cmp .lss n167 n211 (@hid _ ⟨fun t212 => A.cond t212 (@hid _ ⟨A.ari .mul .i64 2 n14 (@hid _ ⟨fun n213 => A.cmp .lss n158 n213 (@hid _ ⟨fun t214 => A.cond t214 (@hid _ ⟨A.ari .add .i64 n167 n158 (@hid _ ⟨fun n215 => A.ari .rem .i64 n215 2 (@hid _ ⟨fun n216 => A.cmp .eql n216 0 (@hid _ ⟨fun t217 => j208 [(.b t217)] h164⟩)⟩)⟩)⟩) (@hid _ ⟨j208 [(.b false)] h164⟩)⟩)⟩)⟩) (@hid _ ⟨j208 [(.b false)] h164⟩)⟩)⟩)⟩) (@hid _ ⟨j208 [(.b false)] h164⟩)⟩)⟩) (@hid _ ⟨j208 [(.b false)] h164⟩)⟩)⟩)⟩)⟩) (@hid _ ⟨A.ari .add .i64 n158 1 (@hid _ ⟨fun n218 => s153 [(.i n165), (.i n218)] h164⟩)⟩)⟩)⟩)⟩)⟩)⟩)⟩) [(.i n156), (.i 0)] h155⟩) (@hid _ ⟨A.join (@hid _ ⟨fun l219 h220 => A.unB l219 (@hid _ ⟨fun t221 l222 => A.un0 l222 (@hid _ ⟨K [(.b t221)] h220⟩)⟩)⟩) (@hid _ ⟨fun j223 => A.cmp .eql n151 0 (@hid _ ⟨fun t224 => A.cond t224 (@hid _ ⟨A.opt (lenS x149) (@hid _ ⟨fun x225 => A.cmp .eql n156 x225 (@hid _ ⟨fun t226 => A.cond t226 (@hid _ ⟨A.opt (capS x149) (@hid _ ⟨fun x227 => A.cmp .eql x227 n156 (@hid _ ⟨fun t228 => A.cond t228 (@hid _ ⟨A.call 21 [] h155 (@hid _ ⟨fun l229 h230 => A.unB l229 (@hid _ ⟨fun t231 l232 => A.un0 l232 (@hid _ ⟨j223 [(.b t231)] h230⟩)⟩)⟩)⟩) (@hid _ ⟨j223 [(.b false)] h155⟩)⟩)⟩)⟩) (@hid _ ⟨j223 [(.b false)] h155⟩)⟩)⟩)⟩) (@hid _ ⟨j223 [(.b false)] h155⟩)⟩)⟩)⟩)⟩)⟩)⟩)⟩)⟩)⟩) [(.i 0), (.i 0)] h148⟩)⟩)⟩)⟩)⟩)⟩)⟩)⟩)⟩)⟩) [(.i 0)] h40⟩)⟩)⟩)⟩)⟩)⟩)⟩)⟩)⟩)⟩)⟩)⟩)⟩)⟩)⟩)⟩)⟩)⟩)⟩)⟩)⟩)⟩)⟩)⟩)⟩)⟩)⟩)⟩)
theorem gt4 : (fun A : Alg Prop HL => pt4 A) = fun A => ft4 A := by kernel_rfl
theorem st4 {call : CallB} (hc : CallBOk cc sgTab siteTab call) (l10 : List Lf) (h11 : HTr) {K : List Lf → HTr → RT} {K' : List Lf → HL → Prop} (hK : KLe K K') :
    ft4 (BA sgTab siteTab call) l10 h11 K = yes → pt4 P1 l10 (toL h11) K' := by
  have e : pt4 P1 l10 (toL h11) K' = ft4 P1 l10 (toL h11) K' := congrFun (congrFun (congrFun (congrFun gt4 P1) l10) (toL h11)) K'
  rw [e]
  exact s_unI hc (fun n12 l13 => s_unI hc (fun n14 l15 => s_un0 hc (s_call hc (fun l16 h17 => s_unV hc (fun x18 l19 => s_unI hc (fun n20 l21 => s_un0 hc (s_call hc (fun l22 h23 => s_unV hc (fun x24 l25 => s_un0 hc (s_cmp hc (fun t26 => s_cond hc (hK _ _) (s_opt hc (fun x27 => s_opt hc (fun x28 => s_cmp hc (fun t29 => s_cond hc (hK _ _) (s_opt hc (fun x30 => s_opt hc (fun x31 => s_cmp hc (fun t32 => s_cond hc (hK _ _) (s_opt hc (fun x33 => s_ari hc (fun n34 => s_ari hc (fun n35 => s_ari hc (fun n36 => s_ari hc (fun n37 => s_cmp hc (fun t38 => s_cond hc (hK _ _) (s_new hc (fun m39 h40 => s_loop hc (fun s41 s41p h_s41 l42 h43 => s_unI hc (fun n44 l45 => s_un0 hc (s_opt hc (fun x46 => s_cmp hc (fun t47 => s_cond hc (s_opt hc (fun x48 => s_peek hc (fun l49 => s_ucI hc (fun n50 l51 => s_ucI hc (fun n52 l53 => s_uc0 hc (s_call hc (fun l54 h55 => s_unI hc (fun n56 l57 => s_unI hc (fun n58 l59 => s_unI hc (fun n60 l61 => s_unI hc (fun n62 l63 => s_unI hc (fun n64 l65 => s_un0 hc (s_opt hc (fun x66 => s_peek hc (fun l67 => s_ucI hc (fun n68 l69 => s_ucI hc (fun n70 l71 => s_uc0 hc (s_call hc (fun l72 h73 => s_unI hc (fun n74 l75 => s_unI hc (fun n76 l77 => s_unI hc (fun n78 l79 => s_un0 hc (s_opt hc (fun x80 => s_peek hc (fun l81 => s_ucI hc (fun n82 l83 => s_ucI hc (fun n84 l85 => s_uc0 hc (s_opt hc (fun x86 => s_peek hc (fun l87 => s_ucI hc (fun n88 l89 => s_ucI hc (fun n90 l91 => s_uc0 hc (s_eqs hc (fun t92 => s_cond hc (hK _ _) (s_cmp hc (fun t93 => s_cond hc (hK _ _) (s_cmp hc (fun t94 => s_cond hc (hK _ _) (s_opt hc (fun x95 => s_peek hc (fun l96 => s_ucI hc (fun n97 l98 => s_ucI hc (fun n99 l100 => s_uc0 hc (s_call hc (fun l101 h102 => s_unI hc (fun n103 l104 => s_unI hc (fun n105 l106 => s_unI hc (fun n107 l108 => s_unI hc (fun n109 l110 => s_un0 hc (s_eqs hc (fun t111 => s_cond hc (hK _ _) (s_call hc (fun l112 h113 => s_unI hc (fun n114 l115 => s_un0 hc (s_cmp hc (fun t116 => s_cond hc (hK _ _) (s_call hc (fun l117 h118 => s_unI hc (fun n119 l120 => s_un0 hc (s_cmp hc (fun t121 => s_cond hc (hK _ _) (s_peek hc (fun l122 => s_ucI hc (fun n123 l124 => s_uc0 hc (s_ari hc (fun n125 => s_heap hc (fun l126 h127 => s_ucI hc (fun n128 l129 => s_ucI hc (fun n130 l131 => s_uc0 hc (s_heap hc (fun l132 h133 => s_peek hc (fun l134 => s_ucI hc (fun n135 l136 => s_uc0 hc (s_ari hc (fun n137 => s_heap hc (fun l138 h139 => s_ucI hc (fun n140 l141 => s_ucI hc (fun n142 l143 => s_uc0 hc (s_heap hc (fun l144 h145 => s_ari hc (fun n146 => h_s41 _ _))))))))))))))))))))))))))))))))))))))))))))))))))))))))))))))))))))))))))))))))) (s_call hc (fun l147 h148 => s_unV hc (fun x149 l150 => s_unI hc (fun n151 l152 => s_un0 hc (s_loop hc (fun s153 s153p h_s153 l154 h155 => s_unI hc (fun n156 l157 => s_unI hc (fun n158 l159 => s_un0 hc (s_ari hc (fun n160 => s_cmp hc (fun t161 => s_cond hc (s_loop hc (fun s162 s162p h_s162 l163 h164 => s_unI hc (fun n165 l166 => s_unI hc (fun n167 l168 => s_un0 hc (s_ari hc (fun n169 => s_cmp hc (fun t170 => s_cond hc (s_join hc (fun l171 h172 => s_unI hc (fun n173 l174 => s_un0 hc (s_ari hc (fun n175 => h_s162 _ _)))) (fun j176 j176p h_j176 => s_join hc (fun l177 h178 => s_unB hc (fun t179 l180 => s_un0 hc (s_cond hc (h_j176 _ _) (s_ari hc (fun n181 => s_cmp hc (fun t182 => s_join hc (fun l183 h184 => s_unI hc (fun n185 l186 => s_un0 hc (s_opt hc (fun x187 => s_cmp hc (fun t188 => s_cond hc (hK _ _) (s_opt hc (fun x189 => s_peek hc (fun l190 => s_ucI hc (fun n191 l192 => s_ucI hc (fun n193 l194 => s_uc0 hc (s_eqs hc (fun t195 => s_cond hc (hK _ _) (s_opt hc (fun x196 => s_peek hc (fun l197 => s_ucI hc (fun n198 l199 => s_ucI hc (fun n200 l201 => s_uc0 hc (s_peek hc (fun l202 => s_ucI hc (fun n203 l204 => s_uc0 hc (s_cmp hc (fun t205 => s_cond hc (hK _ _) (s_ari hc (fun n206 => h_j176 _ _)))))))))))))))))))))))) (fun j207 j207p h_j207 => s_cond hc (h_j207 _ _) (h_j207 _ _)))))))) (fun j208 j208p h_j208 => s_cmp hc (fun t209 => s_cond hc (s_cmp hc (fun t210 => s_cond hc (s_ari hc (fun n211 => s_cmp hc (fun t212 => s_cond hc (s_ari hc (fun n213 => s_cmp hc (fun t214 => s_cond hc (s_ari hc (fun n215 => s_ari hc (fun n216 => s_cmp hc (fun t217 => h_j208 _ _)))) (h_j208 _ _)))) (h_j208 _ _)))) (h_j208 _ _))) (h_j208 _ _))))) (s_ari hc (fun n218 => h_s153 _ _))))))))) (s_join hc (fun l219 h220 => s_unB hc (fun t221 l222 => s_un0 hc (hK _ _))) (fun j223 j223p h_j223 => s_cmp hc (fun t224 => s_cond hc (s_opt hc (fun x225 => s_cmp hc (fun t226 => s_cond hc (s_opt hc (fun x227 => s_cmp hc (fun t228 => s_cond hc (s_call hc (fun l229 h230 => s_unB hc (fun t231 l232 => s_un0 hc (h_j223 _ _)))) (h_j223 _ _)))) (h_j223 _ _)))) (h_j223 _ _))))))))))))))))))))))))))))))))))))))))))))))))
end Go.Am

/-
  SheetsUnits: runs for sheets 1 wide.
-/
set_option maxRecDepth 100000
namespace Go.Am
open Sx Go.Proofs
theorem run4_11 : ft4 (BA sgTab siteTab run5) [.i 1, .i 1] .empty isT = yes := by kernel_rfl
theorem run4_12 : ft4 (BA sgTab siteTab run5) [.i 1, .i 2] .empty isT = yes := by kernel_rfl
theorem run4_13 : ft4 (BA sgTab siteTab run5) [.i 1, .i 3] .empty isT = yes := by kernel_rfl
theorem run4_14 : ft4 (BA sgTab siteTab run5) [.i 1, .i 4] .empty isT = yes := by kernel_rfl
theorem run4_15 : ft4 (BA sgTab siteTab run5) [.i 1, .i 5] .empty isT = yes := by kernel_rfl
end Go.Am

/-
  SheetsUnits: runs for sheets 2 wide.
-/
set_option maxRecDepth 100000
namespace Go.Am
open Sx Go.Proofs
theorem run4_21 : ft4 (BA sgTab siteTab run5) [.i 2, .i 1] .empty isT = yes := by kernel_rfl
theorem run4_22 : ft4 (BA sgTab siteTab run5) [.i 2, .i 2] .empty isT = yes := by kernel_rfl
theorem run4_23 : ft4 (BA sgTab siteTab run5) [.i 2, .i 3] .empty isT = yes := by kernel_rfl
theorem run4_24 : ft4 (BA sgTab siteTab run5) [.i 2, .i 4] .empty isT = yes := by kernel_rfl
theorem run4_25 : ft4 (BA sgTab siteTab run5) [.i 2, .i 5] .empty isT = yes := by kernel_rfl
end Go.Am

/-
  SheetsUnits: runs for sheets 3 wide.
-/
set_option maxRecDepth 100000
namespace Go.Am
open Sx Go.Proofs
theorem run4_31 : ft4 (BA sgTab siteTab run5) [.i 3, .i 1] .empty isT = yes := by kernel_rfl
theorem run4_32 : ft4 (BA sgTab siteTab run5) [.i 3, .i 2] .empty isT = yes := by kernel_rfl
theorem run4_33 : ft4 (BA sgTab siteTab run5) [.i 3, .i 3] .empty isT = yes := by kernel_rfl
theorem run4_34 : ft4 (BA sgTab siteTab run5) [.i 3, .i 4] .empty isT = yes := by kernel_rfl
theorem run4_35 : ft4 (BA sgTab siteTab run5) [.i 3, .i 5] .empty isT = yes := by kernel_rfl
end Go.Am

/-
  SheetsUnits: runs for sheets 4 wide.
-/
set_option maxRecDepth 100000
namespace Go.Am
open Sx Go.Proofs
theorem run4_41 : ft4 (BA sgTab siteTab run5) [.i 4, .i 1] .empty isT = yes := by kernel_rfl
theorem run4_42 : ft4 (BA sgTab siteTab run5) [.i 4, .i 2] .empty isT = yes := by kernel_rfl
theorem run4_43 : ft4 (BA sgTab siteTab run5) [.i 4, .i 3] .empty isT = yes := by kernel_rfl
theorem run4_44 : ft4 (BA sgTab siteTab run5) [.i 4, .i 4] .empty isT = yes := by kernel_rfl
theorem run4_45 : ft4 (BA sgTab siteTab run5) [.i 4, .i 5] .empty isT = yes := by kernel_rfl
end Go.Am

/-
  SheetsUnits: runs for sheets 5 wide.
-/
set_option maxRecDepth 100000
namespace Go.Am
open Sx Go.Proofs
theorem run4_51 : ft4 (BA sgTab siteTab run5) [.i 5, .i 1] .empty isT = yes := by kernel_rfl
theorem run4_52 : ft4 (BA sgTab siteTab run5) [.i 5, .i 2] .empty isT = yes := by kernel_rfl
theorem run4_53 : ft4 (BA sgTab siteTab run5) [.i 5, .i 3] .empty isT = yes := by kernel_rfl
theorem run4_54 : ft4 (BA sgTab siteTab run5) [.i 5, .i 4] .empty isT = yes := by kernel_rfl
theorem run4_55 : ft4 (BA sgTab siteTab run5) [.i 5, .i 5] .empty isT = yes := by kernel_rfl
end Go.Am

/-
  SheetsUnits: the law, at every W.
-/
set_option maxRecDepth 100000
set_option maxHeartbeats 4000000
namespace Go.Am
open Sx Go.Proofs

abbrev KT4 : List Lf → HL → Prop := fun rs _ => rs = [.b true]
theorem su4 {a b w v : Int} (h : 0 ≤ a ∧ a ≤ 255 ∧ 0 ≤ b ∧ b ≤ 255 ∧ w = 1 + a % 5 ∧ v = 1 + b % 5) (hr : pt4 P1 [.i w, .i v] [] KT4) : Cc 4 [.i a, .i b] [.b true] := by
  refine q4 rfl ?_; unfold p4
  simp (disch := omega) only [↓qxs, ↓qxc, ↓qxa, ↓qxb]
  refine p_call (ofW (w := w) (v := v) (by omega)) ?_
  exact hr
theorem sheetsUnits_any {a b : Int} (h : 0 ≤ a ∧ a ≤ 255 ∧ 0 ≤ b ∧ b ≤ 255) : Cc 4 [.i a, .i b] [.b true] := by
  have main : ∀ w v : Int, 1 ≤ w ∧ w ≤ 5 → 1 ≤ v ∧ v ≤ 5 → pt4 P1 [.i w, .i v] [] KT4 := by
    intro w v hw hv
    obtain rfl | rfl | rfl | rfl | rfl : w = 1 ∨ w = 2 ∨ w = 3 ∨ w = 4 ∨ w = 5 := by omega
    · obtain rfl | rfl | rfl | rfl | rfl : v = 1 ∨ v = 2 ∨ v = 3 ∨ v = 4 ∨ v = 5 := by omega
      · exact st4 hc5 _ _ isT_le run4_11
      · exact st4 hc5 _ _ isT_le run4_12
      · exact st4 hc5 _ _ isT_le run4_13
      · exact st4 hc5 _ _ isT_le run4_14
      · exact st4 hc5 _ _ isT_le run4_15
    · obtain rfl | rfl | rfl | rfl | rfl : v = 1 ∨ v = 2 ∨ v = 3 ∨ v = 4 ∨ v = 5 := by omega
      · exact st4 hc5 _ _ isT_le run4_21
      · exact st4 hc5 _ _ isT_le run4_22
      · exact st4 hc5 _ _ isT_le run4_23
      · exact st4 hc5 _ _ isT_le run4_24
      · exact st4 hc5 _ _ isT_le run4_25
    · obtain rfl | rfl | rfl | rfl | rfl : v = 1 ∨ v = 2 ∨ v = 3 ∨ v = 4 ∨ v = 5 := by omega
      · exact st4 hc5 _ _ isT_le run4_31
      · exact st4 hc5 _ _ isT_le run4_32
      · exact st4 hc5 _ _ isT_le run4_33
      · exact st4 hc5 _ _ isT_le run4_34
      · exact st4 hc5 _ _ isT_le run4_35
    · obtain rfl | rfl | rfl | rfl | rfl : v = 1 ∨ v = 2 ∨ v = 3 ∨ v = 4 ∨ v = 5 := by omega
      · exact st4 hc5 _ _ isT_le run4_41
      · exact st4 hc5 _ _ isT_le run4_42
      · exact st4 hc5 _ _ isT_le run4_43
      · exact st4 hc5 _ _ isT_le run4_44
      · exact st4 hc5 _ _ isT_le run4_45
    · obtain rfl | rfl | rfl | rfl | rfl : v = 1 ∨ v = 2 ∨ v = 3 ∨ v = 4 ∨ v = 5 := by omega
      · exact st4 hc5 _ _ isT_le run4_51
      · exact st4 hc5 _ _ isT_le run4_52
      · exact st4 hc5 _ _ isT_le run4_53
      · exact st4 hc5 _ _ isT_le run4_54
      · exact st4 hc5 _ _ isT_le run4_55
  exact su4 (w := 1 + a % 5) (v := 1 + b % 5) (by omega) (main _ _ (by omega) (by omega))
end Go.Am
/-
  WHAT THE ROW SAYS OF THE LISTED VARIABLES: the table of the quarters.
-/
set_option maxRecDepth 100000
namespace Go.Proofs.YtdngmncaohgacaaDoor
open Go Go.Am Go.Am.Sx
open Go.ChangeShapes Go.WideShapes Go.ChangeAt Go.WideMaps Go.WideElems Go.RowKit

abbrev laidC : List (String × DataW Unit) := [("crimp/cells.quarters", Rows.laid_crimp_cells_quarters)]
theorem name0 : Tryd.prog.globalNamed "crimp/cells.quarters" = some 0 := by kernel_rfl
/-- What the list gives. -/
theorem of_laid {W : World} (h : laidMetH Tryd.prog laidC W) (g : Nat) (vs : List Value) (hg : cc.G g = some vs) :
    g < W.heap.size ∧ vs.all cellOk = true ∧ vs.all flat = true ∧ ∃ c e fr, W.heap[g]? = some (.cells c e fr) ∧ c.toList = vs := by
  rw [MakeChecks.laidMetH_plain _ _ _ (by kernel_rfl)] at h
  obtain ⟨ps, h, _, _⟩ := h
  have main : ∃ c e fr, W.heap[g]? = some (.cells c e fr) ∧ c.toList = vs := by
    unfold cc at hg
    simp only at hg
    split at hg
    · cases hg
      exact laid_cells h "crimp/cells.quarters" Rows.laid_crimp_cells_quarters List.mem_cons_self 0 137 8 gl0 name0 (by kernel_rfl) (by kernel_rfl)
    · cases hg
  refine ⟨?_, gl_cell g vs hg, gl_flat g vs hg, main⟩
  obtain ⟨c, e, fr, h1, _⟩ := main
  rcases Nat.lt_or_ge g W.heap.size with h | h
  · exact h
  · rw [Array.getElem?_eq_none h] at h1; cases h1
theorem own : ownKnob Tryd.prog.godebug = none := by kernel_rfl
theorem door_met (os : Os) (args : Array Value) : laidMetH Tryd.prog laidC ((World.doorLaid Tryd.prog 400 os).forCall (fun _ _ => 0) ⟨#[], args, []⟩).memory :=
  laidMetH_of_parts3 (fuel := 8) (laidMet_of_run' 8 (by kernel_rfl) (by kernel_rfl)) (by kernel_rfl) (by kernel_rfl)
end Go.Proofs.YtdngmncaohgacaaDoor

