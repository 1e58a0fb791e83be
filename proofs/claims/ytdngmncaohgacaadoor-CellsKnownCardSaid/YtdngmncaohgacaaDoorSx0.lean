/-
  THE ABSTRACT MACHINE AT WHATEVER DEPTH: what runs at some depth runs at a greater one; the rules of runs.
-/
import Derived.Test.YtdngmncaohgacaaDoorAm6d
set_option linter.unusedSectionVars false
set_option linter.unusedSimpArgs false
set_option linter.unusedVariables false
set_option linter.constructorNameAsVariable false
namespace Go.Am

section
variable [Val] {C : Cfg}

structure SemsLe (S S' : Sems) : Prop where
  call : ∀ f args H r H', S.call f args H r H' → S'.call f args H r H'
  yield : ∀ l args H r H', S.yield l args H r H' → S'.yield l args H r H'
  ex : ∀ fid c σ e σ', S.ex fid c σ e σ' → S'.ex fid c σ e σ'

theorem effRel_mono {B B' : Below} (hc : ∀ f args H r H', B.call f args H r H' → B'.call f args H r H') (hy : ∀ l args H r H', B.yield l args H r H' → B'.yield l args H r H')
    {e : Eff} {dst : Option Tmp} {σ σ' : St} (h : effRel B e dst σ σ') : effRel B' e dst σ σ' := by
  cases e <;> first
    | exact h
    | (obtain ⟨r, H, h1, h2⟩ := h; first | exact ⟨r, H, hc _ _ _ _ _ h1, h2⟩ | exact ⟨r, H, hy _ _ _ _ _ h1, h2⟩)

theorem stepRel_mono {B B' : Below} (hc : ∀ f args H r H', B.call f args H r H' → B'.call f args H r H') (hy : ∀ l args H r H', B.yield l args H r H' → B'.yield l args H r H')
    {pts : List Nat} {ops : Array Oper} {i : Nat} {σ σ' : St} (h : stepRel C B pts ops i σ σ') : stepRel C B' pts ops i σ σ' := by
  unfold stepRel at *
  split at h
  · exact h
  · split at h
    · exact h
    · exact h
    · rcases h with ⟨e, h1, h2⟩ | h
      · exact .inl ⟨e, h1, effRel_mono hc hy h2⟩
      · exact .inr h

theorem opsRel_mono {B B' : Below} (hc : ∀ f args H r H', B.call f args H r H' → B'.call f args H r H') (hy : ∀ l args H r H', B.yield l args H r H' → B'.yield l args H r H')
    {pts : List Nat} {ops : Array Oper} : ∀ {l : List Nat} {σ σ' : St}, opsRel C B pts ops l σ σ' → opsRel C B' pts ops l σ σ'
  | [], _, _, h => h
  | _ :: _, _, _, ⟨σ₁, h1, h2⟩ => ⟨σ₁, stepRel_mono hc hy h1, opsRel_mono hc hy h2⟩

theorem opsRelR_mono {B B' : Below} (hc : ∀ f args H r H', B.call f args H r H' → B'.call f args H r H') (hy : ∀ l args H r H', B.yield l args H r H' → B'.yield l args H r H')
    {pts : List Nat} {ops : Array Oper} : ∀ {l : List Nat} {σ σ' : St}, opsRelR C B pts ops l σ σ' → opsRelR C B' pts ops l σ σ'
  | [], _, _, h => h
  | _ :: _, _, _, ⟨σ₀, σ₁, h0, h1, h2⟩ => ⟨σ₀, σ₁, h0, stepRel_mono hc hy h1, opsRelR_mono hc hy h2⟩

theorem exNext_mono {S S' : Sems} (h : SemsLe S S') {fid : List Nat} {c : Code} {σ : St} {e : Exit} {σ' : St} (hx : exNext C S fid c σ e σ') : exNext C S' fid c σ e σ' := by
  cases c with
  | skip => exact hx
  | label l => exact hx
  | ret => exact hx
  | exit id => exact hx
  | goto l => exact hx
  | refuse w => exact hx
  | seq a b =>
    obtain ⟨e₁, σ₁, h1, h2⟩ := hx
    exact ⟨e₁, σ₁, h.ex _ _ _ _ _ h1, h2.imp (fun h2 => ⟨h2.1, h.ex _ _ _ _ _ h2.2⟩) id⟩
  | cond c a b =>
    obtain ⟨t, h1, h2⟩ := hx
    exact ⟨t, h1, h.ex _ _ _ _ _ h2⟩
  | block id b =>
    obtain ⟨e₁, h1, h2⟩ := hx
    exact ⟨e₁, h.ex _ _ _ _ _ h1, h2⟩
  | loop b =>
    obtain ⟨e₁, σ₁, h1, h2⟩ := hx
    exact ⟨e₁, σ₁, h.ex _ _ _ _ _ h1, h2.imp (fun h2 => ⟨h2.1, h.ex _ _ _ _ _ h2.2⟩) id⟩
  | scope b => exact h.ex _ _ _ _ _ hx
  | region id ops draw =>
    obtain ⟨h1, h2⟩ := hx
    refine ⟨h1, ?_⟩
    cases draw with
    | true =>
      obtain ⟨σ₀, h3, h4⟩ := h2
      exact ⟨σ₀, h3, fun t => opsRel_mono h.call h.yield (h4 t)⟩
    | false => exact opsRelR_mono h.call h.yield h2
  | rangeFunc f params assign body =>
    obtain ⟨h0, g, first, cap, φ, tm, r, H, r₂, h1, h2, h3, h4, h5⟩ := hx
    exact ⟨h0, g, first, cap, φ, tm, r, H, r₂, h1, h2, h3, h.call _ _ _ _ _ h4, h5⟩

theorem callNext_mono {S S' : Sems} (h : SemsLe S S') {f : FuncId} {args : List Value} {H : List HObj} {r : Value} {H' : List HObj} (hx : callNext C S f args H r H') : callNext C S' f args H r H' := by
  obtain ⟨fn, b, e, σ, vs, h1, h2, h3, h4, h5⟩ := hx
  exact ⟨fn, b, e, σ, vs, h1, h2, h3, h.ex _ _ _ _ _ h4, h5⟩

theorem yieldNext_mono {S S' : Sems} (h : SemsLe S S') {l : Nat} {args : List Value} {H : List HObj} {r : Value} {H' : List HObj} (hx : yieldNext C S l args H r H') : yieldNext C S' l args H r H' := by
  obtain ⟨lp, σ₁, lp₁, e, σ₂, lp₂, j, h1, h2, h3, h4, h5, h6, h7⟩ := hx
  exact ⟨lp, σ₁, lp₁, e, σ₂, lp₂, j, h1, h2, h.ex _ _ _ _ _ h3, h4, h5, h.ex _ _ _ _ _ h6, h7⟩

/-- What is known of calls: they give a result, and the heap is the same. -/
class Kno where
  kn : FuncId → List Value → Value → Prop
variable [Kno]
def noK : Known := fun f args H r H' => Kno.kn f args r ∧ H' = H
def sm (C : Cfg) (n : Nat) : Sems := sems C noK n

theorem sm_succ : ∀ n, SemsLe (sm C n) (sm C (n + 1))
  | 0 => ⟨fun _ _ _ _ _ h => .inl h, fun _ _ _ _ _ h => h.elim, fun _ _ _ _ _ h => h.elim⟩
  | n + 1 => by
    have ih := sm_succ n
    exact ⟨fun _ _ _ _ _ h => h.imp id (callNext_mono ih), fun _ _ _ _ _ h => yieldNext_mono (C := C) ih h, fun _ _ _ _ _ h => exNext_mono ih h⟩

theorem sm_le {n : Nat} : ∀ {m : Nat}, n ≤ m → SemsLe (sm C n) (sm C m)
  | 0, h => by
    obtain rfl : n = 0 := Nat.le_zero.1 h
    exact ⟨fun _ _ _ _ _ h => h, fun _ _ _ _ _ h => h, fun _ _ _ _ _ h => h⟩
  | m + 1, h => by
    by_cases hm : n = m + 1
    · subst hm; exact ⟨fun _ _ _ _ _ h => h, fun _ _ _ _ _ h => h, fun _ _ _ _ _ h => h⟩
    · have ih := sm_le (n := n) (m := m) (by omega)
      have hs := sm_succ (C := C) m
      exact ⟨fun _ _ _ _ _ h => hs.call _ _ _ _ _ (ih.call _ _ _ _ _ h), fun _ _ _ _ _ h => hs.yield _ _ _ _ _ (ih.yield _ _ _ _ _ h), fun _ _ _ _ _ h => hs.ex _ _ _ _ _ (ih.ex _ _ _ _ _ h)⟩

/-- At some depth. -/
def uCall (C : Cfg) (f : FuncId) (args : List Value) (H : List HObj) (r : Value) (H' : List HObj) : Prop := ∃ n, (sm C n).call f args H r H'
def uYield (C : Cfg) (l : Nat) (args : List Value) (H : List HObj) (r : Value) (H' : List HObj) : Prop := ∃ n, (sm C n).yield l args H r H'
def uEx (C : Cfg) (fid : List Nat) (c : Code) (σ : St) (e : Exit) (σ' : St) : Prop := ∃ n, (sm C n).ex fid c σ e σ'
def uB (C : Cfg) : Below := { call := uCall C, yield := uYield C }

theorem uCall_ok (hm : C.P.follows .mixedOrders = true) (hkn : ∀ f args r, Kno.kn f args r → ∀ H, CallOk C f args H r H) {f : FuncId} {args : List Value} {H : List HObj} {r : Value} {H' : List HObj} (h : uCall C f args H r H') : CallOk C f args H r H' := by
  obtain ⟨n, h⟩ := h
  exact (sems_ok hm (K := noK) (fun f args H r H' h => by obtain ⟨h1, rfl⟩ := h; exact hkn f args r h1 _) n).1.call _ _ _ _ _ h

theorem effRel_at {e : Eff} {dst : Option Tmp} {σ σ' : St} (h : effRel (uB C) e dst σ σ') : ∃ n, effRel (sm C n).toBelow e dst σ σ' := by
  cases e <;> first
    | exact ⟨0, h⟩
    | (obtain ⟨r, H, ⟨n, h1⟩, h2⟩ := h; exact ⟨n, r, H, h1, h2⟩)

theorem stepRel_at {pts : List Nat} {ops : Array Oper} {i : Nat} {σ σ' : St} (h : stepRel C (uB C) pts ops i σ σ') : ∃ n, stepRel C (sm C n).toBelow pts ops i σ σ' := by
  unfold stepRel at h
  split at h
  · rename_i ho; exact ⟨0, by unfold stepRel; rw [ho]; exact h⟩
  · rename_i o ho
    split at h
    · exact h.elim
    · rename_i hw; exact ⟨0, by unfold stepRel; simp only [ho, hw]; exact h⟩
    · rename_i hw
      rcases h with ⟨e, h1, h2⟩ | h
      · obtain ⟨n, h2⟩ := effRel_at h2
        exact ⟨n, by unfold stepRel; simp only [ho, hw]; exact .inl ⟨e, h1, h2⟩⟩
      · exact ⟨0, by unfold stepRel; simp only [ho, hw]; exact .inr h⟩

theorem opsRel_at {pts : List Nat} {ops : Array Oper} : ∀ {l : List Nat} {σ σ' : St}, opsRel C (uB C) pts ops l σ σ' → ∃ n, opsRel C (sm C n).toBelow pts ops l σ σ'
  | [], _, _, h => ⟨0, h⟩
  | _ :: _, _, _, ⟨σ₁, h1, h2⟩ => by
    obtain ⟨n, h1⟩ := stepRel_at h1
    obtain ⟨m, h2⟩ := opsRel_at h2
    have hn := sm_le (C := C) (Nat.le_max_left n m)
    have hm := sm_le (C := C) (Nat.le_max_right n m)
    exact ⟨max n m, σ₁, stepRel_mono hn.call hn.yield h1, opsRel_mono hm.call hm.yield h2⟩

theorem Restate.refl (σ : St) : Restate σ σ := ⟨rfl, rfl, rfl, fun i x y hx hy => by rw [hx] at hy; exact .inl (Option.some.inj hy).symm⟩

theorem opsRelR_of {B : Below} {pts : List Nat} {ops : Array Oper} : ∀ {l : List Nat} {σ σ' : St}, opsRel C B pts ops l σ σ' → opsRelR C B pts ops l σ σ'
  | [], _, _, h => h
  | _ :: _, σ, _, ⟨σ₁, h1, h2⟩ => ⟨σ, σ₁, .refl σ, h1, opsRelR_of h2⟩

section rules
variable {fid : List Nat} {σ σ₁ σ' : St} {e e₁ : Exit} {a b : Code}

theorem uEx.skip : uEx C fid .skip σ .normal σ := ⟨1, rfl, rfl⟩
theorem uEx.label {l : Nat} : uEx C fid (.label l) σ .normal σ := ⟨1, rfl, rfl⟩
theorem uEx.ret : uEx C fid .ret σ .ret σ := ⟨1, rfl, rfl⟩
theorem uEx.exit {id : Nat} : uEx C fid (.exit id) σ (.exit id) σ := ⟨1, rfl, rfl⟩
theorem uEx.seq (h1 : uEx C fid a σ .normal σ₁) (h2 : uEx C fid b σ₁ e σ') : uEx C fid (.seq a b) σ e σ' := by
  obtain ⟨n, h1⟩ := h1
  obtain ⟨m, h2⟩ := h2
  exact ⟨max n m + 1, .normal, σ₁, (sm_le (Nat.le_max_left n m)).ex _ _ _ _ _ h1, .inl ⟨rfl, (sm_le (Nat.le_max_right n m)).ex _ _ _ _ _ h2⟩⟩
theorem uEx.seqX (h1 : uEx C fid a σ e σ') (he : e ≠ .normal) : uEx C fid (.seq a b) σ e σ' := by
  obtain ⟨n, h1⟩ := h1
  exact ⟨n + 1, e, σ', h1, .inr ⟨he, rfl, rfl⟩⟩
theorem uEx.cond {c : Operand} {t : Bool} (hc : oval σ.tmps c = .bool t) (h : uEx C fid (if t then a else b) σ e σ') : uEx C fid (.cond c a b) σ e σ' := by
  obtain ⟨n, h⟩ := h
  exact ⟨n + 1, t, hc, h⟩
theorem uEx.block {id : Nat} (h : uEx C fid b σ e σ') : uEx C fid (.block id b) σ (exitTo1 id e) σ' := by
  obtain ⟨n, h⟩ := h
  exact ⟨n + 1, e, h, rfl⟩
theorem uEx.loop (h1 : uEx C fid b (σ.clear (boxKeys fid b)) .normal σ₁) (h2 : uEx C fid (.loop b) σ₁ e σ') : uEx C fid (.loop b) σ e σ' := by
  obtain ⟨n, h1⟩ := h1
  obtain ⟨m, h2⟩ := h2
  exact ⟨max n m + 1, .normal, σ₁, (sm_le (Nat.le_max_left n m)).ex _ _ _ _ _ h1, .inl ⟨rfl, (sm_le (Nat.le_max_right n m)).ex _ _ _ _ _ h2⟩⟩
theorem uEx.loopX (h1 : uEx C fid b (σ.clear (boxKeys fid b)) e σ') (he : e ≠ .normal) : uEx C fid (.loop b) σ e σ' := by
  obtain ⟨n, h1⟩ := h1
  exact ⟨n + 1, e, σ', h1, .inr ⟨he, rfl, rfl⟩⟩
theorem uEx.scope (h : uEx C fid b σ e σ') : uEx C fid (.scope b) σ e σ' := by
  obtain ⟨n, h⟩ := h
  exact ⟨n + 1, h⟩
theorem uEx.region {id : Nat} {ops : Array Oper} (h : opsRel C (uB C) fid ops (List.range ops.size) σ σ') : uEx C fid (.region id ops false) σ .normal σ' := by
  obtain ⟨n, h⟩ := opsRel_at h
  exact ⟨n + 1, rfl, opsRelR_of h⟩
/-- A region that draws its order: the text's order stands for all. -/
theorem uEx.draw {id : Nat} {ops : Array Oper} (hall : ∀ n, opsRel C (sm C n).toBelow fid ops (List.range ops.size) σ σ' → anyRel C (sm C n).toBelow fid ops σ σ')
    (h : opsRel C (uB C) fid ops (List.range ops.size) σ σ') : uEx C fid (.region id ops true) σ .normal σ' := by
  obtain ⟨n, h⟩ := opsRel_at h
  exact ⟨n + 1, rfl, σ, .refl σ, hall n h⟩
theorem uEx.rangeFunc {f : Operand} {params : Array Tmp} {assign body : Code} {g : FuncId} {first cap : Array Value} {φ : FuncId} {tm : List Value} {r : Value} {H : List HObj} {r₂ : ALoop}
    (h0 : fid ≠ []) (h1 : SnapOf σ.tmps tm) (h2 : oval σ.tmps f = .func (.func g) first cap) (h3 : noLoc (.func (.func g) first cap) = true)
    (h4 : uCall C g (first.toList ++ [.func (.yield σ.heap.length) #[] #[]] ++ cap.toList)
        (σ.heap ++ [.loop { state := .ready, pending := none, fn := φ, tmps := tm, params := params.toList, assign, body }]) r H)
    (h5 : hloop H σ.heap.length = some r₂) (h6 : r₂.state ≠ .busy) (h7 : exitOf r₂.pending = some e) :
    uEx C fid (.rangeFunc f params assign body) σ e { σ with heap := H.set σ.heap.length (.loop { r₂ with state := .exhausted }) } := by
  obtain ⟨n, h4⟩ := h4
  exact ⟨n + 1, h0, g, first, cap, φ, tm, r, H, r₂, h1, h2, h3, h4, h5, h6, h7, rfl⟩

theorem uCall.intro {f : FuncId} {args : List Value} {H : List HObj} {fn : Func} {c : Code} {vs : List Value}
    (h1 : C.P.funcs[f]? = some fn) (h2 : fn.body = some c) (h3 : (fn.name == "runtime.NumGoroutine") = false)
    (h4 : uEx C (C.pts f) c (enterA fn args H) e σ) (h5 : e = .normal ∨ e = .ret) (h6 : resultsA C σ fn.results.toList = some vs) (h7 : noLoc (packA vs) = true) :
    uCall C f args H (packA vs) σ.heap := by
  obtain ⟨n, h4⟩ := h4
  exact ⟨n + 1, .inr ⟨fn, c, e, σ, vs, h1, h2, h3, h4, h5, h6, rfl, h7, rfl⟩⟩

theorem uYield.intro {l : Nat} {args : List Value} {H : List HObj} {lp lp₁ lp₂ : ALoop} {σ₂ : St} {j : Option Code}
    (h1 : hloop H l = some lp) (h2 : args.length = lp.params.length)
    (h3 : uEx C [] lp.assign { tmps := putAll lp.params args lp.tmps, loc := [], heap := H } .normal σ₁)
    (h4 : hloop σ₁.heap l = some lp₁) (h5 : lp₁.state = .ready)
    (h6 : uEx C [] lp.body { σ₁ with heap := σ₁.heap.set l (.loop { lp₁ with state := .busy }) } e σ₂) (h7 : jumpOf e = some j) (h8 : hloop σ₂.heap l = some lp₂) :
    uYield C l args H (.bool j.isNone) (σ₂.heap.set l (.loop { lp₂ with state := if j.isNone then .ready else .done, pending := j })) := by
  obtain ⟨n, h3⟩ := h3
  obtain ⟨m, h6⟩ := h6
  exact ⟨max n m + 1, lp, σ₁, lp₁, e, σ₂, lp₂, j, h1, h2, (sm_le (Nat.le_max_left n m)).ex _ _ _ _ _ h3, h4, h5, (sm_le (Nat.le_max_right n m)).ex _ _ _ _ _ h6, h7, h8, rfl, rfl⟩
end rules

end
end Go.Am
