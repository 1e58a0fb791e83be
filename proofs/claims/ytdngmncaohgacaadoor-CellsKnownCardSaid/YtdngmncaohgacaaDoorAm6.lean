/-
  THE MACHINE FOLLOWS THE ABSTRACT RUN: one operation, a list of operations.
-/
import Derived.Test.YtdngmncaohgacaaDoorAm5i
import Derived.AtR
import Derived.RangeFuncIn
import Derived.RangeFuncLeaves
set_option linter.unusedSectionVars false
set_option linter.unusedSimpArgs false
set_option linter.unusedVariables false
set_option linter.constructorNameAsVariable false
namespace Go.Am

section
variable [Val]

def Marks (mu : HMap) (H : List HObj) (w₀ w : World) (ds : List Deferred) : Prop :=
  ∃ rs : List Nat, ds = rs.map (fun r => ({ target := .collected r, args := #[] } : Deferred)) ∧ rs.Nodup ∧ ∀ r ∈ rs, w₀.heap.size ≤ r ∧ w.heap[r]? = some (.deferred (some [])) ∧ ¬ Own mu H r

structure FI (C : Cfg) (base : Nat) (H₀ : List HObj) (mu₀ : HMap) (w₀ : World) (la : LMap) (mu : HMap) (σ : St) (a : Act) (w : World) : Prop where
  sr : SR C base la mu σ a.tmps w
  evo : Evo H₀ mu₀ w₀ σ.heap mu w
  fresh : ∀ s b, la s = some b → w₀.heap.size ≤ b
  marks : Marks mu σ.heap w₀ w a.defers
  low : base ≤ w₀.heap.size

def CallOk (C : Cfg) (f : FuncId) (args : List Value) (H : List HObj) (r : Value) (H' : List HObj) : Prop :=
  ∀ (base : Nat) (mu : HMap) (w : World) (args' : Array Value), base ≤ w.heap.size → VRs noL mu args args'.toList → WR C base mu H w →
    ∃ v mu' w', VR noL mu' r v ∧ WR C base mu' H' w' ∧ Evo H mu w H' mu' w' ∧ (callFunc f args').run C.P w = .ok (.enter f args') w ∧
      ∀ cs, ∃ fr, Steps C.P (lone (Frame.enter C.P f args' .normal) cs w) (lone fr cs w') ∧ fr.fn = f ∧ fr.leaving C.P w' (.returned v)

def YieldOk (C : Cfg) (l : Nat) (args : List Value) (H : List HObj) (r : Value) (H' : List HObj) : Prop :=
  ∀ (base : Nat) (mu : HMap) (w : World) (args' : Array Value) (p : Pl), base ≤ w.heap.size → mu l = some p → VRs noL mu args args'.toList → WR C base mu H w →
    ∃ v mu' w' fn tmps assign body, VR noL mu' r v ∧ WR C base mu' H' w' ∧ Evo H mu w H' mu' w' ∧ (Instr.yield p.b args').run C.P w = .ok (.round p.b fn tmps assign body) w ∧
      ∀ c cs, Steps C.P (lone (Frame.round p.b fn tmps assign body .normal) (c :: cs) w) (lone (c.finish v) cs w')

structure BOk (C : Cfg) (B : Below) : Prop where
  call : ∀ f args H r H', B.call f args H r H' → CallOk C f args H r H'
  yield : ∀ l args H r H', B.yield l args H r H' → YieldOk C l args H r H'

section machine
variable {P : Program} {b : Frame} {a : Act} {k : List Item} {cs : List Frame} {w w' : World} {ops : Array Oper} {i : Nat} {rest : List Nat} {o : Oper}

theorem stepR_value {v : Value} (ho : ops[i]? = some o) (hw : Region.wanted o (yielded ops a.tmps) = true) (hn : ∀ c, o.op ≠ .defer c) (hr : (execOp a.eval o).run P w = .ok (.value v) w') :
    step P (lone (b.atR a (.inRegion ops (i :: rest) :: k)) cs w) = .next (lone (b.atR (a.put o.dst v) (.inRegion ops rest :: k)) cs w') := by
  have hg := stepGR_op (P := P) (b := b) (k := k) (cs := cs) (w := w) (rest := rest) ho hw
  rw [Oper.semAt_eq _ _ _ hn] at hg
  have hfin : (b.atR a (.inRegion ops (i :: rest) :: k)).finish v = b.atR (a.put o.dst v) (.inRegion ops rest :: k) := by rw [Frame.finish_atR, ho]; rfl
  refine step_lone_go ?_
  rw [hg, ← hfin]
  simp [stepG.apply, Sem.runT_eq, hr]

theorem stepR_unit (ho : ops[i]? = some o) (hw : Region.wanted o (yielded ops a.tmps) = true) (hn : ∀ c, o.op ≠ .defer c) (hr : (execOp a.eval o).run P w = .ok .skip w') :
    step P (lone (b.atR a (.inRegion ops (i :: rest) :: k)) cs w) = .next (lone (b.atR (a.put o.dst undef) (.inRegion ops rest :: k)) cs w') := by
  have hg := stepGR_op (P := P) (b := b) (k := k) (cs := cs) (w := w) (rest := rest) ho hw
  rw [Oper.semAt_eq _ _ _ hn] at hg
  have hfin : (b.atR a (.inRegion ops (i :: rest) :: k)).finish undef = b.atR (a.put o.dst undef) (.inRegion ops rest :: k) := by rw [Frame.finish_atR, ho]; rfl
  refine step_lone_go ?_
  rw [hg, ← hfin]
  simp [stepG.apply, Sem.runT_eq, hr]

theorem stepR_call {f : FuncId} {args : Array Value} (ho : ops[i]? = some o) (hw : Region.wanted o (yielded ops a.tmps) = true) (hn : ∀ c, o.op ≠ .defer c) (hr : (execOp a.eval o).run P w = .ok (.enter f args) w') :
    step P (lone (b.atR a (.inRegion ops (i :: rest) :: k)) cs w) = .next (lone (Frame.enter P f args .normal) (b.atR a (.inRegion ops (i :: rest) :: k) :: cs) w') := by
  have hg := stepGR_op (P := P) (b := b) (k := k) (cs := cs) (w := w) (rest := rest) ho hw
  rw [Oper.semAt_eq _ _ _ hn] at hg
  exact step_lone_go (by rw [hg]; simp [stepG.apply, Sem.runT_eq, hr, Frame.atR])

theorem stepR_rnd {l : Nat} {f : FuncId} {tmps : Array Value} {assign body : Code} (ho : ops[i]? = some o) (hw : Region.wanted o (yielded ops a.tmps) = true) (hn : ∀ c, o.op ≠ .defer c)
    (hr : (execOp a.eval o).run P w = .ok (.round l f tmps assign body) w') :
    step P (lone (b.atR a (.inRegion ops (i :: rest) :: k)) cs w) = .next (lone (Frame.round l f tmps assign body .normal) (b.atR a (.inRegion ops (i :: rest) :: k) :: cs) w') := by
  have hg := stepGR_op (P := P) (b := b) (k := k) (cs := cs) (w := w) (rest := rest) ho hw
  rw [Oper.semAt_eq _ _ _ hn] at hg
  exact step_lone_go (by rw [hg]; simp [stepG.apply, Sem.runT_eq, hr, Frame.atR])

theorem finish_op (ho : ops[i]? = some o) (v : Value) : (b.atR a (.inRegion ops (i :: rest) :: k)).finish v = b.atR (a.put o.dst v) (.inRegion ops rest :: k) := by
  rw [Frame.finish_atR, ho]; rfl

end machine

section
variable {C : Cfg} {base : Nat} {H₀ : List HObj} {mu₀ : HMap} {w₀ : World} {la : LMap} {mu : HMap} {σ : St} {a : Act} {w : World}

theorem FI.big (h : FI C base H₀ mu₀ w₀ la mu σ a w) : base ≤ w.heap.size := Nat.le_trans h.low h.evo.size

theorem act_put_tmps (a : Act) (dst : Option Tmp) (v : Value) : (a.put dst v).tmps = (match dst with | some d => a.tmps.setIfInBounds d v | none => a.tmps) := by cases dst <;> rfl
theorem act_put_defers (a : Act) (dst : Option Tmp) (v : Value) : (a.put dst v).defers = a.defers := by cases dst <;> rfl

theorem FI.put (h : FI C base H₀ mu₀ w₀ la mu σ a w) (dst : Option Tmp) {v v' : Value} (hv : VR la mu v v') : FI C base H₀ mu₀ w₀ la mu (σ.put dst v) (a.put dst v') w := by
  have hheap : (σ.put dst v).heap = σ.heap := by cases dst <;> rfl
  refine ⟨?_, by rw [hheap]; exact h.evo, h.fresh, by rw [act_put_defers, hheap]; exact h.marks, h.low⟩
  rw [act_put_tmps]
  exact h.sr.put dst hv

theorem Marks.evo {H H' : List HObj} {mu mu' : HMap} {w w' : World} {ds : List Deferred} (h : Marks mu H w₀ w ds) (he : Evo H mu w H' mu' w') : Marks mu' H' w₀ w' ds := by
  obtain ⟨rs, h1, h2, h3⟩ := h
  refine ⟨rs, h1, h2, fun r hr => ?_⟩
  obtain ⟨k1, k2, k3⟩ := h3 r hr
  have hlt : r < w.heap.size := by
    rcases Nat.lt_or_ge r w.heap.size with h | h
    · exact h
    · rw [Array.getElem?_eq_none h] at k2; cases k2
  exact ⟨k1, by rw [he.keep r hlt k3]; exact k2, fun ho => (he.steal r ho).elim (fun hh => by omega) k3⟩

/-- A heap step. -/
theorem FI.heap (h : FI C base H₀ mu₀ w₀ la mu σ a w) {H' : List HObj} {mu' : HMap} {w' : World} (hw : WR C base mu' H' w') (he : Evo σ.heap mu w H' mu' w') : FI C base H₀ mu₀ w₀ la mu' { σ with heap := H' } a w' :=
  ⟨h.sr.evo hw he, h.evo.trans he, h.fresh, h.marks.evo he, h.low⟩

theorem Own.lt {mu : HMap} {H : List HObj} {w : World} (hw : WR C base mu H w) {b : Nat} (h : Own mu H b) : b < w.heap.size ∧ base ≤ b := by
  obtain ⟨id, o, p, h1, h2, h3, rfl⟩ := h
  exact ⟨hw.lt h1 (owned_alive h2) h3, hw.own id o p h1 h2 h3⟩

/-- A new local row. -/
theorem FI.lnew (h : FI C base H₀ mu₀ w₀ la mu σ a w) {s : Nat} {vs : List Value} {cells : Array Value} {e : TypeId} (hs : σ.loc[s]? = some none) (hv : VRs noL mu vs cells.toList) (hok : vs.all cellOk = true) :
    FI C base H₀ mu₀ w₀ (fun k => if k = s then some w.heap.size else la k) mu { σ with loc := σ.loc.set s (some vs) } a (w.alloc (.cells cells e)) := by
  have hold : ∀ b, b < w.heap.size → (w.alloc (.cells cells e)).heap[b]? = w.heap[b]? := fun b hb => by
    show (w.heap.push _)[b]? = _
    rw [Array.getElem?_push, if_neg (by omega)]
  have hnone : la s = none := by
    cases hl : la s with
    | none => rfl
    | some b => obtain ⟨vs', h1⟩ := h.sr.ldom s b hl; rw [hs] at h1; cases h1
  have hmono : ∀ t b, la t = some b → (if t = s then some w.heap.size else la t) = some b := fun t b ht => by
    rw [if_neg (fun e => by subst e; rw [hnone] at ht; cases ht)]; exact ht
  have hlab : ∀ t b, la t = some b → b < w.heap.size := fun t b ht => by
    obtain ⟨vs', h1⟩ := h.sr.ldom t b ht
    obtain ⟨b', c, e', h2, _, h3, _⟩ := h.sr.loc t vs' h1
    obtain rfl : b = b' := by rw [ht] at h2; exact Option.some.inj h2
    exact (Array.getElem?_eq_some_iff.1 h3).1
  have hslt : s < σ.loc.length := by
    rcases Nat.lt_or_ge s σ.loc.length with h | h
    · exact h
    · rw [List.getElem?_eq_none h] at hs; cases hs
  have hE : Evo σ.heap mu w σ.heap mu (w.alloc (.cells cells e)) := ⟨Nat.le_refl _, fun _ _ => rfl, by simp, fun b hb _ => hold b hb, fun b hb => .inr hb, rfl, rfl, rfl⟩
  refine ⟨⟨h.sr.vals.mono hmono fun _ _ h => h, ?_, ?_, ?_, ?_⟩, h.evo.trans hE, ?_, h.marks.evo hE, h.low⟩
  · intro t b ht
    split at ht
    · rename_i hts; subst hts; exact ⟨vs, by simp [hslt]⟩
    · rename_i hts
      obtain ⟨vs', h1⟩ := h.sr.ldom t b ht
      exact ⟨vs', by rw [List.getElem?_set, if_neg (Ne.symm hts)]; exact h1⟩
  · intro t vs' ht
    rcases get_set ht with ⟨hne, ht⟩ | ⟨rfl, _, hvs⟩
    · obtain ⟨b, c, e', h1, h2, h3, h4, h5, h6⟩ := h.sr.loc t vs' ht
      exact ⟨b, c, e', by simp [hne, h1], h2, by rw [hold b (hlab t b h1)]; exact h3, h4, h5, h6⟩
    · cases hvs
      exact ⟨w.heap.size, cells, e, by simp, h.big, by show (w.heap.push _)[_]? = _; simp, hok, hv, fun ho => by have := (Own.lt h.sr.wr ho).1; omega⟩
  · intro t t' b ht ht'
    split at ht <;> split at ht'
    · rename_i e1 e2; rw [e1, e2]
    · rename_i e1 e2
      have := hlab t' b ht'
      cases ht; omega
    · rename_i e1 e2
      have := hlab t b ht
      cases ht'; omega
    · exact h.sr.linj t t' b ht ht'
  · refine ⟨?_, h.sr.wr.inj, h.sr.wr.own, h.sr.wr.ro, h.sr.wr.dom, ?_⟩
    · intro id o hid ha
      obtain ⟨p, h1, h2⟩ := h.sr.wr.obj id o hid ha
      exact ⟨p, h1, by rw [hold _ (objR_lt ha h2)]; exact h2⟩
    · intro g vs hg
      obtain ⟨h1, h2, c, e', fr, h3, h4⟩ := h.sr.wr.glob g vs hg
      exact ⟨h1, h2, c, e', fr, by rw [hold g (Array.getElem?_eq_some_iff.1 h3).1]; exact h3, h4⟩
  · intro t b ht
    split at ht
    · cases ht; exact h.evo.size
    · exact h.fresh t b ht

/-- A local row is written. -/
theorem FI.lset (h : FI C base H₀ mu₀ w₀ la mu σ a w) {s b : Nat} {vs vs' : List Value} {c cs : Array Value} {e : TypeId} (hs : σ.loc[s]? = some (some vs)) (hb : la s = some b) (hc : w.heap[b]? = some (.cells c e (0, 0)))
    (hv : VRs noL mu vs' cs.toList) (hok : vs'.all cellOk = true) : FI C base H₀ mu₀ w₀ la mu { σ with loc := σ.loc.set s (some vs') } a (w.setRow b cs) := by
  have hblt : b < w.heap.size := (Array.getElem?_eq_some_iff.1 hc).1
  have hno : ¬ Own mu σ.heap b ∧ base ≤ b := by
    obtain ⟨b', c', e', h1, h2, _, _, _, h6⟩ := h.sr.loc s vs hs
    obtain rfl : b = b' := by rw [hb] at h1; exact Option.some.inj h1
    exact ⟨h6, h2⟩
  have hold : ∀ k, k ≠ b → (w.setRow b cs).heap[k]? = w.heap[k]? := fun k hk => setRow_other w b k cs hk
  have hnew : (w.setRow b cs).heap[b]? = some (.cells cs e (0, 0)) := setRow_heap w b c cs e (0, 0) hc
  have hslt : s < σ.loc.length := by
    rcases Nat.lt_or_ge s σ.loc.length with h | h
    · exact h
    · rw [List.getElem?_eq_none h] at hs; cases hs
  have hfr := h.fresh s b hb
  refine ⟨⟨h.sr.vals, ?_, ?_, h.sr.linj, ?_⟩, ?_, h.fresh, ?_, h.low⟩
  · intro t b' ht
    obtain ⟨vs1, h1⟩ := h.sr.ldom t b' ht
    by_cases hts : t = s
    · subst hts; exact ⟨vs', by simp [hslt]⟩
    · exact ⟨vs1, by rw [List.getElem?_set, if_neg (Ne.symm hts)]; exact h1⟩
  · intro t vs1 ht
    rcases get_set ht with ⟨hne, ht⟩ | ⟨rfl, _, hvs⟩
    · obtain ⟨b', c', e', h1, h2, h3, h4, h5, h6⟩ := h.sr.loc t vs1 ht
      exact ⟨b', c', e', h1, h2, by rw [hold b' fun eb => hne (h.sr.linj t s b' h1 (eb ▸ hb))]; exact h3, h4, h5, h6⟩
    · cases hvs
      exact ⟨b, cs, e, hb, hno.2, hnew, hok, hv, hno.1⟩
  · refine ⟨?_, h.sr.wr.inj, h.sr.wr.own, h.sr.wr.ro, h.sr.wr.dom, ?_⟩
    · intro id o hid ha
      obtain ⟨p, h1, h2⟩ := h.sr.wr.obj id o hid ha
      refine ⟨p, h1, ?_⟩
      by_cases hpb : p.b = b
      · -- an object that is only read may lie below
        exfalso
        by_cases hown : o.owned = true
        · exact hno.1 ⟨id, o, p, hid, hown, h1, hpb⟩
        · have := h.sr.wr.ro id o p hid ha (by simpa using hown) h1
          omega
      · rw [hold _ hpb]; exact h2
    · intro g vs hg
      obtain ⟨h1, h2, c', e', fr, h3, h4⟩ := h.sr.wr.glob g vs hg
      exact ⟨h1, h2, c', e', fr, by rw [hold g (by omega)]; exact h3, h4⟩
  · refine ⟨h.evo.len, h.evo.same, by simpa [World.setRow] using h.evo.size, fun k hk ho => ?_, h.evo.steal, h.evo.os, h.evo.tape, h.evo.output⟩
    rw [hold k (by omega)]
    exact h.evo.keep k hk ho
  · obtain ⟨rs, h1, h2, h3⟩ := h.marks
    refine ⟨rs, h1, h2, fun r hr => ?_⟩
    obtain ⟨k1, k2, k3⟩ := h3 r hr
    exact ⟨k1, by rw [hold r (fun e => by subst e; rw [hc] at k2; cases k2)]; exact k2, k3⟩

end
end
end Go.Am
