/-
  PART 2 OF THE PROOF: Am6 Am6b Am6c Am6d Sx0 Sx1 Sx2 Sx3 Gt Gf (no conditions).
-/
import Derived.Test.YtdngmncaohgacaaDoorSK1
import Derived.AtR
import Derived.RangeFuncIn
import Derived.RangeFuncLeaves
import Derived.Test.YtdngmncaohgacaaDoorProg
set_option linter.unusedSectionVars false
set_option linter.unusedSimpArgs false
set_option linter.unusedVariables false
set_option linter.constructorNameAsVariable false
set_option linter.defProp false
/-
  THE MACHINE FOLLOWS THE ABSTRACT RUN: one operation, a list of operations.
-/
namespace Go.Am

section
variable [Val]

def Marks (mu : HMap) (H : List HObj) (w₀ w : World) (ds : List Deferred) : Prop :=
  ∃ rs : List Nat, ds = rs.map (fun r => ({ target := .collected r, args := #[] } : Deferred)) ∧ rs.Nodup ∧ ∀ r ∈ rs, w₀.heap.size ≤ r ∧ w.heap[r]? = some (.deferred (some [])) ∧ ¬ Own mu H r

structure FI (C : Cfg) (base : Nat) (H₀ : List HObj) (mu₀ : HMap) (w₀ : World) (la : LMap) (mu : HMap) (σ : St) (a : Act) (w : World) : Prop where
  sr : SR C base la mu σ a.tmps w
  evo : Evo H₀ mu₀ w₀ σ.heap mu w
  fresh : ∀ s b, la s = some b → w₀.heap.size ≤ b
  marks : Marks mu σ.heap w₀ w a.defers
  low : base ≤ w₀.heap.size

def CallOk (C : Cfg) (f : FuncId) (args : List Value) (H : List HObj) (r : Value) (H' : List HObj) : Prop :=
  ∀ (base : Nat) (mu : HMap) (w : World) (args' : Array Value), base ≤ w.heap.size → VRs noL mu args args'.toList → WR C base mu H w →
    ∃ v mu' w', VR noL mu' r v ∧ WR C base mu' H' w' ∧ Evo H mu w H' mu' w' ∧ (callFunc f args').run C.P w = .ok (.enter f args') w ∧
      ∀ cs, ∃ fr, Steps C.P (lone (Frame.enter C.P f args' .normal) cs w) (lone fr cs w') ∧ fr.fn = f ∧ fr.leaving C.P w' (.returned v)

def YieldOk (C : Cfg) (l : Nat) (args : List Value) (H : List HObj) (r : Value) (H' : List HObj) : Prop :=
  ∀ (base : Nat) (mu : HMap) (w : World) (args' : Array Value) (p : Pl), base ≤ w.heap.size → mu l = some p → VRs noL mu args args'.toList → WR C base mu H w →
    ∃ v mu' w' fn tmps assign body, VR noL mu' r v ∧ WR C base mu' H' w' ∧ Evo H mu w H' mu' w' ∧ (Instr.yield p.b args').run C.P w = .ok (.round p.b fn tmps assign body) w ∧
      ∀ c cs, Steps C.P (lone (Frame.round p.b fn tmps assign body .normal) (c :: cs) w) (lone (c.finish v) cs w')

structure BOk (C : Cfg) (B : Below) : Prop where
  call : ∀ f args H r H', B.call f args H r H' → CallOk C f args H r H'
  yield : ∀ l args H r H', B.yield l args H r H' → YieldOk C l args H r H'

section machine
variable {P : Program} {b : Frame} {a : Act} {k : List Item} {cs : List Frame} {w w' : World} {ops : Array Oper} {i : Nat} {rest : List Nat} {o : Oper}

theorem stepR_value {v : Value} (ho : ops[i]? = some o) (hw : Region.wanted o (yielded ops a.tmps) = true) (hn : ∀ c, o.op ≠ .defer c) (hr : (execOp a.eval o).run P w = .ok (.value v) w') :
    step P (lone (b.atR a (.inRegion ops (i :: rest) :: k)) cs w) = .next (lone (b.atR (a.put o.dst v) (.inRegion ops rest :: k)) cs w') := by
  have hg := stepGR_op (P := P) (b := b) (k := k) (cs := cs) (w := w) (rest := rest) ho hw
  rw [Oper.semAt_eq _ _ _ hn] at hg
  have hfin : (b.atR a (.inRegion ops (i :: rest) :: k)).finish v = b.atR (a.put o.dst v) (.inRegion ops rest :: k) := by rw [Frame.finish_atR, ho]; rfl
  refine step_lone_go ?_
  rw [hg, ← hfin]
  simp [stepG.apply, Sem.runT_eq, hr]

theorem stepR_unit (ho : ops[i]? = some o) (hw : Region.wanted o (yielded ops a.tmps) = true) (hn : ∀ c, o.op ≠ .defer c) (hr : (execOp a.eval o).run P w = .ok .skip w') :
    step P (lone (b.atR a (.inRegion ops (i :: rest) :: k)) cs w) = .next (lone (b.atR (a.put o.dst undef) (.inRegion ops rest :: k)) cs w') := by
  have hg := stepGR_op (P := P) (b := b) (k := k) (cs := cs) (w := w) (rest := rest) ho hw
  rw [Oper.semAt_eq _ _ _ hn] at hg
  have hfin : (b.atR a (.inRegion ops (i :: rest) :: k)).finish undef = b.atR (a.put o.dst undef) (.inRegion ops rest :: k) := by rw [Frame.finish_atR, ho]; rfl
  refine step_lone_go ?_
  rw [hg, ← hfin]
  simp [stepG.apply, Sem.runT_eq, hr]

theorem stepR_call {f : FuncId} {args : Array Value} (ho : ops[i]? = some o) (hw : Region.wanted o (yielded ops a.tmps) = true) (hn : ∀ c, o.op ≠ .defer c) (hr : (execOp a.eval o).run P w = .ok (.enter f args) w') :
    step P (lone (b.atR a (.inRegion ops (i :: rest) :: k)) cs w) = .next (lone (Frame.enter P f args .normal) (b.atR a (.inRegion ops (i :: rest) :: k) :: cs) w') := by
  have hg := stepGR_op (P := P) (b := b) (k := k) (cs := cs) (w := w) (rest := rest) ho hw
  rw [Oper.semAt_eq _ _ _ hn] at hg
  exact step_lone_go (by rw [hg]; simp [stepG.apply, Sem.runT_eq, hr, Frame.atR])

theorem stepR_rnd {l : Nat} {f : FuncId} {tmps : Array Value} {assign body : Code} (ho : ops[i]? = some o) (hw : Region.wanted o (yielded ops a.tmps) = true) (hn : ∀ c, o.op ≠ .defer c)
    (hr : (execOp a.eval o).run P w = .ok (.round l f tmps assign body) w') :
    step P (lone (b.atR a (.inRegion ops (i :: rest) :: k)) cs w) = .next (lone (Frame.round l f tmps assign body .normal) (b.atR a (.inRegion ops (i :: rest) :: k) :: cs) w') := by
  have hg := stepGR_op (P := P) (b := b) (k := k) (cs := cs) (w := w) (rest := rest) ho hw
  rw [Oper.semAt_eq _ _ _ hn] at hg
  exact step_lone_go (by rw [hg]; simp [stepG.apply, Sem.runT_eq, hr, Frame.atR])

theorem finish_op (ho : ops[i]? = some o) (v : Value) : (b.atR a (.inRegion ops (i :: rest) :: k)).finish v = b.atR (a.put o.dst v) (.inRegion ops rest :: k) := by
  rw [Frame.finish_atR, ho]; rfl

end machine

section
variable {C : Cfg} {base : Nat} {H₀ : List HObj} {mu₀ : HMap} {w₀ : World} {la : LMap} {mu : HMap} {σ : St} {a : Act} {w : World}

theorem FI.big (h : FI C base H₀ mu₀ w₀ la mu σ a w) : base ≤ w.heap.size := Nat.le_trans h.low h.evo.size

theorem act_put_tmps (a : Act) (dst : Option Tmp) (v : Value) : (a.put dst v).tmps = (match dst with | some d => a.tmps.setIfInBounds d v | none => a.tmps) := by cases dst <;> rfl
theorem act_put_defers (a : Act) (dst : Option Tmp) (v : Value) : (a.put dst v).defers = a.defers := by cases dst <;> rfl

theorem FI.put (h : FI C base H₀ mu₀ w₀ la mu σ a w) (dst : Option Tmp) {v v' : Value} (hv : VR la mu v v') : FI C base H₀ mu₀ w₀ la mu (σ.put dst v) (a.put dst v') w := by
  have hheap : (σ.put dst v).heap = σ.heap := by cases dst <;> rfl
  refine ⟨?_, by rw [hheap]; exact h.evo, h.fresh, by rw [act_put_defers, hheap]; exact h.marks, h.low⟩
  rw [act_put_tmps]
  exact h.sr.put dst hv

theorem Marks.evo {H H' : List HObj} {mu mu' : HMap} {w w' : World} {ds : List Deferred} (h : Marks mu H w₀ w ds) (he : Evo H mu w H' mu' w') : Marks mu' H' w₀ w' ds := by
  obtain ⟨rs, h1, h2, h3⟩ := h
  refine ⟨rs, h1, h2, fun r hr => ?_⟩
  obtain ⟨k1, k2, k3⟩ := h3 r hr
  have hlt : r < w.heap.size := by
    rcases Nat.lt_or_ge r w.heap.size with h | h
    · exact h
    · rw [Array.getElem?_eq_none h] at k2; cases k2
  exact ⟨k1, by rw [he.keep r hlt k3]; exact k2, fun ho => (he.steal r ho).elim (fun hh => by omega) k3⟩

/-- A heap step. -/
theorem FI.heap (h : FI C base H₀ mu₀ w₀ la mu σ a w) {H' : List HObj} {mu' : HMap} {w' : World} (hw : WR C base mu' H' w') (he : Evo σ.heap mu w H' mu' w') : FI C base H₀ mu₀ w₀ la mu' { σ with heap := H' } a w' :=
  ⟨h.sr.evo hw he, h.evo.trans he, h.fresh, h.marks.evo he, h.low⟩

theorem Own.lt {mu : HMap} {H : List HObj} {w : World} (hw : WR C base mu H w) {b : Nat} (h : Own mu H b) : b < w.heap.size ∧ base ≤ b := by
  obtain ⟨id, o, p, h1, h2, h3, rfl⟩ := h
  exact ⟨hw.lt h1 (owned_alive h2) h3, hw.own id o p h1 h2 h3⟩

/-- A new local row. -/
theorem FI.lnew (h : FI C base H₀ mu₀ w₀ la mu σ a w) {s : Nat} {vs : List Value} {cells : Array Value} {e : TypeId} (hs : σ.loc[s]? = some none) (hv : VRs noL mu vs cells.toList) (hok : vs.all cellOk = true) :
    FI C base H₀ mu₀ w₀ (fun k => if k = s then some w.heap.size else la k) mu { σ with loc := σ.loc.set s (some vs) } a (w.alloc (.cells cells e)) := by
  have hold : ∀ b, b < w.heap.size → (w.alloc (.cells cells e)).heap[b]? = w.heap[b]? := fun b hb => by
    show (w.heap.push _)[b]? = _
    rw [Array.getElem?_push, if_neg (by omega)]
  have hnone : la s = none := by
    cases hl : la s with
    | none => rfl
    | some b => obtain ⟨vs', h1⟩ := h.sr.ldom s b hl; rw [hs] at h1; cases h1
  have hmono : ∀ t b, la t = some b → (if t = s then some w.heap.size else la t) = some b := fun t b ht => by
    rw [if_neg (fun e => by subst e; rw [hnone] at ht; cases ht)]; exact ht
  have hlab : ∀ t b, la t = some b → b < w.heap.size := fun t b ht => by
    obtain ⟨vs', h1⟩ := h.sr.ldom t b ht
    obtain ⟨b', c, e', h2, _, h3, _⟩ := h.sr.loc t vs' h1
    obtain rfl : b = b' := by rw [ht] at h2; exact Option.some.inj h2
    exact (Array.getElem?_eq_some_iff.1 h3).1
  have hslt : s < σ.loc.length := by
    rcases Nat.lt_or_ge s σ.loc.length with h | h
    · exact h
    · rw [List.getElem?_eq_none h] at hs; cases hs
  have hE : Evo σ.heap mu w σ.heap mu (w.alloc (.cells cells e)) := ⟨Nat.le_refl _, fun _ _ => rfl, by simp, fun b hb _ => hold b hb, fun b hb => .inr hb, rfl, rfl, rfl⟩
  refine ⟨⟨h.sr.vals.mono hmono fun _ _ h => h, ?_, ?_, ?_, ?_⟩, h.evo.trans hE, ?_, h.marks.evo hE, h.low⟩
  · intro t b ht
    split at ht
    · rename_i hts; subst hts; exact ⟨vs, by simp [hslt]⟩
    · rename_i hts
      obtain ⟨vs', h1⟩ := h.sr.ldom t b ht
      exact ⟨vs', by rw [List.getElem?_set, if_neg (Ne.symm hts)]; exact h1⟩
  · intro t vs' ht
    rcases get_set ht with ⟨hne, ht⟩ | ⟨rfl, _, hvs⟩
    · obtain ⟨b, c, e', h1, h2, h3, h4, h5, h6⟩ := h.sr.loc t vs' ht
      exact ⟨b, c, e', by simp [hne, h1], h2, by rw [hold b (hlab t b h1)]; exact h3, h4, h5, h6⟩
    · cases hvs
      exact ⟨w.heap.size, cells, e, by simp, h.big, by show (w.heap.push _)[_]? = _; simp, hok, hv, fun ho => by have := (Own.lt h.sr.wr ho).1; omega⟩
  · intro t t' b ht ht'
    split at ht <;> split at ht'
    · rename_i e1 e2; rw [e1, e2]
    · rename_i e1 e2
      have := hlab t' b ht'
      cases ht; omega
    · rename_i e1 e2
      have := hlab t b ht
      cases ht'; omega
    · exact h.sr.linj t t' b ht ht'
  · refine ⟨?_, h.sr.wr.inj, h.sr.wr.own, h.sr.wr.ro, h.sr.wr.dom, ?_⟩
    · intro id o hid ha
      obtain ⟨p, h1, h2⟩ := h.sr.wr.obj id o hid ha
      exact ⟨p, h1, by rw [hold _ (objR_lt ha h2)]; exact h2⟩
    · intro g vs hg
      obtain ⟨h1, h2, c, e', fr, h3, h4⟩ := h.sr.wr.glob g vs hg
      exact ⟨h1, h2, c, e', fr, by rw [hold g (Array.getElem?_eq_some_iff.1 h3).1]; exact h3, h4⟩
  · intro t b ht
    split at ht
    · cases ht; exact h.evo.size
    · exact h.fresh t b ht

/-- A local row is written. -/
theorem FI.lset (h : FI C base H₀ mu₀ w₀ la mu σ a w) {s b : Nat} {vs vs' : List Value} {c cs : Array Value} {e : TypeId} (hs : σ.loc[s]? = some (some vs)) (hb : la s = some b) (hc : w.heap[b]? = some (.cells c e (0, 0)))
    (hv : VRs noL mu vs' cs.toList) (hok : vs'.all cellOk = true) : FI C base H₀ mu₀ w₀ la mu { σ with loc := σ.loc.set s (some vs') } a (w.setRow b cs) := by
  have hblt : b < w.heap.size := (Array.getElem?_eq_some_iff.1 hc).1
  have hno : ¬ Own mu σ.heap b ∧ base ≤ b := by
    obtain ⟨b', c', e', h1, h2, _, _, _, h6⟩ := h.sr.loc s vs hs
    obtain rfl : b = b' := by rw [hb] at h1; exact Option.some.inj h1
    exact ⟨h6, h2⟩
  have hold : ∀ k, k ≠ b → (w.setRow b cs).heap[k]? = w.heap[k]? := fun k hk => setRow_other w b k cs hk
  have hnew : (w.setRow b cs).heap[b]? = some (.cells cs e (0, 0)) := setRow_heap w b c cs e (0, 0) hc
  have hslt : s < σ.loc.length := by
    rcases Nat.lt_or_ge s σ.loc.length with h | h
    · exact h
    · rw [List.getElem?_eq_none h] at hs; cases hs
  have hfr := h.fresh s b hb
  refine ⟨⟨h.sr.vals, ?_, ?_, h.sr.linj, ?_⟩, ?_, h.fresh, ?_, h.low⟩
  · intro t b' ht
    obtain ⟨vs1, h1⟩ := h.sr.ldom t b' ht
    by_cases hts : t = s
    · subst hts; exact ⟨vs', by simp [hslt]⟩
    · exact ⟨vs1, by rw [List.getElem?_set, if_neg (Ne.symm hts)]; exact h1⟩
  · intro t vs1 ht
    rcases get_set ht with ⟨hne, ht⟩ | ⟨rfl, _, hvs⟩
    · obtain ⟨b', c', e', h1, h2, h3, h4, h5, h6⟩ := h.sr.loc t vs1 ht
      exact ⟨b', c', e', h1, h2, by rw [hold b' fun eb => hne (h.sr.linj t s b' h1 (eb ▸ hb))]; exact h3, h4, h5, h6⟩
    · cases hvs
      exact ⟨b, cs, e, hb, hno.2, hnew, hok, hv, hno.1⟩
  · refine ⟨?_, h.sr.wr.inj, h.sr.wr.own, h.sr.wr.ro, h.sr.wr.dom, ?_⟩
    · intro id o hid ha
      obtain ⟨p, h1, h2⟩ := h.sr.wr.obj id o hid ha
      refine ⟨p, h1, ?_⟩
      by_cases hpb : p.b = b
      · -- an object that is only read may lie below
        exfalso
        by_cases hown : o.owned = true
        · exact hno.1 ⟨id, o, p, hid, hown, h1, hpb⟩
        · have := h.sr.wr.ro id o p hid ha (by simpa using hown) h1
          omega
      · rw [hold _ hpb]; exact h2
    · intro g vs hg
      obtain ⟨h1, h2, c', e', fr, h3, h4⟩ := h.sr.wr.glob g vs hg
      exact ⟨h1, h2, c', e', fr, by rw [hold g (by omega)]; exact h3, h4⟩
  · refine ⟨h.evo.len, h.evo.same, by simpa [World.setRow] using h.evo.size, fun k hk ho => ?_, h.evo.steal, h.evo.os, h.evo.tape, h.evo.output⟩
    rw [hold k (by omega)]
    exact h.evo.keep k hk ho
  · obtain ⟨rs, h1, h2, h3⟩ := h.marks
    refine ⟨rs, h1, h2, fun r hr => ?_⟩
    obtain ⟨k1, k2, k3⟩ := h3 r hr
    exact ⟨k1, by rw [hold r (fun e => by subst e; rw [hc] at k2; cases k2)]; exact k2, k3⟩

end
end
end Go.Am

/-
  THE MACHINE FOLLOWS THE ABSTRACT RUN: lists of operations, in whatever order.
-/
namespace Go.Am

section
variable [Val]

section
variable {C : Cfg} {base : Nat} {H₀ : List HObj} {mu₀ : HMap} {w₀ : World} {la : LMap} {mu : HMap} {σ : St} {a : Act} {w : World}

theorem wantedA_ok {ops : Array Oper} {o : Oper} {t : Bool} (h : VRs la mu σ.tmps a.tmps.toList) (hw : wantedA ops σ.tmps o = some t) : Region.wanted o (yielded ops a.tmps) = t := by
  unfold wantedA at hw
  unfold Region.wanted
  cases hg : o.guard with
  | none => rw [hg] at hw; cases hw; rfl
  | some jw =>
    obtain ⟨j, want⟩ := jw
    rw [hg] at hw
    simp only at hw ⊢
    unfold yielded
    cases hd : (ops[j]?).bind (·.dst) with
    | none =>
      rw [hd] at hw
      cases hw
      simp
    | some d =>
      rw [hd] at hw
      simp only [Option.bind_some] at hw ⊢
      cases hv : σ.tmps[d]? with
      | none =>
        rw [hv] at hw
        cases hw
        have : a.tmps[d]? = none := by
          have hl := h.1
          rw [List.getElem?_eq_none_iff] at hv
          rw [Array.getElem?_eq_none_iff]
          simp at hl; omega
        rw [this]; simp
      | some v =>
        rw [hv] at hw
        obtain ⟨v', h1, h2⟩ := h.get hv
        rw [show a.tmps[d]? = some v' by simpa using h1]
        cases v with
        | bool b =>
          have := h2.bool
          subst this
          cases hw
          simp
        | tuple vs =>
          split at hw
          · rename_i b e; cases e
          · rename_i vs' e
            cases e
            split at hw
            · cases hw
            · rename_i hsz
              cases hw
              obtain ⟨d', rfl, _⟩ := h2.untuple hsz
              rfl
          · rename_i h3 h4; exact absurd rfl (h4 vs)
        | _ =>
          cases hw
          cases h2 <;> first | rfl | (rename_i hs; simp [Am.scalar] at hs)

theorem effOf_not_defer {pts : List Nat} {ρ : Operand → Value} {o : Oper} {e : Eff} (h : effOf C pts ρ o = some e) : ∀ c, o.op ≠ .defer c := by
  intro c hc
  unfold effOf at h
  rw [hc] at h
  cases h

theorem sim_step {B : Below} (hB : BOk C B) {pts : List Nat} {ops : Array Oper} {i : Nat} {σ' : St} (h : FI C base H₀ mu₀ w₀ la mu σ a w) (hs : stepRel C B pts ops i σ σ') :
    ∃ a' w' la' mu', FI C base H₀ mu₀ w₀ la' mu' σ' a' w' ∧
      ∀ (b : Frame) rest k cs, Steps C.P (lone (b.atR a (.inRegion ops (i :: rest) :: k)) cs w) (lone (b.atR a' (.inRegion ops rest :: k)) cs w') := by
  unfold stepRel at hs
  split at hs
  · rename_i ho
    subst hs
    refine ⟨a, w, la, mu, h, fun b rest k cs => .one ?_⟩
    have := stepR_op_skip (P := C.P) (b := b) (a := a) (k := k) (cs := cs) (w := w) (ops := ops) (i := i) (rest := rest) (by simp [ho])
    simpa [ho, Act.put] using this
  · rename_i o ho
    split at hs
    · exact hs.elim
    · rename_i hw
      subst hs
      have hw' := wantedA_ok (a := a) h.sr.vals hw
      refine ⟨a.put o.dst undef, w, la, mu, h.put o.dst .undef, fun b rest k cs => .one ?_⟩
      have := stepR_op_skip (P := C.P) (b := b) (a := a) (k := k) (cs := cs) (w := w) (ops := ops) (i := i) (rest := rest) (by simp [ho, hw'])
      simpa [ho] using this
    · rename_i hw
      have hw' := wantedA_ok (a := a) h.sr.vals hw
      rcases hs with hs | ⟨v, hv, rfl⟩
      case inr =>
        obtain ⟨v', h1, h2⟩ := symRel_ok h.sr hv
        refine ⟨_, w, la, mu, h.put o.dst h2, fun b rest k cs => .one (stepR_value ho hw' (fun c hc => ?_) h1)⟩
        have h4 := hv.1
        rw [hc] at h4
        cases h4
      obtain ⟨e, he, hr⟩ := hs
      have hnd := effOf_not_defer he
      have hok := effOf_ok h.sr h.big he
      cases e with
      | val v =>
        obtain ⟨p, hp, rfl⟩ := hr
        cases hp
        obtain ⟨v', h1, h2⟩ := hok
        exact ⟨_, w, la, mu, h.put o.dst h2, fun b rest k cs => .one (stepR_value ho hw' hnd h1)⟩
      | lnew s vs =>
        obtain ⟨p, hp, rfl⟩ := hr
        simp only [applyEff] at hp
        split at hp
        · rename_i hloc
          cases hp
          obtain ⟨cells, e', h1, h2, h3⟩ := hok
          have hf := (h.lnew (e := e') hloc h2 h3).put o.dst (v := .pointer (some ⟨s, 0, some 0⟩)) (v' := .pointer (some ⟨w.heap.size, 0, none⟩)) (.lptr (by simp))
          exact ⟨_, _, _, _, hf, fun b rest k cs => .one (stepR_value ho hw' hnd h1)⟩
        · cases hp
      | lget s f =>
        obtain ⟨p, hp, rfl⟩ := hr
        simp only [applyEff] at hp
        split at hp
        · rename_i vs hloc
          cases hfv : f vs with
          | none => rw [hfv] at hp; cases hp
          | some v =>
            rw [hfv] at hp
            cases hp
            obtain ⟨v', h1, h2⟩ := hok vs v hloc hfv
            exact ⟨_, w, la, mu, h.put o.dst h2, fun b rest k cs => .one (stepR_value ho hw' hnd h1)⟩
        · cases hp
      | lset s f =>
        obtain ⟨p, hp, rfl⟩ := hr
        simp only [applyEff] at hp
        split at hp
        · rename_i vs hloc
          cases hfv : f vs with
          | none => rw [hfv] at hp; cases hp
          | some vs' =>
            rw [hfv] at hp
            cases hp
            obtain ⟨bl, c, cs0, e', h1, h2, h3, h4, h5⟩ := hok vs vs' hloc hfv
            have hf := (h.lset hloc h1 h2 h4 h5).put o.dst (v := undef) (v' := undef) .undef
            exact ⟨_, _, _, _, hf, fun b rest k cs => .one (stepR_unit ho hw' hnd h3)⟩
        · cases hp
      | hget f =>
        obtain ⟨p, hp, rfl⟩ := hr
        simp only [applyEff] at hp
        cases hfv : f σ.heap with
        | none => rw [hfv] at hp; cases hp
        | some v =>
          rw [hfv] at hp
          cases hp
          obtain ⟨v', h1, h2⟩ := hok v hfv
          exact ⟨_, w, la, mu, h.put o.dst h2, fun b rest k cs => .one (stepR_value ho hw' hnd h1)⟩
      | hop f =>
        obtain ⟨p, hp, rfl⟩ := hr
        simp only [applyEff] at hp
        cases hfv : f σ.heap with
        | none => rw [hfv] at hp; cases hp
        | some q =>
          rw [hfv] at hp
          cases hp
          obtain ⟨nx, v', w', mu', h1, h2, h3, h4, h5⟩ := hok q.1 q.2 hfv
          have hf := (h.heap h4 h5).put o.dst h3.up
          rcases h2 with rfl | ⟨rfl, rfl⟩
          · exact ⟨_, w', la, mu', hf, fun b rest k cs => .one (stepR_value ho hw' hnd h1)⟩
          · exact ⟨_, w', la, mu', hf, fun b rest k cs => .one (stepR_unit ho hw' hnd h1)⟩
      | call f args =>
        obtain ⟨r, H, hc, rfl⟩ := hr
        obtain ⟨args', h1, h2⟩ := hok
        obtain ⟨v, mu', w', h3, h4, h5, h6, h7⟩ := hB.call _ _ _ _ _ hc base mu w args' h.big h1 h.sr.wr
        rw [h6] at h2
        refine ⟨_, w', la, mu', (h.heap h4 h5).put o.dst h3.up, fun b rest k cs => ?_⟩
        obtain ⟨fr, s1, s2, s3⟩ := h7 (b.atR a (.inRegion ops (i :: rest) :: k) :: cs)
        refine .head (stepR_call ho hw' hnd h2) (s1.trans (.one ?_))
        rw [← finish_op ho v]
        exact step_leave_returned s3
      | yield l args =>
        obtain ⟨r, H, hc, rfl⟩ := hr
        obtain ⟨p, args', hp, h1, h2⟩ := hok
        obtain ⟨v, mu', w', fn, tmps, assign, body, h3, h4, h5, h6, h7⟩ := hB.yield _ _ _ _ _ hc base mu w args' p h.big hp h1 h.sr.wr
        rw [h6] at h2
        refine ⟨_, w', la, mu', (h.heap h4 h5).put o.dst h3.up, fun b rest k cs => ?_⟩
        refine .head (stepR_rnd ho hw' hnd h2) ?_
        rw [← finish_op ho v]
        exact h7 (b.atR a (.inRegion ops (i :: rest) :: k)) cs

theorem FI.restate {σ' : St} (h : FI C base H₀ mu₀ w₀ la mu σ a w) (hr : Restate σ σ') : FI C base H₀ mu₀ w₀ la mu σ' a w := by
  obtain ⟨h1, h2, h3, h4⟩ := hr
  obtain ⟨tmps, loc, heap⟩ := σ'
  simp only at h1 h2 h3 h4
  subst h1 h2
  refine ⟨⟨⟨by rw [h3]; exact h.sr.vals.1, fun i y c hy hc => ?_⟩, h.sr.ldom, h.sr.loc, h.sr.linj, h.sr.wr⟩, h.evo, h.fresh, h.marks, h.low⟩
  have hi : i < σ.tmps.length := by
    rw [← h3]
    exact (List.getElem?_eq_some_iff.1 hy).1
  have hv := h.sr.vals.2 i σ.tmps[i] c (by simp [hi]) hc
  rcases h4 i σ.tmps[i] y (by simp [hi]) hy with rfl | ⟨k1, k2, k3⟩
  · exact hv
  · rw [plain_eq k1 hv, k3]
    exact plain_den k2

theorem sim_opsR {B : Below} (hB : BOk C B) {pts : List Nat} {ops : Array Oper} : ∀ (l : List Nat) (σ σ' : St) (a : Act) (w : World) (la : LMap) (mu : HMap), FI C base H₀ mu₀ w₀ la mu σ a w → opsRelR C B pts ops l σ σ' →
    ∃ a' w' la' mu', FI C base H₀ mu₀ w₀ la' mu' σ' a' w' ∧
      ∀ (b : Frame) k cs, Steps C.P (lone (b.atR a (.inRegion ops l :: k)) cs w) (lone (b.atR a' k) cs w')
  | [], σ, σ', a, w, la, mu, h, hs => by
    cases hs
    exact ⟨a, w, la, mu, h, fun b k cs => .one stepR_region_end⟩
  | i :: l, σ, σ', a, w, la, mu, h, hs => by
    obtain ⟨σ₀, σ₁, h0, h1, h2⟩ := hs
    obtain ⟨a₁, w₁, la₁, mu₁, g1, g2⟩ := sim_step hB (h.restate h0) h1
    obtain ⟨a₂, w₂, la₂, mu₂, g3, g4⟩ := sim_opsR hB l σ₁ σ' a₁ w₁ la₁ mu₁ g1 h2
    exact ⟨a₂, w₂, la₂, mu₂, g3, fun b k cs => (g2 b l k cs).trans (g4 b k cs)⟩

theorem sim_ops {B : Below} (hB : BOk C B) {pts : List Nat} {ops : Array Oper} : ∀ (l : List Nat) (σ σ' : St) (a : Act) (w : World) (la : LMap) (mu : HMap), FI C base H₀ mu₀ w₀ la mu σ a w → opsRel C B pts ops l σ σ' →
    ∃ a' w' la' mu', FI C base H₀ mu₀ w₀ la' mu' σ' a' w' ∧
      ∀ (b : Frame) k cs, Steps C.P (lone (b.atR a (.inRegion ops l :: k)) cs w) (lone (b.atR a' k) cs w')
  | [], σ, σ', a, w, la, mu, h, hs => by
    cases hs
    exact ⟨a, w, la, mu, h, fun b k cs => .one stepR_region_end⟩
  | i :: l, σ, σ', a, w, la, mu, h, hs => by
    obtain ⟨σ₁, h1, h2⟩ := hs
    obtain ⟨a₁, w₁, la₁, mu₁, g1, g2⟩ := sim_step hB h h1
    obtain ⟨a₂, w₂, la₂, mu₂, g3, g4⟩ := sim_ops hB l σ₁ σ' a₁ w₁ la₁ mu₁ g1 h2
    exact ⟨a₂, w₂, la₂, mu₂, g3, fun b k cs => (g2 b l k cs).trans (g4 b k cs)⟩

end
end
end Go.Am

/-
  THE MACHINE FOLLOWS THE ABSTRACT RUN: code, calls, rounds.
-/
namespace Go.Am

section
variable [Val]

section
variable {C : Cfg} {base : Nat} {H₀ : List HObj} {mu₀ : HMap} {w₀ : World} {la : LMap} {mu : HMap} {σ : St} {a : Act} {w : World}

theorem clearAt_get (keys : List Nat) : ∀ (l : List (Option (List Value))) (i j : Nat), (clearAt keys l i)[j]? = if keys.contains (i + j) then (l[j]?).map (fun _ => none) else l[j]?
  | [], i, j => by simp [clearAt]
  | x :: l, i, j => by
    cases j with
    | zero => simp only [clearAt, List.getElem?_cons_zero, Nat.add_zero]; split <;> rfl
    | succ j =>
      simp only [clearAt, List.getElem?_cons_succ]
      rw [clearAt_get keys l (i + 1) j, show i + 1 + j = i + (j + 1) by omega]

theorem clearV_ok {keys : List Nat} {v c : Value} (h : VR la mu v c) : VR (fun s => if keys.contains s then none else la s) mu (clearV keys v) c := by
  unfold clearV
  split
  · rename_i ad
    split
    · exact .poison c
    · rename_i hn
      cases h with
      | scalar h => simp [Am.scalar] at h
      | lptr h =>
        simp at hn
        exact .lptr (by simp [hn, h])
      | hptr h => exact .hptr h
      | gptr => exact .gptr
  · split
    · rename_i hl; exact (noLoc_down hl h).up
    · exact .poison c

theorem FI.clear (h : FI C base H₀ mu₀ w₀ la mu σ a w) (keys : List Nat) : ∃ la', FI C base H₀ mu₀ w₀ la' mu (σ.clear keys) a w := by
  unfold St.clear
  split
  · exact ⟨la, h⟩
  · refine ⟨fun s => if keys.contains s then none else la s, ⟨?_, ?_, ?_, ?_, h.sr.wr⟩, h.evo, ?_, h.marks, h.low⟩
    · refine ⟨by simpa using h.sr.vals.1, fun i x y hx hy => ?_⟩
      rw [List.getElem?_map] at hx
      cases hv : σ.tmps[i]? with
      | none => rw [hv] at hx; cases hx
      | some v =>
        rw [hv] at hx
        cases hx
        exact clearV_ok (h.sr.vals.2 i v y hv hy)
    · intro s b hb
      split at hb
      · cases hb
      · rename_i hk
        obtain ⟨vs, h1⟩ := h.sr.ldom s b hb
        exact ⟨vs, by rw [clearAt_get, Nat.zero_add, if_neg hk]; exact h1⟩
    · intro s vs hs
      rw [clearAt_get, Nat.zero_add] at hs
      split at hs
      · cases hl : σ.loc[s]? with
        | none => rw [hl] at hs; cases hs
        | some x => rw [hl] at hs; cases hs
      · rename_i hk
        obtain ⟨b, c, e, h1, h2⟩ := h.sr.loc s vs hs
        exact ⟨b, c, e, by show (if _ then none else la s) = _; rw [if_neg hk]; exact h1, h2⟩
    · intro s s' b hs hs'
      split at hs
      · cases hs
      · split at hs'
        · cases hs'
        · exact h.sr.linj s s' b hs hs'
    · intro s b hb
      split at hb
      · cases hb
      · exact h.fresh s b hb

theorem FI.drew (h : FI C base H₀ mu₀ w₀ la mu σ a w) (n : Nat) : FI C base H₀ mu₀ w₀ la mu σ a { w with drawn := n } :=
  ⟨⟨h.sr.vals, h.sr.ldom, h.sr.loc, h.sr.linj, h.sr.wr.drew n⟩, h.evo.drew n, h.fresh, h.marks, h.low⟩

theorem stepR_scope {P : Program} {b : Frame} {a : Act} {k : List Item} {cs : List Frame} {w : World} {c : Code} :
    step P (lone (b.atR a (.code (.scope c) :: k)) cs w) = .next (lone (b.atR a (.code c :: .inScope c :: k)) cs w) :=
  step_lone_go (by simp [stepG, stepG.exec, Frame.atR])

theorem stepR_inScope {P : Program} {b : Frame} {a : Act} {k : List Item} {cs : List Frame} {w : World} {c : Code} :
    step P (lone (b.atR a (.inScope c :: k)) cs w) = .next (lone (b.atR a k) cs w) :=
  step_lone_go (by simp [stepG, stepG.exec, Frame.atR])

/-- Where a piece of code leads. -/
def Arr (P : Program) (b : Frame) (k : List Item) (cs : List Frame) (m : Machine) (a' : Act) (w' : World) : Exit → Prop
  | .normal => Steps P m (lone (b.atR a' k) cs w')
  | .ret => ∃ todo, Steps P m (lone (b.atR a' (.code .ret :: todo)) cs w')
  | .exit id => ∃ todo, Steps P m (lone (b.atR a' (.code (.exit id) :: todo)) cs w') ∧ exitTo id todo = exitTo id k
  | _ => False

theorem Arr.of_steps {P : Program} {b : Frame} {k : List Item} {cs : List Frame} {m m₁ : Machine} {a' : Act} {w' : World} {e : Exit} (h : Steps P m m₁) (h' : Arr P b k cs m₁ a' w' e) : Arr P b k cs m a' w' e := by
  cases e with
  | normal => exact h.trans h'
  | ret => obtain ⟨t, h'⟩ := h'; exact ⟨t, h.trans h'⟩
  | exit id => obtain ⟨t, h', h''⟩ := h'; exact ⟨t, h.trans h', h''⟩
  | _ => exact h'.elim

/-- Out of an item that catches nothing. -/
theorem Arr.pass {P : Program} {b : Frame} {x : Item} {k : List Item} {cs : List Frame} {m : Machine} {a' : Act} {w' : World} {e : Exit} (hx : ∀ id, exitTo id (x :: k) = exitTo id k) (hn : e ≠ .normal) (h : Arr P b (x :: k) cs m a' w' e) : Arr P b k cs m a' w' e := by
  cases e with
  | normal => exact absurd rfl hn
  | ret => exact h
  | exit id => obtain ⟨t, h', h''⟩ := h; exact ⟨t, h', by rw [h'', hx]⟩
  | _ => exact h.elim

/-- The statement that is proved by induction. -/
def CodeOk (C : Cfg) (S : Sems) : Prop :=
  ∀ (base : Nat) (H₀ : List HObj) (mu₀ : HMap) (w₀ : World) (ro : Option Nat) (fn : FuncId) (pts : List Nat) (code : Code) (σ σ' : St) (e : Exit) (la : LMap) (mu : HMap) (a : Act) (w : World), (pts ≠ [] → ro = none) →
    S.ex pts code σ e σ' → FI C base H₀ mu₀ w₀ la mu σ a w →
    ∃ a' w' la' mu', FI C base H₀ mu₀ w₀ la' mu' σ' a' w' ∧ ∀ (b : Frame) k cs, b.roundOf = ro → b.fn = fn → Arr C.P b k cs (lone (b.atR a (.code code :: k)) cs w) a' w' e

theorem hloop_ok (hw : WR C base mu σ.heap w) {id : Nat} {r : ALoop} (h : hloop σ.heap id = some r) : ∃ p, mu id = some p ∧ σ.heap[id]? = some (.loop r) ∧
    ∃ L : Loop, w.heap[p.b]? = some (.loop L) ∧ L.state = r.state ∧ L.pending = r.pending ∧ L.params.toList = r.params ∧ L.assign = r.assign ∧ L.body = r.body ∧ VRs noL mu r.tmps L.tmps.toList := by
  unfold hloop at h
  split at h
  · rename_i r' hid
    cases h
    obtain ⟨p, hp, hr⟩ := hw.obj id _ hid rfl
    exact ⟨p, hp, hid, hr⟩
  · cases h

/-- A loop's record is written. -/
theorem WR.setLoop (hw : WR C base mu σ.heap w) {id : Nat} {r r' : ALoop} {p : Pl} {L' : Loop} (hid : σ.heap[id]? = some (.loop r)) (hp : mu id = some p)
    (h1 : L'.state = r'.state) (h2 : L'.pending = r'.pending) (h3 : L'.params.toList = r'.params) (h4 : L'.assign = r'.assign) (h5 : L'.body = r'.body) (h6 : VRs noL mu r'.tmps L'.tmps.toList) :
    WR C base mu (σ.heap.set id (.loop r')) { w with heap := w.heap.setIfInBounds p.b (.loop L') } ∧ Evo σ.heap mu w (σ.heap.set id (.loop r')) mu { w with heap := w.heap.setIfInBounds p.b (.loop L') } :=
  hw.set (w' := { w with heap := w.heap.setIfInBounds p.b (.loop L') }) (x := .loop L') hid rfl hp rfl rfl rfl rfl (.loop r') (fun _ => rfl) ⟨L', rfl, h1, h2, h3, h4, h5, h6⟩

theorem snap_ok {tmps : List Value} {cs : List Value} (h : VRs la mu tmps cs) : VRs noL mu (snap tmps) cs := by
  refine ⟨by simp [snap, h.1], fun i x y hx hy => ?_⟩
  simp only [snap, List.getElem?_map] at hx
  cases hv : tmps[i]? with
  | none => rw [hv] at hx; cases hx
  | some v =>
    rw [hv] at hx
    cases hx
    have := h.2 i v y hv hy
    show VR noL mu (if noLoc v then v else poison) y
    split
    · rename_i hn; exact noLoc_down hn this
    · exact .poison y

theorem snapOf_ok {tmps tm : List Value} {cs : List Value} (hs : SnapOf tmps tm) (h : VRs la mu tmps cs) : VRs noL mu tm cs := by
  refine ⟨by rw [hs.1, h.1], fun i x y hx hy => ?_⟩
  rcases hs.2 i x hx with rfl | ⟨h1, h2⟩
  · exact .poison y
  · exact noLoc_down h2 (h.2 i x y h1 hy)

/-- A block that is none of the abstract heap's. -/
theorem WR.other (hw : WR C base mu σ.heap w) (o : Obj) : WR C base mu σ.heap (w.alloc o) ∧ Evo σ.heap mu w σ.heap mu (w.alloc o) := by
  have hold : ∀ b, b < w.heap.size → (w.alloc o).heap[b]? = w.heap[b]? := fun b hb => by
    show (w.heap.push _)[b]? = _
    rw [Array.getElem?_push, if_neg (by omega)]
  refine ⟨⟨?_, hw.inj, hw.own, hw.ro, hw.dom, ?_⟩, ⟨Nat.le_refl _, fun _ _ => rfl, by simp, fun b hb _ => hold b hb, fun b hb => .inr hb, rfl, rfl, rfl⟩⟩
  · intro id x hid ha
    obtain ⟨p, h1, h2⟩ := hw.obj id x hid ha
    exact ⟨p, h1, by rw [hold _ (objR_lt ha h2)]; exact h2⟩
  · intro g vs hg
    obtain ⟨h1, h2, c, e', fr, h3, h4⟩ := hw.glob g vs hg
    exact ⟨h1, h2, c, e', fr, by rw [hold g (Array.getElem?_eq_some_iff.1 h3).1]; exact h3, h4⟩

theorem run_getLoop {l : Nat} {L : Loop} (h : w.heap[l]? = some (.loop L)) : (Instr.getLoop l).run C.P w = .ok L w := by
  have : (getObj l).run C.P w = .ok (.loop L) w := by simp [getObj, Sem.run, h]
  simp [Instr.getLoop, this]
theorem run_setLoop {l : Nat} {L : Loop} {o : Obj} (h : w.heap[l]? = some (.loop L)) : (setObj l o).run C.P w = .ok () { w with heap := w.heap.setIfInBounds l o } := by
  simp [setObj, Sem.run, h]

theorem run_endLoop {l : Nat} {L : Loop} (h : w.heap[l]? = some (.loop L)) (hb : L.state ≠ .busy) :
    (Instr.endLoop l).run C.P w = .ok L.pending { w with heap := w.heap.setIfInBounds l (.loop { L with state := .exhausted }) } := by
  simp [Instr.endLoop, Sem.run_bind, run_getLoop h, run_setLoop h, Result.andThen]
  exact fun h => absurd h hb

theorem run_beginRound {l : Nat} {L : Loop} (h : w.heap[l]? = some (.loop L)) (hb : L.state = .ready) :
    (Instr.beginRound l).run C.P w = .ok () { w with heap := w.heap.setIfInBounds l (.loop { L with state := .busy }) } := by
  simp [Instr.beginRound, Sem.run_bind, run_getLoop h, hb, run_setLoop h, Result.andThen]

theorem run_endRound {l : Nat} {L : Loop} (h : w.heap[l]? = some (.loop L)) (j : Option Code) :
    (Instr.endRound l j).run C.P w = .ok (.bool j.isNone) { w with heap := w.heap.setIfInBounds l (.loop { L with state := if j.isNone then .ready else .done, pending := j }) } := by
  simp [Instr.endRound, Sem.run_bind, run_getLoop h, run_setLoop h, Result.andThen]

theorem code_next (hm : C.P.follows .mixedOrders = true) {S : Sems} (hB : BOk C S.toBelow) (hS : CodeOk C S) : CodeOk C { S with ex := exNext C S } := by
  intro base H₀ mu₀ w₀ ro fn pts code σ σ' e la mu a w hro hex h
  cases code with
  | skip =>
    obtain ⟨rfl, rfl⟩ := hex
    exact ⟨a, w, la, mu, h, fun b k cs _ _ => .one stepR_skip⟩
  | label l =>
    obtain ⟨rfl, rfl⟩ := hex
    exact ⟨a, w, la, mu, h, fun b k cs _ _ => .one stepR_label⟩
  | ret =>
    obtain ⟨rfl, rfl⟩ := hex
    exact ⟨a, w, la, mu, h, fun b k cs _ _ => ⟨k, .refl _ _⟩⟩
  | exit id =>
    obtain ⟨rfl, rfl⟩ := hex
    exact ⟨a, w, la, mu, h, fun b k cs _ _ => ⟨k, .refl _ _, rfl⟩⟩
  | goto l => exact hex.elim
  | refuse s => exact hex.elim
  | seq x y =>
    obtain ⟨e₁, σ₁, h1, h2⟩ := hex
    obtain ⟨a₁, w₁, la₁, mu₁, g1, g2⟩ := hS base H₀ mu₀ w₀ ro fn pts x σ σ₁ e₁ la mu a w hro h1 h
    rcases h2 with ⟨rfl, h2⟩ | ⟨hne, rfl, rfl⟩
    · obtain ⟨a₂, w₂, la₂, mu₂, g3, g4⟩ := hS base H₀ mu₀ w₀ ro fn pts y σ₁ σ' e la₁ mu₁ a₁ w₁ hro h2 g1
      exact ⟨a₂, w₂, la₂, mu₂, g3, fun b k cs hb hf => .of_steps (.head stepR_seq (g2 b (.code y :: k) cs hb hf)) (g4 b k cs hb hf)⟩
    · exact ⟨a₁, w₁, la₁, mu₁, g1, fun b k cs hb hf => .of_steps (.one stepR_seq) (.pass (fun id => rfl) hne (g2 b (.code y :: k) cs hb hf))⟩
  | cond c x y =>
    obtain ⟨t, ht, h1⟩ := hex
    obtain ⟨a₁, w₁, la₁, mu₁, g1, g2⟩ := hS base H₀ mu₀ w₀ ro fn pts _ σ σ' e la mu a w hro h1 h
    have hc := eval_ok h.sr c
    rw [ht] at hc
    exact ⟨a₁, w₁, la₁, mu₁, g1, fun b k cs hb hf => .of_steps (.one (stepR_cond hc.bool)) (g2 b k cs hb hf)⟩
  | block id x =>
    obtain ⟨e₁, h1, rfl⟩ := hex
    obtain ⟨a₁, w₁, la₁, mu₁, g1, g2⟩ := hS base H₀ mu₀ w₀ ro fn pts x σ σ' e₁ la mu a w hro h1 h
    refine ⟨a₁, w₁, la₁, mu₁, g1, fun b k cs hb hf => ?_⟩
    have g := g2 b (.inBlock id :: k) cs hb hf
    refine .of_steps (.one stepR_block) ?_
    cases e₁ with
    | normal => exact Steps.trans g (.one stepR_inBlock)
    | ret => exact g
    | exit i =>
      obtain ⟨t, s1, s2⟩ := g
      show Arr C.P b k cs _ a₁ w₁ (if i = id then .normal else .exit i)
      by_cases hi : i = id
      · rw [if_pos hi]
        subst hi
        have : exitTo i t = some k := by rw [s2]; simp [exitTo]
        exact s1.trans (.one (stepR_exit this))
      · rw [if_neg hi]
        refine ⟨t, s1, ?_⟩
        rw [s2]
        have hne : (id == i) = false := by simp; exact fun e => hi e.symm
        simp [exitTo, hne]
    | _ => exact g.elim
  | loop x =>
    obtain ⟨e₁, σ₁, h1, h2⟩ := hex
    obtain ⟨la₀, h0⟩ := h.clear (boxKeys pts x)
    obtain ⟨a₁, w₁, la₁, mu₁, g1, g2⟩ := hS base H₀ mu₀ w₀ ro fn pts x _ σ₁ e₁ la₀ mu a w hro h1 h0
    rcases h2 with ⟨rfl, h2⟩ | ⟨hne, rfl, rfl⟩
    · obtain ⟨a₂, w₂, la₂, mu₂, g3, g4⟩ := hS base H₀ mu₀ w₀ ro fn pts (.loop x) σ₁ σ' e la₁ mu₁ a₁ w₁ hro h2 g1
      refine ⟨a₂, w₂, la₂, mu₂, g3, fun b k cs hb hf => ?_⟩
      have s1 : Steps C.P (lone (b.atR a (.code (.loop x) :: k)) cs w) (lone (b.atR a₁ (.inLoop x :: k)) cs w₁) := .head stepR_loop (g2 b (.inLoop x :: k) cs hb hf)
      have s2 := g4 b k cs hb hf
      -- the machine comes to the loop's head by the item, the abstract run by the code: both make the same next step
      have hsame : ∀ m', Steps C.P (lone (b.atR a₁ (.code (.loop x) :: k)) cs w₁) m' → (∃ n, runN C.P (n + 1) (lone (b.atR a₁ (.code (.loop x) :: k)) cs w₁) = .next m') ∨ m' = lone (b.atR a₁ (.code (.loop x) :: k)) cs w₁ := by
        rintro m' ⟨n, hn⟩
        cases n with
        | zero => simp [runN] at hn; exact .inr hn.symm
        | succ n => exact .inl ⟨n, hn⟩
      have hgo : ∀ m', Steps C.P (lone (b.atR a₁ (.code (.loop x) :: k)) cs w₁) m' → m' ≠ lone (b.atR a₁ (.code (.loop x) :: k)) cs w₁ → Steps C.P (lone (b.atR a₁ (.inLoop x :: k)) cs w₁) m' := by
        intro m' hm' hne
        rcases hsame m' hm' with ⟨n, hn⟩ | rfl
        · refine ⟨n + 1, ?_⟩
          simp only [runN, stepR_loop, stepR_inLoop] at hn ⊢
          exact hn
        · exact absurd rfl hne
      have htodo : ∀ (a' : Act) (t : List Item) (w' : World), t ≠ .code (.loop x) :: k → lone (b.atR a' t) cs w' ≠ lone (b.atR a₁ (.code (.loop x) :: k)) cs w₁ := by
        intro a' t w' hne e
        have e' := congrArg (fun m : Machine => (m.gs[0]?).map (fun g => g.frame.todo)) e
        simp [lone, Frame.atR] at e'
        exact hne e'
      refine .of_steps s1 ?_
      cases e with
      | normal =>
        refine hgo _ s2 (htodo _ _ _ fun e => ?_)
        have := congrArg List.length e
        simp at this
      | ret =>
        obtain ⟨t, s2⟩ := s2
        exact ⟨t, hgo _ s2 (htodo _ _ _ fun e => by simp at e)⟩
      | exit id =>
        obtain ⟨t, s2, s3⟩ := s2
        exact ⟨t, hgo _ s2 (htodo _ _ _ fun e => by simp at e), s3⟩
      | _ => exact s2.elim
    · exact ⟨a₁, w₁, la₁, mu₁, g1, fun b k cs hb hf => .of_steps (.one stepR_loop) (.pass (fun id => rfl) hne (g2 b (.inLoop x :: k) cs hb hf))⟩
  | scope x =>
    obtain ⟨a₁, w₁, la₁, mu₁, g1, g2⟩ := hS base H₀ mu₀ w₀ ro fn pts x σ σ' e la mu a w hro hex h
    refine ⟨a₁, w₁, la₁, mu₁, g1, fun b k cs hb hf => .of_steps (.one stepR_scope) ?_⟩
    have g := g2 b (.inScope x :: k) cs hb hf
    by_cases hn : e = .normal
    · subst hn; exact Steps.trans g (.one stepR_inScope)
    · exact .pass (fun id => rfl) hn g
  | region id ops draw =>
    obtain ⟨rfl, h1⟩ := hex
    cases draw with
    | false =>
      obtain ⟨a₁, w₁, la₁, mu₁, g1, g2⟩ := sim_opsR hB _ _ _ _ _ _ _ h h1
      exact ⟨a₁, w₁, la₁, mu₁, g1, fun b k cs _ _ => .head stepR_region (g2 b k cs)⟩
    | true =>
      have hd : FI C base H₀ mu₀ w₀ la mu σ a { w with drawn := w.drawn + 1 } := h.drew _
      obtain ⟨σ₀, h0, h1⟩ := h1
      obtain ⟨a₁, w₁, la₁, mu₁, g1, g2⟩ := sim_ops hB _ _ _ _ _ _ _ (hd.restate h0) (h1 (w.tape w.drawn (.order fn id)))
      refine ⟨a₁, w₁, la₁, mu₁, g1, fun b k cs _ hf => .head stepR_region_draw ?_⟩
      rw [hm, hf]
      exact g2 b k cs
  | rangeFunc f params assign body =>
    obtain ⟨hpts, g, first, cap, φ, tm, r, H, r₂, hsnap, hf, hnl, hcall, hl, hbusy, hexit, rfl⟩ := hex
    obtain rfl := hro hpts
    have hfe := eval_ok h.sr f
    rw [hf] at hfe
    obtain ⟨x', y', hev, r1, r2⟩ := hfe.func_inv
    have hnl' : first.toList.all noLoc3 = true ∧ cap.toList.all noLoc3 = true := by simpa [noLoc] using hnl
    have d1 : VRs noL mu first.toList x'.toList := ⟨r1.1, fun i u v hu hv => noLoc3_down (all_get hnl'.1 hu) (r1.2 i u v hu hv)⟩
    have d2 : VRs noL mu cap.toList y'.toList := ⟨r2.1, fun i u v hu hv => noLoc3_down (all_get hnl'.2 hu) (r2.2 i u v hu hv)⟩
    -- the block of the deferred calls
    obtain ⟨hW1, hE1⟩ := h.sr.wr.other (.deferred (some []))
    have hr1 : (w.alloc (.deferred (some []))).heap[w.heap.size]? = some (.deferred (some [])) := by
      show (w.heap.push _)[_]? = _
      simp
    have hno : ¬ Own mu σ.heap w.heap.size := fun ho => by have := (Own.lt h.sr.wr ho).1; omega
    have hF1 : FI C base H₀ mu₀ w₀ la mu σ { a with defers := ({ target := .collected w.heap.size, args := #[] } : Deferred) :: a.defers } (w.alloc (.deferred (some []))) := by
      have h' := h.heap hW1 hE1
      refine ⟨h'.sr, h'.evo, h'.fresh, ?_, h'.low⟩
      obtain ⟨rs, k1, k2, k3⟩ := h.marks
      have hlt : ∀ r ∈ rs, r < w.heap.size := fun r hr => by
        obtain ⟨_, k4, _⟩ := k3 r hr
        exact (Array.getElem?_eq_some_iff.1 k4).1
      refine ⟨w.heap.size :: rs, by rw [k1]; rfl, List.nodup_cons.2 ⟨fun hm => by have := hlt _ hm; omega, k2⟩, fun r hr => ?_⟩
      rcases List.mem_cons.1 hr with rfl | hr
      · exact ⟨h.evo.size, hr1, hno⟩
      · obtain ⟨k4, k5, k6⟩ := k3 r hr
        exact ⟨k4, by rw [hE1.keep r (hlt r hr) k6]; exact k5, k6⟩
    -- the loop's record
    have hb1 : base ≤ (w.alloc (.deferred (some []))).heap.size := hF1.big
    let L : Loop := { state := .ready, pending := none, fn, tmps := a.tmps, params, assign, body, defers := w.heap.size }
    let w₂ : World := (w.alloc (.deferred (some []))).alloc (.loop L)
    let p : Pl := ⟨(w.alloc (.deferred (some []))).heap.size, 0, 0, 0⟩
    obtain ⟨hW2, hE2⟩ := hF1.sr.wr.new hb1 (w' := w₂) (x := .loop L) rfl rfl rfl rfl (.loop { state := .ready, pending := none, fn := φ, tmps := tm, params := params.toList, assign, body }) p rfl
      ⟨L, rfl, rfl, rfl, rfl, rfl, rfl, (snapOf_ok hsnap h.sr.vals).mono (fun _ _ h => h) (upd_mono h.sr.wr p)⟩ (fun _ => rfl)
    have hF2 := hF1.heap hW2 hE2
    have hmono := upd_mono h.sr.wr p
    -- the call
    have hargs : VRs noL (upd mu σ.heap.length p) (first.toList ++ [.func (.yield σ.heap.length) #[] #[]] ++ cap.toList) (x' ++ #[Value.func (.yield p.b) #[] #[]] ++ y').toList := by
      simp only [Array.toList_append]
      exact ((d1.mono (fun _ _ h => h) hmono).append (.cons (.yield (upd_same _ _ _)) .nil)).append (d2.mono (fun _ _ h => h) hmono)
    obtain ⟨v, mu', w', q1, q2, q3, q4, q5⟩ := hB.call _ _ _ _ _ hcall base _ w₂ _ hF2.big hargs hW2
    have hF3 := hF2.heap q2 q3
    have hmu' : mu' σ.heap.length = some p := by rw [q3.same _ (by simp)]; exact upd_same _ _ _
    obtain ⟨p', hp', hid, L', hL', e1, e2, e3, e4, e5, e6⟩ := hloop_ok (σ := { σ with heap := H }) q2 hl
    obtain rfl : p' = p := by rw [hmu'] at hp'; exact (Option.some.inj hp').symm
    obtain ⟨hW4, hE4⟩ := WR.setLoop (σ := { σ with heap := H }) q2 hid hp' (r' := { r₂ with state := .exhausted }) (L' := { L' with state := .exhausted }) rfl e2 e3 e4 e5 e6
    have hF4 := hF3.heap hW4 hE4
    refine ⟨_, _, la, mu', hF4, fun b k cs hb hfn => ?_⟩
    have henter : (Instr.enterLoop b.fn a.tmps params assign body b.roundOf).run C.P w = .ok (p.b, [({ target := .collected w.heap.size, args := #[] } : Deferred)]) w₂ := by
      rw [hb, hfn]
      rfl
    have hres : (resolve a.eval (rangeCall f p.b) 0).run C.P w₂ = .ok { target := .fn (.func g) y', args := x' ++ #[.func (.yield p.b) #[] #[]] } w₂ := by
      have hmap : Array.map a.eval #[Operand.const (Value.func (Fn.yield p.b) #[] #[])] = #[Value.func (Fn.yield p.b) #[] #[]] := by simp [Act.eval]
      simp only [resolve, hev, Deferred.ofValue, hmap]
      rfl
    have hinv : (invoke (.fn (.func g) y') (x' ++ #[.func (.yield p.b) #[] #[]])).run C.P w₂ = .ok (.enter g (x' ++ #[.func (.yield p.b) #[] #[]] ++ y')) w₂ := q4
    have s1 := stepR_rangeFunc (P := C.P) (b := b) (a := a) (k := k) (cs := cs) henter hres hinv
    obtain ⟨fr, s2, _, s3⟩ := q5 (b.atR { a with defers := [({ target := .collected w.heap.size, args := #[] } : Deferred)] ++ a.defers } (.inRangeFunc p.b :: k) :: cs)
    have hend : (Instr.endLoop p.b).run C.P w' = .ok r₂.pending { w' with heap := w'.heap.setIfInBounds p.b (.loop { L' with state := .exhausted }) } := by
      rw [← e2]
      exact run_endLoop hL' (by rw [e1]; exact hbusy)
    have s4 : Steps C.P (lone (b.atR a (.code (.rangeFunc f params assign body) :: k)) cs w) (lone (b.atR { a with defers := [({ target := .collected w.heap.size, args := #[] } : Deferred)] ++ a.defers } ((r₂.pending.map Item.code).toList ++ k)) cs { w' with heap := w'.heap.setIfInBounds p.b (.loop { L' with state := .exhausted }) }) := by
      refine .head s1 (s2.trans (.head ?_ (.one (stepR_endRangeFunc hend))))
      rw [← finish_atR_inRangeFunc p.b v]
      exact step_leave_returned s3
    unfold exitOf at hexit
    split at hexit
    · rename_i hp; cases hexit; rw [hp] at s4; exact s4
    · rename_i hp; cases hexit; rw [hp] at s4; exact ⟨k, s4⟩
    · rename_i hp; cases hexit; rw [hp] at s4; exact ⟨k, s4, rfl⟩
    · cases hexit

end
end
end Go.Am

/-
  THE MACHINE FOLLOWS THE ABSTRACT RUN: calls, rounds, and all depths.
-/
namespace Go.Am

section
variable [Val]

section
variable {C : Cfg} {base : Nat} {H₀ : List HObj} {mu₀ : HMap} {w₀ : World} {la : LMap} {mu : HMap} {σ : St} {a : Act} {w : World}

/-- A mark's block is shut. -/
theorem FI.shut {d : Deferred} {ds : List Deferred} (h : FI C base H₀ mu₀ w₀ la mu σ a w) (hd : a.defers = d :: ds) :
    ∃ r, d.target = .collected r ∧ (Instr.takeDeferred r).run C.P w = .ok [] { w with heap := w.heap.setIfInBounds r (.deferred none) } ∧
      FI C base H₀ mu₀ w₀ la mu σ { a with defers := ds } { w with heap := w.heap.setIfInBounds r (.deferred none) } := by
  obtain ⟨rs, h1, h2, h3⟩ := h.marks
  rw [hd] at h1
  cases rs with
  | nil => cases h1
  | cons r rs =>
    simp only [List.map_cons, List.cons.injEq] at h1
    obtain ⟨rfl, rfl⟩ := h1
    obtain ⟨k1, k2, k3⟩ := h3 r (by simp)
    have hlt : r < w.heap.size := (Array.getElem?_eq_some_iff.1 k2).1
    have hold : ∀ b, b ≠ r → (w.heap.setIfInBounds r (.deferred none))[b]? = w.heap[b]? := fun b hb => Array.getElem?_setIfInBounds_ne (Ne.symm hb)
    have hlow := h.low
    refine ⟨r, rfl, ?_, ⟨⟨h.sr.vals, h.sr.ldom, ?_, h.sr.linj, ⟨?_, h.sr.wr.inj, h.sr.wr.own, h.sr.wr.ro, h.sr.wr.dom, ?_⟩⟩, ?_, h.fresh, ?_, h.low⟩⟩
    · have hg : (getObj r).run C.P w = .ok (.deferred (some [])) w := by simp [getObj, Sem.run, k2]
      have hs : (setObj r (.deferred none)).run C.P w = .ok () { w with heap := w.heap.setIfInBounds r (.deferred none) } := by simp [setObj, Sem.run, k2]
      simp [Instr.takeDeferred, Sem.run_bind, hg, hs, Result.andThen]
    · intro s vs hs
      obtain ⟨b, c, e, e1, e2, e3, e4⟩ := h.sr.loc s vs hs
      exact ⟨b, c, e, e1, e2, by rw [← e3]; exact hold b (fun eb => by subst eb; rw [k2] at e3; cases e3), e4⟩
    · intro id o hid ha
      obtain ⟨p, e1, e2⟩ := h.sr.wr.obj id o hid ha
      refine ⟨p, e1, ?_⟩
      show objR mu p (w.heap.setIfInBounds r (.deferred none))[p.b]? o
      by_cases hpb : p.b = r
      · exfalso
        by_cases hown : o.owned = true
        · exact k3 ⟨id, o, p, hid, hown, e1, hpb⟩
        · have := h.sr.wr.ro id o p hid ha (by simpa using hown) e1
          omega
      · rw [hold _ hpb]; exact e2
    · intro g vs hg
      obtain ⟨e1, e2, c, e', fr, e3, e4⟩ := h.sr.wr.glob g vs hg
      exact ⟨e1, e2, c, e', fr, by rw [← e3]; exact hold g (by omega), e4⟩
    · refine ⟨h.evo.len, h.evo.same, by simpa using h.evo.size, fun k hk ho => ?_, h.evo.steal, h.evo.os, h.evo.tape, h.evo.output⟩
      rw [← h.evo.keep k hk ho]
      exact hold k (by omega)
    · have hnd := List.nodup_cons.1 h2
      refine ⟨rs, rfl, hnd.2, fun r' hr' => ?_⟩
      obtain ⟨e1, e2, e3⟩ := h3 r' (by simp [hr'])
      exact ⟨e1, by rw [← e2]; exact hold r' (fun e => hnd.1 (e ▸ hr')), e3⟩

/-- All marks are shut. -/
theorem unwind_ok : ∀ (ds : List Deferred) (a : Act) (w : World), a.defers = ds → FI C base H₀ mu₀ w₀ la mu σ a w →
    ∃ w', FI C base H₀ mu₀ w₀ la mu σ { a with defers := [] } w' ∧
      ∀ (b : Frame) (todo : List Item) (cs : List Frame), Steps C.P (lone { b.atR a todo with mode := .returning } cs w) (lone { b.atR { a with defers := [] } todo with mode := .returning } cs w')
  | [], a, w, hd, h => by
    obtain ⟨tmps, defers⟩ := a
    simp only at hd
    subst hd
    exact ⟨w, h, fun b todo cs => .refl _ _⟩
  | d :: ds, a, w, hd, h => by
    obtain ⟨r, h1, h2, h3⟩ := h.shut hd
    obtain ⟨w', h4, h5⟩ := unwind_ok ds { a with defers := ds } _ rfl h3
    refine ⟨w', h4, fun b todo cs => .head ?_ (h5 b todo cs)⟩
    exact step_collected (fr := { b.atR a todo with mode := .returning }) (by simp) (show a.defers = d :: ds from hd) h1 h2

def resultS (tmps : Array Value) : ResultVar → Sem Value
  | .tmp t => pure (tmps.getD t undef)
  | .cell p t => do loadVar t (← asAddr (tmps.getD p undef))

theorem results_eq (fn : Func) (tmps : Array Value) : results fn tmps = (do
    let vs ← fn.results.mapM (resultS tmps)
    pure (if h : vs.size = 1 then vs[0] else .tuple vs)) := by
  have : (fun x => match x with
    | ResultVar.tmp t => pure (tmps.getD t undef)
    | ResultVar.cell p t => (do loadVar t (← asAddr (tmps.getD p undef)) : Sem Value)) = resultS tmps := by
    funext x; cases x <;> rfl
  rw [← this]
  rfl

theorem resultA_ok (h : SR C base la mu σ a.tmps w) {x : ResultVar} {v : Value} (hx : resultA C σ x = some v) :
    ∃ v', (resultS a.tmps x).run C.P w = .ok v' w ∧ VR la mu v v' := by
  have hget : ∀ t, VR la mu (σ.tmps.getD t undef) (a.tmps.getD t undef) := fun t => eval_ok h (.tmp t)
  cases x with
  | tmp t =>
    simp only [resultA] at hx
    cases hx
    exact ⟨_, rfl, hget t⟩
  | cell p t =>
    simp only [resultA] at hx
    have hp := hget p
    split at hx
    · rename_i ad hv
      rw [hv] at hp
      split at hx
      · rename_i hsp
        cases hcl : hcells σ.heap ad.block with
        | none => rw [hcl] at hx; cases hx
        | some vs =>
          rw [hcl] at hx
          generalize hw : a.tmps.getD p undef = y at hp ⊢
          cases hp with
          | scalar hs => simp [Am.scalar] at hs
          | lptr _ => simp at hsp
          | gptr => simp at hsp
          | hptr hmu =>
            obtain ⟨c, e, fr, h1, h2⟩ := hcells_ok h.wr hcl hmu
            obtain ⟨v', h3, h4⟩ := run_loadVar (C := C) h2 hx h1
            exact ⟨v', by simp only [resultS, hw, asAddr]; exact h3, h4.up⟩
      · rename_i hsp
        split at hx
        · rename_i vs hloc
          generalize hw : a.tmps.getD p undef = y at hp ⊢
          cases hp with
          | scalar hs => simp [Am.scalar] at hs
          | hptr _ => simp at hsp
          | gptr => simp at hsp
          | lptr hla =>
            obtain ⟨c, e, h1, h2, h3⟩ := loc_ok h hloc hla
            obtain ⟨v', h4, h5⟩ := run_loadVar (C := C) (CellsR.of_list h2) hx h1
            exact ⟨v', by simp only [resultS, hw, asAddr]; simpa using h4, h5.up⟩
        · cases hx
      · cases hx
    · cases hx

theorem resultsA_ok (h : SR C base la mu σ a.tmps w) : ∀ {l : List ResultVar} {vs : List Value}, resultsA C σ l = some vs →
    ∃ vs', (l.mapM (resultS a.tmps)).run C.P w = .ok vs' w ∧ VRs la mu vs vs'
  | [], vs, hx => by
    cases hx
    exact ⟨[], by simp, .nil⟩
  | x :: l, vs, hx => by
    simp only [resultsA] at hx
    split at hx
    · rename_i v vs1 hv hvs
      cases hx
      obtain ⟨v', h1, h2⟩ := resultA_ok h hv
      obtain ⟨vs', h3, h4⟩ := resultsA_ok h hvs
      refine ⟨v' :: vs', ?_, .cons h2 h4⟩
      simp only [List.mapM_cons, Sem.run_bind, h1, Result.andThen_ok, Sem.run_pure, h3]
    · cases hx

theorem results_ok (h : SR C base la mu σ a.tmps w) {fn : Func} {vs : List Value} (hx : resultsA C σ fn.results.toList = some vs) :
    ∃ v', (results fn a.tmps).run C.P w = .ok v' w ∧ VR la mu (packA vs) v' := by
  obtain ⟨vs', h1, h2⟩ := resultsA_ok h hx
  rw [results_eq, Array.mapM_eq_mapM_toList, Sem.run_bind, Sem.run_map, h1]
  match vs, vs', h2 with
  | [], [], _ => exact ⟨_, rfl, .undef⟩
  | [v], [v'], h2 => exact ⟨v', rfl, h2.head⟩
  | v :: u :: l, v' :: u' :: l', h2 => exact ⟨.tuple (v' :: u' :: l').toArray, rfl, VRs.tuple (a := (v :: u :: l).toArray) (by simpa using h2)⟩
  | [], _ :: _, h2 => simpa using h2.1
  | [_], [], h2 => simpa using h2.1
  | [_], _ :: _ :: _, h2 => simpa using h2.1
  | _ :: _ :: _, [], h2 => simpa using h2.1
  | _ :: _ :: _, [_], h2 => simpa using h2.1

theorem call_next {S : Sems} (hS : CodeOk C S) {f : FuncId} {args : List Value} {H : List HObj} {r : Value} {H' : List HObj} (h : callNext C S f args H r H') : CallOk C f args H r H' := by
  obtain ⟨fn, body, e, σ, vs, hfn, hbody, hname, hex, he, hres, rfl, hnl, rfl⟩ := h
  intro base mu w args' hb hargs hW
  let a₀ : Act := { tmps := args' ++ Array.replicate (fn.ntmps - args'.size) undef, defers := [] }
  have hlen : args.length = args'.size := by simpa using hargs.1
  have hF : FI C base H mu w noL mu (enterA fn args H) a₀ w := by
    refine ⟨⟨?_, fun s b h => by simp [noL] at h, fun s vs hs => ?_, fun s s' b h => by simp [noL] at h, hW⟩, .refl _ _ _, fun s b h => by simp [noL] at h, ⟨[], rfl, by simp, fun r hr => by simp at hr⟩, hb⟩
    · simp only [enterA, a₀, Array.toList_append, Array.toList_replicate, hlen]
      exact hargs.append (.replicate _ .undef)
    · simp only [enterA, List.getElem?_replicate] at hs
      split at hs <;> cases hs
  obtain ⟨a₁, w₁, la₁, mu₁, g1, g2⟩ := hS base H mu w none f _ body _ σ e noL mu a₀ w (fun _ => rfl) hex hF
  obtain ⟨w₂, g3, g4⟩ := unwind_ok a₁.defers a₁ w₁ rfl g1
  obtain ⟨v', g5, g6⟩ := results_ok (a := { a₁ with defers := [] }) g3.sr hres
  refine ⟨v', mu₁, w₂, noLoc_down hnl g6, g3.sr.wr, g3.evo, ?_, fun cs => ?_⟩
  · have hbn : fn.body.isNone = false := by rw [hbody]; rfl
    have hp : (program).run C.P w = .ok C.P w := rfl
    simp only [callFunc, Sem.run_bind, hp, Result.andThen_ok, hfn, hname, hbn]
    rfl
  · let b : Frame := { (default : Frame) with fn := f, kind := .normal, roundOf := none }
    have henter : Frame.enter C.P f args' .normal = b.atR a₀ [.code body] := by simp [Frame.enter, Frame.atR, hfn, hbody, b, a₀]
    rw [henter]
    have hgo := g2 b [] cs rfl rfl
    rcases he with rfl | rfl
    · refine ⟨{ b.atR { a₁ with defers := [] } [] with mode := .returning }, (Steps.trans hgo (.one (stepR_end rfl))).trans (g4 b [] cs), rfl, rfl, rfl, rfl, fn, hfn, g5⟩
    · obtain ⟨todo, hgo⟩ := hgo
      refine ⟨{ b.atR { a₁ with defers := [] } (.code .ret :: todo) with mode := .returning }, (hgo.trans (.one (stepR_ret rfl))).trans (g4 b _ cs), rfl, rfl, rfl, rfl, fn, hfn, g5⟩

theorem putAll_ok : ∀ (ts : List Tmp) (vs cs : List Value) (tmps : List Value) (tmps' : Array Value), vs.length = ts.length → VRs la mu vs cs → VRs la mu tmps tmps'.toList →
    VRs la mu (putAll ts vs tmps) ((ts.zip cs).foldl (fun (t : Array Value) (x : Tmp × Value) => t.setIfInBounds x.1 x.2) tmps').toList
  | [], vs, cs, tmps, tmps', hl, hv, ht => by
    cases vs with
    | nil => simpa [putAll] using ht
    | cons _ _ => simp at hl
  | t :: ts, vs, cs, tmps, tmps', hl, hv, ht => by
    cases vs with
    | nil => simp at hl
    | cons v vs =>
      obtain ⟨c, cs', rfl, h1, h2⟩ := hv.uncons
      simp only [putAll, List.zip_cons_cons, List.foldl_cons]
      exact putAll_ok ts vs cs' _ _ (by simpa using hl) h2 (by simpa using ht.set t h1)

theorem yield_next {S : Sems} (hS : CodeOk C S) {l : Nat} {args : List Value} {H : List HObj} {r : Value} {H' : List HObj} (h : yieldNext C S l args H r H') : YieldOk C l args H r H' := by
  obtain ⟨lp, σ₁, lp₁, e, σ₂, lp₂, j, hl, hlen, hex1, hl1, hst, hex2, hj, hl2, rfl, rfl⟩ := h
  intro base mu w args' p hb hp hargs hW
  obtain ⟨p', hp', hid, L, hL, e1, e2, e3, e4, e5, e6⟩ := hloop_ok (σ := { tmps := [], loc := [], heap := H }) hW hl
  obtain rfl : p' = p := by rw [hp] at hp'; exact (Option.some.inj hp').symm
  let tm : Array Value := (L.params.zip args').foldl (fun tmps (x : Tmp × Value) => tmps.setIfInBounds x.1 x.2) L.tmps
  let a₀ : Act := { tmps := tm, defers := [] }
  have htm : VRs noL mu (putAll lp.params args lp.tmps) tm.toList := by
    have := putAll_ok lp.params args args'.toList lp.tmps L.tmps hlen hargs e6
    rw [← e3, ← Array.toList_zip] at this
    simp only [tm]
    rw [← Array.foldl_toList, ← e3]
    exact this
  have hF : FI C base H mu w noL mu { tmps := putAll lp.params args lp.tmps, loc := [], heap := H } a₀ w := by
    refine ⟨⟨htm, fun s b h => by simp [noL] at h, fun s vs hs => by simp at hs, fun s s' b h => by simp [noL] at h, hW⟩, .refl _ _ _, fun s b h => by simp [noL] at h, ⟨[], rfl, by simp, fun r hr => by simp at hr⟩, hb⟩
  obtain ⟨a₁, w₁, la₁, mu₁, g1, g2⟩ := hS base H mu w (some p'.b) L.fn [] lp.assign _ σ₁ .normal noL mu a₀ w (fun h => absurd rfl h) hex1 hF
  have hsame : ∀ {mu' : HMap} {H' : List HObj} {w' : World}, Evo H mu w H' mu' w' → mu' l = some p' := fun he => by
    rw [he.same l (List.getElem?_eq_some_iff.1 hid).1]; exact hp
  obtain ⟨p₁, hp₁, hid₁, L₁, hL₁, f1, f2, f3, f4, f5, f6⟩ := hloop_ok (σ := σ₁) g1.sr.wr hl1
  obtain rfl : p₁ = p' := by rw [hsame g1.evo] at hp₁; exact (Option.some.inj hp₁).symm
  obtain ⟨hW2, hE2⟩ := WR.setLoop (σ := σ₁) g1.sr.wr hid₁ hp₁ (r' := { lp₁ with state := .busy }) (L' := { L₁ with state := .busy }) rfl f2 f3 f4 f5 f6
  have hF2 := g1.heap hW2 hE2
  obtain ⟨a₂, w₂, la₂, mu₂, g3, g4⟩ := hS base H mu w (some p₁.b) L.fn [] lp.body _ σ₂ e la₁ mu₁ a₁ _ (fun h => absurd rfl h) hex2 hF2
  obtain ⟨p₂, hp₂, hid₂, L₂, hL₂, k1, k2, k3, k4, k5, k6⟩ := hloop_ok (σ := σ₂) g3.sr.wr hl2
  obtain rfl : p₂ = p₁ := by rw [hsame g3.evo] at hp₂; exact (Option.some.inj hp₂).symm
  obtain ⟨hW4, hE4⟩ := WR.setLoop (σ := σ₂) g3.sr.wr hid₂ hp₂ (r' := { lp₂ with state := if j.isNone then .ready else .done, pending := j }) (L' := { L₂ with state := if j.isNone then .ready else .done, pending := j }) rfl rfl k3 k4 k5 k6
  refine ⟨.bool j.isNone, mu₂, _, L.fn, tm, L.assign, L.body, .scalar rfl, hW4, g3.evo.trans hE4, ?_, fun c cs => ?_⟩
  · have hsz : args'.size = L.params.size := by
      have h1 := hargs.1
      have h2 : L.params.toList.length = lp.params.length := by rw [e3]
      simp at h1 h2; omega
    simp [Instr.yield, Sem.run_bind, run_getLoop hL, hsz, tm]
  · let b : Frame := { (default : Frame) with fn := L.fn, kind := .normal, roundOf := some p₂.b }
    have hb0 : Frame.round p₂.b L.fn tm L.assign L.body .normal = b.atR a₀ [.code L.assign, .beginRound, .code L.body] := by simp [Frame.round, Frame.atR, b, a₀]
    rw [hb0, e4, e5]
    have s1 : Steps C.P (lone (b.atR a₀ [.code lp.assign, .beginRound, .code lp.body]) (c :: cs) w) _ := g2 b [.beginRound, .code lp.body] (c :: cs) rfl rfl
    have s2 := s1.trans (.one (stepR_beginRound (k := [.code lp.body]) rfl (run_beginRound hL₁ (by rw [f1]; exact hst))))
    have s3 := g4 b [] (c :: cs) rfl rfl
    have hend := run_endRound (C := C) hL₂ j
    cases e with
    | normal =>
      cases hj
      exact (s2.trans s3).trans (.one (stepR_round_end rfl rfl hend))
    | ret =>
      cases hj
      obtain ⟨t, s3⟩ := s3
      exact (s2.trans s3).trans (.one (stepR_round_ret rfl rfl hend))
    | exit id =>
      cases hj
      obtain ⟨t, s3, hx⟩ := s3
      exact (s2.trans s3).trans (.one (stepR_round_exit rfl rfl hx hend))
    | _ => cases hj

/-- AT EVERY DEPTH. -/
theorem sems_ok (hm : C.P.follows .mixedOrders = true) {K : Known} (hK : ∀ f args H r H', K f args H r H' → CallOk C f args H r H') : ∀ n, BOk C (sems C K n).toBelow ∧ CodeOk C (sems C K n)
  | 0 => ⟨⟨hK, fun _ _ _ _ _ h => h.elim⟩, by
      intro base H₀ mu₀ w₀ ro fn pts code σ σ' e la mu a w _ h
      exact h.elim⟩
  | n + 1 => by
    obtain ⟨hB, hS⟩ := sems_ok hm hK n
    refine ⟨⟨fun f args H r H' h => h.elim (hK f args H r H') (call_next hS), fun _ _ _ _ _ h => yield_next hS h⟩, ?_⟩
    have := code_next hm hB hS
    intro base H₀ mu₀ w₀ ro fn pts code σ σ' e la mu a w hro hex hF
    exact this base H₀ mu₀ w₀ ro fn pts code σ σ' e la mu a w hro hex hF

end
end
end Go.Am

/-
  THE ABSTRACT MACHINE AT WHATEVER DEPTH: what runs at some depth runs at a greater one; the rules of runs.
-/
namespace Go.Am

section
variable [Val] {C : Cfg}

structure SemsLe (S S' : Sems) : Prop where
  call : ∀ f args H r H', S.call f args H r H' → S'.call f args H r H'
  yield : ∀ l args H r H', S.yield l args H r H' → S'.yield l args H r H'
  ex : ∀ fid c σ e σ', S.ex fid c σ e σ' → S'.ex fid c σ e σ'

theorem effRel_mono {B B' : Below} (hc : ∀ f args H r H', B.call f args H r H' → B'.call f args H r H') (hy : ∀ l args H r H', B.yield l args H r H' → B'.yield l args H r H')
    {e : Eff} {dst : Option Tmp} {σ σ' : St} (h : effRel B e dst σ σ') : effRel B' e dst σ σ' := by
  cases e <;> first
    | exact h
    | (obtain ⟨r, H, h1, h2⟩ := h; first | exact ⟨r, H, hc _ _ _ _ _ h1, h2⟩ | exact ⟨r, H, hy _ _ _ _ _ h1, h2⟩)

theorem stepRel_mono {B B' : Below} (hc : ∀ f args H r H', B.call f args H r H' → B'.call f args H r H') (hy : ∀ l args H r H', B.yield l args H r H' → B'.yield l args H r H')
    {pts : List Nat} {ops : Array Oper} {i : Nat} {σ σ' : St} (h : stepRel C B pts ops i σ σ') : stepRel C B' pts ops i σ σ' := by
  unfold stepRel at *
  split at h
  · exact h
  · split at h
    · exact h
    · exact h
    · rcases h with ⟨e, h1, h2⟩ | h
      · exact .inl ⟨e, h1, effRel_mono hc hy h2⟩
      · exact .inr h

theorem opsRel_mono {B B' : Below} (hc : ∀ f args H r H', B.call f args H r H' → B'.call f args H r H') (hy : ∀ l args H r H', B.yield l args H r H' → B'.yield l args H r H')
    {pts : List Nat} {ops : Array Oper} : ∀ {l : List Nat} {σ σ' : St}, opsRel C B pts ops l σ σ' → opsRel C B' pts ops l σ σ'
  | [], _, _, h => h
  | _ :: _, _, _, ⟨σ₁, h1, h2⟩ => ⟨σ₁, stepRel_mono hc hy h1, opsRel_mono hc hy h2⟩

theorem opsRelR_mono {B B' : Below} (hc : ∀ f args H r H', B.call f args H r H' → B'.call f args H r H') (hy : ∀ l args H r H', B.yield l args H r H' → B'.yield l args H r H')
    {pts : List Nat} {ops : Array Oper} : ∀ {l : List Nat} {σ σ' : St}, opsRelR C B pts ops l σ σ' → opsRelR C B' pts ops l σ σ'
  | [], _, _, h => h
  | _ :: _, _, _, ⟨σ₀, σ₁, h0, h1, h2⟩ => ⟨σ₀, σ₁, h0, stepRel_mono hc hy h1, opsRelR_mono hc hy h2⟩

theorem exNext_mono {S S' : Sems} (h : SemsLe S S') {fid : List Nat} {c : Code} {σ : St} {e : Exit} {σ' : St} (hx : exNext C S fid c σ e σ') : exNext C S' fid c σ e σ' := by
  cases c with
  | skip => exact hx
  | label l => exact hx
  | ret => exact hx
  | exit id => exact hx
  | goto l => exact hx
  | refuse w => exact hx
  | seq a b =>
    obtain ⟨e₁, σ₁, h1, h2⟩ := hx
    exact ⟨e₁, σ₁, h.ex _ _ _ _ _ h1, h2.imp (fun h2 => ⟨h2.1, h.ex _ _ _ _ _ h2.2⟩) id⟩
  | cond c a b =>
    obtain ⟨t, h1, h2⟩ := hx
    exact ⟨t, h1, h.ex _ _ _ _ _ h2⟩
  | block id b =>
    obtain ⟨e₁, h1, h2⟩ := hx
    exact ⟨e₁, h.ex _ _ _ _ _ h1, h2⟩
  | loop b =>
    obtain ⟨e₁, σ₁, h1, h2⟩ := hx
    exact ⟨e₁, σ₁, h.ex _ _ _ _ _ h1, h2.imp (fun h2 => ⟨h2.1, h.ex _ _ _ _ _ h2.2⟩) id⟩
  | scope b => exact h.ex _ _ _ _ _ hx
  | region id ops draw =>
    obtain ⟨h1, h2⟩ := hx
    refine ⟨h1, ?_⟩
    cases draw with
    | true =>
      obtain ⟨σ₀, h3, h4⟩ := h2
      exact ⟨σ₀, h3, fun t => opsRel_mono h.call h.yield (h4 t)⟩
    | false => exact opsRelR_mono h.call h.yield h2
  | rangeFunc f params assign body =>
    obtain ⟨h0, g, first, cap, φ, tm, r, H, r₂, h1, h2, h3, h4, h5⟩ := hx
    exact ⟨h0, g, first, cap, φ, tm, r, H, r₂, h1, h2, h3, h.call _ _ _ _ _ h4, h5⟩

theorem callNext_mono {S S' : Sems} (h : SemsLe S S') {f : FuncId} {args : List Value} {H : List HObj} {r : Value} {H' : List HObj} (hx : callNext C S f args H r H') : callNext C S' f args H r H' := by
  obtain ⟨fn, b, e, σ, vs, h1, h2, h3, h4, h5⟩ := hx
  exact ⟨fn, b, e, σ, vs, h1, h2, h3, h.ex _ _ _ _ _ h4, h5⟩

theorem yieldNext_mono {S S' : Sems} (h : SemsLe S S') {l : Nat} {args : List Value} {H : List HObj} {r : Value} {H' : List HObj} (hx : yieldNext C S l args H r H') : yieldNext C S' l args H r H' := by
  obtain ⟨lp, σ₁, lp₁, e, σ₂, lp₂, j, h1, h2, h3, h4, h5, h6, h7⟩ := hx
  exact ⟨lp, σ₁, lp₁, e, σ₂, lp₂, j, h1, h2, h.ex _ _ _ _ _ h3, h4, h5, h.ex _ _ _ _ _ h6, h7⟩

/-- What is known of calls: they give a result, and the heap is the same. -/
class Kno where
  kn : FuncId → List Value → Value → Prop
variable [Kno]
def noK : Known := fun f args H r H' => Kno.kn f args r ∧ H' = H
def sm (C : Cfg) (n : Nat) : Sems := sems C noK n

theorem sm_succ : ∀ n, SemsLe (sm C n) (sm C (n + 1))
  | 0 => ⟨fun _ _ _ _ _ h => .inl h, fun _ _ _ _ _ h => h.elim, fun _ _ _ _ _ h => h.elim⟩
  | n + 1 => by
    have ih := sm_succ n
    exact ⟨fun _ _ _ _ _ h => h.imp id (callNext_mono ih), fun _ _ _ _ _ h => yieldNext_mono (C := C) ih h, fun _ _ _ _ _ h => exNext_mono ih h⟩

theorem sm_le {n : Nat} : ∀ {m : Nat}, n ≤ m → SemsLe (sm C n) (sm C m)
  | 0, h => by
    obtain rfl : n = 0 := Nat.le_zero.1 h
    exact ⟨fun _ _ _ _ _ h => h, fun _ _ _ _ _ h => h, fun _ _ _ _ _ h => h⟩
  | m + 1, h => by
    by_cases hm : n = m + 1
    · subst hm; exact ⟨fun _ _ _ _ _ h => h, fun _ _ _ _ _ h => h, fun _ _ _ _ _ h => h⟩
    · have ih := sm_le (n := n) (m := m) (by omega)
      have hs := sm_succ (C := C) m
      exact ⟨fun _ _ _ _ _ h => hs.call _ _ _ _ _ (ih.call _ _ _ _ _ h), fun _ _ _ _ _ h => hs.yield _ _ _ _ _ (ih.yield _ _ _ _ _ h), fun _ _ _ _ _ h => hs.ex _ _ _ _ _ (ih.ex _ _ _ _ _ h)⟩

/-- At some depth. -/
def uCall (C : Cfg) (f : FuncId) (args : List Value) (H : List HObj) (r : Value) (H' : List HObj) : Prop := ∃ n, (sm C n).call f args H r H'
def uYield (C : Cfg) (l : Nat) (args : List Value) (H : List HObj) (r : Value) (H' : List HObj) : Prop := ∃ n, (sm C n).yield l args H r H'
def uEx (C : Cfg) (fid : List Nat) (c : Code) (σ : St) (e : Exit) (σ' : St) : Prop := ∃ n, (sm C n).ex fid c σ e σ'
def uB (C : Cfg) : Below := { call := uCall C, yield := uYield C }

theorem uCall_ok (hm : C.P.follows .mixedOrders = true) (hkn : ∀ f args r, Kno.kn f args r → ∀ H, CallOk C f args H r H) {f : FuncId} {args : List Value} {H : List HObj} {r : Value} {H' : List HObj} (h : uCall C f args H r H') : CallOk C f args H r H' := by
  obtain ⟨n, h⟩ := h
  exact (sems_ok hm (K := noK) (fun f args H r H' h => by obtain ⟨h1, rfl⟩ := h; exact hkn f args r h1 _) n).1.call _ _ _ _ _ h

theorem effRel_at {e : Eff} {dst : Option Tmp} {σ σ' : St} (h : effRel (uB C) e dst σ σ') : ∃ n, effRel (sm C n).toBelow e dst σ σ' := by
  cases e <;> first
    | exact ⟨0, h⟩
    | (obtain ⟨r, H, ⟨n, h1⟩, h2⟩ := h; exact ⟨n, r, H, h1, h2⟩)

theorem stepRel_at {pts : List Nat} {ops : Array Oper} {i : Nat} {σ σ' : St} (h : stepRel C (uB C) pts ops i σ σ') : ∃ n, stepRel C (sm C n).toBelow pts ops i σ σ' := by
  unfold stepRel at h
  split at h
  · rename_i ho; exact ⟨0, by unfold stepRel; rw [ho]; exact h⟩
  · rename_i o ho
    split at h
    · exact h.elim
    · rename_i hw; exact ⟨0, by unfold stepRel; simp only [ho, hw]; exact h⟩
    · rename_i hw
      rcases h with ⟨e, h1, h2⟩ | h
      · obtain ⟨n, h2⟩ := effRel_at h2
        exact ⟨n, by unfold stepRel; simp only [ho, hw]; exact .inl ⟨e, h1, h2⟩⟩
      · exact ⟨0, by unfold stepRel; simp only [ho, hw]; exact .inr h⟩

theorem opsRel_at {pts : List Nat} {ops : Array Oper} : ∀ {l : List Nat} {σ σ' : St}, opsRel C (uB C) pts ops l σ σ' → ∃ n, opsRel C (sm C n).toBelow pts ops l σ σ'
  | [], _, _, h => ⟨0, h⟩
  | _ :: _, _, _, ⟨σ₁, h1, h2⟩ => by
    obtain ⟨n, h1⟩ := stepRel_at h1
    obtain ⟨m, h2⟩ := opsRel_at h2
    have hn := sm_le (C := C) (Nat.le_max_left n m)
    have hm := sm_le (C := C) (Nat.le_max_right n m)
    exact ⟨max n m, σ₁, stepRel_mono hn.call hn.yield h1, opsRel_mono hm.call hm.yield h2⟩

theorem Restate.refl (σ : St) : Restate σ σ := ⟨rfl, rfl, rfl, fun i x y hx hy => by rw [hx] at hy; exact .inl (Option.some.inj hy).symm⟩

theorem opsRelR_of {B : Below} {pts : List Nat} {ops : Array Oper} : ∀ {l : List Nat} {σ σ' : St}, opsRel C B pts ops l σ σ' → opsRelR C B pts ops l σ σ'
  | [], _, _, h => h
  | _ :: _, σ, _, ⟨σ₁, h1, h2⟩ => ⟨σ, σ₁, .refl σ, h1, opsRelR_of h2⟩

section rules
variable {fid : List Nat} {σ σ₁ σ' : St} {e e₁ : Exit} {a b : Code}

theorem uEx.skip : uEx C fid .skip σ .normal σ := ⟨1, rfl, rfl⟩
theorem uEx.label {l : Nat} : uEx C fid (.label l) σ .normal σ := ⟨1, rfl, rfl⟩
theorem uEx.ret : uEx C fid .ret σ .ret σ := ⟨1, rfl, rfl⟩
theorem uEx.exit {id : Nat} : uEx C fid (.exit id) σ (.exit id) σ := ⟨1, rfl, rfl⟩
theorem uEx.seq (h1 : uEx C fid a σ .normal σ₁) (h2 : uEx C fid b σ₁ e σ') : uEx C fid (.seq a b) σ e σ' := by
  obtain ⟨n, h1⟩ := h1
  obtain ⟨m, h2⟩ := h2
  exact ⟨max n m + 1, .normal, σ₁, (sm_le (Nat.le_max_left n m)).ex _ _ _ _ _ h1, .inl ⟨rfl, (sm_le (Nat.le_max_right n m)).ex _ _ _ _ _ h2⟩⟩
theorem uEx.seqX (h1 : uEx C fid a σ e σ') (he : e ≠ .normal) : uEx C fid (.seq a b) σ e σ' := by
  obtain ⟨n, h1⟩ := h1
  exact ⟨n + 1, e, σ', h1, .inr ⟨he, rfl, rfl⟩⟩
theorem uEx.cond {c : Operand} {t : Bool} (hc : oval σ.tmps c = .bool t) (h : uEx C fid (if t then a else b) σ e σ') : uEx C fid (.cond c a b) σ e σ' := by
  obtain ⟨n, h⟩ := h
  exact ⟨n + 1, t, hc, h⟩
theorem uEx.block {id : Nat} (h : uEx C fid b σ e σ') : uEx C fid (.block id b) σ (exitTo1 id e) σ' := by
  obtain ⟨n, h⟩ := h
  exact ⟨n + 1, e, h, rfl⟩
theorem uEx.loop (h1 : uEx C fid b (σ.clear (boxKeys fid b)) .normal σ₁) (h2 : uEx C fid (.loop b) σ₁ e σ') : uEx C fid (.loop b) σ e σ' := by
  obtain ⟨n, h1⟩ := h1
  obtain ⟨m, h2⟩ := h2
  exact ⟨max n m + 1, .normal, σ₁, (sm_le (Nat.le_max_left n m)).ex _ _ _ _ _ h1, .inl ⟨rfl, (sm_le (Nat.le_max_right n m)).ex _ _ _ _ _ h2⟩⟩
theorem uEx.loopX (h1 : uEx C fid b (σ.clear (boxKeys fid b)) e σ') (he : e ≠ .normal) : uEx C fid (.loop b) σ e σ' := by
  obtain ⟨n, h1⟩ := h1
  exact ⟨n + 1, e, σ', h1, .inr ⟨he, rfl, rfl⟩⟩
theorem uEx.scope (h : uEx C fid b σ e σ') : uEx C fid (.scope b) σ e σ' := by
  obtain ⟨n, h⟩ := h
  exact ⟨n + 1, h⟩
theorem uEx.region {id : Nat} {ops : Array Oper} (h : opsRel C (uB C) fid ops (List.range ops.size) σ σ') : uEx C fid (.region id ops false) σ .normal σ' := by
  obtain ⟨n, h⟩ := opsRel_at h
  exact ⟨n + 1, rfl, opsRelR_of h⟩
/-- A region that draws its order: the text's order stands for all. -/
theorem uEx.draw {id : Nat} {ops : Array Oper} (hall : ∀ n, opsRel C (sm C n).toBelow fid ops (List.range ops.size) σ σ' → anyRel C (sm C n).toBelow fid ops σ σ')
    (h : opsRel C (uB C) fid ops (List.range ops.size) σ σ') : uEx C fid (.region id ops true) σ .normal σ' := by
  obtain ⟨n, h⟩ := opsRel_at h
  exact ⟨n + 1, rfl, σ, .refl σ, hall n h⟩
theorem uEx.rangeFunc {f : Operand} {params : Array Tmp} {assign body : Code} {g : FuncId} {first cap : Array Value} {φ : FuncId} {tm : List Value} {r : Value} {H : List HObj} {r₂ : ALoop}
    (h0 : fid ≠ []) (h1 : SnapOf σ.tmps tm) (h2 : oval σ.tmps f = .func (.func g) first cap) (h3 : noLoc (.func (.func g) first cap) = true)
    (h4 : uCall C g (first.toList ++ [.func (.yield σ.heap.length) #[] #[]] ++ cap.toList)
        (σ.heap ++ [.loop { state := .ready, pending := none, fn := φ, tmps := tm, params := params.toList, assign, body }]) r H)
    (h5 : hloop H σ.heap.length = some r₂) (h6 : r₂.state ≠ .busy) (h7 : exitOf r₂.pending = some e) :
    uEx C fid (.rangeFunc f params assign body) σ e { σ with heap := H.set σ.heap.length (.loop { r₂ with state := .exhausted }) } := by
  obtain ⟨n, h4⟩ := h4
  exact ⟨n + 1, h0, g, first, cap, φ, tm, r, H, r₂, h1, h2, h3, h4, h5, h6, h7, rfl⟩

theorem uCall.intro {f : FuncId} {args : List Value} {H : List HObj} {fn : Func} {c : Code} {vs : List Value}
    (h1 : C.P.funcs[f]? = some fn) (h2 : fn.body = some c) (h3 : (fn.name == "runtime.NumGoroutine") = false)
    (h4 : uEx C (C.pts f) c (enterA fn args H) e σ) (h5 : e = .normal ∨ e = .ret) (h6 : resultsA C σ fn.results.toList = some vs) (h7 : noLoc (packA vs) = true) :
    uCall C f args H (packA vs) σ.heap := by
  obtain ⟨n, h4⟩ := h4
  exact ⟨n + 1, .inr ⟨fn, c, e, σ, vs, h1, h2, h3, h4, h5, h6, rfl, h7, rfl⟩⟩

theorem uYield.intro {l : Nat} {args : List Value} {H : List HObj} {lp lp₁ lp₂ : ALoop} {σ₂ : St} {j : Option Code}
    (h1 : hloop H l = some lp) (h2 : args.length = lp.params.length)
    (h3 : uEx C [] lp.assign { tmps := putAll lp.params args lp.tmps, loc := [], heap := H } .normal σ₁)
    (h4 : hloop σ₁.heap l = some lp₁) (h5 : lp₁.state = .ready)
    (h6 : uEx C [] lp.body { σ₁ with heap := σ₁.heap.set l (.loop { lp₁ with state := .busy }) } e σ₂) (h7 : jumpOf e = some j) (h8 : hloop σ₂.heap l = some lp₂) :
    uYield C l args H (.bool j.isNone) (σ₂.heap.set l (.loop { lp₂ with state := if j.isNone then .ready else .done, pending := j })) := by
  obtain ⟨n, h3⟩ := h3
  obtain ⟨m, h6⟩ := h6
  exact ⟨max n m + 1, lp, σ₁, lp₁, e, σ₂, lp₂, j, h1, h2, (sm_le (Nat.le_max_left n m)).ex _ _ _ _ _ h3, h4, h5, (sm_le (Nat.le_max_right n m)).ex _ _ _ _ _ h6, h7, h8, rfl, rfl⟩
end rules

end
end Go.Am

/-
  CODE IN THE SHAPE OF VALUES: what a function does, told in terms of its numbers; the heap and all that depends on numbers is left to an algebra.
-/
namespace Go.Am

/-! ### Leaves, shapes, static values -/

/-- What a leaf holds. -/
inductive Lf where
  | i (n : Int)
  | b (t : Bool)
  | v (x : Value)

inductive LK where
  | i (k : IntKind)
  | b
  | v
inductive SK where
  | leaf (k : LK)
  | agg (ks : List LK)

/-- A leaf whose kind is known; 'l': a truth value that is known. -/
inductive SL where
  | i (k : IntKind) (n : Int)
  | b (t : Bool)
  | l (t : Bool)
  | v (x : Value)
inductive S0 where
  | leaf (l : SL)
  | agg (cs : List SL)
/-- What is known of a temporary. -/
inductive SV where
  | st (x : S0)
  | tup (xs : List S0)
  | lad (s off : Nat)
  | ldx (s base : Nat) (ix : List (Int × Nat))
  | gad (g off : Nat)
  | gdx (g base : Nat) (ix : List (Int × Nat))
  | un
  | no
/-- What is known of a local row. -/
inductive LR where
  | unk
  | nil
  | any (n : Nat)
  | row (cs : List SL)
structure Env where
  tm : List SV
  lc : List LR

def SL.val : SL → Value
  | .i k n => .int k n
  | .b t => .bool t
  | .l t => .bool t
  | .v x => x
def SL.lf : SL → Lf
  | .i _ n => .i n
  | .b t => .b t
  | .l t => .b t
  | .v x => .v x
def S0.val : S0 → Value
  | .leaf l => l.val
  | .agg cs => .agg ⟨cs.map SL.val⟩
def S0.cells : S0 → List SL
  | .leaf l => [l]
  | .agg cs => cs
/-- A place, some indices on. -/
def offX (base : Nat) : List (Int × Nat) → Nat
  | [] => base
  | p :: l => offX (base + p.1.toNat * p.2) l
def SV.val : SV → Value
  | .st x => x.val
  | .tup xs => .tuple ⟨xs.map S0.val⟩
  | .lad s off => .pointer (some ⟨s, off, some 0⟩)
  | .ldx s base ix => .pointer (some ⟨s, offX base ix, some 0⟩)
  | .gad g off => .pointer (some ⟨g, off, some 1⟩)
  | .gdx g base ix => .pointer (some ⟨g, offX base ix, some 1⟩)
  | .un => undef
  | .no => undef

/-- What may be handed on. -/
def goodV (x : Value) : Bool := noLoc x && noLoc3 x && oneCell x && !isTuple x
/-- What may lie in a struct that is one of several results. -/
def chk2 (x : Value) : Option Unit := if noLoc2 x then some () else none

def slOf : Value → SL
  | .int k n => .i k n
  | .bool t => .l t
  | v => .v v
/-- A value that is written in the text. -/
def s0Of : Value → Option S0
  | .agg cs => match cs.toList.all scalar with
    | true => some (.agg (cs.toList.map slOf))
    | false => none
  | v => match scalar v with
    | true => some (.leaf (slOf v))
    | false => none

def kNo : IntKind → Nat
  | .i8 => 0
  | .i16 => 1
  | .i32 => 2
  | .i64 => 3
  | .u8 => 4
  | .u16 => 5
  | .u32 => 6
  | .u64 => 7
def kSame (a b : IntKind) : Bool := Nat.beq (kNo a) (kNo b)
def SL.is : SL → LK → Bool
  | .i k _, .i k' => kSame k k'
  | .b _, .b => true
  | .l _, .b => true
  | .v _, .v => true
  | _, _ => false
def allIs : List SL → List LK → Bool
  | [], [] => true
  | c :: cs, k :: ks => c.is k && allIs cs ks
  | _, _ => false
def S0.is : S0 → SK → Bool
  | .leaf l, .leaf k => l.is k
  | .agg cs, .agg ks => allIs cs ks
  | _, _ => false
def SL.lk : SL → LK
  | .i k _ => .i k
  | .b _ => .b
  | .l _ => .b
  | .v _ => .v

/-! ### Annotated code -/

structure Live where
  tm : List (Nat × SK)
  rows : List (Nat × List LK)

inductive AC where
  | skip
  | ret
  | exit (id : Nat)
  | label (l : Nat)
  | seq (a b : AC)
  | scope (b : AC)
  | region (id : Nat) (ops : Array Oper) (draw : Bool) (hs : List (List SK)) (j : Option Live)
  | cond (c : Operand) (a b : AC) (j : Option Live)
  | block (id : Nat) (b : AC) (j : Option Live)
  | loop (b : AC) (l : Live)
  | rangeFunc (f : Operand) (κ : Nat) (ids : List Nat)

/-- A loop over an iterator: the temporaries of its function, those that its body reads, its parameters. -/
structure Site where
  nt : Nat
  caps : List (Nat × SK)
  params : List (Nat × SK)
  assign : AC
  body : AC

/-- The bare code; what stands at the loops over iterators is looked up. -/
def AC.erase (T : Nat → Tmp → Code) : AC → Code
  | .skip => .skip
  | .ret => .ret
  | .exit id => .exit id
  | .label l => .label l
  | .seq a b => .seq (a.erase T) (b.erase T)
  | .scope b => .scope (b.erase T)
  | .region id ops draw _ _ => .region id ops draw
  | .cond c a b _ => .cond c (a.erase T) (b.erase T)
  | .block id b _ => .block id (b.erase T)
  | .loop b _ => .loop (b.erase T)
  | .rangeFunc f κ _ => match f with
    | .tmp t => T κ t
    | _ => .refuse ""

/-- No loop over an iterator within one. -/
def noSite : Nat → Tmp → Code := fun _ _ => .refuse ""
def siteCode (s : Site) (t : Tmp) : Code := .rangeFunc (.tmp t) (s.params.map (·.1)).toArray (s.assign.erase noSite) (s.body.erase noSite)

/-- The temporaries that code writes. -/
def wrT : Code → List Nat
  | .region _ ops _ => ops.toList.filterMap (·.dst)
  | .seq a b => wrT a ++ wrT b
  | .cond _ a b => wrT a ++ wrT b
  | .block _ b => wrT b
  | .loop b => wrT b
  | .scope b => wrT b
  | _ => []
def opRow (pts : List Nat) (o : Oper) : Option Nat :=
  match o.op with
  | .box .. | .alloc _ => match o.dst with
    | some d => if pts.getD d 0 = d + 2 then some d else none
    | none => none
  | .store _ a _ => match keyOf pts a with
    | s + 2 => some s
    | _ => none
  | _ => none
/-- The local rows that code writes. -/
def wrR (pts : List Nat) : Code → List Nat
  | .region _ ops _ => ops.toList.filterMap (opRow pts)
  | .seq a b => wrR pts a ++ wrR pts b
  | .cond _ a b => wrR pts a ++ wrR pts b
  | .block _ b => wrR pts b
  | .loop b => wrR pts b
  | .scope b => wrR pts b
  | .rangeFunc _ _ a b => wrR pts a ++ wrR pts b
  | _ => []

/-! ### The heap's operations -/

abbrev Getter := Nat → Option HObj
inductive Act1 where
  | set (i : Nat) (o : HObj)
  | push (o : HObj)
def Act1.on (H : List HObj) : Act1 → List HObj
  | .set i o => H.set i o
  | .push o => H ++ [o]
def actsOn (H : List HObj) (l : List Act1) : List HObj := l.foldl Act1.on H

def cellsG (g : Getter) (id : Nat) : Option (List Value) :=
  match g id with
  | some (.cells vs _ _) => some vs
  | _ => none
/-- n cells behind a pointer. -/
def ldP (n : Nat) (p : Value) (g : Getter) : Option (List Value) :=
  match p with
  | .pointer (some a) => match a.spot with
    | none => (cellsG g a.block).bind fun vs => cut vs a.off n
    | some _ => none
  | _ => none
def stP (p : Value) (new : List Value) (g : Getter) (_ : Nat) : Option (List Act1 × List Value) :=
  match p with
  | .pointer (some a) => match a.spot with
    | none => match g a.block with
      | some (.cells vs e true) => (splice vs a.off new).map fun vs' => ([.set a.block (.cells vs' e true)], [])
      | _ => none
    | some _ => none
  | _ => none

/-- The cells of a slice of elements of so many cells, and how many elements. -/
def slG (C : Cfg) (esz : Nat) (g : Getter) : Value → Option (List Value × Nat)
  | .slice none 0 0 => some ([], 0)
  | .slice (some a) len _ =>
    if a.spot = some 1 then ((C.G a.block).bind fun vs => cut vs a.off (len * esz)).map fun x => (x, len)
    else if a.spot = tag esz then
      match g a.block with
      | some (.cells vs e _) => if e = esz then (cut vs a.off (len * esz)).map fun x => (x, len) else none
      | _ => none
    else none
  | .string s => if esz = 1 then some (s.data.toList.map fun b => .int .u8 b.toNat, s.size) else none
  | _ => none

def apG (C : Cfg) (esz bytes : Nat) (s x : Value) (g : Getter) (n0 : Nat) : Option (List Act1 × List Value) :=
  match slG C esz g x with
  | none => none
  | some (new, n) =>
    match s with
    | .slice none 0 0 =>
      if n = 0 then some ([], [.slice none 0 0])
      else if sizeOk n bytes then some ([.push (.cells new esz true)], [.slice (some ⟨n0, 0, tag esz⟩) n 0]) else none
    | .slice (some a) len cx =>
      if a.spot ≠ tag esz then none else
      match g a.block with
      | some (.cells vs e rw) =>
        if e ≠ esz then none else
        match cut vs a.off (len * esz) with
        | none => none
        | some old =>
          match cx with
          | 0 =>
            if n = 0 then some ([], [.slice (some a) len 0])
            else if rw && sizeOk (len + n) bytes then
              some ([.set a.block .dead, .push (.cells (old ++ new) esz true)], [.slice (some ⟨n0, 0, tag esz⟩) (len + n) 0])
            else none
          | cap + 1 =>
            if len + n ≤ cap then
              if rw then (splice vs (a.off + len * esz) new).map fun vs' => ([.set a.block (.cells vs' e true)], [.slice (some a) (len + n) (cap + 1)])
              else if n = 0 then some ([], [.slice (some a) len (cap + 1)]) else none
            else if sizeOk (len + n) bytes then
              some ([.push (.cells (old ++ new) esz true)], [.slice (some ⟨n0, 0, tag esz⟩) (len + n) 0])
            else none
      | _ => none
    | _ => none

def cpG (C : Cfg) (esz : Nat) (d x : Value) (g : Getter) (_ : Nat) : Option (List Act1 × List Value) :=
  match d with
  | .slice none 0 0 => (slG C esz g x).map fun _ => ([], [.int .i64 0])
  | .slice (some a) dlen _ =>
    if a.spot ≠ tag esz then none else
    match slG C esz g x, g a.block with
    | some (new, n), some (.cells vs e true) =>
      if e ≠ esz then none else
      (splice vs a.off (new.take (Nat.min n dlen * esz))).map fun vs' => ([.set a.block (.cells vs' e true)], [.int .i64 (Nat.min n dlen)])
    | _, _ => none
  | _ => none

/-- s[l:h:m]; what is not there is none. -/
def slS (esz : Nat) (x : Value) (lo hi mx : Option Int) : Option Value :=
  match x with
  | .slice (some a) len cx =>
    if a.spot ≠ some 1 ∧ a.spot ≠ tag esz then none else
    if 0 ≤ lo.getD 0 ∧ lo.getD 0 ≤ hi.getD len ∧ sliceFits len cx hi mx then
      some (.slice (some { a with off := a.off + (lo.getD 0).toNat * esz }) ((hi.getD len).toNat - (lo.getD 0).toNat) (sliceCap cx (lo.getD 0).toNat mx))
    else none
  | .slice none 0 0 => if lo.getD 0 = 0 ∧ hi.getD 0 = 0 ∧ mx.getD 0 = 0 ∧ (mx.isNone ∨ hi.isSome) then some (.slice none 0 0) else none
  | _ => none
def idS (esz : Nat) (x : Value) (i : Int) : Option Value :=
  match x with
  | .slice (some a) len _ =>
    if 0 ≤ i ∧ i < (len : Int) then some (.pointer (some ⟨a.block, a.off + i.toNat * esz, if a.spot = some 1 then some 1 else none⟩)) else none
  | _ => none
def idP (len esz : Nat) (x : Value) (i : Int) : Option Value :=
  match x with
  | .pointer (some a) => if 0 ≤ i ∧ i < (len : Int) then some (.pointer (some { a with off := a.off + i.toNat * esz })) else none
  | _ => none
def fdP (off : Nat) (x : Value) : Option Value :=
  match x with
  | .pointer (some a) => some (.pointer (some { a with off := a.off + off }))
  | _ => none
def nilP (x : Value) : Option Value :=
  match x with
  | .pointer (some a) => some (.pointer (some a))
  | .func (.func f) a b => some (.func (.func f) a b)
  | .func (.yield f) a b => some (.func (.yield f) a b)
  | _ => none
def lenS : Value → Option Int
  | .slice _ n _ => some n
  | _ => none
def lenStr : Value → Option Int
  | .string s => some s.size
  | _ => none
def capS : Value → Option Int
  | .slice (some _) _ (n + 1) => some n
  | .slice none 0 0 => some 0
  | _ => none
def lenM (m : Value) (g : Getter) : Option (List Value) :=
  match m with
  | .map (some id) => match g id with
    | some (.map es _) => some [.int .i64 es.length]
    | _ => none
  | _ => none
def inB (len : Nat) (i : Int) : Option Unit := if 0 ≤ i ∧ i < (len : Int) then some () else none
def mkOk (l c : Int) : Option Unit := if 0 ≤ l ∧ l ≤ c ∧ c ≤ 1048576 then some () else none
/-- n leaves of a row, from a place on. -/
def pickL (cs : List Lf) (base : Nat) (ix : List (Int × Nat)) (n : Nat) : Option (List Lf) :=
  if offX base ix + n ≤ cs.length then some ((cs.drop (offX base ix)).take n) else none
def putL (cs : List Lf) (base : Nat) (ix : List (Int × Nat)) (new : List Lf) : Option (List Lf) :=
  if offX base ix + new.length ≤ cs.length then some (cs.take (offX base ix) ++ new ++ cs.drop (offX base ix + new.length)) else none
def pickV (vs : List Value) (base : Nat) (ix : List (Int × Nat)) (n : Nat) : Option (List Value) := cut vs (offX base ix) n
def ldGv (C : Cfg) (n : Nat) (p : Value) : Option (List Value) :=
  match p with
  | .pointer (some a) => if a.spot = some 1 then (C.G a.block).bind fun vs => cut vs a.off n else none
  | _ => none
def strI (s : Value) (i : Int) : Option Int :=
  match s with
  | .string s => if 0 ≤ i then (s[i.toNat]?).map fun b => (b.toNat : Int) else none
  | _ => none

/-! ### The algebra -/

structure Alg (R HT : Type) : Type 1 where
  fail : R
  cond : Bool → R → R → R
  ari : BinOp → IntKind → Int → Int → (Int → R) → R
  shf : BinOp → IntKind → Int → IntKind → Int → (Int → R) → R
  cmp : BinOp → Int → Int → (Bool → R) → R
  eqs : List (Lf × Lf) → (Bool → R) → R
  conv : IntKind → Int → (Int → R) → R
  sel : Bool → Int → Int → (Int → R) → R
  opt : {α : Type} → Option α → (α → R) → R
  chk : Value → R → R
  unI : List Lf → (Int → List Lf → R) → R
  unB : List Lf → (Bool → List Lf → R) → R
  unV : List Lf → (Value → List Lf → R) → R
  un0 : List Lf → R → R
  ucI : IntKind → List Value → (Int → List Value → R) → R
  ucB : List Value → (Bool → List Value → R) → R
  ucV : List Value → (Value → List Value → R) → R
  uc0 : List Value → R → R
  peek : (Getter → Option (List Value)) → HT → (List Value → R) → R
  heap : (Getter → Nat → Option (List Act1 × List Value)) → HT → (List Value → HT → R) → R
  new : HObj → HT → (Nat → HT → R) → R
  call : FuncId → List Lf → HT → (List Lf → HT → R) → R
  callv : Value → List Value → List SK → HT → (List Lf → HT → R) → R
  join : (List Lf → HT → R) → ((List Lf → HT → R) → R) → R
  loop : ((List Lf → HT → R) → List Lf → HT → R) → List Lf → HT → R
  rfun : Nat → Value → List Value → HT → (Option Code → HT → R) → R
  pend : Option Code → R → R → List (Nat × R) → R
  lp1 : Nat → HT → (HT → R) → R
  lp2 : Nat → Option Code → HT → (HT → R) → R

section
variable {R HT : Type} (A : Alg R HT)

/-! ### Lists, forced -/

noncomputable def setK {α : Type} (x : α) (l : List α) : Nat → (List α → R) → R :=
  List.rec (motive := fun _ => Nat → (List α → R) → R) (fun _ k => k [])
    (fun a tl ih i k => match i with
      | 0 => k (x :: tl)
      | i + 1 => ih i fun l => k (a :: l)) l

noncomputable def unL (ks : List LK) : List Lf → (List SL → List Lf → R) → R :=
  List.rec (motive := fun _ => List Lf → (List SL → List Lf → R) → R) (fun ls K => K [] ls)
    (fun k _ ih ls K => match k with
      | .i k => A.unI ls fun n r => ih r fun sl r => K (.i k n :: sl) r
      | .b => A.unB ls fun t r => ih r fun sl r => K (.b t :: sl) r
      | .v => A.unV ls fun x r => ih r fun sl r => K (.v x :: sl) r) ks
noncomputable def unS (sk : SK) (ls : List Lf) (K : S0 → List Lf → R) : R :=
  match sk with
  | .leaf k => match k with
    | .i k => A.unI ls fun n r => K (.leaf (.i k n)) r
    | .b => A.unB ls fun t r => K (.leaf (.b t)) r
    | .v => A.unV ls fun x r => K (.leaf (.v x)) r
  | .agg ks => unL A ks ls fun sl r => K (.agg sl) r
noncomputable def unSs (sks : List SK) : List Lf → (List S0 → List Lf → R) → R :=
  List.rec (motive := fun _ => List Lf → (List S0 → List Lf → R) → R) (fun ls K => K [] ls)
    (fun sk _ ih ls K => unS A sk ls fun x r => ih r fun xs r => K (x :: xs) r) sks
/-- Cells, taken apart. -/
noncomputable def ucL (ks : List LK) : List Value → (List SL → List Value → R) → R :=
  List.rec (motive := fun _ => List Value → (List SL → List Value → R) → R) (fun cs K => K [] cs)
    (fun k _ ih cs K => match k with
      | .i k => A.ucI k cs fun n r => ih r fun sl r => K (.i k n :: sl) r
      | .b => A.ucB cs fun t r => ih r fun sl r => K (.b t :: sl) r
      | .v => A.ucV cs fun x r => A.chk x (ih r fun sl r => K (.v x :: sl) r)) ks
noncomputable def ucS (sk : SK) (cs : List Value) (K : S0 → List Value → R) : R :=
  match sk with
  | .leaf k => match k with
    | .i k => A.ucI k cs fun n r => K (.leaf (.i k n)) r
    | .b => A.ucB cs fun t r => K (.leaf (.b t)) r
    | .v => A.ucV cs fun x r => A.chk x (K (.leaf (.v x)) r)
  | .agg ks => ucL A ks cs fun sl r => K (.agg sl) r
noncomputable def ucSs (sks : List SK) : List Value → (List S0 → List Value → R) → R :=
  List.rec (motive := fun _ => List Value → (List S0 → List Value → R) → R) (fun cs K => K [] cs)
    (fun sk _ ih cs K => ucS A sk cs fun x r => ih r fun xs r => K (x :: xs) r) sks

/-! ### Environments -/

def lfsOf : List S0 → List Lf
  | [] => []
  | x :: l => x.cells.map SL.lf ++ lfsOf l
def valsOf (l : List S0) : List Value := l.map S0.val
def cellsOf0 (l : List S0) : List Value := l.flatMap fun x => x.cells.map SL.val

def pkT (tm : List SV) : List (Nat × SK) → Option (List Lf)
  | [] => some []
  | (t, sk) :: l => match tm.getD t .no, pkT tm l with
    | .st x, some ls => match x.is sk with
      | true => some (x.cells.map SL.lf ++ ls)
      | false => none
    | _, _ => none
def pkR (lc : List LR) : List (Nat × List LK) → Option (List Lf)
  | [] => some []
  | (s, ks) :: l => match lc.getD s .unk, pkR lc l with
    | .row cs, some ls => match allIs cs ks with
      | true => some (cs.map SL.lf ++ ls)
      | false => none
    | _, _ => none
def pk (ev : Env) (lv : Live) : Option (List Lf) :=
  match pkT ev.tm lv.tm, pkR ev.lc lv.rows with
  | some a, some b => some (a ++ b)
  | _, _ => none

def SV.inRows (ks : List Nat) : SV → Bool
  | .tup _ => true
  | .lad s _ => ks.contains s
  | .ldx s _ _ => ks.contains s
  | _ => false
noncomputable def clrT (ws ks : List Nat) (l : List SV) : Nat → (List SV → R) → R :=
  List.rec (motive := fun _ => Nat → (List SV → R) → R) (fun _ K => K [])
    (fun x _ ih i K => ih (i + 1) fun l => match ws.contains i || x.inRows ks with
      | true => K (.no :: l)
      | false => K (x :: l)) l
noncomputable def forceLen (n : Nat) (K : Nat → R) : R := Nat.casesOn n (K 0) fun m => K (Nat.succ m)
/-- 'nw': what a row is that is made anew in the code. -/
noncomputable def clrR (ws ks : List Nat) (nw : LR) (l : List LR) : Nat → (List LR → R) → R :=
  List.rec (motive := fun _ => Nat → (List LR → R) → R) (fun _ K => K [])
    (fun x _ ih i K => ih (i + 1) fun l => match ks.contains i, ws.contains i with
      | true, _ => K (nw :: l)
      | false, true => (match x with
        | .row cs => forceLen cs.length fun n => K (.any n :: l)
        | .any n => K (.any n :: l)
        | _ => K (.unk :: l))
      | false, false => K (x :: l)) l
noncomputable def upT (lv : List (Nat × SK)) : List S0 → List SV → (List SV → R) → R :=
  List.rec (motive := fun _ => List S0 → List SV → (List SV → R) → R) (fun _ tm K => K tm)
    (fun p _ ih xs tm K => match xs with
      | x :: xs => setK (.st x) tm p.1 fun tm => ih xs tm K
      | [] => A.fail) lv
noncomputable def upR (lv : List (Nat × List LK)) : List Lf → List LR → (List LR → List Lf → R) → R :=
  List.rec (motive := fun _ => List Lf → List LR → (List LR → List Lf → R) → R) (fun ls lc K => K lc ls)
    (fun p _ ih ls lc K => unL A p.2 ls fun cs r => setK (.row cs) lc p.1 fun lc => ih r lc K) lv
/-- The environment behind a piece of code, by what is live of what it writes. -/
noncomputable def reE (pts : List Nat) (c : Code) (nw : LR) (lv : Live) (ev : Env) (ls : List Lf) (K : Env → R) : R :=
  clrT (wrT c) (boxKeys pts c) ev.tm 0 fun tm => clrR (wrR pts c) (boxKeys pts c) nw ev.lc 0 fun lc =>
    unSs A (lv.tm.map (·.2)) ls fun xs r => upT A lv.tm xs tm fun tm => upR A lv.rows r lc fun lc r => A.un0 r (K ⟨tm, lc⟩)

abbrev KN (R HT : Type) := Env → HT → R

noncomputable def joinE (pts : List Nat) (c : Code) (j : Option Live) (ev : Env) (kn : KN R HT) (main : KN R HT → R) : R :=
  match j with
  | none => main kn
  | some lv => A.join (fun ls h => reE A pts c .unk lv ev ls fun ev => kn ev h) fun jn => main fun ev h => match pk ev lv with
    | some ls => jn ls h
    | none => A.fail

/-! ### Operations -/

structure Ctxt where
  C : Cfg
  pts : List Nat
  T : Nat → Site

def sval (ev : Env) : Operand → SV
  | .tmp t => ev.tm.getD t .no
  | .const v => match s0Of v with
    | some x => .st x
    | none => .no
  | .global g => .gad g 0
  | .func f => .st (.leaf (.v (.func (.func f) #[] #[])))
def sval0 (ev : Env) (x : Operand) : Option S0 :=
  match sval ev x with
  | .st x => some x
  | _ => none
def svals (ev : Env) : List Operand → Option (List S0)
  | [] => some []
  | x :: l => match sval0 ev x, svals ev l with
    | some x, some l => some (x :: l)
    | _, _ => none
def constI : Operand → Option Nat
  | .const (.int _ (.ofNat n)) => some n
  | _ => none

noncomputable def setD (d : Option Tmp) (x : SV) (ev : Env) (h : HT) (K : KN R HT) : R :=
  match d with
  | some d => setK x ev.tm d fun tm => K ⟨tm, ev.lc⟩ h
  | none => K ev h

def rowAt (ev : Env) (s : Nat) : Option (List SL) :=
  match ev.lc.getD s .unk with
  | .row cs => some cs
  | _ => none

def skKs : SK → List LK
  | .leaf k => [k]
  | .agg ks => ks
def cutS (cs : List SL) (off n : Nat) : Option (List SL) := if off + n ≤ cs.length then some ((cs.drop off).take n) else none
def spliceS (cs : List SL) (off : Nat) (new : List SL) : Option (List SL) := if off + new.length ≤ cs.length then some (cs.take off ++ new ++ cs.drop (off + new.length)) else none
/-- Wherever the indices lead, there are leaves of these kinds. -/
def allAt (cs : List SL) (ks : List LK) : Nat → List (Int × Nat) → Bool
  | base, [] => match cutS cs base ks.length with
    | some ds => allIs ds ks
    | none => true
  | base, p :: l => !Nat.beq p.2 0 && (List.range (cs.length + 1)).all fun j => allAt cs ks (base + j * p.2) l
def mkS0 (agg : Bool) (cs : List SL) : Option S0 :=
  match agg, cs with
  | true, cs => some (.agg cs)
  | false, [c] => some (.leaf c)
  | _, _ => none
def skOf (agg : Bool) (ks : List LK) : Option SK :=
  match agg, ks with
  | true, ks => some (.agg ks)
  | false, [k] => some (.leaf k)
  | _, _ => none
def fillS (pl : Nat → Option (Nat × Nat)) (cs : List SL) : List (Nat × S0) → Option (List SL)
  | [] => some cs
  | (i, x) :: l => match pl i with
    | some (off, n) => match Nat.beq x.cells.length n with
      | true => match spliceS cs off x.cells with
        | some cs => fillS pl cs l
        | none => none
      | false => none
    | none => none
def aggT (P : Program) (t : TypeId) : Option Bool :=
  match P.underlying t with
  | some (.struct _) | some (.array _ _) => some true
  | some _ => some false
  | none => none
def zeroS (P : Program) (t : TypeId) : Option S0 := (zeroOf P t).bind s0Of
def skAgg : SK → Bool
  | .leaf _ => false
  | .agg _ => true
def eqB : Bool → Bool → Bool
  | true, true => true
  | false, false => true
  | _, _ => false

noncomputable def newV (X : Ctxt) (d : Option Tmp) (t : TypeId) (x : S0) (ev : Env) (h : HT) (K : KN R HT) : R :=
  match d with
  | none => A.fail
  | some d => match Nat.beq (X.pts.getD d 0) (d + 2) with
    | true => match ev.lc.getD d .unk with
      | .nil => setK (.row x.cells) ev.lc d fun lc => setK (.lad d 0) ev.tm d fun tm => K ⟨tm, lc⟩ h
      | _ => A.fail
    | false => A.new (.cells (x.cells.map SL.val) (rowSize X.C.P t) true) h fun n h => setD (some d) (.st (.leaf (.v (.pointer (some ⟨n, 0, none⟩))))) ev h K

/-- Cells into a temporary. -/
noncomputable def setC (d : Option Tmp) (sk : SK) (cs : List Value) (ev : Env) (h : HT) (K : KN R HT) : R :=
  ucS A sk cs fun x r => A.uc0 r (setD d (.st x) ev h K)
noncomputable def setL (d : Option Tmp) (sk : SK) (ls : List Lf) (ev : Env) (h : HT) (K : KN R HT) : R :=
  unS A sk ls fun x r => A.un0 r (setD d (.st x) ev h K)

noncomputable def loadE (X : Ctxt) (d : Option Tmp) (sk : SK) (agg : Bool) (n : Nat) (a : Operand) (ev : Env) (h : HT) (K : KN R HT) : R :=
  match keyOf X.pts a, sval ev a with
  | 0, .st (.leaf (.v p)) => A.peek (ldP n p) h fun cs => setC A d sk cs ev h K
  | 1, .gad g off => match X.C.G g with
    | some vs => match cut vs off n with
      | some cs => match cs.all scalar, mkS0 agg (cs.map slOf) with
        | true, some x => setD d (.st x) ev h K
        | _, _ => setC A d sk cs ev h K
      | none => A.fail
    | none => A.fail
  | 1, .gdx g base ix => match X.C.G g with
    | some vs => A.opt (pickV vs base ix n) fun cs => setC A d sk cs ev h K
    | none => A.fail
  | 1, .st (.leaf (.v p)) => A.opt (ldGv X.C n p) fun cs => setC A d sk cs ev h K
  | s + 2, .lad s' off => match Nat.beq s s', (rowAt ev s).bind (fun cs => (cutS cs off n).bind (mkS0 agg)) with
    | true, some x => setD d (.st x) ev h K
    | _, _ => A.fail
  | s + 2, .ldx s' base ix => match Nat.beq s s', rowAt ev s with
    | true, some cs => match allAt cs (skKs sk) base ix && Nat.beq n (skKs sk).length with
      | true => A.opt (pickL (cs.map SL.lf) base ix n) fun ls => setL A d sk ls ev h K
      | false => A.fail
    | _, _ => A.fail
  | _, _ => A.fail

def storeR (r : LR) (off : Nat) (new : List SL) : Option (List SL) :=
  match r with
  | .row cs => spliceS cs off new
  | .any n => match Nat.beq off 0 && Nat.beq n new.length with
    | true => some new
    | false => none
  | _ => none

noncomputable def storeE (X : Ctxt) (d : Option Tmp) (t : TypeId) (a : Operand) (x : S0) (ev : Env) (h : HT) (K : KN R HT) : R :=
  match Nat.beq x.cells.length (X.C.P.cellsOf t) && (X.C.P.info? t).isSome with
  | false => A.fail
  | true => match keyOf X.pts a, sval ev a with
    | 0, .st (.leaf (.v p)) => A.heap (stP p (x.cells.map SL.val)) h fun _ h => setD d .un ev h K
    | s + 2, .lad s' off => match Nat.beq s s', storeR (ev.lc.getD s .unk) off x.cells with
      | true, some cs => setK (.row cs) ev.lc s fun lc => setD d .un ⟨ev.tm, lc⟩ h K
      | _, _ => A.fail
    | s + 2, .ldx s' base ix => match Nat.beq s s', rowAt ev s with
      | true, some cs => match allAt cs (x.cells.map SL.lk) base ix with
        | false => A.fail
        | true => A.opt (putL (cs.map SL.lf) base ix (x.cells.map SL.lf)) fun ls => unL A (cs.map SL.lk) ls fun cs r => A.un0 r (setK (.row cs) ev.lc s fun lc => setD d .un ⟨ev.tm, lc⟩ h K)
      | _, _ => A.fail
    | _, _ => A.fail

def isCmp : BinOp → Bool
  | .eql | .neq | .lss | .leq | .gtr | .geq => true
  | _ => false
def isShift : BinOp → Bool
  | .shl | .shr => true
  | _ => false

/-- The kinds of the cells of a type whose values are compared cell by cell. -/
def flatFs (F : TypeId → Option (List LK)) : List Field → Nat → Option (List LK)
  | [], _ => some []
  | f :: fs, off => match decide (f.name = "_"), Nat.beq f.offset off, F f.type with
    | false, true, some ks => (flatFs F fs (off + ks.length)).map (ks ++ ·)
    | _, _, _ => none
def flatK (P : Program) : Nat → TypeId → Option (List LK)
  | 0, _ => none
  | d + 1, t => match P.underlying t with
    | some (.int k) => some [.i k]
    | some .bool => some [.b]
    | some (.struct fs) => match P.stoodInHeld t, flatFs (flatK P d) fs.toList 0 with
      | false, some ks => match Nat.beq ks.length (P.cellsOf t) with
        | true => some ks
        | false => none
      | _, _ => none
    | some (.array n e) => match flatK P d e with
      | some ks => match Nat.beq ks.length (P.cellsOf e) && Nat.beq (List.replicate n ks).flatten.length (P.cellsOf t) with
        | true => some (List.replicate n ks).flatten
        | false => none
      | none => none
    | _ => none

def eqZ : Int → Int → Bool
  | .ofNat a, .ofNat b => Nat.beq a b
  | .negSucc a, .negSucc b => Nat.beq a b
  | _, _ => false
/-- Cells of these kinds, compared. -/
def fastK : List LK → List Value → List Value → Option Bool
  | [], [], [] => some true
  | .i k :: ks, .int a x :: xs, .int b y :: ys => match kSame a k, kSame b k, fastK ks xs ys with
    | true, true, some r => (match eqZ x y with
      | true => some r
      | false => some false)
    | _, _, _ => none
  | .b :: ks, .bool x :: xs, .bool y :: ys => match fastK ks xs ys with
    | some r => (match eqB x y with
      | true => some r
      | false => some false)
    | none => none
  | _, _, _ => none
/-- Where a key of cells of these kinds stands. -/
def findQ (ks : List LK) (cs : List Value) : List MapEntry → Nat → Option (Option Nat)
  | [], _ => some none
  | e :: es, i => match e.key with
    | .agg ds => match fastK ks cs ds.toList with
      | some true => some (some i)
      | some false => findQ ks cs es (i + 1)
      | none => none
    | _ => none
/-- Where a key stands: the short way for structs of numbers. -/
def findF (P : Program) (kt : TypeId) (k : Value) (es : List MapEntry) : Option (Option Nat) :=
  match k with
  | .agg cs => match aggT P kt, flatK P 10000 kt with
    | some true, some ks => match findQ ks cs.toList es 0 with
      | some r => some r
      | none => findA P kt k es
    | _, _ => findA P kt k es
  | _ => findA P kt k es

/-! Maps -/
def mapG (g : Getter) (id : Nat) : Option (List MapEntry × Nat) :=
  match g id with
  | some (.map es c) => some (es, c)
  | _ => none
def cellsA (ag : Bool) (v : Value) : Option (List Value) :=
  match v, ag with
  | .agg cs, true => some cs.toList
  | .agg _, false => none
  | _, true => none
  | v, false => some [v]
def luG (C : Cfg) (kt : TypeId) (ag : Bool) (z : Value) (m k : Value) (ok : Bool) (g : Getter) : Option (List Value) :=
  if !keyOk C.P kt k then none else
  match m with
  | .map none => (cellsA ag z).map fun cs => cs ++ if ok then [.bool false] else []
  | .map (some id) =>
    match mapG g id with
    | none => none
    | some (es, _) =>
      match findF C.P kt k es with
      | none => none
      | some none => (cellsA ag z).map fun cs => cs ++ if ok then [.bool false] else []
      | some (some i) => ((entryVal es i).bind (cellsA ag)).map fun cs => cs ++ if ok then [.bool true] else []
  | _ => none
def muG (C : Cfg) (kt : TypeId) (m k v : Value) (g : Getter) (_ : Nat) : Option (List Act1 × List Value) :=
  match m with
  | .map (some id) =>
    if !keyOk C.P kt k then none else
    match mapG g id with
    | none => none
    | some (es, c) =>
      match findF C.P kt k es with
      | none => none
      | some none => some ([.set id (.map (es ++ [{ key := k, val := v, born := c }]) (c + 1))], [])
      | some (some i) =>
        if (es[i]?).all (fun e => Instr.sameBits 10000 e.key k) then some ([.set id (.map (es.modify i fun e => { e with key := k, val := v }) c)], []) else none
  | _ => none
def meG (C : Cfg) (kt : TypeId) (ag : Bool) (z : Value) (m k : Value) (g : Getter) (_ : Nat) : Option (List Act1 × List Value) :=
  match m with
  | .map (some id) =>
    if !keyOk C.P kt k then none else
    match mapG g id with
    | none => none
    | some (es, c) =>
      match findF C.P kt k es with
      | none => none
      | some none => (cellsA ag z).map fun cs => ([.set id (.map (es ++ [{ key := k, val := z, born := c }]) (c + 1))], cs ++ [.int .i64 c])
      | some (some i) =>
        match es[i]? with
        | none => none
        | some e => if Instr.sameBits 10000 e.key k then (cellsA ag e.val).map fun cs => ([.set id (.map (es.modify i fun e => { e with key := k }) c)], cs ++ [.int .i64 e.born]) else none
  | _ => none
def esG (m : Value) (b : Int) (v : Value) (g : Getter) (_ : Nat) : Option (List Act1 × List Value) :=
  match m with
  | .map (some id) =>
    match mapG g id with
    | none => none
    | some (es, c) =>
      match es.findIdx? (fun e => (e.born : Int) == b) with
      | some i => some ([.set id (.map (es.modify i fun e => { e with val := v }) c)], [])
      | none => none
  | _ => none
def deG (C : Cfg) (kt : TypeId) (m k : Value) (g : Getter) (_ : Nat) : Option (List Act1 × List Value) :=
  if !keyOk C.P kt k then none else
  match m with
  | .map none => some ([], [])
  | .map (some id) =>
    match mapG g id with
    | none => none
    | some (es, c) =>
      match findF C.P kt k es with
      | none => none
      | some none => some ([], [])
      | some (some i) => some ([.set id (.map (es.eraseIdx i) c)], [])
  | _ => none

def allPlain (ks : List LK) : Bool := ks.all fun k => match k with
  | .v => false
  | _ => true
noncomputable def binE (X : Ctxt) (d : Option Tmp) (op : BinOp) (t : TypeId) (a b : S0) (ev : Env) (h : HT) (K : KN R HT) : R :=
  match a, b with
  | .leaf (.i k x), .leaf (.i k' y) =>
    match isShift op, kSame k k', isCmp op with
    | true, _, _ => A.shf op k x k' y fun n => setD d (.st (.leaf (.i k n))) ev h K
    | false, true, true => A.cmp op x y fun t => setD d (.st (.leaf (.b t))) ev h K
    | false, true, false => A.ari op k x y fun n => setD d (.st (.leaf (.i k n))) ev h K
    | _, _, _ => A.fail
  | .agg cs, .agg es => match flatK X.C.P 10000 t, X.C.P.eqGuardType X.C.P.depth t, aggT X.C.P t with
    | some ks, false, some true => match allIs cs ks && allIs es ks && allPlain ks with
      | true => match op with
        | .eql => A.eqs ((cs.map SL.lf).zip (es.map SL.lf)) fun t => setD d (.st (.leaf (.b t))) ev h K
        | .neq => A.eqs ((cs.map SL.lf).zip (es.map SL.lf)) fun t => setD d (.st (.leaf (.b (!t)))) ev h K
        | _ => A.fail
      | false => A.fail
    | _, _, _ => A.fail
  | .leaf (.v x), .leaf (.v y) => match X.C.P.underlying t with
    | some .string => A.fail
    | _ => match op with
      | .eql => A.opt (nilEq x y) fun t' => match nilOk X.C.P t x y with
        | true => setD d (.st (.leaf (.b t'))) ev h K
        | false => A.fail
      | .neq => A.opt (nilEq x y) fun t' => match nilOk X.C.P t x y with
        | true => setD d (.st (.leaf (.b (!t')))) ev h K
        | false => A.fail
      | _ => A.fail
  | .leaf x, .leaf y => match x.is .b && y.is .b, X.C.P.underlying t with
    | true, some .bool => match op with
      | .eql => A.eqs [(x.lf, y.lf)] fun t => setD d (.st (.leaf (.b t))) ev h K
      | .neq => A.eqs [(x.lf, y.lf)] fun t => setD d (.st (.leaf (.b (!t)))) ev h K
      | _ => A.fail
    | _, _ => A.fail
  | _, _ => A.fail

def optI (ev : Env) : Option Operand → Option (Option Int)
  | none => some none
  | some x => match sval ev x with
    | .st (.leaf (.i _ n)) => some (some n)
    | _ => none

def resSK (hs : List SK) : SK := match hs with
  | [k] => k
  | _ => .agg []

/-- The results of a call into a temporary. -/
noncomputable def setR (d : Option Tmp) (sks : List SK) (rs : List Lf) (ev : Env) (h : HT) (K : KN R HT) : R :=
  match sks with
  | [sk] => setL A d sk rs ev h K
  | [] => A.un0 rs (setD d .un ev h K)
  | sks => unSs A sks rs fun xs r => A.un0 r (setD d (.tup xs) ev h K)

structure Sig where
  ps : List SK
  rs : List SK

def areIs : List S0 → List SK → Bool
  | [], [] => true
  | x :: l, k :: ks => x.is k && areIs l ks
  | _, _ => false

noncomputable def builtinE (X : Ctxt) (d : Option Tmp) (_sk : SK) (b : Builtin) (xs : List S0) (ts : Array TypeId) (ev : Env) (h : HT) (K : KN R HT) : R :=
  match b, xs, ts[0]? with
  | .append, [.leaf (.v s), .leaf (.v x)], some t => match X.C.P.underlying t with
    | some (.slice e) => match X.C.P.info? e with
      | some info => match Nat.beq info.size 0 || (zeroI info).isNone || (ts[1]?.any fun u => (X.C.P.underlying u) matches some (.int _) | none) || ts[1]?.isNone with
        | true => A.fail
        | false => A.heap (apG X.C info.size info.bytes s x) h fun cs h => setC A d (.leaf .v) cs ev h K
      | none => A.fail
    | _ => A.fail
  | .len, [x], some t => match X.C.P.underlying t, x with
    | some (.slice _), .leaf (.v x) => A.opt (lenS x) fun n => setD d (.st (.leaf (.i .i64 n))) ev h K
    | some (.map _ _), .leaf (.v x) => A.peek (lenM x) h fun cs => setC A d (.leaf (.i .i64)) cs ev h K
    | some (.array n _), _ => setD d (.st (.leaf (.i .i64 n))) ev h K
    | _, _ => A.fail
  | .cap, [x], some t => match X.C.P.underlying t, x with
    | some (.slice _), .leaf (.v x) => A.opt (capS x) fun n => setD d (.st (.leaf (.i .i64 n))) ev h K
    | some (.array n _), _ => setD d (.st (.leaf (.i .i64 n))) ev h K
    | _, _ => A.fail
  | .copy, [.leaf (.v s), .leaf (.v x)], some t => match X.C.P.underlying t with
    | some (.slice e) => match Nat.beq (X.C.P.cellsOf e) 0 with
      | true => A.fail
      | false => A.heap (cpG X.C (X.C.P.cellsOf e) s x) h fun cs h => setC A d (.leaf (.i .i64)) cs ev h K
    | _ => A.fail
  | .delete, [.leaf (.v m), k], some t => match X.C.P.underlying t with
    | some (.map kt _) => A.heap (deG X.C kt m k.val) h fun _ h => setD d .un ev h K
    | _ => A.fail
  | .min, [.leaf (.i k a), .leaf (.i k' b)], _ => match kSame k k' with
    | true => A.cmp .lss b a fun t => A.sel t b a fun n => setD d (.st (.leaf (.i k n))) ev h K
    | false => A.fail
  | .max, [.leaf (.i k a), .leaf (.i k' b)], _ => match kSame k k' with
    | true => A.cmp .lss a b fun t => A.sel t b a fun n => setD d (.st (.leaf (.i k n))) ev h K
    | false => A.fail
  | _, _, _ => A.fail

noncomputable def indexAddrE (X : Ctxt) (d : Option Tmp) (t : TypeId) (x i : Operand) (ev : Env) (h : HT) (K : KN R HT) : R :=
  match X.C.P.underlying t with
  | some (.array len e) =>
    let esz := X.C.P.cellsOf e
    match Nat.beq esz 0, sval ev x, sval ev i, constI i with
    | false, .lad s off, _, some n => match Nat.blt n len with
      | true => setD d (.lad s (off + n * esz)) ev h K
      | false => A.fail
    | false, .gad g off, _, some n => match Nat.blt n len with
      | true => setD d (.gad g (off + n * esz)) ev h K
      | false => A.fail
    | false, .ldx s base ix, _, some n => match Nat.blt n len with
      | true => setD d (.ldx s (base + n * esz) ix) ev h K
      | false => A.fail
    | false, .gdx g base ix, _, some n => match Nat.blt n len with
      | true => setD d (.gdx g (base + n * esz) ix) ev h K
      | false => A.fail
    | false, .lad s off, .st (.leaf (.i _ j)), _ => A.opt (inB len j) fun _ => setD d (.ldx s off [(j, esz)]) ev h K
    | false, .gad g off, .st (.leaf (.i _ j)), _ => A.opt (inB len j) fun _ => setD d (.gdx g off [(j, esz)]) ev h K
    | false, .ldx s base ix, .st (.leaf (.i _ j)), _ => A.opt (inB len j) fun _ => setD d (.ldx s base (ix ++ [(j, esz)])) ev h K
    | false, .gdx g base ix, .st (.leaf (.i _ j)), _ => A.opt (inB len j) fun _ => setD d (.gdx g base (ix ++ [(j, esz)])) ev h K
    | false, .st (.leaf (.v p)), .st (.leaf (.i _ j)), _ => A.opt (idP len esz p j) fun q => A.chk q (setD d (.st (.leaf (.v q))) ev h K)
    | _, _, _, _ => A.fail
  | some (.slice e) =>
    let esz := X.C.P.cellsOf e
    match Nat.beq esz 0, sval ev x, sval ev i with
    | false, .st (.leaf (.v p)), .st (.leaf (.i _ j)) => A.opt (idS esz p j) fun q => setD d (.st (.leaf (.v q))) ev h K
    | _, _, _ => A.fail
  | _ => A.fail

noncomputable def fieldAddrE (X : Ctxt) (d : Option Tmp) (t : TypeId) (x : Operand) (f : Nat) (ev : Env) (h : HT) (K : KN R HT) : R :=
  match X.C.P.underlying t with
  | some (.struct fs) => match fs[f]? with
    | some fd => match Nat.beq (X.C.P.cellsOf fd.type) 0, sval ev x with
      | false, .lad s off => setD d (.lad s (off + fd.offset)) ev h K
      | false, .gad g off => setD d (.gad g (off + fd.offset)) ev h K
      | false, .ldx s base ix => setD d (.ldx s (base + fd.offset) ix) ev h K
      | false, .gdx g base ix => setD d (.gdx g (base + fd.offset) ix) ev h K
      | false, .st (.leaf (.v p)) => A.opt (fdP fd.offset p) fun q => A.chk q (setD d (.st (.leaf (.v q))) ev h K)
      | _, _ => A.fail
    | none => A.fail
  | _ => A.fail

noncomputable def opE (X : Ctxt) (Sg : FuncId → Option Sig) (o : Oper) (hs : List SK) (ev : Env) (h : HT) (K : KN R HT) : R :=
  match o.op with
  | .move x => match sval ev x with
    | .no => A.fail
    | y => setD o.dst y ev h K
  | .assign x => match sval ev x with
    | .no => A.fail
    | y => setD o.dst y ev h K
  | .pick c a b => match sval ev c, sval ev a, sval ev b with
    | .st (.leaf (.l true)), .st y, _ => setD o.dst (.st y) ev h K
    | .st (.leaf (.l false)), _, .st y => setD o.dst (.st y) ev h K
    | .st (.leaf (.b t)), .st y, .st z => A.cond t (setD o.dst (.st y) ev h K) (setD o.dst (.st z) ev h K)
    | _, _, _ => A.fail
  | .alloc t => match zeroS X.C.P t with
    | some x => newV A X o.dst t x ev h K
    | none => A.fail
  | .box t x => match sval ev x with
    | .st x => newV A X o.dst t x ev h K
    | _ => A.fail
  | .build t ps => match zeroS X.C.P t, placesOf X.C.P t, svals ev (ps.toList.map (·.2)) with
    | some z, some pl, some xs => match fillS pl z.cells ((ps.toList.map (·.1)).zip xs) with
      | some cs => setD o.dst (.st (.agg cs)) ev h K
      | none => A.fail
    | _, _, _ => A.fail
  | .buildSlice t n ps => match X.C.P.underlying t, svals ev (ps.toList.map (·.2)) with
    | some (.slice e), some xs => match X.C.P.info? e with
      | some info => match Nat.beq info.size 0 || Nat.beq n 0 || Nat.blt 16777216 (n * info.size), (zeroI info).bind s0Of with
        | false, some z => match fillS (fun i => some (i * info.size, info.size)) (List.replicate n z.cells).flatten ((ps.toList.map (·.1)).zip xs) with
          | some cs => A.new (.cells (cs.map SL.val) info.size true) h fun m h => setD o.dst (.st (.leaf (.v (.slice (some ⟨m, 0, tag info.size⟩) n (n + 1))))) ev h K
          | none => A.fail
        | _, _ => A.fail
      | none => A.fail
    | _, _ => A.fail
  | .load t a => match aggT X.C.P t with
    | some agg => match eqB agg (skAgg (resSK hs)) with
      | true => loadE A X o.dst (resSK hs) agg (if agg then X.C.P.cellsOf t else 1) a ev h K
      | false => A.fail
    | none => A.fail
  | .store t a x => match sval ev x with
    | .st x => storeE A X o.dst t a x ev h K
    | _ => A.fail
  | .nilCheck x => match sval ev x with
    | .st (.leaf (.v p)) => A.opt (nilP p) fun q => A.chk q (setD o.dst (.st (.leaf (.v q))) ev h K)
    | .lad s off => setD o.dst (.lad s off) ev h K
    | .gad s off => setD o.dst (.gad s off) ev h K
    | _ => A.fail
  | .binOp op t x y _ => match sval0 ev x, sval0 ev y with
    | some a, some b => binE A X o.dst op t a b ev h K
    | _, _ => A.fail
  | .unOp op _ x => match op, sval ev x with
    | .not, .st (.leaf (.b t)) => setD o.dst (.st (.leaf (.b (!t)))) ev h K
    | .not, .st (.leaf (.l t)) => setD o.dst (.st (.leaf (.l (!t)))) ev h K
    | .neg, .st (.leaf (.i k n)) => A.ari .sub k 0 n fun n => setD o.dst (.st (.leaf (.i k n))) ev h K
    | _, _ => A.fail
  | .convert sT dT x => match X.C.P.underlying sT, X.C.P.underlying dT, sval ev x with
    | some (.int _), some (.int k), .st (.leaf (.i _ n)) => A.conv k n fun n => setD o.dst (.st (.leaf (.i k n))) ev h K
    | _, _, _ => A.fail
  | .makeFunc fn first cap => match fn, svals ev first.toList, svals ev cap.toList with
    | .func g, some a, some b => A.chk (.func (.func g) ⟨valsOf a⟩ ⟨valsOf b⟩) (setD o.dst (.st (.leaf (.v (.func (.func g) ⟨valsOf a⟩ ⟨valsOf b⟩)))) ev h K)
    | _, _, _ => A.fail
  | .makeMap t r => match hintOk X.C t (r.map fun _ => .int .i64 0), optI ev r with
    | true, some _ => A.new (.map [] 0) h fun n h => setD o.dst (.st (.leaf (.v (.map (some n))))) ev h K
    | _, _ => A.fail
  | .makeSlice t l c => match X.C.P.underlying t, sval ev l, sval ev c with
    | some (.slice e), .st (.leaf (.i _ l)), .st (.leaf (.i _ c)) => match X.C.P.info? e with
      | some info => match Nat.beq info.size 0 || Nat.blt 4096 info.bytes, (zeroI info).bind s0Of with
        | false, some z => A.opt (mkOk l c) fun _ =>
            A.new (.cells (zerosA (z.cells.map SL.val) c.toNat) info.size true) h fun n h => setD o.dst (.st (.leaf (.v (.slice (some ⟨n, 0, tag info.size⟩) l.toNat (c.toNat + 1))))) ev h K
        | _, _ => A.fail
      | none => A.fail
    | _, _, _ => A.fail
  | .slice t x lo hi mx => match X.C.P.underlying t, sval ev x, optI ev lo, optI ev hi, optI ev mx with
    | some (.slice e), .st (.leaf (.v x)), some lo, some hi, some mx => match Nat.beq (X.C.P.cellsOf e) 0 with
      | true => A.fail
      | false => A.opt (slS (X.C.P.cellsOf e) x lo hi mx) fun q => A.chk q (setD o.dst (.st (.leaf (.v q))) ev h K)
    | some (.array _ e), .gad g off, some lo, some hi, some mx => match Nat.beq (X.C.P.cellsOf e) 0 with
      | true => A.fail
      | false => A.opt (sliceArr X.C t ⟨g, off, some 1⟩ (lo.map (.int .i64)) (hi.map (.int .i64)) (mx.map (.int .i64)) []) fun q => A.chk q (setD o.dst (.st (.leaf (.v q))) ev h K)
    | _, _, _, _, _ => A.fail
  | .fieldAddr t x f => fieldAddrE A X o.dst t x f ev h K
  | .indexAddr t x i => indexAddrE A X o.dst t x i ev h K
  | .field t x f => match X.C.P.underlying t, sval ev x with
    | some (.struct fs), .st (.agg cs) => match fs[f]? with
      | some fd => match (aggT X.C.P fd.type).bind (fun ag => (cutS cs fd.offset (if ag then X.C.P.cellsOf fd.type else 1)).bind (mkS0 ag)) with
        | some x => setD o.dst (.st x) ev h K
        | none => A.fail
      | none => A.fail
    | _, _ => A.fail
  | .index t x i => match X.C.P.underlying t, sval ev x, sval ev i with
    | some (.array len e), .st (.agg cs), .st (.leaf (.i _ j)) => match aggT X.C.P e with
      | some ag => match eqB ag (skAgg (resSK hs)) && allAt cs (skKs (resSK hs)) 0 [(j, X.C.P.cellsOf e)] && Nat.beq (if ag then X.C.P.cellsOf e else 1) (skKs (resSK hs)).length with
        | false => A.fail
        | true => A.opt (inB len j) fun _ => A.opt (pickL (cs.map SL.lf) 0 [(j, X.C.P.cellsOf e)] (if ag then X.C.P.cellsOf e else 1)) fun ls => setL A o.dst (resSK hs) ls ev h K
      | none => A.fail
    | _, _, _ => A.fail
  | .lookup t m k ok => match X.C.P.underlying t, sval ev m, sval0 ev k with
    | some (.map kt et), .st (.leaf (.v m)), some k => match zeroOf X.C.P et with
      | some z => match hs, ok with
        | [sk], false => A.peek (luG X.C kt (skAgg sk) z m k.val false) h fun cs => ucS A sk cs fun x r => A.uc0 r (setD o.dst (.st x) ev h K)
        | [sk, .leaf .b], true => A.peek (luG X.C kt (skAgg sk) z m k.val true) h fun cs => ucS A sk cs fun x r => A.ucB r fun t r => A.uc0 r (setD o.dst (.tup [x, .leaf (.b t)]) ev h K)
        | _, _ => A.fail
      | none => A.fail
    | _, _, _ => A.fail
  | .mapUpdate t m k v => match X.C.P.underlying t, sval ev m, sval0 ev k, sval0 ev v with
    | some (.map kt _), .st (.leaf (.v m)), some k, some v => A.heap (muG X.C kt m k.val v.val) h fun _ h => setD o.dst .un ev h K
    | _, _, _, _ => A.fail
  | .insert t m k v => match X.C.P.underlying t, sval ev m, sval0 ev k, sval0 ev v with
    | some (.map kt _), .st (.leaf (.v m)), some k, some v => A.heap (muG X.C kt m k.val v.val) h fun _ h => setD o.dst .un ev h K
    | _, _, _, _ => A.fail
  | .mapEntry t m k => match X.C.P.underlying t, sval ev m, sval0 ev k with
    | some (.map kt et), .st (.leaf (.v m)), some k => match zeroOf X.C.P et with
      | some z => match hs with
        | [sk, .leaf (.i .i64)] => A.heap (meG X.C kt (skAgg sk) z m k.val) h fun cs h => ucS A sk cs fun x r => A.ucI .i64 r fun n r => A.uc0 r (setD o.dst (.tup [x, .leaf (.i .i64 n)]) ev h K)
        | _ => A.fail
      | none => A.fail
    | _, _, _ => A.fail
  | .entryStore _ m s v => match sval ev m, sval ev s, sval0 ev v with
    | .st (.leaf (.v m)), .st (.leaf (.i _ b)), some v => A.heap (esG m b v.val) h fun _ h => setD o.dst .un ev h K
    | _, _, _ => A.fail
  | .extract t i => match sval ev t with
    | .tup xs => match xs[i]? with
      | some x => setD o.dst (.st x) ev h K
      | none => A.fail
    | _ => A.fail
  | .call c => match svals ev c.args.toList with
    | some xs => match c.callee with
      | .builtin b => builtinE A X o.dst (resSK hs) b xs c.argTypes ev h K
      | .value f => match sval ev f with
        | .st (.leaf (.v v)) => match f with
          | .func g => match Sg g with
            | some sg => match areIs xs sg.ps with
              | true => A.call g (lfsOf xs) h fun rs h => setR A o.dst sg.rs rs ev h K
              | false => A.fail
            | none => A.fail
          | _ => A.callv v (valsOf xs) hs h fun rs h => setR A o.dst hs rs ev h K
        | _ => A.fail
      | _ => A.fail
    | none => A.fail
  | _ => A.fail

/-- An operation that may be guarded. -/
noncomputable def opG (X : Ctxt) (Sg : FuncId → Option Sig) (ops : Array Oper) (o : Oper) (hs : List SK) (ev : Env) (h : HT) (K : KN R HT) : R :=
  match o.guard with
  | none => opE A X Sg o hs ev h K
  | some (j, want) => match (ops[j]?).bind (·.dst) with
    | some d => match ev.tm.getD d .no with
      | .st (.leaf (.l b)) => match b == want with
        | true => opE A X Sg o hs ev h K
        | false => setD o.dst .un ev h K
      | .un => setD o.dst .un ev h K
      | .st (.leaf (.b t)) => match want with
        | true => A.cond t (setK (.st (.leaf (.l true))) ev.tm d fun tm => opE A X Sg o hs ⟨tm, ev.lc⟩ h K) (setK (.st (.leaf (.l false))) ev.tm d fun tm => setD o.dst .un ⟨tm, ev.lc⟩ h K)
        | false => A.cond t (setK (.st (.leaf (.l true))) ev.tm d fun tm => setD o.dst .un ⟨tm, ev.lc⟩ h K) (setK (.st (.leaf (.l false))) ev.tm d fun tm => opE A X Sg o hs ⟨tm, ev.lc⟩ h K)
      | _ => A.fail
    | none => A.fail

noncomputable def opsE (X : Ctxt) (Sg : FuncId → Option Sig) (ops : Array Oper) (l : List Oper) : List (List SK) → Env → HT → KN R HT → R :=
  List.rec (motive := fun _ => List (List SK) → Env → HT → KN R HT → R) (fun _ ev h K => K ev h)
    (fun o _ ih hs ev h K => opG A X Sg ops o (hs.headD []) ev h fun ev h => ih hs.tail ev h K) l

end
end Go.Am

/-
  CODE IN THE SHAPE OF VALUES: statements, functions, rounds of loops over iterators.
-/
namespace Go.Am

section
variable {R HT : Type} (A : Alg R HT)

def eqExit (e : Exit) (id : Nat) : Bool := match e with
  | .exit i => Nat.beq i id
  | _ => false

/-- What a loop over an iterator keeps. -/
def capVals (tm : List SV) : List (Nat × SK) → Option (List Value)
  | [] => some []
  | (t, sk) :: l => match tm.getD t .no, capVals tm l with
    | .st x, some vs => match x.is sk with
      | true => some (x.val :: vs)
      | false => none
    | _, _ => none

noncomputable def exec (X : Ctxt) (Sg : FuncId → Option Sig) (dr : List Nat → Array Oper → Bool) (c : AC) : Env → HT → KN R HT → (Exit → KN R HT) → R :=
  AC.rec (motive := fun _ => Env → HT → KN R HT → (Exit → KN R HT) → R)
    (fun ev h kn _ => kn ev h)
    (fun ev h _ kx => kx .ret ev h)
    (fun id ev h _ kx => kx (.exit id) ev h)
    (fun _ ev h kn _ => kn ev h)
    (fun _ _ iha ihb ev h kn kx => iha ev h (fun ev h => ihb ev h kn kx) kx)
    (fun _ ih ev h kn kx => ih ev h kn kx)
    (fun id ops draw hs j ev h kn _ => match draw && !(dr X.pts ops) with
      | true => A.fail
      | false => joinE A X.pts (.region id ops draw) j ev kn fun kn => opsE A X Sg ops ops.toList hs ev h kn)
    (fun c a b j iha ihb ev h kn kx => match sval ev c with
      | .st (.leaf (.l true)) => iha ev h kn kx
      | .st (.leaf (.l false)) => ihb ev h kn kx
      | .st (.leaf (.b t)) => joinE A X.pts (.cond c (a.erase fun κ t => siteCode (X.T κ) t) (b.erase fun κ t => siteCode (X.T κ) t)) j ev kn fun kn => A.cond t (iha ev h kn kx) (ihb ev h kn kx)
      | _ => A.fail)
    (fun id b j ih ev h kn kx => joinE A X.pts (b.erase fun κ t => siteCode (X.T κ) t) j ev kn fun kn => ih ev h kn fun e => match eqExit e id with
      | true => kn
      | false => kx e)
    (fun b lv ih ev h _ kx => match pk ev lv with
      | none => A.fail
      | some ls => match lv.rows.all fun p => !(boxKeys X.pts (b.erase fun κ t => siteCode (X.T κ) t)).contains p.1 with
        | false => A.fail
        | true => A.loop (fun self ls h => reE A X.pts (b.erase fun κ t => siteCode (X.T κ) t) .nil lv ev ls fun ev => ih ev h (fun ev h => match pk ev lv with
          | some ls => self ls h
          | none => A.fail) kx) ls h)
    (fun f κ ids ev h kn kx => match f, sval ev f, X.pts with
      | .tmp _, .st (.leaf (.v v)), _ :: _ => match Nat.beq ev.tm.length (X.T κ).nt, capVals ev.tm (X.T κ).caps with
        | true, some vs => A.rfun κ v vs h fun pd h => A.pend pd (kn ev h) (kx .ret ev h) (ids.map fun id => (id, kx (.exit id) ev h))
        | _, _ => A.fail
      | _, _, _ => A.fail) c

/-- The leaves of structs among several results are looked at. -/
noncomputable def chkAll (cs : List SL) (K : R) : R :=
  List.rec K (fun c _ ih => match c with
    | .v x => A.opt (chk2 x) fun _ => ih
    | _ => ih) cs
noncomputable def chkRes (many : Bool) (x : S0) (K : R) : R :=
  match many, x with
  | true, .agg cs => chkAll A cs K
  | _, _ => K

/-- What a function returns. -/
noncomputable def resE (X : Ctxt) (many : Bool) (ev : Env) (h : HT) (rvs : List ResultVar) : List SK → List Lf → (List Lf → HT → R) → R :=
  List.rec (motive := fun _ => List SK → List Lf → (List Lf → HT → R) → R) (fun sks acc K => match sks with
      | [] => K acc h
      | _ => A.fail)
    (fun rv _ ih sks acc K => match sks with
      | [] => A.fail
      | sk :: sks => match rv with
        | .tmp t => match ev.tm.getD t .no with
          | .st x => match x.is sk with
            | true => chkRes A many x (ih sks (acc ++ x.cells.map SL.lf) K)
            | false => A.fail
          | _ => A.fail
        | .cell a t => match aggT X.C.P t with
          | some agg =>
            let n := if agg then X.C.P.cellsOf t else 1
            match ev.tm.getD a .no with
            | .lad s off => match (rowAt ev s).bind (fun cs => (cutS cs off n).bind (mkS0 agg)) with
              | some x => match x.is sk with
                | true => chkRes A many x (ih sks (acc ++ x.cells.map SL.lf) K)
                | false => A.fail
              | none => A.fail
            | .st (.leaf (.v p)) => match agg, sk with
              | true, .agg _ => A.peek (ldP n p) h fun cs => ucS A sk cs fun x r => A.uc0 r (chkRes A many x (ih sks (acc ++ x.cells.map SL.lf) K))
              | false, .leaf _ => A.peek (ldP n p) h fun cs => ucS A sk cs fun x r => A.uc0 r (chkRes A many x (ih sks (acc ++ x.cells.map SL.lf) K))
              | _, _ => A.fail
            | _ => A.fail
          | none => A.fail) rvs

structure Fn1 where
  sg : Sig
  nt : Nat
  rvs : List ResultVar
  code : AC

noncomputable def execF (X : Ctxt) (Sg : FuncId → Option Sig) (dr : List Nat → Array Oper → Bool) (fn : Fn1) (ls : List Lf) (h : HT) (K : List Lf → HT → R) : R :=
  unSs A fn.sg.ps ls fun xs r => A.un0 r (
    exec A X Sg dr fn.code ⟨xs.map .st ++ List.replicate (fn.nt - xs.length) .no, List.replicate fn.nt .nil⟩ h
      (fun ev h => resE A X (Nat.blt 1 fn.rvs.length) ev h fn.rvs fn.sg.rs [] K)
      fun e ev h => match e with
        | .ret => resE A X (Nat.blt 1 fn.rvs.length) ev h fn.rvs fn.sg.rs [] K
        | _ => A.fail)

def capEnv (nt : Nat) : List (Nat × SK) → List S0 → List SV → List SV
  | (t, _) :: l, x :: xs, tm => capEnv nt l xs (tm.set t (.st x))
  | _, _, tm => tm

/-- No loop over an iterator within. -/
def noRF : AC → Bool
  | .seq a b => noRF a && noRF b
  | .scope b => noRF b
  | .cond _ a b _ => noRF a && noRF b
  | .block _ b _ => noRF b
  | .loop b _ => noRF b
  | .rangeFunc _ _ _ => false
  | _ => true
def leafOnly (l : List (Nat × SK)) : Bool := l.all fun p => match p.2 with
  | .leaf _ => true
  | .agg _ => false

/-- A round: what was kept, the arguments. -/
noncomputable def execY (X : Ctxt) (Sg : FuncId → Option Sig) (dr : List Nat → Array Oper → Bool) (st : Site) (vs : List Value) (l : Nat) (ls : List Lf) (h : HT) (K : List Lf → HT → R) : R :=
  match leafOnly st.caps && noRF st.assign && noRF st.body with
  | false => A.fail
  | true => ucSs A (st.caps.map (·.2)) vs fun xs r => A.uc0 r (unSs A (st.params.map (·.2)) ls fun ys r => A.un0 r (
    exec A { X with pts := [] } Sg dr st.assign ⟨capEnv st.nt st.params ys (capEnv st.nt st.caps xs (List.replicate st.nt .no)), []⟩ h
      (fun ev h => A.lp1 l h fun h => exec A { X with pts := [] } Sg dr st.body ev h
        (fun _ h => A.lp2 l none h fun h => K [.b true] h)
        fun e _ h => match e with
          | .ret => A.lp2 l (some .ret) h fun h => K [.b false] h
          | .exit id => A.lp2 l (some (.exit id)) h fun h => K [.b false] h
          | _ => A.fail)
      fun _ _ _ => A.fail))

end
end Go.Am

/-
  ANNOTATIONS: code and the list of its annotations give annotated code.
-/
namespace Go.Am

inductive An where
  | r (hs : List (List SK)) (j : Option Live)
  | c (j : Option Live)
  | b (j : Option Live)
  | l (lv : Live)
  | f (κ : Nat) (ids : List Nat)

abbrev lv : SK := .leaf .v
abbrev lb : SK := .leaf .b
abbrev li : SK := .leaf (.i .i64)

def annot : Code → List An → AC × List An
  | .skip, l => (.skip, l)
  | .ret, l => (.ret, l)
  | .exit id, l => (.exit id, l)
  | .label n, l => (.label n, l)
  | .seq a b, l =>
    let x := annot a l
    let y := annot b x.2
    (.seq x.1 y.1, y.2)
  | .scope b, l =>
    let x := annot b l
    (.scope x.1, x.2)
  | .region id ops draw, .r hs j :: l => (.region id ops draw hs j, l)
  | .cond c a b, .c j :: l =>
    let x := annot a l
    let y := annot b x.2
    (.cond c x.1 y.1 j, y.2)
  | .block id b, .b j :: l =>
    let x := annot b l
    (.block id x.1 j, x.2)
  | .loop b, .l lv :: l =>
    let x := annot b l
    (.loop x.1 lv, x.2)
  | .rangeFunc f _ _ _, .f κ ids :: l => (.rangeFunc f κ ids, l)
  | _, l => (.exit 1000000, l)

def codeOf (P : Program) (f : FuncId) : Code := ((P.funcs[f]?).bind (·.body)).getD .skip
def sitesOf : Code → List (Array Tmp × Code × Code)
  | .seq a b => sitesOf a ++ sitesOf b
  | .scope b => sitesOf b
  | .cond _ a b => sitesOf a ++ sitesOf b
  | .block _ b => sitesOf b
  | .loop b => sitesOf b
  | .rangeFunc _ ps a b => [(ps, a, b)]
  | _ => []
def site (c : Code) (i nt : Nat) (caps params : List (Nat × SK)) (a b : List An) : Site :=
  match (sitesOf c)[i]? with
  | some (_, x, y) => ⟨nt, caps, params, (annot x a).1, (annot y b).1⟩
  | none => ⟨0, [], [], .skip, .skip⟩
def fn1 (P : Program) (f : FuncId) (sg : Sig) (an : List An) : Fn1 :=
  match P.funcs[f]? with
  | some fn => ⟨sg, fn.ntmps, fn.results.toList, (annot (codeOf P f) an).1⟩
  | none => ⟨sg, 0, [], .skip⟩

/-- No drawn region is looked at. -/
def dr0 (_ : List Nat) (_ : Array Oper) : Bool := true

end Go.Am

/-
  THE TABLES OF THE SEAT, BY PROGRAM: hints, signatures, annotations, what the package-level variables hold.
-/
set_option maxRecDepth 100000
namespace Go.Am
open Go.Proofs

def gl0 : List Value := [.int .i64 0, .int .i64 (-1), .int .u8 2, .int .i64 0, .int .i64 0, .int .i64 (-1), .int .u8 2, .int .i64 0, .int .i64 0, .int .u8 1, .int .i64 0, .int .i64 0, .int .u8 3, .int .i64 0, .int .i64 0, .int .i64 2, .int .i64 0, .int .i64 1, .int .i64 0, .int .u8 1, .int .i64 1, .int .i64 1, .int .i64 0, .int .u8 3, .int .i64 0, .int .i64 0, .int .u8 0, .int .i64 0, .int .i64 0, .int .u8 2, .int .i64 2, .int .i64 2, .int .i64 2, .int .i64 0, .int .i64 0, .int .i64 1, .int .u8 2, .int .i64 1, .int .i64 0, .int .i64 1, .int .u8 0, .int .i64 0, .int .i64 0, .int .u8 3, .int .i64 0, .int .i64 0, .int .u8 1, .int .i64 2, .int .i64 2, .int .i64 0, .int .i64 2, .int .i64 (-1), .int .i64 0, .int .u8 1, .int .i64 0, .int .i64 (-1), .int .i64 0, .int .u8 1, .int .i64 0, .int .i64 0, .int .u8 2, .int .i64 0, .int .i64 0, .int .u8 0, .int .i64 0, .int .i64 0, .int .i64 0, .int .i64 2]
def gl1 : List Value := [.int .i64 1, .int .i64 0, .int .i64 0, .int .i64 1, .int .i64 0, .int .i64 (-1), .int .i64 1, .int .i64 0, .int .i64 (-1), .int .i64 0, .int .i64 0, .int .i64 (-1), .int .i64 0, .int .i64 1, .int .i64 (-1), .int .i64 0, .int .i64 (-1), .int .i64 0, .int .i64 0, .int .i64 1, .int .i64 0, .int .i64 (-1), .int .i64 (-1), .int .i64 0, .int .i64 1, .int .i64 0, .int .i64 0, .int .i64 (-1), .int .i64 0, .int .i64 1, .int .i64 1, .int .i64 0]
def ptsTab : List (List Nat) := [
  [],
  [],
  [0],
  [0, 0, 0, 5, 0, 0, 0, 9, 0, 0, 12, 0, 0, 0, 0, 17, 0, 0, 0, 0, 0, 0, 0, 0, 0, 0, 0, 0, 0, 0, 0, 0, 0, 0, 0, 0, 0, 9, 0, 0, 9],
  [0, 3, 0, 5, 0, 0, 0, 0, 0, 11, 0, 13, 0, 0, 0, 0, 0, 0, 0, 0, 0, 0, 0, 0, 0, 0, 0, 0, 0, 0, 0, 0, 0, 0, 0, 0, 0, 0, 0, 0, 0, 0, 0, 0, 0, 0, 0, 0, 5, 0, 0, 5, 0, 0, 5, 0, 0, 5, 0, 0, 0, 0, 0, 0, 0, 0, 0, 0, 0, 0, 0, 0, 0, 0, 0, 0, 0, 0, 0, 0, 0, 0, 0, 0, 0, 0, 0, 0, 0, 0, 0, 0, 0, 0, 0, 0, 0, 0, 0, 0, 0, 0, 0, 0, 0, 0, 0, 0, 0, 0, 0, 0, 0, 0, 0, 0, 11, 0, 0, 0, 0, 0, 0, 11, 0, 0, 0, 0, 0, 11, 0, 0, 0, 0, 0, 0, 11, 0, 0, 0, 0, 0, 0, 0, 0, 0, 0, 0, 5, 0, 0, 0, 0, 0, 0, 5, 0, 0, 0, 0, 0, 0, 0, 0, 0, 0, 0, 0, 0, 5, 0, 0, 0, 0, 0, 0, 5],
  [0, 0, 4, 5, 0, 7, 0, 0, 0, 11, 0, 13, 0, 15, 0, 0, 0, 0, 0, 0, 0, 0, 0, 0, 0, 0, 0, 0, 0, 0, 0, 0, 0, 0, 0, 0, 0, 0, 0, 0, 0, 0, 0, 0, 0, 0, 0, 0, 0, 0, 0, 0, 0, 0, 0, 0, 0, 0, 0, 0, 0, 0, 0, 0, 0, 0, 0, 0, 5, 0, 0, 0, 0, 0, 0, 0, 0, 0, 0, 0, 0, 5],
  [0, 0, 4, 0, 0, 0, 8, 0, 0, 0, 0, 0, 14, 0, 0, 0, 18, 0, 20, 0, 0, 0, 0, 0, 0, 0, 0, 0, 0, 0, 0, 0, 0, 0, 0, 0, 0, 4, 0, 0, 4],
  [0, 0, 0, 5, 0, 7, 0, 9, 0, 0, 0, 0, 14, 0, 0, 0, 18],
  [0, 0, 0, 5],
  [0, 0, 4, 0, 0, 7, 0, 9, 0, 0, 12],
  [0, 0, 0, 5, 0, 7, 0, 9, 0, 0, 0, 0, 0, 15, 16, 0, 0, 0, 20],
  [0, 0, 4, 5, 0, 0, 0, 9, 0, 0, 0, 0, 0, 0, 0, 0, 0, 0, 0, 0, 0, 0, 0, 0, 0, 0, 0, 0, 0, 0, 0, 0, 0, 0, 0, 0, 0, 0, 0, 0, 0, 0, 9, 0, 0, 0, 0, 0, 0, 0, 9],
  [0, 0, 0, 5, 6, 0, 0, 9, 0, 11, 12, 13],
  [0, 0, 4, 5, 0, 7, 0, 9, 0, 11],
  [0, 0, 0, 5, 6, 7],
  [0, 0, 4, 0, 0, 7, 8, 0, 10, 0, 12, 0, 14, 0, 16],
  [0, 0, 0, 5, 6, 7, 8],
  [0, 3, 4, 3, 0, 0, 0, 0, 3],
  [0, 0, 0, 5, 0, 0, 0, 0, 10, 0, 12],
  [0, 0, 0, 5, 0, 0, 8],
  [0, 0, 0, 5, 0, 0, 0, 9, 0, 0, 5, 0, 0, 0, 5],
  [0, 3, 0, 0, 0, 7, 0, 0, 0, 0, 0, 0, 0, 0, 16, 0, 18, 0, 20, 0, 22],
  [0, 0, 0, 0, 6],
  [0, 3],
  [0, 3, 0, 0, 0, 0, 0, 3, 0, 0, 3],
  [0, 0, 4, 5, 6, 0, 8, 0, 10, 0, 12, 13, 0, 0, 0, 0, 0, 0, 0, 0, 0, 0, 0, 0, 0, 0, 0, 5, 0, 0, 0, 10, 0, 5, 0, 0, 0, 10, 0, 13, 0, 12, 0, 0, 0, 13, 0, 12, 0, 0, 0, 13, 0, 12],
  [0, 0, 4, 5, 6, 0, 8, 0, 0, 0, 0, 0, 0, 0, 0, 0, 0, 0, 0, 5],
  [0, 0, 4, 5, 6, 7, 8, 9, 0, 0, 0, 5, 0, 0, 4, 0, 0, 5, 0, 4, 0, 0, 0, 5, 0, 0, 0, 0, 0, 0, 0, 5, 0, 0, 0, 0, 0, 0, 0, 0, 0, 0, 0, 0, 0, 8, 0, 0, 9, 0, 0, 0, 0, 8],
  [0, 0, 4, 5, 0, 0, 0, 0, 4, 0, 0, 0, 0, 0, 5, 0, 0, 0, 5, 0, 0, 0, 4],
  [0, 3, 0, 0, 0, 0, 0, 0, 0, 0, 0, 0, 0, 0, 3, 0, 0, 0, 0, 0, 0, 3],
  [0, 3, 0, 0, 0, 0, 0, 0, 3, 0, 0, 0, 0, 0, 3],
  [0, 0, 4, 0, 6, 7, 8, 9, 10, 0, 0, 0, 0, 0, 0, 0, 0, 7, 0, 0, 0, 0, 7, 0, 0, 0, 0, 0, 0, 0, 0, 0, 0, 0, 8, 0, 0, 0, 8, 0, 0, 0, 0, 9, 0, 0, 0, 9, 0, 0, 0, 0, 0, 0, 8, 0, 0, 0, 8],
  [0, 3, 0, 3, 0, 0, 0, 3, 0, 0, 0, 0, 3, 0, 0, 0, 0, 3, 0, 0, 0, 0, 3, 0, 3],
  [0, 3, 0, 3, 0, 0, 0, 3, 0, 0, 0, 0, 3, 0, 0, 0, 0, 3, 0, 0, 0, 0, 3, 0, 3],
  [0, 3, 0, 0, 0, 0, 3, 0, 0, 3],
  [0, 0, 4, 0, 6],
  [0, 0, 4, 5, 0, 0, 0, 0, 0, 0, 0, 0, 0, 0, 0, 0, 5, 0, 0, 0, 0, 5, 0, 4, 0, 0, 0, 0, 5, 0, 0, 0, 0, 5, 0, 4, 0, 0, 0, 5, 0, 4, 0, 0, 5, 0, 0, 0, 5],
  [0, 3],
  [0, 0, 4, 5, 0, 5, 0, 0, 0, 5, 0, 0, 0, 0, 5, 0, 4, 0, 0, 0, 0, 5, 0, 4, 0, 0, 0, 0, 5, 0, 0, 0, 4, 0, 0, 5, 0, 0, 5, 0, 0, 0, 5],
  [0, 0, 0, 0, 6],
  [0, 0, 4, 0, 6, 0, 8, 9, 0, 0, 0, 0, 0, 0, 0, 0, 4, 0, 1, 0, 8, 0, 4, 0, 8, 0, 0, 0, 0, 0, 0, 4, 0, 4, 0, 0, 0, 0, 0, 0, 0, 4, 0, 4, 0, 0, 0, 0, 8, 0, 0, 4, 0, 8, 0, 0, 9],
  [0, 3, 4, 0, 6, 7, 0, 0, 0, 0, 0, 3, 0, 1, 0, 0, 6, 0, 6, 0, 0, 0, 0, 0, 0, 7, 7, 0, 3, 0, 0, 0, 7, 7, 0, 7, 7, 0, 3, 0, 0, 0, 7, 7],
  [0, 3, 0, 3, 0, 0, 0, 3, 0, 0, 0, 0, 3, 0, 0, 0, 0, 3, 0, 0, 0, 0, 3],
  [0, 3, 0, 3, 0, 0, 0, 3, 0, 0, 0, 0, 3, 0, 0, 0, 0, 3, 0, 0, 0, 0, 3],
  [0, 0, 4, 0, 6, 0, 0, 9, 0, 0, 0, 0, 0, 15, 0, 17, 0, 0, 0, 0, 0, 0, 0, 0, 26, 0, 0, 0, 0, 31, 0, 33],
  [0, 3, 4, 0, 0, 7, 0, 0, 3, 0, 0, 3, 0, 0, 0, 0, 0, 0, 0, 0, 0, 0, 0, 0, 0, 0, 0, 0, 0, 0, 0, 3, 0, 0, 3, 0, 0, 0, 0, 0, 0, 0, 0, 0, 0, 0, 0, 0, 0, 0, 7, 0, 0, 7],
  [0, 3, 0, 3, 0, 0, 0, 3, 0, 0, 0, 0, 3, 0, 0, 0, 0, 3],
  [0, 0, 4, 0, 6, 0, 8, 0, 0, 0, 0, 0, 0, 0, 0, 4, 0, 0, 1, 1, 1, 0, 8, 0, 4, 0, 0, 8, 0, 4, 0, 0, 8, 8],
  [0, 0, 4, 5, 0, 0, 0, 9],
  [0, 0, 4, 0, 6, 7, 8, 0, 0, 0, 0, 0, 0, 0, 0, 0, 0, 0, 0, 0, 8, 0, 0, 8],
  [0, 0, 4, 5, 0, 0, 8, 0, 0, 11],
  [0, 0, 4, 5, 0, 7, 0, 0, 0, 7, 0, 0, 0, 7, 0, 0, 0, 0, 7],
  [0, 0, 4, 5, 6, 0, 8],
  [0, 3, 0, 3, 0, 0, 0, 3, 0, 0, 0, 0, 3, 0, 0, 0, 0, 3, 0, 0, 0, 0, 3, 0, 0, 0, 0, 3, 0, 3],
  [0, 0, 4, 5, 6, 7, 0, 0, 0, 0, 0, 0, 0, 0, 0, 0, 7, 0, 0, 7],
  [0, 0, 4, 5, 6, 0, 8, 0, 10, 0, 12, 0, 0, 0, 0, 0, 0, 0, 0, 0, 0, 0, 0, 0, 0, 0, 0, 0, 0, 0, 0, 0, 0, 0, 8, 0, 10, 0, 0, 0, 8, 0, 10],
  [0, 0, 4, 5, 6, 0, 0, 9, 10, 0, 12, 13, 0, 0, 0, 0, 0, 0, 0, 0, 0, 0, 0, 0, 0, 0, 10, 0, 12, 0, 0, 0, 10, 0, 12],
  [0, 0, 4, 5, 0, 4, 0, 5, 0, 0, 0, 4, 0, 5, 0, 0, 0, 4, 0, 5, 0, 0, 0, 4, 0, 5, 0, 0, 0, 4, 0, 5],
  [0, 0, 4, 5, 0, 4, 0, 5, 0, 0, 4, 0, 5, 0, 0, 4, 0, 0, 5],
  [0, 3, 4, 3, 0, 0, 3, 0, 0, 3],
  [2],
  [0, 3, 4, 0, 0, 0, 0, 0, 3, 0, 0, 0, 3, 0, 0, 0, 0, 0, 3, 0, 0, 0, 0, 0, 3, 0, 3, 0, 0, 3, 0, 0, 3],
  [0, 0, 4, 5, 6, 0, 0, 0, 0, 0, 0, 0, 0, 0, 0, 0, 0, 0, 5, 0, 1, 0, 4, 0, 4, 0, 0, 0, 0, 4, 0, 1, 0, 5, 0, 1, 0, 0, 0, 0, 5, 0, 0, 0, 5],
  [0, 3, 0, 0, 0, 0, 0, 3],
  [0, 3, 4, 5, 3, 0, 0, 3, 0, 0, 3, 0, 0, 0, 5, 0, 5, 0, 0, 0, 0, 5, 0, 0, 5],
  [0, 3, 4, 3, 0, 0, 0, 3],
  [0, 0, 0, 0, 0, 0, 8],
  [0],
  [0],
  [0, 0, 4, 5, 6, 0, 0, 9, 0, 0, 0, 0, 0, 0, 0, 0, 0, 5, 0, 5, 0, 0, 0, 0, 0, 0, 0, 0, 0, 0, 0, 0, 0, 5],
  [0],
  [0],
  [0, 0, 4, 0, 0, 0, 0, 0, 0, 4, 0, 0, 4],
  [0, 0, 4, 0, 6, 0, 0, 4, 0, 0, 0, 0, 4],
  [0, 3, 0, 3, 0, 0, 0, 3, 0, 0, 0, 0, 3, 0, 0, 0, 0, 3],
  [0, 0, 0, 0, 6],
  [0, 0, 4, 5, 6, 0, 0, 0, 0, 4, 0, 0, 0, 0, 0, 0, 0, 0, 0, 0, 0, 0, 0, 0, 0, 0, 5, 0, 0, 0, 0, 0, 5],
  [0, 3, 4, 0, 6, 7, 8, 0, 10, 11, 0, 0, 0, 0, 0, 3, 0, 0, 0, 0, 3, 0, 0, 0, 0, 3, 0, 6, 0, 0, 0, 0, 6, 0, 0, 0, 0, 0, 0, 0, 0, 6, 0, 0, 0, 6, 0, 0, 0, 0, 0, 0, 0, 11, 0, 0, 0, 0, 11, 0, 0, 0, 0, 0, 11, 0, 0, 0, 0, 11],
  [0, 0, 4, 5, 0, 0, 0, 0, 0, 0, 0, 0, 0, 0, 0, 4, 0, 0, 0, 0, 0, 0, 0, 4, 0, 0, 0, 0, 0, 4],
  [0, 3, 0, 3, 0, 0, 0, 0, 3, 0, 0, 0, 0, 3, 0, 0, 0, 0, 3, 0, 3],
  [0, 0, 4, 5, 6, 7, 8, 9, 0, 11, 0, 0, 5, 0, 1, 1, 0, 0, 0, 0, 0, 0, 0, 4, 4, 0, 0, 0, 0, 0, 0, 7, 0, 7, 0, 0, 0, 0, 7, 0, 7, 0, 0, 0, 0, 0, 0, 0, 0, 0, 0, 11, 0, 0, 0, 0, 0, 9],
  [0, 0, 4, 5, 6, 0, 0, 5, 0, 5, 0, 4, 0, 0, 5, 0, 0, 5, 0, 4, 0, 0, 5, 0, 0, 5, 0, 0, 4, 0, 0, 5, 0, 5, 0, 0, 4, 0, 0, 5, 0, 0, 5, 0, 4, 0, 0, 5, 0, 0, 5, 0, 0, 4, 0, 0, 5, 0, 5, 0, 0, 4, 0, 0, 5, 0, 5, 0, 0, 4, 0, 0, 0, 0, 4],
  [0, 3, 4, 3, 0, 0, 0, 3],
  [0, 0, 4, 5, 6, 0, 0, 0, 10, 0, 0, 0, 0, 0, 0, 0, 0, 0, 0, 4, 0, 1, 0, 5, 0, 5, 0, 0, 0, 0, 0, 4, 0, 0, 0, 0, 4],
  [0, 0, 0, 0, 6, 0, 0, 0, 0, 0, 0, 0, 6, 0, 6],
  [0, 0, 0, 5, 0, 0, 0, 0, 5, 0, 0, 0, 5, 0, 0, 0, 0, 5, 0, 0, 0, 5],
  [0, 3, 4],
  [0, 3, 0, 0, 6],
  [0, 0, 4, 5, 6, 0, 0, 0, 0, 0, 0, 4, 0, 4, 0, 0, 0, 0, 0, 0, 4, 0, 4],
  [0],
  [0, 3, 0, 3, 0, 0, 0, 3, 0, 0, 0, 0, 3, 0, 0, 0, 0, 3],
  [2],
  [0],
  [0],
  [0, 3],
  [0, 0, 0, 5, 0, 0, 0, 0, 5, 0, 0, 0, 5, 0, 0, 0, 5, 0, 5, 0, 0, 5, 0, 5],
  [0, 0, 0, 5, 6, 0, 0, 5, 0, 0, 5],
  [0, 0, 0, 5, 6, 0, 0, 5, 0, 0, 0, 0, 5, 0, 0, 0, 0, 0, 5, 0, 0, 0, 0, 0, 0, 5],
  [0, 3],
  [0, 0, 0, 5, 6, 5, 0, 0, 0, 5],
  [0, 0, 0, 5, 6, 0, 0, 0, 5, 0, 0, 0, 0, 0, 5, 0, 0, 0, 0, 0, 5, 0, 0, 0, 0, 5],
  [0, 3],
  [0, 0, 0, 5, 6, 0, 0, 5, 0, 0, 0, 0, 5],
  [0, 0, 0, 0, 6, 7, 6, 0, 0, 0, 0, 6, 0, 0, 0, 6, 0, 0, 0, 0, 6, 0, 0, 0, 0, 0, 6, 0, 0, 0, 0, 0, 6],
  [0, 3],
  [0, 0, 0, 5, 6, 5, 0, 0, 0, 0, 5],
  [0, 0, 0, 0, 6, 7, 6, 0, 0, 0, 6, 0, 0, 0, 0, 6, 0, 0, 0, 6, 0, 0, 0, 0, 0, 0, 0, 6, 0, 0, 0, 0, 6],
  [0],
  [],
  [],
  [],
  [],
  [],
  [],
  [],
  [],
  [],
  [],
  [],
  [],
  [],
  [],
  [],
  [],
  [],
  [],
  [],
  [],
  [0]]

noncomputable def cc : Cfg where
  P := Tryd.prog
  G := fun g => match g with
    | 0 => some gl0
    | _ => none
  pts := fun f => ptsTab.getD f []

def sgTab : FuncId → Option Sig
  | 2 => some ⟨[], []⟩
  | 3 => some ⟨[.agg [.i .u8, .i .u8], li, .leaf (.i .u8)], [lb]⟩
  | 4 => some ⟨[.agg [.i .u8, .i .u8]], [lb]⟩
  | 5 => some ⟨[.agg [.i .u8, .i .u8], .agg [.i .i64, .i .u8]], [lb]⟩
  | 6 => some ⟨[.agg [.i .i64, .i .i64], li], [lb]⟩
  | 7 => some ⟨[.agg [.i .u8, .i .u8], li, .agg [.i .i64, .i .i64, .i .u8]], [lb]⟩
  | 8 => some ⟨[], [lb]⟩
  | 9 => some ⟨[.agg [.i .i64, .i .i64, .i .u8], .leaf (.i .u8)], [lb]⟩
  | 10 => some ⟨[.agg [.i .i64, .i .i64, .i .u8], .leaf (.i .u8), .agg [.i .i64, .i .i64, .i .u8]], [lb]⟩
  | 11 => some ⟨[.agg [.i .u8, .i .i64], .agg [.i .i64, .i .i64, .i .u8]], [lb]⟩
  | 12 => some ⟨[.agg [.i .u8, .i .i64, .i .i64], .agg [.i .i64, .i .i64, .i .u8], .leaf (.i .u8)], [lb]⟩
  | 13 => some ⟨[.agg [.i .i64, .i .i64, .i .u8], .agg [.i .i64, .i .i64, .i .u8]], [lb]⟩
  | 14 => some ⟨[.agg [.i .i64, .i .i64, .i .u8], .agg [.i .i64, .i .i64, .i .u8], .agg [.i .i64, .i .i64, .i .u8]], [lb]⟩
  | 15 => some ⟨[.agg [.i .i8, .i .i8, .i .u8], lv], [lb]⟩
  | 16 => some ⟨[], [lb]⟩
  | 17 => some ⟨[.agg [.i .u8, .i .u8]], [.agg [.i .i64, .i .i64]]⟩
  | 18 => some ⟨[.agg [.i .i64, .i .i64], li, .leaf (.i .u8)], [li, li]⟩
  | 19 => some ⟨[.agg [.i .i64, .i .i64], li, .leaf (.i .u8)], [.agg [.i .i64, .i .u8], li]⟩
  | 20 => some ⟨[.agg [.i .i64, .i .i64], li, li], [li]⟩
  | 21 => some ⟨[], [lb]⟩
  | 22 => some ⟨[li, .leaf (.i .u8)], [.agg [.i .i64, .i .u8]]⟩
  | 23 => some ⟨[.agg [.i .i64, .i .i64]], [lv, li]⟩
  | 24 => some ⟨[.agg [.i .i64, .i .i64]], [lv]⟩
  | 25 => some ⟨[.agg [.i .i64, .i .i64], .agg [.i .i64, .i .u8]], [.agg [.i .i64, .i .i64, .i .i64, .i .i64], li]⟩
  | 26 => some ⟨[.agg [.i .i64, .i .i64], .agg [.i .i64, .i .u8]], [.agg [.i .u8, .i .i64], li]⟩
  | 27 => some ⟨[.agg [.i .i64, .i .i64], .agg [.i .i64, .i .u8]], [.agg [.i .i64, .i .i64, .i .i64, .i .i64]]⟩
  | 28 => some ⟨[.agg [.i .u8, .i .i64], .agg [.i .i64, .i .i64]], [li]⟩
  | 29 => some ⟨[.agg [.i .i64, .i .i64]], [lv, li]⟩
  | 30 => some ⟨[.agg [.i .i64, .i .i64]], [lv]⟩
  | 31 => some ⟨[.agg [.i .i64, .i .i64, .i .u8], li], [.agg [.i .u8, .i .i64]]⟩
  | 32 => some ⟨[.agg [.i .i64, .i .i64]], [li]⟩
  | 33 => some ⟨[.agg [.i .i64, .i .i64]], [li]⟩
  | 34 => some ⟨[.agg [.i .i64, .i .i64]], [li]⟩
  | 35 => some ⟨[.agg [.i .i64, .i .i64], li], [.agg [.i .i64, .i .i64, .i .u8], li]⟩
  | 36 => some ⟨[.agg [.i .i64, .i .i64], .agg [.i .i64, .i .i64, .i .u8]], [li, li]⟩
  | 37 => some ⟨[.agg [.i .i64, .i .i64]], [lv, li]⟩
  | 38 => some ⟨[.agg [.i .i64, .i .i64], .agg [.i .i64, .i .i64, .i .u8]], [li]⟩
  | 39 => some ⟨[li, li], [.agg [.i .i64, .i .i64]]⟩
  | 40 => some ⟨[.agg [.i .i64, .i .i64, .i .u8], .leaf (.i .u8)], [.agg [.i .u8, .i .i64], li]⟩
  | 41 => some ⟨[.agg [.i .i64, .i .i64, .i .u8]], [.agg [.i .i64, .i .i64, .i .i64, .i .i64, .i .i64, .i .i64], li]⟩
  | 42 => some ⟨[.agg [.i .i64, .i .i64, .i .u8]], [li]⟩
  | 43 => some ⟨[.agg [.i .i64, .i .i64, .i .u8]], [li]⟩
  | 44 => some ⟨[], [lb]⟩
  | 45 => some ⟨[.agg [.i .i64, .i .i64, .i .u8]], [.agg [.i .i64, .i .i64, .i .i64, .i .i64, .i .i64, .i .i64]]⟩
  | 46 => some ⟨[.agg [.i .u8, .i .i64]], [li]⟩
  | 47 => some ⟨[.agg [.i .i64, .i .i64, .i .u8], .leaf (.i .u8)], [.agg [.i .i64, .i .i64, .i .u8], li]⟩
  | 48 => some ⟨[.agg [.i .i64, .i .i64, .i .u8], .agg [.i .i64, .i .i64, .i .u8]], [.leaf (.i .u8), li]⟩
  | 49 => some ⟨[.agg [.i .i64, .i .i64, .i .u8], li], [.agg [.i .i64, .i .i64, .i .u8]]⟩
  | 50 => some ⟨[.agg [.i .u8, .i .i64], .agg [.i .i64, .i .i64, .i .u8]], [li, li]⟩
  | 51 => some ⟨[.agg [.i .u8, .i .i64], .agg [.i .i64, .i .i64, .i .u8]], [li]⟩
  | 52 => some ⟨[.agg [.i .u8, .i .i64, .i .i64], .agg [.i .i64, .i .i64, .i .u8]], [.agg [.i .i64, .i .i64, .i .u8], li]⟩
  | 53 => some ⟨[.agg [.i .u8, .i .i64, .i .i64]], [li]⟩
  | 54 => some ⟨[.agg [.i .u8, .i .i64, .i .i64], .agg [.i .i64, .i .i64, .i .u8]], [.agg [.i .i64, .i .i64, .i .u8]]⟩
  | 55 => some ⟨[.agg [.i .i64, .i .i64, .i .u8], .agg [.i .i64, .i .i64, .i .u8]], [.agg [.i .u8, .i .i64, .i .i64], li]⟩
  | 56 => some ⟨[.agg [.i .i64, .i .i64, .i .u8], .agg [.i .i64, .i .i64, .i .u8]], [.agg [.i .u8, .i .i64, .i .i64], li]⟩
  | 57 => some ⟨[.agg [.i .i64, .i .i64, .i .u8], .agg [.i .i64, .i .i64, .i .u8]], [li]⟩
  | 58 => some ⟨[.agg [.i .i64, .i .i64, .i .u8], .agg [.i .i64, .i .i64, .i .u8]], [li]⟩
  | 59 => some ⟨[.agg [.i .i8, .i .i8, .i .u8]], [.agg [.i .i64, .i .i64, .i .u8]]⟩
  | 60 => some ⟨[], [.agg [.i .u8, .i .i64, .i .i64]]⟩
  | 61 => some ⟨[.agg [.i .u8, .i .i64]], [.agg [.i .u8, .i .i64, .i .i64], li]⟩
  | 62 => some ⟨[.agg [.i .u8, .i .i64, .i .i64], .agg [.i .u8, .i .i64, .i .i64]], [.agg [.i .u8, .i .i64, .i .i64], li]⟩
  | 63 => some ⟨[.agg [.i .u8, .i .i64, .i .i64]], [lb]⟩
  | 64 => some ⟨[.agg [.i .u8, .i .i8, .i .i8]], [.agg [.i .u8, .i .i64, .i .i64]]⟩
  | 65 => some ⟨[.agg [.i .u8, .i .i8]], [.agg [.i .u8, .i .i64]]⟩
  | 66 => some ⟨[li, li, .leaf (.i .u8)], [.agg [.i .i64, .i .i64, .i .u8]]⟩
  | 67 => some ⟨[.agg [.i .i64, .i .i64]], [lv]⟩
  | 68 => some ⟨[lv], [lv]⟩
  | 69 => some ⟨[.agg [.i .i64, .i .i64], .agg [.i .i64, .i .u8]], [.agg [.i .i64, .i .i64, .i .u8], li]⟩
  | 70 => some ⟨[.leaf (.i .u8)], [li, li]⟩
  | 71 => some ⟨[lv], [lv]⟩
  | 72 => some ⟨[.agg [.i .i64, .i .i64], li], [lb]⟩
  | 73 => some ⟨[.agg [.i .i64, .i .i64], li], [.agg [.i .i64, .i .i64, .i .u8]]⟩
  | 74 => some ⟨[.agg [.i .u8, .i .i64]], [li]⟩
  | 75 => some ⟨[.leaf (.i .u8), li], [.agg [.i .u8, .i .i64]]⟩
  | 76 => some ⟨[.agg [.i .u8, .i .i64], .agg [.i .i64, .i .i64]], [.agg [.i .i64, .i .i64]]⟩
  | 77 => some ⟨[.agg [.i .i64, .i .i64, .i .i64, .i .i64, .i .i64, .i .i64]], [.agg [.i .i64, .i .i64, .i .u8]]⟩
  | 78 => some ⟨[.agg [.i .u8, .i .i64], .agg [.i .i64, .i .i64]], [li]⟩
  | 79 => some ⟨[.agg [.i .u8, .i .i64, .i .i64]], [li]⟩
  | 80 => some ⟨[.agg [.i .u8, .i .i64, .i .i64], .agg [.i .i64, .i .i64, .i .u8]], [.agg [.i .i64, .i .i64, .i .u8]]⟩
  | 81 => some ⟨[.agg [.i .u8, .i .i64, .i .i64], .agg [.i .i64, .i .i64]], [.agg [.i .i64, .i .i64]]⟩
  | 82 => some ⟨[.agg [.i .i64, .i .i64, .i .u8]], [.agg [.i .i64, .i .i64]]⟩
  | 83 => some ⟨[.agg [.i .u8, .i .i64, .i .i64], .agg [.i .i64, .i .i64]], [.agg [.i .i64, .i .i64], li]⟩
  | 84 => some ⟨[lv], [li]⟩
  | 85 => some ⟨[.agg [.i .i64, .i .i64, .i .i64, .i .i64], li, li], [li, li]⟩
  | 86 => some ⟨[.agg [.i .u8, .i .i64, .i .i64]], [.agg [.i .u8, .i .i64, .i .i64], li]⟩
  | 87 => some ⟨[.agg [.i .i64, .i .i64, .i .i64, .i .i64]], [.leaf (.i .u8)]⟩
  | 88 => some ⟨[.agg [.i .i64, .i .i64, .i .i64, .i .i64], .agg [.i .i64, .i .i64, .i .i64, .i .i64]], [.agg [.i .i64, .i .i64, .i .i64, .i .i64]]⟩
  | 89 => some ⟨[lv, lv], []⟩
  | 90 => some ⟨[.agg [.i .i64, .i .i64]], [li]⟩
  | 91 => some ⟨[], [.agg [.v, .v, .v, .v, .v, .v, .v, .v, .v, .v, .v, .v, .v, .v, .v]]⟩
  | 92 => some ⟨[li], [lb]⟩
  | 93 => some ⟨[li, li], [li]⟩
  | 94 => some ⟨[.agg [.i .i64, .i .i64]], [li]⟩
  | 95 => some ⟨[.leaf (.i .u8), .agg [.i .i64, .i .i64]], [li]⟩
  | 96 => some ⟨[li, .agg [.i .i64, .i .i64]], [.agg [.i .i64, .i .i64]]⟩
  | 97 => some ⟨[li, .agg [.i .u8, .i .i64]], [.agg [.i .u8, .i .i64]]⟩
  | 98 => some ⟨[.agg [.i .i64, .i .i64]], [li]⟩
  | 99 => some ⟨[li, .agg [.i .i64, .i .i64]], [.agg [.i .i64, .i .i64]]⟩
  | 100 => some ⟨[li, .agg [.i .u8, .i .i64]], [.agg [.i .u8, .i .i64]]⟩
  | 101 => some ⟨[.agg [.i .i64, .i .i64]], [li]⟩
  | 102 => some ⟨[li, .agg [.i .i64, .i .i64]], [.agg [.i .i64, .i .i64]]⟩
  | 103 => some ⟨[li, .agg [.i .u8, .i .i64], lv], [.agg [.i .u8, .i .i64]]⟩
  | 104 => some ⟨[.agg [.i .i64, .i .i64]], [li]⟩
  | 105 => some ⟨[li, .agg [.i .i64, .i .i64]], [.agg [.i .i64, .i .i64]]⟩
  | 106 => some ⟨[li, .agg [.i .u8, .i .i64], lv], [.agg [.i .u8, .i .i64]]⟩
  | 107 => some ⟨[li], [lb]⟩
  | 128 => some ⟨[], []⟩
  | _ => none
def an2 : List An := [.r [] none]
def an3 : List An := [.r [] none, .r [[.agg [.i .u8, .i .u8]]] none, .r [[.agg [.i .i64, .i .i64]]] none, .r [[.agg [.i .i64, .i .i64]]] none, .r [] none, .r [[], [], [], [], [], [li], [], [], [li]] none, .c (some ⟨[(12, li)], []⟩), .r [] none, .r [] none, .c (some ⟨[(12, li)], []⟩), .r [] none, .r [[.agg [.i .i64, .i .i64]]] none, .c (some ⟨[(12, li)], []⟩), .r [] none, .r [] none, .c none, .r [] none, .r [] none, .c none, .r [[], [], [], [.agg [.i .i64, .i .u8]]] (some ⟨[(6, lb)], []⟩), .r [[.agg [.i .i64, .i .i64]]] none, .r [[.agg [.i .i64, .i .i64]]] none, .r [[], [.agg [.i .i64, .i .i64]], [], [], [], [], [], [], [], [], [], [], [], [], [], [], [], [.agg [.i .i64, .i .u8]], [], [], [], [], [], [], [], [], [], [], [], [], [.agg [.i .i64, .i .u8]], [.agg [.i .i64, .i .u8]]] (some ⟨[(6, lb)], []⟩)]
def an4 : List An := [.r [] none, .r [[.agg [.i .u8, .i .u8]]] none, .r [[.agg [.i .i64, .i .i64]]] none, .r [[.agg [.i .i64, .i .i64]]] none, .r [[], [], [], [], [], [], [], [], [], [], [], [], [], [], [], [], [], [], [], [], [li], [], [], [li], [], [], [li], [], [], [li]] none, .c none, .r [] none, .r [] none, .r [] none, .b none, .l ⟨[(8, li)], []⟩, .r [] none, .c none, .b none, .r [[.agg [.i .i64, .i .i64]], [], [], [], [.agg [.i .i64, .i .u8]]] none, .r [[.agg [.i .i64, .i .i64]], [], [], [], [.agg [.i .i64, .i .u8]]] none, .r [[], [], [], [.agg [.i .i64, .i .u8]], [], [], [], [.agg [.i .i64, .i .u8]], [], [], [], [], [], [], [], [], [], [], [.agg [.i .i64, .i .i64, .i .i64, .i .i64]], [.agg [.i .i64, .i .i64]], [], [], [], [.agg [.i .i64, .i .u8]], [], [], [], [], [.agg [.i .u8, .i .i64]], [], [.agg [.i .i64, .i .i64]], [], [], [], [], [.agg [.i .u8, .i .i64]], [], [.agg [.i .i64, .i .i64]]] none, .c none, .r [] none, .r [[], [], [.agg [.i .i64, .i .i64]], [li], [], [li, li]] none, .r [[], [], [.agg [.i .i64, .i .i64]], [li], [], [li, li]] none, .r [] none, .r [[.agg [.i .i64, .i .i64]]] none, .r [] none, .r [] none, .b none, .l ⟨[(15, li), (16, li)], []⟩, .r [[], [], [li]] none, .c none, .b none, .r [] none, .b none, .l ⟨[(15, li), (17, li)], []⟩, .r [[], [], [li]] none, .c none, .b (some ⟨[(15, li)], []⟩), .r [[], [], [], [], [], [], [], [], [], [li], [], [], [], [], [], [], [li]] (some ⟨[(18, lb)], []⟩), .r [] none, .c none, .r [] none, .r [] none, .c (some ⟨[(19, li)], []⟩), .r [] none, .r [[], [], [], [], [], [], [], [], [.agg [.i .i64, .i .i64]], [], [], [], [], [], [], [], [], [], [], [.agg [.i .i64, .i .i64]], [li]] none, .c none, .r [] none, .r [] none, .r [] none, .r [] none, .r [] (some ⟨[(2, lb)], []⟩)]
def an5 : List An := [.r [] none, .r [[.agg [.i .u8, .i .u8]]] none, .r [[.agg [.i .i64, .i .i64]]] none, .r [] none, .r [] none, .b none, .l ⟨[(7, lb), (8, li)], []⟩, .r [] none, .c none, .b none, .r [[], [], [], [], [], [.agg [.i .i64, .i .u8]], [.agg [.i .i64, .i .u8]]] (some ⟨[(7, lb)], []⟩), .r [] none, .r [[.agg [.i .i64, .i .i64]], [.agg [.i .i64, .i .u8]]] none, .r [[.agg [.i .i64, .i .i64]], [.agg [.i .i64, .i .u8]]] none, .r [] none, .c none, .r [[], [], [], [], [], [], [], [.agg [.i .u8, .i .i64]], [], [], [], [], [.agg [.i .i64, .i .i64, .i .i64, .i .i64]]] (some ⟨[(4, lb)], []⟩), .r [[.agg [.i .i64, .i .i64]], [], [], [li], [], [.agg [.i .i64, .i .i64, .i .u8]]] none, .r [[], [], [], [], [], [], [], [.agg [.i .u8, .i .i64]], [.agg [.i .i64, .i .i64, .i .u8]], [], [.leaf (.i .u8)]] (some ⟨[(4, lb)], []⟩)]
def an6 : List An := [.r [] none, .r [[.agg [.i .i64, .i .i64]]] none, .r [[.agg [.i .i64, .i .i64]]] none, .c none, .r [] none, .r [] none, .c none, .r [[.agg [.i .i64, .i .i64]], [], [], [li], [], [], [li]] (some ⟨[(4, lb)], []⟩), .r [[.agg [.i .i64, .i .i64]]] none, .r [[.agg [.i .i64, .i .i64]]] none, .r [[.agg [.i .i64, .i .i64]]] none, .r [[.agg [.i .i64, .i .i64]]] none, .r [[.agg [.i .i64, .i .i64]]] none, .r [[.agg [.i .i64, .i .i64]]] none, .r [[.agg [.i .i64, .i .i64]]] none, .r [[.agg [.i .i64, .i .i64]]] none, .r [[.agg [.i .i64, .i .i64]]] none, .r [[.agg [.i .i64, .i .i64]]] none, .r [] none, .b none, .l ⟨[(25, li)], []⟩, .r [] none, .c none, .b none, .r [[], [], [], [li]] none, .c none, .r [] none, .r [] none, .r [[.agg [.i .i64, .i .i64]]] (some ⟨[(4, lb)], []⟩)]
def an7 : List An := [.r [] none, .r [[.agg [.i .u8, .i .u8]]] none, .r [[.agg [.i .i64, .i .i64]]] none, .r [[.agg [.i .i64, .i .i64]]] none, .r [] none, .c none, .r [] none, .r [] none, .b none, .l ⟨[(11, li)], []⟩, .r [] none, .c none, .b none, .r [[.agg [.i .i64, .i .i64]]] none, .r [[.agg [.i .i64, .i .i64]], [], [], [], [.agg [.i .i64, .i .i64, .i .u8]]] none, .r [[], [], [], [.agg [.i .i64, .i .i64, .i .u8]], [], [], [], [.agg [.i .i64, .i .i64, .i .u8]], [], [], [], [], [], [], [.agg [.i .i64, .i .i64, .i .u8]], [], [], [], [.agg [.i .i64, .i .i64, .i .u8]]] none, .c none, .r [] none, .r [] none, .r [[.agg [.i .i64, .i .i64]]] none, .r [] none, .c (some ⟨[], []⟩), .r [[], [], [], [.agg [.i .i64, .i .i64, .i .u8]]] none, .c none, .r [] none, .r [[.agg [.i .i64, .i .i64]], [.agg [.i .i64, .i .i64, .i .u8]]] none, .r [[.agg [.i .i64, .i .i64]], [.agg [.i .i64, .i .i64, .i .u8]]] none, .r [] none, .c none, .r [] (some ⟨[(6, lb)], []⟩), .r [] (some ⟨[(6, lb)], []⟩)]
def an8 : List An := [.r [] none, .r [] none, .r [] none, .b none, .l ⟨[(1, li), (2, li)], []⟩, .r [] none, .c none, .b none, .r [] none, .r [[.agg [.i .u8, .i .u8]], [], [], [], [.agg [.i .u8, .i .u8]], [], [], [], [], [], [], [], [], [], [], [], [], [], [], [], [], [.agg [.i .u8, .i .u8]], [], [], [], [], [], [], [], [], [], [.agg [.i .u8, .i .u8]]] none, .c none, .r [] none, .r [] none, .r [] none, .r [] none, .r [] none, .r [] (some ⟨[(0, lb)], []⟩)]
def an9 : List An := [.r [] none, .r [[.agg [.i .i64, .i .i64, .i .u8]]] none, .r [[.agg [.i .i64, .i .i64, .i .u8]]] none, .r [[.agg [.i .i64, .i .i64, .i .u8]]] none, .r [[.agg [.i .i64, .i .i64, .i .u8]], [], [], [], [], [], [], [], [], [.agg [.i .i64, .i .i64, .i .u8]]] none, .c none, .r [] none, .r [] none, .c none, .r [[], [], [], [], [], [], [], [.agg [.i .u8, .i .i64]], [], [], [], [], [.agg [.i .i64, .i .i64, .i .i64, .i .i64, .i .i64, .i .i64]]] (some ⟨[(4, lb)], []⟩), .r [[], [], [], [.agg [.i .i64, .i .i64, .i .i64, .i .i64, .i .i64, .i .i64]], [.agg [.i .i64, .i .i64, .i .u8]]] none, .c none, .r [] none, .r [] none, .c none, .r [[], [], [], [.agg [.i .u8, .i .i64]]] (some ⟨[(4, lb)], []⟩), .r [[.agg [.i .i64, .i .i64, .i .u8]]] none, .r [[.agg [.i .u8, .i .i64]]] none, .c none, .r [[], [], [], [.agg [.i .u8, .i .i64]]] (some ⟨[(4, lb)], []⟩), .r [[], [], [], [.agg [.i .u8, .i .i64]], [.agg [.i .u8, .i .i64]]] (some ⟨[(4, lb)], []⟩)]
def an10 : List An := [.r [] none, .r [[.agg [.i .i64, .i .i64, .i .u8]]] none, .r [[.agg [.i .i64, .i .i64, .i .u8]], [.agg [.i .i64, .i .i64, .i .u8]]] none, .r [[.agg [.i .i64, .i .i64, .i .u8]]] none, .c none, .r [[], [], [], [.agg [.i .i64, .i .i64, .i .u8]], [], [], [], [], [.agg [.i .i64, .i .i64, .i .u8]]] (some ⟨[(6, lb)], []⟩), .r [] none, .r [] none, .b none, .l ⟨[(11, li), (12, li)], []⟩, .r [] none, .c none, .b none, .r [[.agg [.i .i64, .i .i64, .i .u8]], [], [], [], [.agg [.i .i64, .i .i64, .i .u8]], [], [], [.agg [.i .i64, .i .i64, .i .u8]]] none, .c (some ⟨[(11, li)], []⟩), .r [] none, .r [] none, .r [[], [], [], [], [], [], [], [], [.agg [.i .i64, .i .i64, .i .u8]]] none, .c none, .r [] none, .r [[.agg [.i .i64, .i .i64, .i .u8]]] none, .r [[.agg [.i .i64, .i .i64, .i .u8]]] none, .c none, .r [[], [], [], [.agg [.i .i64, .i .i64, .i .u8]]] (some ⟨[(6, lb)], []⟩), .r [[.agg [.i .i64, .i .i64, .i .u8]]] none, .r [[.agg [.i .i64, .i .i64, .i .u8]], [.agg [.i .i64, .i .i64, .i .u8]]] none, .r [[], [], [], [.agg [.i .i64, .i .i64, .i .u8]], [.agg [.i .i64, .i .i64, .i .u8]], [], [], [], [], [], [], [], [.agg [.i .i64, .i .i64, .i .u8]], [.agg [.i .i64, .i .i64, .i .u8]]] none, .c none, .r [] none, .r [[.agg [.i .i64, .i .i64, .i .u8]]] none, .r [[.agg [.i .u8, .i .i64]]] none, .c none, .r [] none, .r [[.agg [.i .u8, .i .i64]], [.agg [.i .i64, .i .i64, .i .u8]]] none, .r [[.agg [.i .u8, .i .i64]], [.agg [.i .i64, .i .i64, .i .u8]]] none, .r [] (some ⟨[(6, lb)], []⟩)]
def an11 : List An := [.r [] none, .r [[.agg [.i .u8, .i .i64]], [.agg [.i .i64, .i .i64, .i .u8]]] none, .r [[.agg [.i .u8, .i .i64]], [], [], [], [.agg [.i .i64, .i .i64, .i .u8]]] none, .c none, .r [] (some ⟨[(4, lb)], []⟩), .r [[.agg [.i .i64, .i .i64, .i .u8]]] none, .r [] none, .r [] none, .b none, .l ⟨[(8, li), (9, li), (10, li)], []⟩, .r [] none, .c none, .b none, .r [[.agg [.i .u8, .i .i64]], [], [], [.agg [.i .i64, .i .i64]]] none, .c (some ⟨[(8, li)], []⟩), .r [] none, .r [[.agg [.i .u8, .i .i64]], [], [], [.agg [.i .i64, .i .i64]]] none, .c (some ⟨[(9, li)], []⟩), .r [] none, .r [] none, .r [[], [], [], [], [.agg [.i .u8, .i .i64]], [.agg [.i .i64, .i .i64, .i .u8]]] (some ⟨[(4, lb)], []⟩)]
def an12 : List An := [.r [] none, .r [[.agg [.i .u8, .i .i64, .i .i64]], [.agg [.i .i64, .i .i64, .i .u8]]] none, .r [[.agg [.i .u8, .i .i64, .i .i64]], [], [], [], [.agg [.i .i64, .i .i64, .i .u8]]] none, .c none, .r [[], [], [], [.agg [.i .i64, .i .i64, .i .u8]]] (some ⟨[(6, lb)], []⟩), .r [[.agg [.i .u8, .i .i64, .i .i64]], [.agg [.i .i64, .i .i64, .i .u8]]] none, .r [[.agg [.i .i64, .i .i64, .i .u8]]] none, .c none, .r [[], [], [], [.agg [.i .i64, .i .i64, .i .u8]]] (some ⟨[(6, lb)], []⟩), .r [[], [], [], [.agg [.i .i64, .i .i64, .i .u8]], [.agg [.i .i64, .i .i64, .i .u8]]] none, .c none, .r [] none, .r [[.agg [.i .i64, .i .i64, .i .u8]]] none, .r [[.agg [.i .u8, .i .i64, .i .i64]], [.agg [.i .i64, .i .i64, .i .u8]]] none, .r [] none, .c none, .r [[.agg [.i .i64, .i .i64, .i .u8]], [], [], [], [.agg [.i .u8, .i .i64, .i .i64]], [.agg [.i .i64, .i .i64, .i .u8]]] (some ⟨[(6, lb)], []⟩), .r [[.agg [.i .i64, .i .i64, .i .u8]], [.agg [.i .i64, .i .i64, .i .u8]]] none, .r [] (some ⟨[(6, lb)], []⟩)]
def an13 : List An := [.r [] none, .r [[.agg [.i .i64, .i .i64, .i .u8]], [.agg [.i .i64, .i .i64, .i .u8]]] none, .r [[.agg [.i .i64, .i .i64, .i .u8]], [], [], [], [.agg [.i .i64, .i .i64, .i .u8]]] none, .c none, .r [[], [], [], [.agg [.i .u8, .i .i64, .i .i64]]] (some ⟨[(4, lb)], []⟩), .r [[.agg [.i .i64, .i .i64, .i .u8]], [.agg [.i .i64, .i .i64, .i .u8]]] none, .r [[.agg [.i .u8, .i .i64, .i .i64]], [.agg [.i .i64, .i .i64, .i .u8]]] none, .r [[], [], [], [], [], [], [], [.agg [.i .u8, .i .i64, .i .i64]], [.agg [.i .u8, .i .i64, .i .i64]], [], [], [], [], [], [], [], [.agg [.i .i64, .i .i64, .i .u8]], [.agg [.i .i64, .i .i64, .i .u8]]] (some ⟨[(4, lb)], []⟩)]
def an14 : List An := [.r [] none, .r [[.agg [.i .i64, .i .i64, .i .u8]], [.agg [.i .i64, .i .i64, .i .u8]], [], [.agg [.i .i64, .i .i64, .i .u8]], [.agg [.i .i64, .i .i64, .i .u8]]] none, .r [[.agg [.i .i64, .i .i64, .i .u8]], [.agg [.i .i64, .i .i64, .i .u8]], [], [], [], [], [.agg [.i .i64, .i .i64, .i .u8]], [.agg [.i .i64, .i .i64, .i .u8]], [], [], [], [], [], [], [.agg [.i .i64, .i .i64, .i .u8]], [.agg [.i .i64, .i .i64, .i .u8]], [], [], [], [], [], [], [.agg [.i .i64, .i .i64, .i .u8]], [.agg [.i .i64, .i .i64, .i .u8]]] none, .c none, .r [] none, .r [[.agg [.i .i64, .i .i64, .i .u8]], [.agg [.i .i64, .i .i64, .i .u8]], [], [], [], [.agg [.i .i64, .i .i64, .i .u8]], [.agg [.i .i64, .i .i64, .i .u8]], [], [], [], [], [.agg [.i .i64, .i .i64, .i .u8]], [.agg [.i .i64, .i .i64, .i .u8]]] (some ⟨[(6, lb)], []⟩)]
def an15 : List An := [.r [] none, .r [] none, .c none, .r [] none, .r [[.agg [.i .i8, .i .i8, .i .u8]]] none, .r [] none, .r [] none, .b none, .l ⟨[(7, li)], [(6, [.i .u8, .i .i64, .i .i64]), (5, [.i .i64, .i .i64, .i .u8])]⟩, .r [] none, .c none, .b none, .r [[.agg [.i .i64, .i .i64, .i .u8]], [], [], [], [.leaf (.i .u8)]] none, .r [[.agg [.i .i64, .i .i64, .i .u8]], [], [], [], [.leaf (.i .u8)]] none, .r [[.agg [.i .u8, .i .i64]]] none, .r [] none, .c none, .r [] none, .r [[.agg [.i .u8, .i .i64, .i .i64]], [.agg [.i .u8, .i .i64, .i .i64]]] none, .r [] none, .c none, .r [] none, .r [[.agg [.i .i64, .i .i64, .i .u8]]] none, .r [] none, .r [[.agg [.i .i8, .i .i8, .i .u8]], [], [.agg [.i .i64, .i .i64, .i .u8]]] none, .r [[], [], [], [.agg [.i .u8, .i .i64, .i .i64]], [.agg [.i .u8, .i .i64, .i .i64]], [], [], [], [.agg [.i .u8, .i .i64, .i .i64]]] (some ⟨[(4, lb)], []⟩)]
def an16 : List An := [.r [] none, .r [] none, .r [] none, .b none, .l ⟨[(1, li), (2, li)], []⟩, .r [] none, .c none, .b none, .r [] none, .r [] none, .r [] none, .r [[.agg [.i .i8, .i .i8, .i .u8]], [], [], [], [], [], [], [], [.agg [.i .i8, .i .i8, .i .u8]], [], [], [], [], [.agg [.i .i8, .i .i8, .i .u8]], [], [], [], [], [], [.agg [.i .u8, .i .i64]], [.agg [.i .i8, .i .i8, .i .u8]], [], [], [], [], [], [.agg [.i .u8, .i .i64, .i .i64]], [.agg [.i .i8, .i .i8, .i .u8]], [], [], [], [], [], [], [], [.agg [.i .i8, .i .i8, .i .u8]], [], [.agg [.i .i8, .i .i8, .i .u8]], [], [], [], [], [], [.agg [.i .i8, .i .i8, .i .u8]], [], [.agg [.i .i8, .i .i8, .i .u8]], [], [.agg [.i .i8, .i .i8, .i .u8]], [], [], [], [], [], [.agg [.i .i8, .i .i8, .i .u8]]] none, .c none, .r [] none, .r [] none, .r [] none, .r [] (some ⟨[(0, lb)], []⟩)]
def an17 : List An := [.r [] none, .r [[], [.leaf (.i .u8)], [], [], [], [], [.leaf (.i .u8)]] none]
def an18 : List An := [.r [] none, .r [[.agg [.i .i64, .i .i64]]] none, .r [] none, .c none, .r [] none, .r [[.agg [.i .i64, .i .i64, .i .u8]]] none, .r [] none, .c none, .r [] none, .r [[.agg [.i .i64, .i .i64]], [.agg [.i .i64, .i .i64, .i .u8]]] none]
def an19 : List An := [.r [] none, .r [[.agg [.i .i64, .i .i64]]] none, .r [] none, .c none, .r [] none, .r [] none]
def an20 : List An := [.r [] none, .r [[], [], [], [li], [], [], [], [li]] none, .r [[.agg [.i .i64, .i .i64]], [.agg [.i .i64, .i .i64, .i .u8]]] none]
def an21 : List An := [.r [] none, .r [] none, .r [] none, .r [] none, .r [[], [], [], [], [.agg [.i .i64, .i .i64, .i .u8]], [], [], [], [], [], [], [], [], [.agg [.i .i64, .i .u8]]] none, .c none, .r [] none, .r [] none, .b none, .l ⟨[(7, .leaf (.i .u8))], []⟩, .r [] none, .c none, .b none, .r [] none, .r [[], [], [], [], [li]] none, .c none, .r [] none, .r [] none, .r [] none, .r [] none, .r [[], [], [], [], [], [], [.agg [.i .i64, .i .u8]], [], [], [], [], [], [], [.agg [.i .i64, .i .u8]], [], [], [], [], [], [], [.agg [.i .i64, .i .u8]], [], [], [], [], [], [], [.agg [.i .i64, .i .u8]], [], [], [], [], [], [], [], [], [], [], [], [.agg [.i .i64, .i .i64]], [], [], [], [], [], [], [.agg [.i .i64, .i .i64]], [], [], [], [], [], [], [.agg [.i .i64, .i .i64]], [], [], [], [], [], [], [.agg [.i .i64, .i .i64]], [], [], [], [], [], [], [.agg [.i .i64, .i .i64]]] none, .c none, .r [] none, .r [] none, .r [] none, .r [] none, .r [] none, .r [[.agg [.i .u8, .i .i64]], [], [], [], [.agg [.i .i64, .i .i64, .i .i64, .i .i64]], [], [], [], [], [], [], [.agg [.i .u8, .i .i64]], [], [], [], [], [.agg [.i .i64, .i .i64, .i .i64, .i .i64]]] none, .c none, .r [] none, .r [] none, .r [] none, .r [] none, .r [] (some ⟨[(0, lb)], []⟩)]
def an22 : List An := [.r [] none, .r [] none]
def an23 : List An := [.r [] none, .r [[.agg [.i .i64, .i .i64]]] none, .r [] none, .c none, .r [] none, .r [] none, .r [[.agg [.i .i64, .i .i64]]] none, .b none, .f 368 [], .r [[lv]] none]
def an24 : List An := [.r [] none, .r [] none, .r [] none, .b none, .l ⟨[(3, lv), (4, li)], []⟩, .r [[], [], [li], [], [], [li]] none, .c none, .b none, .r [] none, .b none, .l ⟨[(3, lv), (5, li)], []⟩, .r [] none, .c none, .b none, .r [[.agg [.i .i64, .i .i64]]] none, .c (some ⟨[(3, lv)], []⟩), .r [] none, .r [] none, .r [] none, .r [] none]
def an25 : List An := [.r [] none, .r [[.agg [.i .i64, .i .i64]], [.agg [.i .i64, .i .u8]]] none, .r [] none, .c none, .r [] none, .r [[.agg [.i .i64, .i .i64, .i .u8]]] none, .r [[], [.leaf (.i .u8)], [], [], [], [.agg [.i .i64, .i .i64]], [], [.leaf (.i .u8)], [], [], [], [.agg [.i .i64, .i .i64]]] none, .r [[], [li], [], [li], [], [], [], [li], [], [li], [], [], [], [li], [], [li]] none, .c (some ⟨[], [(10, [.i .i64, .i .i64]), (11, [.i .i64, .i .i64])]⟩), .r [[.agg [.i .i64, .i .i64]], [.agg [.i .i64, .i .i64]]] none, .r [[.agg [.i .i64, .i .i64]], [.agg [.i .i64, .i .i64]]] none]
def an26 : List An := [.r [] none, .r [[.agg [.i .i64, .i .i64]], [.agg [.i .i64, .i .u8]]] none, .r [] none, .c none, .r [] none, .r [[.agg [.i .i64, .i .i64, .i .u8]], [], [.leaf (.i .u8)]] none]
def an27 : List An := [.r [] none, .r [[], [li], [], [], [li], [], [], [li], [], [li], [], [], [], [li]] none, .r [[.agg [.i .i64, .i .i64, .i .u8]], [], [.agg [.i .i64, .i .i64, .i .u8]], [], [.leaf (.i .u8)]] none, .r [] none, .r [] none, .b none, .l ⟨[(8, lv), (9, li)], []⟩, .r [] none, .c none, .b none, .r [] none, .b none, .l ⟨[(8, lv), (10, li)], []⟩, .r [] none, .c none, .b none, .r [[], [], [.agg [.i .i64, .i .i64]], [], [], [.agg [.i .i64, .i .i64]]] none, .c (some ⟨[(8, lv)], []⟩), .r [[], [], [], [.agg [.i .i64, .i .i64]]] none, .r [] none, .r [] none, .r [[], [], [], [li], [], [], [], [li], [], [], [], [], [], [li], [], [], [], [li], [], [], [], [], [], [li], [], [], [], [li]] none, .c none, .r [[], [], [.agg [.i .i64, .i .i64]], [], [], [.agg [.i .i64, .i .i64]]] none, .r [[], [], [.agg [.i .i64, .i .i64]], [], [], [.agg [.i .i64, .i .i64]]] none]
def an28 : List An := [.r [] none, .r [[], [.leaf (.i .u8)]] none, .r [[], [], [li], [], [], [], [li], [], [], [], [li]] none]
def an29 : List An := [.r [] none, .r [[.agg [.i .i64, .i .i64]]] none, .r [] none, .c none, .r [] none, .r [] none, .r [] none, .b none, .l ⟨[(5, lv), (6, li)], []⟩, .r [[], [], [li]] none, .c none, .b none, .r [] none, .b none, .l ⟨[(5, lv), (7, li)], []⟩, .r [[], [], [li]] none, .c none, .b none, .r [] none, .c (some ⟨[(5, lv)], []⟩), .r [] none, .r [] none, .r [] none, .r [] none]
def an30 : List An := [.r [] none, .r [] none, .r [] none, .b none, .l ⟨[(3, lv), (4, li)], []⟩, .r [[], [], [li]] none, .c none, .b none, .r [] none, .b none, .l ⟨[(3, lv), (5, li)], []⟩, .r [[], [], [li]] none, .c none, .b none, .r [] none, .b none, .l ⟨[(3, lv), (6, .leaf (.i .u8))], []⟩, .r [] none, .c none, .b none, .r [] none, .r [] none, .r [] none, .r [] none, .r [] none]
def an31 : List An := [.r [] none, .r [[.agg [.i .i64, .i .i64, .i .u8]]] none, .r [[], [], [], [], [.agg [.i .i64, .i .i64]], [], [], [], [], [.agg [.i .i64, .i .i64]]] none, .r [] none, .r [] none, .b none, .l ⟨[(9, .leaf (.i .u8))], [(8, [.i .u8, .i .i64])]⟩, .r [] none, .c none, .b none, .r [] none, .r [[], [], [li], [], [], [], [li], [], [], [], [], [li], [], [], [], [li]] none, .c (some ⟨[], [(8, [.i .u8, .i .i64])]⟩), .r [[], [], [], [li], [], [], [], [li]] none, .r [] none, .r [[.agg [.i .u8, .i .i64]]] none]
def an32 : List An := [.r [] none, .r [[], [li], [], [], [], [li], [], [], [], [], [li], [], [], [], [], [li], [], [], [], [], [li], [], [li]] none, .c none, .r [] none, .r [] none]
def an33 : List An := [.r [] none, .r [[], [li], [], [], [], [li], [], [], [], [], [li], [], [], [], [], [li], [], [], [], [], [li], [], [li]] none, .c none, .r [] none, .r [] none]
def an34 : List An := [.r [] none, .r [[.agg [.i .i64, .i .i64]]] none, .c none, .r [] none, .r [[], [li], [], [], [li]] none]
def an35 : List An := [.r [] none, .r [[.agg [.i .i64, .i .i64]]] none, .r [] none, .c none, .r [] none, .r [[.agg [.i .i64, .i .i64]]] none, .c none, .r [] none, .r [[.agg [.i .i64, .i .i64]]] none]
def an36 : List An := [.r [] none, .r [[.agg [.i .i64, .i .i64]]] none, .r [] none, .c none, .r [] none, .r [[.agg [.i .i64, .i .i64, .i .u8]], [], [], [], [], [li], [], [], [], [], [li], [], [li], [], [], [], [], [li], [], [], [], [], [li], [], [li]] none, .c none, .r [] none, .r [[], [li], [], [li], [], [], [li], [], [], [], [.leaf (.i .u8)]] none]
def an37 : List An := [.r [] none, .r [[.agg [.i .i64, .i .i64]]] none, .r [] none, .c none, .r [] none, .r [[.agg [.i .i64, .i .i64]]] none, .r [[.agg [.i .i64, .i .i64]]] none, .b none, .l ⟨[(5, lv), (17, li)], []⟩, .r [] none, .c none, .b none, .r [] none, .r [[], [.agg [.i .i64, .i .i64]]] none, .r [] none, .r [] none]
def an38 : List An := [.r [] none, .r [[], [li], [], [], [], [li], [], [], [], [], [li], [], [li], [], [], [], [], [li], [], [li], [], [], [], [], [.leaf (.i .u8)]] none, .c none, .r [] none, .r [[], [li], [], [], [li], [], [], [li], [], [], [], [.leaf (.i .u8)]] none]
def an39 : List An := [.r [] none, .r [] none]
def an40 : List An := [.r [] none, .r [[.agg [.i .i64, .i .i64, .i .u8]]] none, .c none, .r [] none, .r [[], [.leaf (.i .u8)], [], [.agg [.i .i64, .i .i64, .i .u8, .i .i64, .i .i64, .i .i64, .i .u8, .i .i64, .i .i64, .i .u8, .i .i64, .i .i64, .i .u8, .i .i64, .i .i64, .i .i64, .i .i64]]] none, .r [[], [.leaf (.i .u8)], [], [li], [], [li]] none, .b none, .r [] none, .c (some ⟨[], [(7, [.i .u8, .i .i64])]⟩), .r [[], [li], [], [li]] none, .r [] none, .c (some ⟨[], [(7, [.i .u8, .i .i64])]⟩), .r [[], [li], [], [li]] none, .r [[], [.leaf (.i .u8)]] none, .c (some ⟨[], [(7, [.i .u8, .i .i64])]⟩), .r [[], [li], [], [li]] none, .r [[.agg [.i .u8, .i .i64]]] none, .c none, .r [] none, .r [[.agg [.i .u8, .i .i64]]] none]
def an41 : List An := [.r [] none, .r [[.agg [.i .i64, .i .i64, .i .u8]]] none, .c none, .r [] none, .r [[], [.leaf (.i .u8)], [], [.agg [.i .i64, .i .i64, .i .u8, .i .i64, .i .i64, .i .i64, .i .u8, .i .i64, .i .i64, .i .u8, .i .i64, .i .i64, .i .u8, .i .i64, .i .i64, .i .i64, .i .i64]]] none, .r [[], [], [.agg [.i .i64, .i .i64]], [], [.agg [.i .i64, .i .i64]]] none, .r [] none, .b none, .l ⟨[(21, li)], [(5, [.i .i64, .i .i64, .i .i64, .i .i64, .i .i64, .i .i64])]⟩, .r [] none, .c none, .b none, .r [] none, .r [[], [], [], [li], [], [li]] none, .r [[], [], [], [li], [], [li]] none, .r [] none, .r [[.agg [.i .i64, .i .i64, .i .i64, .i .i64, .i .i64, .i .i64]]] none]
def an42 : List An := [.r [] none, .r [[], [li], [], [], [], [li], [], [], [], [], [li], [], [], [], [], [li], [], [], [], [], [.leaf (.i .u8)]] none, .c none, .r [] none, .r [] none]
def an43 : List An := [.r [] none, .r [[], [li], [], [], [], [li], [], [], [], [], [li], [], [], [], [], [li], [], [], [], [], [.leaf (.i .u8)]] none, .c none, .r [] none, .r [] none]
def an44 : List An := [.r [] none, .r [] none, .b none, .l ⟨[(1, .leaf (.i .u8))], []⟩, .r [] none, .c none, .b none, .r [] none, .r [] none, .r [[.agg [.i .u8, .i .i64]], [], [], [], [], [], [], [.agg [.i .u8, .i .i64]], [], [], [], [], [], [], [.agg [.i .i64, .i .i64, .i .u8]], [], [], [], [], [], [], [.agg [.i .i64, .i .i64, .i .u8]]] none, .c none, .r [] none, .r [] none, .r [] none, .b none, .l ⟨[(6, .leaf (.i .u8))], []⟩, .r [] none, .c none, .b none, .r [] none, .r [[.agg [.i .u8, .i .i64]], [], [], [], [], [], [], [], [.agg [.i .u8, .i .i64]]] none, .c none, .r [] none, .r [] none, .r [] none, .r [] none, .r [] none, .r [] none, .r [[], [], [], [], [], [], [], [], [], [], [], [.agg [.i .i64, .i .i64, .i .i64, .i .i64, .i .i64, .i .i64]], [], [], [], [], [], [], [], [.agg [.i .i64, .i .i64, .i .i64, .i .i64, .i .i64, .i .i64]]] none, .c none, .r [] none, .r [] none, .b none, .l ⟨[(17, .leaf (.i .u8))], []⟩, .r [] none, .c none, .b none, .r [] none, .r [[], [], [], [], [li]] none, .c none, .r [] none, .r [] none, .r [] none, .r [] none, .r [] none, .r [[], [], [], [], [], [], [], [.agg [.i .i64, .i .i64, .i .u8]]] none, .c none, .r [] none, .r [] none, .r [] none, .r [] none, .b none, .l ⟨[(28, li)], []⟩, .r [] none, .c none, .b none, .r [[], [], [], [], [.agg [.i .i64, .i .i64, .i .u8]]] none, .r [[.agg [.i .u8, .i .i64, .i .i64]], [], [], [], [.agg [.i .u8, .i .i64, .i .i64]]] none, .c none, .r [] none, .r [] none, .r [] none, .r [] none]
def an45 : List An := [.r [] none, .r [[], [li], [], [], [li]] none, .r [] none, .r [[], [.leaf (.i .u8)], [], [], [.leaf (.i .u8)]] none, .r [] none, .c (some ⟨[(6, li), (7, li)], []⟩), .r [] none, .r [[], [], [], [], [], [], [], [.agg [.i .i64, .i .i64]], [], [], [.agg [.i .i64, .i .i64]]] none]
def an46 : List An := [.r [] none, .r [[], [.leaf (.i .u8)], [], [], [], [.leaf (.i .u8)], [], [], [], [], [li], [], [], [], [], [li]] none, .c none, .r [] none, .r [] none]
def an47 : List An := [.r [] none, .r [[.agg [.i .i64, .i .i64, .i .u8]]] none, .c none, .r [] none, .r [[], [.leaf (.i .u8)], [], [], [], [], [.agg [.i .i64, .i .i64, .i .u8]]] none, .r [[], [li], [], [li], [], [], [li], [], [li]] none, .r [[.agg [.i .i64, .i .i64, .i .u8]]] none, .c none, .r [] none, .r [[.agg [.i .i64, .i .i64, .i .u8]]] none]
def an48 : List An := [.r [] none, .r [[.agg [.i .i64, .i .i64, .i .u8]], [], [], [], [.agg [.i .i64, .i .i64, .i .u8]]] none, .c none, .r [] none, .r [] none, .b none, .l ⟨[(17, .leaf (.i .u8))], []⟩, .r [] none, .c none, .b none, .r [] none, .r [[.agg [.i .i64, .i .i64, .i .u8]]] none, .r [[], [], [], [.agg [.i .i64, .i .i64, .i .u8]], [.agg [.i .i64, .i .i64, .i .u8]]] none, .c none, .r [] none, .r [] none, .r [] none]
def an49 : List An := [.r [] none, .r [[.agg [.i .i64, .i .i64, .i .u8]]] none, .r [[.agg [.i .i64, .i .i64, .i .u8]]] none, .r [] none, .b none, .l ⟨[(7, li)], [(6, [.i .i64, .i .i64, .i .i64, .i .i64, .i .i64, .i .i64])]⟩, .r [] none, .c none, .b none, .r [[], [.agg [.i .u8, .i .i64]], [], [], [.agg [.i .i64, .i .i64]]] none, .r [] none, .r [[.agg [.i .i64, .i .i64, .i .i64, .i .i64, .i .i64, .i .i64]]] none]
def an50 : List An := [.r [] none, .r [[.agg [.i .i64, .i .i64, .i .u8]]] none, .r [[], [], [], [.agg [.i .u8, .i .i64]]] none, .c none, .r [] none, .r [[.agg [.i .i64, .i .i64, .i .i64, .i .i64, .i .i64, .i .i64]]] none, .b none, .l ⟨[(23, li)], []⟩, .r [] none, .c none, .b none, .r [[.agg [.i .i64, .i .i64]]] none, .r [[.agg [.i .u8, .i .i64]], [.agg [.i .i64, .i .i64]]] none, .c none, .r [] none, .r [] none, .r [] none]
def an51 : List An := [.r [] none, .r [[.agg [.i .i64, .i .i64, .i .u8]]] none, .r [[.agg [.i .u8, .i .i64]], [], [.agg [.i .i64, .i .i64]], [], [.agg [.i .u8, .i .i64]], [], [.agg [.i .i64, .i .i64]], [], [], [.agg [.i .u8, .i .i64]], [], [.agg [.i .i64, .i .i64]]] none, .c none, .r [] none, .r [] none]
def an52 : List An := [.r [] none, .r [[.agg [.i .u8, .i .i64, .i .i64]], [], [], [], [.agg [.i .i64, .i .i64, .i .u8]]] none, .c none, .r [] none, .r [[.agg [.i .u8, .i .i64, .i .i64]], [.agg [.i .i64, .i .i64, .i .u8]]] none, .r [[.agg [.i .i64, .i .i64, .i .u8]]] none, .c none, .r [] none, .r [[.agg [.i .i64, .i .i64, .i .u8]]] none]
def an53 : List An := [.r [] none, .r [[], [.leaf (.i .u8)], [], [], [], [li], [], [], [], [], [li], [], [], [], [], [li], [], [], [], [], [li], [], [], [], [], [li], [], [li]] none, .c none, .r [] none, .r [] none]
def an54 : List An := [.r [] none, .r [[.agg [.i .i64, .i .i64, .i .u8]]] none, .r [] none, .b none, .l ⟨[(6, li)], [(5, [.i .i64, .i .i64, .i .i64, .i .i64, .i .i64, .i .i64])]⟩, .r [] none, .c none, .b none, .r [[], [.agg [.i .u8, .i .i64, .i .i64]], [], [], [.agg [.i .i64, .i .i64]]] none, .r [] none, .r [[.agg [.i .i64, .i .i64, .i .i64, .i .i64, .i .i64, .i .i64]]] none]
def an55 : List An := [.r [] none, .r [[.agg [.i .i64, .i .i64, .i .u8]], [], [], [], [.agg [.i .i64, .i .i64, .i .u8]]] none, .c none, .r [] none, .r [[.agg [.i .i64, .i .i64, .i .u8]]] none, .r [] none, .b none, .l ⟨[(22, .leaf (.i .u8))], []⟩, .r [] none, .c none, .b none, .r [] none, .r [[], [], [.agg [.i .i64, .i .i64, .i .u8]]] none, .r [[], [], [li], [], [li], [], [], [], [li], [], [li]] none, .r [[.agg [.i .u8, .i .i64, .i .i64]], [], [], [], [.agg [.i .u8, .i .i64, .i .i64]], [.agg [.i .i64, .i .i64, .i .u8]], [], [.agg [.i .i64, .i .i64, .i .u8]]] none, .c none, .r [[.agg [.i .u8, .i .i64, .i .i64]]] none, .r [] none, .r [] none]
def an56 : List An := [.r [] none, .r [] none, .r [] none, .r [[.agg [.i .i64, .i .i64, .i .u8]], [], [.agg [.i .i64, .i .i64]]] none, .r [] none, .b none, .l ⟨[(6, li), (9, .leaf (.i .u8))], [(7, [.i .u8, .i .i64, .i .i64])]⟩, .r [] none, .c none, .b none, .r [[], [], [.agg [.i .i64, .i .i64, .i .u8]], [], [.agg [.i .i64, .i .i64]]] none, .r [[], [], [li], [], [li], [], [], [], [li], [], [li]] none, .r [[.agg [.i .u8, .i .i64, .i .i64]], [], [], [], [.agg [.i .u8, .i .i64, .i .i64]], [.agg [.i .i64, .i .i64, .i .u8]], [], [.agg [.i .i64, .i .i64, .i .u8]]] none, .c (some ⟨[(6, li)], [(7, [.i .u8, .i .i64, .i .i64])]⟩), .r [[.agg [.i .u8, .i .i64, .i .i64]]] none, .r [] none, .r [] none, .r [[.agg [.i .u8, .i .i64, .i .i64]]] none]
def an57 : List An := [.r [] none, .r [[], [li], [], [li], [], [], [], [li], [], [li], [], [], [], [li], [], [li], [], [], [], [li], [], [li], [], [], [], [.leaf (.i .u8)], [], [.leaf (.i .u8)]] none, .c none, .r [] none, .r [] none]
def an58 : List An := [.r [] none, .r [[], [li], [], [li], [], [], [li], [], [li], [], [], [.leaf (.i .u8)], [], [], [.leaf (.i .u8)]] none]
def an59 : List An := [.r [] none, .r [[], [.leaf (.i .i8)], [], [], [.leaf (.i .i8)], [], [], [.leaf (.i .u8)]] none]
def an60 : List An := [.r [] none, .r [] none]
def an61 : List An := [.r [] none, .r [[.agg [.i .u8, .i .i64]]] none, .c none, .r [] none, .r [[], [.leaf (.i .u8)]] none, .b none, .r [] none, .c none, .r [[], [li]] none, .r [] none, .c none, .r [[], [li]] none, .r [] none, .c none, .r [[], [li], [], [li]] none, .r [[], [li], [], [], [li]] none]
def an62 : List An := [.r [] none, .r [[.agg [.i .u8, .i .i64, .i .i64]], [], [], [], [.agg [.i .u8, .i .i64, .i .i64]]] none, .c none, .r [] none, .r [[], [.leaf (.i .u8)], [], [.agg [.i .i64, .i .i64, .i .i64, .i .i64]], [], [li], [], [li]] none, .r [[], [.leaf (.i .u8)], [], [.agg [.i .i64, .i .i64, .i .i64, .i .i64]], [], [.leaf (.i .u8)], [], [.agg [.i .i64, .i .i64, .i .i64, .i .i64]], [], [], [], [], [li], [], [], [], [li]] none]
def an63 : List An := [.r [] none, .r [[.agg [.i .u8, .i .i64, .i .i64]], [], [], [], [], [.leaf (.i .u8)]] (some ⟨[(2, lb)], []⟩)]
def an64 : List An := [.r [] none, .r [[], [.leaf (.i .u8)], [], [], [.leaf (.i .i8)], [], [], [.leaf (.i .i8)]] none, .r [[], [li], [], [li]] none, .c (some ⟨[], [(3, [.i .u8, .i .i64, .i .i64])]⟩), .r [[], [li]] none, .r [[.agg [.i .u8, .i .i64, .i .i64]]] none]
def an65 : List An := [.r [] none, .r [[], [.leaf (.i .u8)], [], [], [], [.leaf (.i .i8)]] none]
def an66 : List An := [.r [] none, .r [] none]
def an67 : List An := [.r [] none, .r [] none]
def an68 : List An := [.r [] none, .r [] none]
def an69 : List An := [.r [] none, .r [[.agg [.i .i64, .i .i64]]] none, .r [] none, .c none, .r [] none, .r [[.agg [.i .i64, .i .i64]], [], [li], [], [.leaf (.i .u8)]] none, .r [[], [], [], [.agg [.i .i64, .i .u8]], [.agg [.i .i64, .i .u8]]] none, .c none, .r [] none, .r [[.agg [.i .i64, .i .i64]], [], [li]] none]
def an70 : List An := [.r [] none, .r [] none, .c none, .r [] none, .r [] none, .c none, .r [] none, .r [] none, .c none, .r [] none, .r [] none]
def an71 : List An := [.r [] none, .r [] none]
def an72 : List An := [.r [] none, .r [[], [], [], [], [], [li], [], [], [li]] (some ⟨[(4, lb)], []⟩)]
def an73 : List An := [.r [] none, .r [[], [], [], [li], [], [], [], [], [li]] none]
def an74 : List An := [.r [] none, .r [[], [.leaf (.i .u8)], [], [], [], [.leaf (.i .u8)], [], [], [], [], [li], [], [], [], [], [li]] none, .c none, .r [] none, .r [] none]
def an75 : List An := [.r [] none, .r [] none]
def an76 : List An := [.r [] none, .r [[], [.leaf (.i .u8)]] none, .r [[.agg [.i .u8, .i .i64]], [.agg [.i .i64, .i .i64]]] none, .r [[], [li], [], [], [], [], [], [li]] none]
def an77 : List An := [.r [] none, .r [] none, .b none, .l ⟨[(3, li)], []⟩, .r [] none, .c none, .b (some ⟨[], []⟩), .r [[], [], [.agg [.i .i64, .i .i64]], [], [], [], [], [.agg [.i .i64, .i .i64]], [], [], [], [], [.agg [.i .i64, .i .i64]]] none, .r [[], [li], [], [], [], [], [li]] none, .c none, .r [] none, .b none, .l ⟨[(7, .leaf (.i .u8))], []⟩, .r [] none, .c none, .b none, .r [[], [li], [], [], [], [li]] none, .r [[.agg [.i .i64, .i .i64, .i .u8]]] none, .r [[], [.agg [.i .i64, .i .i64]], [.agg [.i .i64, .i .i64]], [], [], [], [.agg [.i .i64, .i .i64]], [.agg [.i .i64, .i .i64]], [], [], [], [], [.agg [.i .i64, .i .i64]], [.agg [.i .i64, .i .i64]], [], [], [], [.agg [.i .i64, .i .i64]], [.agg [.i .i64, .i .i64]]] none, .c none, .r [[.agg [.i .i64, .i .i64, .i .u8]]] none, .r [] none, .r [] none, .r [] none]
def an78 : List An := [.r [] none, .r [[.agg [.i .u8, .i .i64]], [], [], [], [.agg [.i .i64, .i .i64]]] none, .c none, .r [] none, .r [[], [], [.leaf (.i .u8)], [.agg [.v, .v, .v]], [], [.agg [.i .i64, .i .i64]], [li]] none, .b none, .r [[], [], [li]] none, .c none, .r [] none, .r [[], [], [li]] none, .c none, .r [] none, .r [] none]
def an79 : List An := [.r [] none, .r [[], [.leaf (.i .u8)], [], [], [], [], [li], [], [], [], [], [li], [], [], [], [], [li], [], [li]] none, .c none, .r [] none, .r [] none]
def an80 : List An := [.r [] none, .r [[.agg [.i .i64, .i .i64, .i .u8]], [], [], [.leaf (.i .u8)], [], [], [.agg [.i .i64, .i .i64]]] none, .r [[.agg [.i .u8, .i .i64, .i .i64]], [.agg [.i .i64, .i .i64]]] none, .r [] none, .r [[.agg [.i .u8, .i .i64, .i .i64]], [.agg [.i .i64, .i .i64]]] none, .r [[], [li], [], [li], [], [], [], [], [li], [], [li]] none, .r [[.agg [.i .i64, .i .i64, .i .u8, .i .i64, .i .i64, .i .i64, .i .u8, .i .i64, .i .i64, .i .u8, .i .i64, .i .i64, .i .u8, .i .i64, .i .i64, .i .i64, .i .i64, .i .i64, .i .i64, .i .u8, .i .i64, .i .i64, .i .i64, .i .u8, .i .i64, .i .i64, .i .u8, .i .i64, .i .i64, .i .u8, .i .i64, .i .i64, .i .i64, .i .i64, .i .i64, .i .i64, .i .u8, .i .i64, .i .i64, .i .i64, .i .u8, .i .i64, .i .i64, .i .u8, .i .i64, .i .i64, .i .u8, .i .i64, .i .i64, .i .i64, .i .i64, .i .i64, .i .i64, .i .u8, .i .i64, .i .i64, .i .i64, .i .u8, .i .i64, .i .i64, .i .u8, .i .i64, .i .i64, .i .u8, .i .i64, .i .i64, .i .i64, .i .i64]]] none, .b none, .l ⟨[(47, li)], [(7, [.i .i64, .i .i64, .i .u8])]⟩, .r [] none, .c none, .b none, .r [[], [.agg [.i .i64, .i .i64, .i .u8, .i .i64, .i .i64, .i .i64, .i .u8, .i .i64, .i .i64, .i .u8, .i .i64, .i .i64, .i .u8, .i .i64, .i .i64, .i .i64, .i .i64]]] none, .r [[], [.agg [.i .i64, .i .i64]], [.agg [.i .i64, .i .i64]]] none, .c (some ⟨[], [(7, [.i .i64, .i .i64, .i .u8])]⟩), .r [] none, .r [] none, .r [[.agg [.i .i64, .i .i64, .i .u8]]] none]
def an81 : List An := [.r [] none, .r [[], [li], [], [li]] none, .r [[], [.leaf (.i .u8)]] none, .c (some ⟨[(5, li), (6, li)], []⟩), .r [[], [li], [], [], [li]] none, .r [[], [.leaf (.i .u8)]] none, .c (some ⟨[(5, li), (6, li)], []⟩), .r [[], [li], [], [], [li]] none, .r [[], [.leaf (.i .u8)]] none, .c (some ⟨[(5, li), (6, li)], []⟩), .r [[], [li], [], [li]] none, .r [[], [.leaf (.i .u8)]] none, .c (some ⟨[(5, li), (6, li)], []⟩), .r [[], [li], [], [], [li]] none, .r [[], [.leaf (.i .u8)]] none, .c (some ⟨[(5, li), (6, li)], []⟩), .r [[], [li], [], [], [li]] none, .r [[], [.leaf (.i .u8)]] none, .c (some ⟨[(5, li), (6, li)], []⟩), .r [[], [li], [], [li]] none, .r [[], [.leaf (.i .u8)]] none, .c (some ⟨[(5, li), (6, li)], []⟩), .r [[], [li], [], [li]] none, .r [[], [], [li], [], [], [], [], [li]] none]
def an82 : List An := [.r [] none, .r [[], [li], [], [], [], [li]] none]
def an83 : List An := [.r [] none, .r [[.agg [.i .u8, .i .i64, .i .i64]], [], [], [], [.agg [.i .i64, .i .i64]]] none, .c none, .r [] none, .r [[], [.leaf (.i .u8)], [], [.agg [.i .i64, .i .i64, .i .i64, .i .i64]], [], [li], [], [li]] none, .r [[], [], [li], [], [], [], [], [li]] none, .r [[.agg [.i .i64, .i .i64]]] none, .c none, .r [] none, .r [[.agg [.i .i64, .i .i64]]] none]
def an84 : List An := [.r [] none, .r [] none, .b none, .l ⟨[(8, li)], []⟩, .r [] none, .c none, .b none, .r [[], [.agg [.i .i64, .i .i64]]] none, .r [[], [li], [], [li]] none, .r [] none, .c none, .r [] none, .r [] none, .r [] none]
def an85 : List An := [.r [] none, .r [[], [li], [], [], [], [li], [], [], [], [], [li], [], [], [], [li]] none]
def an86 : List An := [.r [] none, .r [[.agg [.i .u8, .i .i64, .i .i64]]] none, .c none, .r [] none, .r [[.agg [.i .u8, .i .i64, .i .i64]]] none]
def an87 : List An := [.r [] none, .r [[.agg [.i .i64, .i .i64, .i .i64, .i .i64, .i .i64, .i .i64, .i .i64, .i .i64, .i .i64, .i .i64, .i .i64, .i .i64, .i .i64, .i .i64, .i .i64, .i .i64, .i .i64, .i .i64, .i .i64, .i .i64, .i .i64, .i .i64, .i .i64, .i .i64, .i .i64, .i .i64, .i .i64, .i .i64, .i .i64, .i .i64, .i .i64, .i .i64]]] none, .b none, .l ⟨[(6, li)], []⟩, .r [] none, .c none, .b none, .r [[], [.agg [.i .i64, .i .i64, .i .i64, .i .i64]]] none, .r [[.agg [.i .i64, .i .i64, .i .i64, .i .i64]], [.agg [.i .i64, .i .i64, .i .i64, .i .i64]]] none, .c none, .r [] none, .r [] none, .r [] none]
def an88 : List An := [.r [] none, .r [[.agg [.i .i64, .i .i64, .i .i64, .i .i64]], [], [li], [], [li]] none, .r [[.agg [.i .i64, .i .i64, .i .i64, .i .i64]], [], [li], [], [li]] none, .r [] none]
def an89 : List An := [.r [[.agg [.i .i64, .i .i64]]] none, .b none, .l ⟨[(9, li)], []⟩, .r [] none, .c none, .b none, .r [] none, .r [] none, .b none, .l ⟨[(12, .leaf (.i .u8))], []⟩, .r [] none, .c none, .b none, .r [] none, .r [[.agg [.i .i64, .i .i64]]] none, .r [[], [], [], [], [], [], [], [], [], [], [], [], [lb]] none, .c none, .r [] none, .r [] none]
def an90 : List An := [.r [] none, .r [[], [li], [], [], [], [li], [], [], [], [], [li], [], [], [], [], [li]] none, .c none, .r [] none, .r [] none]
def an91 : List An := [.r [] none, .r [] none, .r [] none]
def an92 : List An := [.r [] none, .r [] (some ⟨[(2, lb)], []⟩)]
def an93 : List An := [.r [] none, .r [] none, .r [] none, .r [] none, .c none, .r [] none, .c none, .r [] none, .r [] none, .r [] none, .c none, .r [] none, .r [] none, .c none, .r [] none, .r [] none, .c none, .r [] none, .r [] none]
def an94 : List An := [.r [] none, .r [[.agg [.i .i64, .i .i64]]] none]
def an95 : List An := [.r [] none, .r [] none, .b none, .r [] none, .c none, .r [[], [li]] none, .r [] none, .c none, .r [[], [li]] none, .r [] none, .c none, .r [[], [li], [], [li]] none, .r [[], [li], [], [li]] none]
def an96 : List An := [.r [] none, .r [[], [], [], [li], [], [], [li]] none]
def an97 : List An := [.r [] none, .r [[], [], [], [li], [], [], [.agg [.i .u8, .i .i64]], [], [li], [], [], [], [], [], [li], [], [], [], [], [], [], [.leaf (.i .u8)], [.agg [.i .u8, .i .i64]]] none]
def an98 : List An := [.r [] none, .r [[.agg [.i .i64, .i .i64]]] none]
def an99 : List An := [.r [] none, .r [[], [li], [], [], [], [li]] none]
def an100 : List An := [.r [] none, .r [[.agg [.i .u8, .i .i64]], [], [], [], [li], [], [], [], [], [], [li], [], [], [], [], [], [li], [], [], [], [], [.leaf (.i .u8)], [.agg [.i .u8, .i .i64]]] none]
def an101 : List An := [.r [] none, .r [[.agg [.i .i64, .i .i64]]] none]
def an102 : List An := [.r [] none, .r [[], [], [], [li], [], [], [], [], [li]] none]
def an103 : List An := [.r [] none, .r [[], [.leaf (.i .u8)], [], [.leaf (.i .u8)], [], [], [li], [], [], [], [.leaf (.i .u8)], [], [.leaf (.i .u8)], [], [], [li], [], [], [], [], [], [li], [], [], [.agg [.i .u8, .i .i64]], [], [], [.leaf (.i .u8)], [.agg [.i .u8, .i .i64]]] none]
def an104 : List An := [.r [] none, .r [[.agg [.i .i64, .i .i64]]] none]
def an105 : List An := [.r [] none, .r [[], [li], [], [], [], [], [li]] none]
def an106 : List An := [.r [] none, .r [[], [.leaf (.i .u8)], [], [.leaf (.i .u8)], [], [li], [], [], [], [], [.leaf (.i .u8)], [], [.leaf (.i .u8)], [], [li], [], [], [], [.agg [.i .u8, .i .i64]], [], [], [], [li], [], [], [], [], [.leaf (.i .u8)], [.agg [.i .u8, .i .i64]]] none]
def an107 : List An := [.r [] none, .r [] none]
def an128 : List An := [.r [] none, .r [] none]
noncomputable def siteTab : Nat → Site
  | 368 => site (codeOf Tryd.prog 23) 0 21 [(5, lv)] [(14, .agg [.i .i64, .i .u8])] [.r [] none] [.b none, .r [[lv], [.agg [.i .i64, .i .u8]]] none]
  | _ => ⟨0, [], [], .skip, .skip⟩

noncomputable def xc (f : FuncId) : Ctxt := ⟨cc, ptsTab.getD f [], siteTab⟩
end Go.Am
/-
  WHAT EACH FUNCTION DOES, BY PROGRAM.
-/
set_option maxRecDepth 100000
namespace Go.Am
section
variable {R HT : Type} (A : Alg R HT)

/-- crimp/crimplaw05.SheetsCheck -/
noncomputable def f6 (ls : List Lf) (h : HT) (K : List Lf → HT → R) : R := A.unI ls (fun n6 l7 => A.unI l7 (fun n8 l9 => A.unI l9 (fun n10 l11 => A.un0 l11 ( A.call 32 [(.i n6), (.i n8)] h (fun l12 h13 => A.unI l12 (fun n14 l15 => A.un0 l15 ( A.cmp .eql n14 (.ofNat 1) (fun t16 => A.call 33 [(.i n6), (.i n8)] h13 (fun l17 h18 => A.unI l17 (fun n19 l20 => A.un0 l20 ( A.cmp .eql n19 (.ofNat 0) (fun t21 => A.eqs [((.b t21), (.b t16))] (fun t22 => A.cond (!t22) ( K [(.b false)] h18) ( A.cond t16 ( A.join (fun l23 h24 => A.unB l23 (fun t25 l26 => A.un0 l26 ( K [(.b t25)] h24))) (fun j27 => A.call 34 [(.i n6), (.i n8)] h18 (fun l28 h29 => A.unI l28 (fun n30 l31 => A.un0 l31 ( A.ari .mul .i64 (.ofNat 4) n6 (fun n32 => A.ari .mul .i64 n32 n8 (fun n33 => A.cmp .eql n30 n33 (fun t34 => A.cond t34 ( A.call 21 [] h29 (fun l35 h36 => A.unB l35 (fun t37 l38 => A.un0 l38 ( j27 [(.b t37)] h36)))) ( j27 [(.b false)] h29))))))))) ( A.call 35 [(.i n6), (.i n8), (.i n10)] h18 (fun l39 h40 => A.unI l39 (fun n41 l42 => A.unI l42 (fun n43 l44 => A.unI l44 (fun n45 l46 => A.unI l46 (fun n47 l48 => A.un0 l48 ( A.call 36 [(.i n6), (.i n8), (.i (.ofNat 0)), (.i (.ofNat 0)), (.i (.ofNat 0))] h40 (fun l49 h50 => A.unI l49 (fun n51 l52 => A.unI l52 (fun n53 l54 => A.un0 l54 ( A.call 18 [(.i n6), (.i n8), (.i n10), (.i (.ofNat 0))] h50 (fun l55 h56 => A.unI l55 (fun n57 l58 => A.unI l58 (fun n59 l60 => A.un0 l60 ( A.call 19 [(.i n6), (.i n8), (.i n10), (.i (.ofNat 9))] h56 (fun l61 h62 => A.unI l61 (fun n63 l64 => A.unI l64 (fun n65 l66 => A.unI l66 (fun n67 l68 => A.un0 l68 ( A.call 23 [(.i n6), (.i n8)] h62 (fun l69 h70 => A.unV l69 (fun x71 l72 => A.unI l72 (fun n73 l74 => A.un0 l74 ( A.call 26 [(.i n6), (.i n8), (.i (.ofNat 0)), (.i (.ofNat 0))] h70 (fun l75 h76 => A.unI l75 (fun n77 l78 => A.unI l78 (fun n79 l80 => A.unI l80 (fun n81 l82 => A.un0 l82 ( A.call 25 [(.i n6), (.i n8), (.i (.ofNat 0)), (.i (.ofNat 0))] h76 (fun l83 h84 => A.unI l83 (fun n85 l86 => A.unI l86 (fun n87 l88 => A.unI l88 (fun n89 l90 => A.unI l90 (fun n91 l92 => A.unI l92 (fun n93 l94 => A.un0 l94 ( A.call 29 [(.i n6), (.i n8)] h84 (fun l95 h96 => A.unV l95 (fun x97 l98 => A.unI l98 (fun n99 l100 => A.un0 l100 ( A.call 37 [(.i n6), (.i n8)] h96 (fun l101 h102 => A.unV l101 (fun x103 l104 => A.unI l104 (fun n105 l106 => A.un0 l106 ( A.call 33 [(.i n6), (.i n8)] h102 (fun l107 h108 => A.unI l107 (fun n109 l110 => A.un0 l110 ( A.new (.cells [(.int .i64 n109), (.int .i64 n47), (.int .i64 n53), (.int .i64 n59), (.int .i64 n67), (.int .i64 n73), (.int .i64 n81), (.int .i64 n93), (.int .i64 n99), (.int .i64 n105)] 1 true) h108 (fun m111 h112 => A.loop (fun s113 l114 h115 => A.unI l114 (fun n116 l117 => A.un0 l117 ( A.opt (lenS (.slice (some ⟨m111, 0, (some 11)⟩) 10 11)) (fun x118 => A.cmp .lss n116 x118 (fun t119 => A.cond t119 ( A.opt (idS 1 (.slice (some ⟨m111, 0, (some 11)⟩) 10 11) n116) (fun x120 => A.peek (ldP 1 x120) h115 (fun l121 => A.ucI .i64 l121 (fun n122 l123 => A.uc0 l123 ( A.cmp .neq n122 (.ofNat 1) (fun t124 => A.cond t124 ( K [(.b false)] h115) ( A.ari .add .i64 n116 (.ofNat 1) (fun n125 => s113 [(.i n125)] h115)))))))) ( A.join (fun l126 h127 => A.unB l126 (fun t128 l129 => A.un0 l129 ( K [(.b t128)] h127))) (fun j130 => A.call 34 [(.i n6), (.i n8)] h115 (fun l131 h132 => A.unI l131 (fun n133 l134 => A.un0 l134 ( A.cmp .eql n133 (.ofNat 0) (fun t135 => A.cond t135 ( A.call 21 [] h132 (fun l136 h137 => A.unB l136 (fun t138 l139 => A.un0 l139 ( j130 [(.b t138)] h137)))) ( j130 [(.b false)] h132)))))))))))) [(.i (.ofNat 0))] h112))))))))))))))))))))))))))))))))))))))))))))))))))))))))))))))

/-- (crimp/crimplaw05.W).Of -/
noncomputable def f17 (ls : List Lf) (h : HT) (K : List Lf → HT → R) : R := A.unI ls (fun n6 l7 => A.unI l7 (fun n8 l9 => A.un0 l9 ( A.ari .rem .u8 n6 (.ofNat 5) (fun n10 => A.conv .i64 n10 (fun n11 => A.ari .add .i64 (.ofNat 1) n11 (fun n12 => A.ari .rem .u8 n8 (.ofNat 5) (fun n13 => A.conv .i64 n13 (fun n14 => A.ari .add .i64 (.ofNat 1) n14 (fun n15 => K [(.i n12), (.i n15)] h)))))))))

/-- crimp/sheets.Neighbour -/
noncomputable def f18 (ls : List Lf) (h : HT) (K : List Lf → HT → R) : R := A.unI ls (fun n6 l7 => A.unI l7 (fun n8 l9 => A.unI l9 (fun n10 l11 => A.unI l11 (fun n12 l13 => A.un0 l13 ( A.call 35 [(.i n6), (.i n8), (.i n10)] h (fun l14 h15 => A.unI l14 (fun n16 l17 => A.unI l17 (fun n18 l19 => A.unI l19 (fun n20 l21 => A.unI l21 (fun n22 l23 => A.un0 l23 ( A.cmp .neq n22 (.ofNat 0) (fun t24 => A.cond t24 ( K [(.i (.ofNat 0)), (.i n22)] h15) ( A.call 47 [(.i n16), (.i n18), (.i n20), (.i n12)] h15 (fun l25 h26 => A.unI l25 (fun n27 l28 => A.unI l28 (fun n29 l30 => A.unI l30 (fun n31 l32 => A.unI l32 (fun n33 l34 => A.un0 l34 ( A.cmp .neq n33 (.ofNat 0) (fun t35 => A.cond t35 ( K [(.i (.ofNat 0)), (.i (.ofNat 1))] h26) ( A.call 36 [(.i n6), (.i n8), (.i n27), (.i n29), (.i n31)] h26 (fun l36 h37 => A.unI l36 (fun n38 l39 => A.unI l39 (fun n40 l41 => A.un0 l41 ( K [(.i n38), (.i n40)] h37)))))))))))))))))))))))))

/-- crimp/sheets.Name -/
noncomputable def f19 (ls : List Lf) (h : HT) (K : List Lf → HT → R) : R := A.unI ls (fun n6 l7 => A.unI l7 (fun n8 l9 => A.unI l9 (fun n10 l11 => A.unI l11 (fun n12 l13 => A.un0 l13 ( A.call 18 [(.i n6), (.i n8), (.i n10), (.i n12)] h (fun l14 h15 => A.unI l14 (fun n16 l17 => A.unI l17 (fun n18 l19 => A.un0 l19 ( A.cmp .neq n18 (.ofNat 0) (fun t20 => A.cond t20 ( K [(.i (.ofNat 0)), (.i (.ofNat 0)), (.i n18)] h15) ( A.cmp .lss n16 n10 (fun t21 => A.sel t21 n16 n10 (fun n22 => K [(.i n22), (.i n12), (.i (.ofNat 0))] h15)))))))))))))

/-- crimp/crimplaw05.lives -/
noncomputable def f21 (ls : List Lf) (h : HT) (K : List Lf → HT → R) : R := A.un0 ls ( A.call 39 [(.i (.ofNat 2)), (.i (.ofNat 1))] h (fun l6 h7 => A.unI l6 (fun n8 l9 => A.unI l9 (fun n10 l11 => A.un0 l11 ( A.call 35 [(.i n8), (.i n10), (.i (.ofNat 5))] h7 (fun l12 h13 => A.unI l12 (fun n14 l15 => A.unI l15 (fun n16 l17 => A.unI l17 (fun n18 l19 => A.unI l19 (fun n20 l21 => A.un0 l21 ( A.call 39 [(.i (.ofNat 2)), (.i (.ofNat 1))] h13 (fun l22 h23 => A.unI l22 (fun n24 l25 => A.unI l25 (fun n26 l27 => A.un0 l27 ( A.call 36 [(.i n24), (.i n26), (.i (.ofNat 1)), (.i (.ofNat 0)), (.i (.ofNat 0))] h23 (fun l28 h29 => A.unI l28 (fun n30 l31 => A.unI l31 (fun n32 l33 => A.un0 l33 ( A.call 39 [(.i (.ofNat 2)), (.i (.ofNat 1))] h29 (fun l34 h35 => A.unI l34 (fun n36 l37 => A.unI l37 (fun n38 l39 => A.un0 l39 ( A.call 19 [(.i n36), (.i n38), (.i (.ofNat 7)), (.i (.ofNat 0))] h35 (fun l40 h41 => A.unI l40 (fun n42 l43 => A.unI l43 (fun n44 l45 => A.unI l45 (fun n46 l47 => A.un0 l47 ( A.call 39 [(.i (.ofNat 2)), (.i (.ofNat 1))] h41 (fun l48 h49 => A.unI l48 (fun n50 l51 => A.unI l51 (fun n52 l53 => A.un0 l53 ( A.call 34 [(.i n50), (.i n52)] h49 (fun l54 h55 => A.unI l54 (fun n56 l57 => A.un0 l57 ( A.cmp .neq n56 (.ofNat 8) (fun t58 => A.cond t58 ( K [(.b false)] h55) ( A.eqs [((.i n14), (.i (.ofNat 1))), ((.i n16), (.i (.ofNat 0))), ((.i n18), (.i (.ofNat 1)))] (fun t59 => A.cond (!t59) ( K [(.b false)] h55) ( A.cmp .neq n30 (.ofNat 4) (fun t60 => A.cond t60 ( K [(.b false)] h55) ( A.call 22 [(.i (.ofNat 1)), (.i (.ofNat 0))] h55 (fun l61 h62 => A.unI l61 (fun n63 l64 => A.unI l64 (fun n65 l66 => A.un0 l66 ( A.eqs [((.i n42), (.i n63)), ((.i n44), (.i n65))] (fun t67 => A.cond (!t67) ( K [(.b false)] h62) ( A.loop (fun s68 l69 h70 => A.unI l69 (fun n71 l72 => A.un0 l72 ( A.cmp .lss n71 (.ofNat 3) (fun t73 => A.cond t73 ( A.call 39 [(.i (.ofNat 2)), (.i (.ofNat 1))] h70 (fun l74 h75 => A.unI l74 (fun n76 l77 => A.unI l77 (fun n78 l79 => A.un0 l79 ( A.call 18 [(.i n76), (.i n78), (.i (.ofNat 1)), (.i n71)] h75 (fun l80 h81 => A.unI l80 (fun n82 l83 => A.unI l83 (fun n84 l85 => A.un0 l85 ( A.new (.cells [(.int .i64 (.ofNat 7)), (.int .i64 (.ofNat 0)), (.int .i64 (.ofNat 2))] 1 true) h81 (fun m86 h87 => A.opt (idS 1 (.slice (some ⟨m86, 0, (some 11)⟩) 3 4) n71) (fun x88 => A.peek (ldP 1 x88) h87 (fun l89 => A.ucI .i64 l89 (fun n90 l91 => A.uc0 l91 ( A.cmp .neq n82 n90 (fun t92 => A.cond t92 ( K [(.b false)] h87) ( A.cmp .neq n84 (.ofNat 0) (fun t93 => A.cond t93 ( K [(.b false)] h87) ( A.ari .add .u8 n71 (.ofNat 1) (fun n94 => s68 [(.i n94)] h87))))))))))))))))))) ( A.call 39 [(.i (.ofNat 1)), (.i (.ofNat 1))] h70 (fun l95 h96 => A.unI l95 (fun n97 l98 => A.unI l98 (fun n99 l100 => A.un0 l100 ( A.call 23 [(.i n97), (.i n99)] h96 (fun l101 h102 => A.unV l101 (fun x103 l104 => A.unI l104 (fun n105 l106 => A.un0 l106 ( A.call 39 [(.i (.ofNat 2)), (.i (.ofNat 2))] h102 (fun l107 h108 => A.unI l107 (fun n109 l110 => A.unI l110 (fun n111 l112 => A.un0 l112 ( A.call 29 [(.i n109), (.i n111)] h108 (fun l113 h114 => A.unV l113 (fun x115 l116 => A.unI l116 (fun n117 l118 => A.un0 l118 ( A.opt (lenS x103) (fun x119 => A.cmp .neq x119 (.ofNat 4) (fun t120 => A.cond t120 ( K [(.b false)] h114) ( A.opt (idS 2 x103 (.ofNat 0)) (fun x121 => A.peek (ldP 2 x121) h114 (fun l122 => A.ucI .i64 l122 (fun n123 l124 => A.ucI .u8 l124 (fun n125 l126 => A.uc0 l126 ( A.call 22 [(.i (.ofNat 0)), (.i (.ofNat 1))] h114 (fun l127 h128 => A.unI l127 (fun n129 l130 => A.unI l130 (fun n131 l132 => A.un0 l132 ( A.eqs [((.i n123), (.i n129)), ((.i n125), (.i n131))] (fun t133 => A.cond (!t133) ( K [(.b false)] h128) ( A.opt (idS 2 x103 (.ofNat 1)) (fun x134 => A.peek (ldP 2 x134) h128 (fun l135 => A.ucI .i64 l135 (fun n136 l137 => A.ucI .u8 l137 (fun n138 l139 => A.uc0 l139 ( A.call 22 [(.i (.ofNat 0)), (.i (.ofNat 2))] h128 (fun l140 h141 => A.unI l140 (fun n142 l143 => A.unI l143 (fun n144 l145 => A.un0 l145 ( A.eqs [((.i n136), (.i n142)), ((.i n138), (.i n144))] (fun t146 => A.cond (!t146) ( K [(.b false)] h141) ( A.opt (idS 2 x103 (.ofNat 2)) (fun x147 => A.peek (ldP 2 x147) h141 (fun l148 => A.ucI .i64 l148 (fun n149 l150 => A.ucI .u8 l150 (fun n151 l152 => A.uc0 l152 ( A.call 22 [(.i (.ofNat 1)), (.i (.ofNat 2))] h141 (fun l153 h154 => A.unI l153 (fun n155 l156 => A.unI l156 (fun n157 l158 => A.un0 l158 ( A.eqs [((.i n149), (.i n155)), ((.i n151), (.i n157))] (fun t159 => A.cond (!t159) ( K [(.b false)] h154) ( A.opt (idS 2 x103 (.ofNat 3)) (fun x160 => A.peek (ldP 2 x160) h154 (fun l161 => A.ucI .i64 l161 (fun n162 l163 => A.ucI .u8 l163 (fun n164 l165 => A.uc0 l165 ( A.call 22 [(.i (.ofNat 2)), (.i (.ofNat 1))] h154 (fun l166 h167 => A.unI l166 (fun n168 l169 => A.unI l169 (fun n170 l171 => A.un0 l171 ( A.eqs [((.i n162), (.i n168)), ((.i n164), (.i n170))] (fun t172 => A.cond (!t172) ( K [(.b false)] h167) ( A.opt (lenS x115) (fun x173 => A.cmp .neq x173 (.ofNat 5) (fun t174 => A.cond t174 ( K [(.b false)] h167) ( A.opt (idS 2 x115 (.ofNat 0)) (fun x175 => A.peek (ldP 2 x175) h167 (fun l176 => A.ucI .i64 l176 (fun n177 l178 => A.ucI .i64 l178 (fun n179 l180 => A.uc0 l180 ( A.eqs [((.i n177), (.i (.ofNat 1))), ((.i n179), (.i (.ofNat 1)))] (fun t181 => A.cond (!t181) ( K [(.b false)] h167) ( A.opt (idS 2 x115 (.ofNat 1)) (fun x182 => A.peek (ldP 2 x182) h167 (fun l183 => A.ucI .i64 l183 (fun n184 l185 => A.ucI .i64 l185 (fun n186 l187 => A.uc0 l187 ( A.eqs [((.i n184), (.i (.ofNat 3))), ((.i n186), (.i (.ofNat 1)))] (fun t188 => A.cond (!t188) ( K [(.b false)] h167) ( A.opt (idS 2 x115 (.ofNat 2)) (fun x189 => A.peek (ldP 2 x189) h167 (fun l190 => A.ucI .i64 l190 (fun n191 l192 => A.ucI .i64 l192 (fun n193 l194 => A.uc0 l194 ( A.eqs [((.i n191), (.i (.ofNat 2))), ((.i n193), (.i (.ofNat 2)))] (fun t195 => A.cond (!t195) ( K [(.b false)] h167) ( A.opt (idS 2 x115 (.ofNat 3)) (fun x196 => A.peek (ldP 2 x196) h167 (fun l197 => A.ucI .i64 l197 (fun n198 l199 => A.ucI .i64 l199 (fun n200 l201 => A.uc0 l201 ( A.eqs [((.i n198), (.i (.ofNat 1))), ((.i n200), (.i (.ofNat 3)))] (fun t202 => A.cond (!t202) ( K [(.b false)] h167) ( A.opt (idS 2 x115 (.ofNat 4)) (fun x203 => A.peek (ldP 2 x203) h167 (fun l204 => A.ucI .i64 l204 (fun n205 l206 => A.ucI .i64 l206 (fun n207 l208 => A.uc0 l208 ( A.eqs [((.i n205), (.i (.ofNat 3))), ((.i n207), (.i (.ofNat 3)))] (fun t209 => A.cond (!t209) ( K [(.b false)] h167) ( A.call 39 [(.i (.ofNat 1)), (.i (.ofNat 1))] h167 (fun l210 h211 => A.unI l210 (fun n212 l213 => A.unI l213 (fun n214 l215 => A.un0 l215 ( A.call 22 [(.i (.ofNat 0)), (.i (.ofNat 1))] h211 (fun l216 h217 => A.unI l216 (fun n218 l219 => A.unI l219 (fun n220 l221 => A.un0 l221 ( A.call 26 [(.i n212), (.i n214), (.i n218), (.i n220)] h217 (fun l222 h223 => A.unI l222 (fun n224 l225 => A.unI l225 (fun n226 l227 => A.unI l227 (fun n228 l229 => A.un0 l229 ( A.call 39 [(.i (.ofNat 1)), (.i (.ofNat 1))] h223 (fun l230 h231 => A.unI l230 (fun n232 l233 => A.unI l233 (fun n234 l235 => A.un0 l235 ( A.call 22 [(.i (.ofNat 0)), (.i (.ofNat 1))] h231 (fun l236 h237 => A.unI l236 (fun n238 l239 => A.unI l239 (fun n240 l241 => A.un0 l241 ( A.call 25 [(.i n232), (.i n234), (.i n238), (.i n240)] h237 (fun l242 h243 => A.unI l242 (fun n244 l245 => A.unI l245 (fun n246 l247 => A.unI l247 (fun n248 l249 => A.unI l249 (fun n250 l251 => A.unI l251 (fun n252 l253 => A.un0 l253 ( A.call 39 [(.i (.ofNat 2)), (.i (.ofNat 1))] h243 (fun l254 h255 => A.unI l254 (fun n256 l257 => A.unI l257 (fun n258 l259 => A.un0 l259 ( A.call 22 [(.i (.ofNat 1)), (.i (.ofNat 0))] h255 (fun l260 h261 => A.unI l260 (fun n262 l263 => A.unI l263 (fun n264 l265 => A.un0 l265 ( A.call 26 [(.i n256), (.i n258), (.i n262), (.i n264)] h261 (fun l266 h267 => A.unI l266 (fun n268 l269 => A.unI l269 (fun n270 l271 => A.unI l271 (fun n272 l273 => A.un0 l273 ( A.call 39 [(.i (.ofNat 2)), (.i (.ofNat 1))] h267 (fun l274 h275 => A.unI l274 (fun n276 l277 => A.unI l277 (fun n278 l279 => A.un0 l279 ( A.call 22 [(.i (.ofNat 1)), (.i (.ofNat 0))] h275 (fun l280 h281 => A.unI l280 (fun n282 l283 => A.unI l283 (fun n284 l285 => A.un0 l285 ( A.call 25 [(.i n276), (.i n278), (.i n282), (.i n284)] h281 (fun l286 h287 => A.unI l286 (fun n288 l289 => A.unI l289 (fun n290 l291 => A.unI l291 (fun n292 l293 => A.unI l293 (fun n294 l295 => A.unI l295 (fun n296 l297 => A.un0 l297 ( A.eqs [((.i n224), (.i (.ofNat 3))), ((.i n226), (.i (.ofNat 1)))] (fun t298 => A.cond (!t298) ( K [(.b false)] h287) ( A.eqs [((.i n244), (.i (.ofNat 1))), ((.i n246), (.i (.ofNat 1))), ((.i n248), (.i (.ofNat 2))), ((.i n250), (.i (.ofNat 0)))] (fun t299 => A.cond (!t299) ( K [(.b false)] h287) ( A.eqs [((.i n268), (.i (.ofNat 1))), ((.i n270), (.i (.ofNat 1)))] (fun t300 => A.cond (!t300) ( K [(.b false)] h287) ( A.eqs [((.i n288), (.i (.ofNat 2))), ((.i n290), (.i (.ofNat 0))), ((.i n292), (.i (.ofNat 2))), ((.i n294), (.i (.ofNat 2)))] (fun t301 => A.cond (!t301) ( K [(.b false)] h287) ( A.call 39 [(.i (.ofNat 2)), (.i (.ofNat 1))] h287 (fun l302 h303 => A.unI l302 (fun n304 l305 => A.unI l305 (fun n306 l307 => A.un0 l307 ( A.call 18 [(.i n304), (.i n306), (.i (.ofNat 0)), (.i (.ofNat 0))] h303 (fun l308 h309 => A.unI l308 (fun n310 l311 => A.unI l311 (fun n312 l313 => A.un0 l313 ( A.call 39 [(.i (.ofNat 2)), (.i (.ofNat 1))] h309 (fun l314 h315 => A.unI l314 (fun n316 l317 => A.unI l317 (fun n318 l319 => A.un0 l319 ( A.call 18 [(.i n316), (.i n318), (.i (.ofNat 0)), (.i (.ofNat 3))] h315 (fun l320 h321 => A.unI l320 (fun n322 l323 => A.unI l323 (fun n324 l325 => A.un0 l325 ( A.call 39 [(.i (.ofNat 2)), (.i (.ofNat 1))] h321 (fun l326 h327 => A.unI l326 (fun n328 l329 => A.unI l329 (fun n330 l331 => A.un0 l331 ( A.call 18 [(.i n328), (.i n330), (.i (.ofNat 8)), (.i (.ofNat 0))] h327 (fun l332 h333 => A.unI l332 (fun n334 l335 => A.unI l335 (fun n336 l337 => A.un0 l337 ( A.join (fun l338 h339 => A.unB l338 (fun t340 l341 => A.un0 l341 ( K [(.b t340)] h339))) (fun j342 => A.cmp .eql n312 (.ofNat 7) (fun t343 => A.cond t343 ( A.cmp .eql n324 (.ofNat 1) (fun t344 => A.cond t344 ( A.cmp .eql n336 (.ofNat 7) (fun t345 => A.cond t345 ( A.call 39 [(.i (.ofNat 16)), (.i (.ofNat 16))] h333 (fun l346 h347 => A.unI l346 (fun n348 l349 => A.unI l349 (fun n350 l351 => A.un0 l351 ( A.call 33 [(.i n348), (.i n350)] h347 (fun l352 h353 => A.unI l352 (fun n354 l355 => A.un0 l355 ( A.cmp .eql n354 (.ofNat 0) (fun t356 => A.cond t356 ( A.call 39 [(.i (.ofNat 256)), (.i (.ofNat 1))] h353 (fun l357 h358 => A.unI l357 (fun n359 l360 => A.unI l360 (fun n361 l362 => A.un0 l362 ( A.call 33 [(.i n359), (.i n361)] h358 (fun l363 h364 => A.unI l363 (fun n365 l366 => A.un0 l366 ( A.cmp .eql n365 (.ofNat 0) (fun t367 => A.cond t367 ( A.call 39 [(.i (.ofNat 17)), (.i (.ofNat 16))] h364 (fun l368 h369 => A.unI l368 (fun n370 l371 => A.unI l371 (fun n372 l373 => A.un0 l373 ( A.call 33 [(.i n370), (.i n372)] h369 (fun l374 h375 => A.unI l374 (fun n376 l377 => A.un0 l377 ( A.cmp .eql n376 (.ofNat 1) (fun t378 => A.cond t378 ( A.call 39 [(.i (.ofNat 0)), (.i (.ofNat 1))] h375 (fun l379 h380 => A.unI l379 (fun n381 l382 => A.unI l382 (fun n383 l384 => A.un0 l384 ( A.call 33 [(.i n381), (.i n383)] h380 (fun l385 h386 => A.unI l385 (fun n387 l388 => A.un0 l388 ( A.cmp .eql n387 (.ofNat 1) (fun t389 => j342 [(.b t389)] h386))))))))) ( j342 [(.b false)] h375)))))))))) ( j342 [(.b false)] h364)))))))))) ( j342 [(.b false)] h353)))))))))) ( j342 [(.b false)] h333))) ( j342 [(.b false)] h333))) ( j342 [(.b false)] h333))))))))))))))))))))))))))))))))))))))))))))))))))))))))))))))))))))))))))))))))))))))))))))))))))))))))))))))))))))))))))))))))))))))))))))))))))))))))))))))))))))))))))))))))))))))))))))))))))))) [(.i (.ofNat 0))] h62)))))))))))))))))))))))))))))))))))))))))))))))

/-- crimp/crimplaw05.unit -/
noncomputable def f22 (ls : List Lf) (h : HT) (K : List Lf → HT → R) : R := A.unI ls (fun n6 l7 => A.unI l7 (fun n8 l9 => A.un0 l9 ( K [(.i n6), (.i n8)] h)))

/-- crimp/sheets.Units -/
noncomputable def f23 (ls : List Lf) (h : HT) (K : List Lf → HT → R) : R := A.unI ls (fun n6 l7 => A.unI l7 (fun n8 l9 => A.un0 l9 ( A.call 33 [(.i n6), (.i n8)] h (fun l10 h11 => A.unI l10 (fun n12 l13 => A.un0 l13 ( A.cmp .neq n12 (.ofNat 0) (fun t14 => A.cond t14 ( K [(.v (.slice none 0 0)), (.i n12)] h11) ( A.new (.cells [(.slice none 0 0)] 1 true) h11 (fun m15 h16 => A.call 67 [(.i n6), (.i n8)] h16 (fun l17 h18 => A.unV l17 (fun x19 l20 => A.un0 l20 ( A.rfun 368 x19 [(.pointer (some ⟨m15, 0, none⟩))] h18 (fun p21 h22 => A.pend p21 ( A.peek (ldP 1 (.pointer (some ⟨m15, 0, none⟩))) h22 (fun l23 => A.ucV l23 (fun x24 l25 => A.chk x24 ( A.uc0 l25 ( A.call 68 [(.v x24)] h22 (fun l26 h27 => A.unV l26 (fun x28 l29 => A.un0 l29 ( K [(.v x28), (.i (.ofNat 0))] h27)))))))) ( K [(.v (.slice none 0 0)), (.i (.ofNat 0))] h22) [])))))))))))))

/-- crimp/sheets.Ends -/
noncomputable def f25 (ls : List Lf) (h : HT) (K : List Lf → HT → R) : R := A.unI ls (fun n6 l7 => A.unI l7 (fun n8 l9 => A.unI l9 (fun n10 l11 => A.unI l11 (fun n12 l13 => A.un0 l13 ( A.call 69 [(.i n6), (.i n8), (.i n10), (.i n12)] h (fun l14 h15 => A.unI l14 (fun n16 l17 => A.unI l17 (fun n18 l19 => A.unI l19 (fun n20 l21 => A.unI l21 (fun n22 l23 => A.un0 l23 ( A.cmp .neq n22 (.ofNat 0) (fun t24 => A.cond t24 ( K [(.i (.ofNat 0)), (.i (.ofNat 0)), (.i (.ofNat 0)), (.i (.ofNat 0)), (.i n22)] h15) ( A.call 41 [(.i n16), (.i n18), (.i n20)] h15 (fun l25 h26 => A.unI l25 (fun n27 l28 => A.unI l28 (fun n29 l30 => A.unI l30 (fun n31 l32 => A.unI l32 (fun n33 l34 => A.unI l34 (fun n35 l36 => A.unI l36 (fun n37 l38 => A.unI l38 (fun n39 l40 => A.un0 l40 ( A.ari .add .u8 n12 (.ofNat 1) (fun n41 => A.ari .rem .u8 n41 (.ofNat 3) (fun n42 => A.opt (inB 3 n42) (fun x43 => A.opt (pickL [(.i n27), (.i n29), (.i n31), (.i n33), (.i n35), (.i n37)] 0 [(n42, 2)] 2) (fun x44 => A.unI x44 (fun n45 l46 => A.unI l46 (fun n47 l48 => A.un0 l48 ( A.ari .add .u8 n12 (.ofNat 2) (fun n49 => A.ari .rem .u8 n49 (.ofNat 3) (fun n50 => A.opt (inB 3 n50) (fun x51 => A.opt (pickL [(.i n27), (.i n29), (.i n31), (.i n33), (.i n35), (.i n37)] 0 [(n50, 2)] 2) (fun x52 => A.unI x52 (fun n53 l54 => A.unI l54 (fun n55 l56 => A.un0 l56 ( A.cmp .lss n53 n45 (fun t57 => A.cond t57 ( K [(.i n53), (.i n55), (.i n45), (.i n47), (.i (.ofNat 0))] h26) ( A.cmp .eql n53 n45 (fun t58 => A.cond t58 ( A.cmp .lss n55 n47 (fun t59 => A.join (fun l60 h61 => A.unI l60 (fun n62 l63 => A.unI l63 (fun n64 l65 => A.unI l65 (fun n66 l67 => A.unI l67 (fun n68 l69 => A.un0 l69 ( K [(.i n62), (.i n64), (.i n66), (.i n68), (.i (.ofNat 0))] h61)))))) (fun j70 => A.cond t59 ( j70 [(.i n53), (.i n55), (.i n45), (.i n47)] h26) ( j70 [(.i n45), (.i n47), (.i n53), (.i n55)] h26)))) ( K [(.i n45), (.i n47), (.i n53), (.i n55), (.i (.ofNat 0))] h26))))))))))))))))))))))))))))))))))))))))

/-- crimp/sheets.Line -/
noncomputable def f26 (ls : List Lf) (h : HT) (K : List Lf → HT → R) : R := A.unI ls (fun n6 l7 => A.unI l7 (fun n8 l9 => A.unI l9 (fun n10 l11 => A.unI l11 (fun n12 l13 => A.un0 l13 ( A.call 69 [(.i n6), (.i n8), (.i n10), (.i n12)] h (fun l14 h15 => A.unI l14 (fun n16 l17 => A.unI l17 (fun n18 l19 => A.unI l19 (fun n20 l21 => A.unI l21 (fun n22 l23 => A.un0 l23 ( A.cmp .neq n22 (.ofNat 0) (fun t24 => A.cond t24 ( K [(.i (.ofNat 0)), (.i (.ofNat 0)), (.i n22)] h15) ( A.call 40 [(.i n16), (.i n18), (.i n20), (.i n12)] h15 (fun l25 h26 => A.unI l25 (fun n27 l28 => A.unI l28 (fun n29 l30 => A.unI l30 (fun n31 l32 => A.un0 l32 ( K [(.i n27), (.i n29), (.i n31)] h26))))))))))))))))))

/-- crimp/sheets.Points -/
noncomputable def f29 (ls : List Lf) (h : HT) (K : List Lf → HT → R) : R := A.unI ls (fun n6 l7 => A.unI l7 (fun n8 l9 => A.un0 l9 ( A.call 33 [(.i n6), (.i n8)] h (fun l10 h11 => A.unI l10 (fun n12 l13 => A.un0 l13 ( A.cmp .neq n12 (.ofNat 0) (fun t14 => A.cond t14 ( K [(.v (.slice none 0 0)), (.i n12)] h11) ( A.loop (fun s15 l16 h17 => A.unV l16 (fun x18 l19 => A.unI l19 (fun n20 l21 => A.un0 l21 ( A.ari .mul .i64 (.ofNat 2) n8 (fun n22 => A.cmp .lss n20 n22 (fun t23 => A.cond t23 ( A.loop (fun s24 l25 h26 => A.unV l25 (fun x27 l28 => A.unI l28 (fun n29 l30 => A.un0 l30 ( A.ari .mul .i64 (.ofNat 2) n6 (fun n31 => A.cmp .lss n29 n31 (fun t32 => A.cond t32 ( A.ari .rem .i64 n29 (.ofNat 2) (fun n33 => A.ari .rem .i64 n20 (.ofNat 2) (fun n34 => A.cmp .eql n33 n34 (fun t35 => A.join (fun l36 h37 => A.unV l36 (fun x38 l39 => A.un0 l39 ( A.ari .add .i64 n29 (.ofNat 1) (fun n40 => s24 [(.v x38), (.i n40)] h37)))) (fun j41 => A.cond t35 ( A.new (.cells [(.int .i64 n29), (.int .i64 n20)] 2 true) h26 (fun m42 h43 => A.heap (apG cc 2 16 x27 (.slice (some ⟨m42, 0, (some 12)⟩) 1 2)) h43 (fun l44 h45 => A.ucV l44 (fun x46 l47 => A.chk x46 ( A.uc0 l47 ( j41 [(.v x46)] h45)))))) ( j41 [(.v x27)] h26)))))) ( A.ari .add .i64 n20 (.ofNat 1) (fun n48 => s15 [(.v x27), (.i n48)] h26)))))))) [(.v x18), (.i (.ofNat 1))] h17) ( A.call 71 [(.v x18)] h17 (fun l49 h50 => A.unV l49 (fun x51 l52 => A.un0 l52 ( K [(.v x51), (.i (.ofNat 0))] h50)))))))))) [(.v (.slice none 0 0)), (.i (.ofNat 1))] h11))))))))

/-- crimp/crimpref05.Valid -/
noncomputable def f32 (ls : List Lf) (h : HT) (K : List Lf → HT → R) : R := A.unI ls (fun n6 l7 => A.unI l7 (fun n8 l9 => A.un0 l9 ( A.cmp .lss n6 (.ofNat 1) (fun t10 => A.cond t10 ( K [(.i (.ofNat 0))] h) ( A.cmp .lss n8 (.ofNat 1) (fun t11 => A.cond t11 ( K [(.i (.ofNat 0))] h) ( A.cmp .gtr n6 (.ofNat 256) (fun t12 => A.cond t12 ( K [(.i (.ofNat 0))] h) ( A.cmp .gtr n8 (.ofNat 256) (fun t13 => A.cond t13 ( K [(.i (.ofNat 0))] h) ( A.ari .mul .i64 n6 n8 (fun n14 => A.cmp .gtr n14 (.ofNat 256) (fun t15 => A.cond t15 ( K [(.i (.ofNat 0))] h) ( K [(.i (.ofNat 1))] h))))))))))))))

/-- crimp/sheets.Check -/
noncomputable def f33 (ls : List Lf) (h : HT) (K : List Lf → HT → R) : R := A.unI ls (fun n6 l7 => A.unI l7 (fun n8 l9 => A.un0 l9 ( A.cmp .lss n6 (.ofNat 1) (fun t10 => A.cond t10 ( K [(.i (.ofNat 1))] h) ( A.cmp .lss n8 (.ofNat 1) (fun t11 => A.cond t11 ( K [(.i (.ofNat 1))] h) ( A.cmp .gtr n6 (.ofNat 256) (fun t12 => A.cond t12 ( K [(.i (.ofNat 1))] h) ( A.cmp .gtr n8 (.ofNat 256) (fun t13 => A.cond t13 ( K [(.i (.ofNat 1))] h) ( A.ari .mul .i64 n6 n8 (fun n14 => A.cmp .gtr n14 (.ofNat 256) (fun t15 => A.cond t15 ( K [(.i (.ofNat 1))] h) ( K [(.i (.ofNat 0))] h))))))))))))))

/-- crimp/sheets.Count -/
noncomputable def f34 (ls : List Lf) (h : HT) (K : List Lf → HT → R) : R := A.unI ls (fun n6 l7 => A.unI l7 (fun n8 l9 => A.un0 l9 ( A.call 33 [(.i n6), (.i n8)] h (fun l10 h11 => A.unI l10 (fun n12 l13 => A.un0 l13 ( A.cmp .neq n12 (.ofNat 0) (fun t14 => A.cond t14 ( K [(.i (.ofNat 0))] h11) ( A.ari .mul .i64 (.ofNat 4) n6 (fun n15 => A.ari .mul .i64 n15 n8 (fun n16 => K [(.i n16)] h11))))))))))

/-- crimp/sheets.Cell -/
noncomputable def f35 (ls : List Lf) (h : HT) (K : List Lf → HT → R) : R := A.unI ls (fun n6 l7 => A.unI l7 (fun n8 l9 => A.unI l9 (fun n10 l11 => A.un0 l11 ( A.call 33 [(.i n6), (.i n8)] h (fun l12 h13 => A.unI l12 (fun n14 l15 => A.un0 l15 ( A.cmp .neq n14 (.ofNat 0) (fun t16 => A.cond t16 ( K [(.i (.ofNat 0)), (.i (.ofNat 0)), (.i (.ofNat 0)), (.i n14)] h13) ( A.call 72 [(.i n6), (.i n8), (.i n10)] h13 (fun l17 h18 => A.unB l17 (fun t19 l20 => A.un0 l20 ( A.cond (!t19) ( K [(.i (.ofNat 0)), (.i (.ofNat 0)), (.i (.ofNat 0)), (.i (.ofNat 7))] h18) ( A.call 73 [(.i n6), (.i n8), (.i n10)] h18 (fun l21 h22 => A.unI l21 (fun n23 l24 => A.unI l24 (fun n25 l26 => A.unI l26 (fun n27 l28 => A.un0 l28 ( K [(.i n23), (.i n25), (.i n27), (.i (.ofNat 0))] h22))))))))))))))))))

/-- crimp/sheets.Id -/
noncomputable def f36 (ls : List Lf) (h : HT) (K : List Lf → HT → R) : R := A.unI ls (fun n6 l7 => A.unI l7 (fun n8 l9 => A.unI l9 (fun n10 l11 => A.unI l11 (fun n12 l13 => A.unI l13 (fun n14 l15 => A.un0 l15 ( A.call 33 [(.i n6), (.i n8)] h (fun l16 h17 => A.unI l16 (fun n18 l19 => A.un0 l19 ( A.cmp .neq n18 (.ofNat 0) (fun t20 => A.cond t20 ( K [(.i (.ofNat 0)), (.i n18)] h17) ( A.call 43 [(.i n10), (.i n12), (.i n14)] h17 (fun l21 h22 => A.unI l21 (fun n23 l24 => A.un0 l24 ( A.cmp .neq n23 (.ofNat 0) (fun t25 => A.cond t25 ( K [(.i (.ofNat 0)), (.i (.ofNat 7))] h22) ( A.cmp .lss n10 (.ofNat 0) (fun t26 => A.cond t26 ( K [(.i (.ofNat 0)), (.i (.ofNat 7))] h22) ( A.cmp .geq n10 n6 (fun t27 => A.cond t27 ( K [(.i (.ofNat 0)), (.i (.ofNat 7))] h22) ( A.cmp .lss n12 (.ofNat 0) (fun t28 => A.cond t28 ( K [(.i (.ofNat 0)), (.i (.ofNat 7))] h22) ( A.cmp .geq n12 n8 (fun t29 => A.cond t29 ( K [(.i (.ofNat 0)), (.i (.ofNat 7))] h22) ( A.ari .mul .i64 n12 n6 (fun n30 => A.ari .add .i64 n30 n10 (fun n31 => A.ari .mul .i64 (.ofNat 4) n31 (fun n32 => A.conv .i64 n14 (fun n33 => A.ari .add .i64 n32 n33 (fun n34 => K [(.i n34), (.i (.ofNat 0))] h22)))))))))))))))))))))))))))))

/-- crimp/sheets.Cells -/
noncomputable def f37 (ls : List Lf) (h : HT) (K : List Lf → HT → R) : R := A.unI ls (fun n6 l7 => A.unI l7 (fun n8 l9 => A.un0 l9 ( A.call 33 [(.i n6), (.i n8)] h (fun l10 h11 => A.unI l10 (fun n12 l13 => A.un0 l13 ( A.cmp .neq n12 (.ofNat 0) (fun t14 => A.cond t14 ( K [(.v (.slice none 0 0)), (.i n12)] h11) ( A.call 34 [(.i n6), (.i n8)] h11 (fun l15 h16 => A.unI l15 (fun n17 l18 => A.un0 l18 ( A.opt (mkOk (.ofNat 0) n17) (fun x19 => A.new (.cells (zerosA [(.int .i64 (.ofNat 0)), (.int .i64 (.ofNat 0)), (.int .u8 (.ofNat 0))] (Int.toNat n17)) 3 true) h16 (fun m20 h21 => A.call 34 [(.i n6), (.i n8)] h21 (fun l22 h23 => A.unI l22 (fun n24 l25 => A.un0 l25 ( A.loop (fun s26 l27 h28 => A.unV l27 (fun x29 l30 => A.unI l30 (fun n31 l32 => A.un0 l32 ( A.cmp .lss n31 n24 (fun t33 => A.cond t33 ( A.call 73 [(.i n6), (.i n8), (.i n31)] h28 (fun l34 h35 => A.unI l34 (fun n36 l37 => A.unI l37 (fun n38 l39 => A.unI l39 (fun n40 l41 => A.un0 l41 ( A.new (.cells [(.int .i64 n36), (.int .i64 n38), (.int .u8 n40)] 3 true) h35 (fun m42 h43 => A.heap (apG cc 3 24 x29 (.slice (some ⟨m42, 0, (some 13)⟩) 1 2)) h43 (fun l44 h45 => A.ucV l44 (fun x46 l47 => A.chk x46 ( A.uc0 l47 ( A.ari .add .i64 n31 (.ofNat 1) (fun n48 => s26 [(.v x46), (.i n48)] h45)))))))))))) ( K [(.v x29), (.i (.ofNat 0))] h28)))))) [(.v (.slice (some ⟨m20, 0, (some 13)⟩) (Int.toNat (.ofNat 0)) ((Int.toNat n17) + 1))), (.i (.ofNat 0))] h23))))))))))))))))

/-- crimp/crimplaw05.sheet -/
noncomputable def f39 (ls : List Lf) (h : HT) (K : List Lf → HT → R) : R := A.unI ls (fun n6 l7 => A.unI l7 (fun n8 l9 => A.un0 l9 ( K [(.i n6), (.i n8)] h)))

/-- crimp/cells.Line -/
noncomputable def f40 (ls : List Lf) (h : HT) (K : List Lf → HT → R) : R := A.unI ls (fun n6 l7 => A.unI l7 (fun n8 l9 => A.unI l9 (fun n10 l11 => A.unI l11 (fun n12 l13 => A.un0 l13 ( A.call 43 [(.i n6), (.i n8), (.i n10)] h (fun l14 h15 => A.unI l14 (fun n16 l17 => A.un0 l17 ( A.cmp .neq n16 (.ofNat 0) (fun t18 => A.cond t18 ( K [(.i (.ofNat 0)), (.i (.ofNat 0)), (.i (.ofNat 1))] h15) ( A.cmp .gtr n12 (.ofNat 2) (fun t19 => A.cond t19 ( K [(.i (.ofNat 0)), (.i (.ofNat 0)), (.i (.ofNat 1))] h15) ( A.opt (inB 4 n10) (fun x20 => A.opt (pickV gl0 0 [(n10, 17)] 17) (fun x21 => A.ucI .i64 x21 (fun n22 l23 => A.ucI .i64 l23 (fun n24 l25 => A.ucI .u8 l25 (fun n26 l27 => A.ucI .i64 l27 (fun n28 l29 => A.ucI .i64 l29 (fun n30 l31 => A.ucI .i64 l31 (fun n32 l33 => A.ucI .u8 l33 (fun n34 l35 => A.ucI .i64 l35 (fun n36 l37 => A.ucI .i64 l37 (fun n38 l39 => A.ucI .u8 l39 (fun n40 l41 => A.ucI .i64 l41 (fun n42 l43 => A.ucI .i64 l43 (fun n44 l45 => A.ucI .u8 l45 (fun n46 l47 => A.ucI .i64 l47 (fun n48 l49 => A.ucI .i64 l49 (fun n50 l51 => A.ucI .i64 l51 (fun n52 l53 => A.ucI .i64 l53 (fun n54 l55 => A.uc0 l55 ( A.ari .add .i64 n6 n28 (fun n56 => A.cmp .eql n12 (.ofNat 1) (fun t57 => A.join (fun l58 h59 => A.unI l58 (fun n60 l61 => A.unI l61 (fun n62 l63 => A.un0 l63 ( A.call 74 [(.i n60), (.i n62)] h59 (fun l64 h65 => A.unI l64 (fun n66 l67 => A.un0 l67 ( A.cmp .neq n66 (.ofNat 0) (fun t68 => A.cond t68 ( K [(.i (.ofNat 0)), (.i (.ofNat 0)), (.i (.ofNat 3))] h65) ( K [(.i n60), (.i n62), (.i (.ofNat 0))] h65))))))))) (fun j69 => A.cond t57 ( A.ari .add .i64 n6 n8 (fun n70 => A.ari .add .i64 n70 (.ofNat 1) (fun n71 => j69 [(.i (.ofNat 3)), (.i n71)] h15))) ( A.cmp .eql n12 (.ofNat 2) (fun t72 => A.join (fun l73 h74 => A.unI l73 (fun n75 l76 => A.unI l76 (fun n77 l78 => A.un0 l78 ( j69 [(.i n75), (.i n77)] h74)))) (fun j79 => A.cond t72 ( A.ari .sub .i64 n8 n6 (fun n80 => j79 [(.i (.ofNat 4)), (.i n80)] h15)) ( A.cmp .eql n26 (.ofNat 2) (fun t81 => A.join (fun l82 h83 => A.unI l82 (fun n84 l85 => A.unI l85 (fun n86 l87 => A.un0 l87 ( j79 [(.i n84), (.i n86)] h83)))) (fun j88 => A.cond t81 ( A.ari .add .i64 n8 n28 (fun n89 => j88 [(.i n26), (.i n89)] h15)) ( j88 [(.i n26), (.i n56)] h15))))))))))))))))))))))))))))))))))))))))))

/-- crimp/cells.Corners -/
noncomputable def f41 (ls : List Lf) (h : HT) (K : List Lf → HT → R) : R := A.unI ls (fun n6 l7 => A.unI l7 (fun n8 l9 => A.unI l9 (fun n10 l11 => A.un0 l11 ( A.call 43 [(.i n6), (.i n8), (.i n10)] h (fun l12 h13 => A.unI l12 (fun n14 l15 => A.un0 l15 ( A.cmp .neq n14 (.ofNat 0) (fun t16 => A.cond t16 ( K [(.i (.ofNat 0)), (.i (.ofNat 0)), (.i (.ofNat 0)), (.i (.ofNat 0)), (.i (.ofNat 0)), (.i (.ofNat 0)), (.i (.ofNat 1))] h13) ( A.opt (inB 4 n10) (fun x17 => A.opt (pickV gl0 0 [(n10, 17)] 17) (fun x18 => A.ucI .i64 x18 (fun n19 l20 => A.ucI .i64 l20 (fun n21 l22 => A.ucI .u8 l22 (fun n23 l24 => A.ucI .i64 l24 (fun n25 l26 => A.ucI .i64 l26 (fun n27 l28 => A.ucI .i64 l28 (fun n29 l30 => A.ucI .u8 l30 (fun n31 l32 => A.ucI .i64 l32 (fun n33 l34 => A.ucI .i64 l34 (fun n35 l36 => A.ucI .u8 l36 (fun n37 l38 => A.ucI .i64 l38 (fun n39 l40 => A.ucI .i64 l40 (fun n41 l42 => A.ucI .u8 l42 (fun n43 l44 => A.ucI .i64 l44 (fun n45 l46 => A.ucI .i64 l46 (fun n47 l48 => A.ucI .i64 l48 (fun n49 l50 => A.ucI .i64 l50 (fun n51 l52 => A.uc0 l52 ( A.loop (fun s53 l54 h55 => A.unI l54 (fun n56 l57 => A.unI l57 (fun n58 l59 => A.unI l59 (fun n60 l61 => A.unI l61 (fun n62 l63 => A.unI l63 (fun n64 l65 => A.unI l65 (fun n66 l67 => A.unI l67 (fun n68 l69 => A.un0 l69 ( A.cmp .lss n56 (.ofNat 3) (fun t70 => A.cond t70 ( A.opt (inB 3 n56) (fun x71 => A.opt (pickL [(.i n58), (.i n60), (.i n62), (.i n64), (.i n66), (.i n68)] 0 [(n56, 2)] 1) (fun x72 => A.unI x72 (fun n73 l74 => A.un0 l74 ( A.ari .mul .i64 (.ofNat 2) n6 (fun n75 => A.ari .add .i64 n73 n75 (fun n76 => A.opt (inB 3 n56) (fun x77 => A.opt (putL [(.i n58), (.i n60), (.i n62), (.i n64), (.i n66), (.i n68)] 0 [(n56, 2)] [(.i n76)]) (fun x78 => A.unI x78 (fun n79 l80 => A.unI l80 (fun n81 l82 => A.unI l82 (fun n83 l84 => A.unI l84 (fun n85 l86 => A.unI l86 (fun n87 l88 => A.unI l88 (fun n89 l90 => A.un0 l90 ( A.opt (inB 3 n56) (fun x91 => A.opt (pickL [(.i n79), (.i n81), (.i n83), (.i n85), (.i n87), (.i n89)] 1 [(n56, 2)] 1) (fun x92 => A.unI x92 (fun n93 l94 => A.un0 l94 ( A.ari .mul .i64 (.ofNat 2) n8 (fun n95 => A.ari .add .i64 n93 n95 (fun n96 => A.opt (inB 3 n56) (fun x97 => A.opt (putL [(.i n79), (.i n81), (.i n83), (.i n85), (.i n87), (.i n89)] 1 [(n56, 2)] [(.i n96)]) (fun x98 => A.unI x98 (fun n99 l100 => A.unI l100 (fun n101 l102 => A.unI l102 (fun n103 l104 => A.unI l104 (fun n105 l106 => A.unI l106 (fun n107 l108 => A.unI l108 (fun n109 l110 => A.un0 l110 ( A.ari .add .i64 n56 (.ofNat 1) (fun n111 => s53 [(.i n111), (.i n99), (.i n101), (.i n103), (.i n105), (.i n107), (.i n109)] h55)))))))))))))))))))))))))))))))) ( K [(.i n58), (.i n60), (.i n62), (.i n64), (.i n66), (.i n68), (.i (.ofNat 0))] h55))))))))))) [(.i (.ofNat 0)), (.i (.ofNat 1)), (.i (.ofNat 1)), (.i n45), (.i n47), (.i n49), (.i n51)] h13)))))))))))))))))))))))))))))

/-- crimp/cells.Check -/
noncomputable def f43 (ls : List Lf) (h : HT) (K : List Lf → HT → R) : R := A.unI ls (fun n6 l7 => A.unI l7 (fun n8 l9 => A.unI l9 (fun n10 l11 => A.un0 l11 ( A.cmp .lss n6 (.negSucc 4095) (fun t12 => A.cond t12 ( K [(.i (.ofNat 1))] h) ( A.cmp .gtr n6 (.ofNat 4096) (fun t13 => A.cond t13 ( K [(.i (.ofNat 1))] h) ( A.cmp .lss n8 (.negSucc 4095) (fun t14 => A.cond t14 ( K [(.i (.ofNat 1))] h) ( A.cmp .gtr n8 (.ofNat 4096) (fun t15 => A.cond t15 ( K [(.i (.ofNat 1))] h) ( A.cmp .gtr n10 (.ofNat 3) (fun t16 => A.cond t16 ( K [(.i (.ofNat 1))] h) ( K [(.i (.ofNat 0))] h))))))))))))))

/-- crimp/cells.Neighbour -/
noncomputable def f47 (ls : List Lf) (h : HT) (K : List Lf → HT → R) : R := A.unI ls (fun n6 l7 => A.unI l7 (fun n8 l9 => A.unI l9 (fun n10 l11 => A.unI l11 (fun n12 l13 => A.un0 l13 ( A.call 43 [(.i n6), (.i n8), (.i n10)] h (fun l14 h15 => A.unI l14 (fun n16 l17 => A.un0 l17 ( A.cmp .neq n16 (.ofNat 0) (fun t18 => A.cond t18 ( K [(.i (.ofNat 0)), (.i (.ofNat 0)), (.i (.ofNat 0)), (.i (.ofNat 1))] h15) ( A.cmp .gtr n12 (.ofNat 2) (fun t19 => A.cond t19 ( K [(.i (.ofNat 0)), (.i (.ofNat 0)), (.i (.ofNat 0)), (.i (.ofNat 1))] h15) ( A.opt (inB 4 n10) (fun x20 => A.opt (inB 3 n12) (fun x21 => A.opt (pickV gl0 4 [(n10, 17), (n12, 3)] 3) (fun x22 => A.ucI .i64 x22 (fun n23 l24 => A.ucI .i64 l24 (fun n25 l26 => A.ucI .u8 l26 (fun n27 l28 => A.uc0 l28 ( A.ari .add .i64 n23 n6 (fun n29 => A.ari .add .i64 n25 n8 (fun n30 => A.call 43 [(.i n29), (.i n30), (.i n27)] h15 (fun l31 h32 => A.unI l31 (fun n33 l34 => A.un0 l34 ( A.cmp .neq n33 (.ofNat 0) (fun t35 => A.cond t35 ( K [(.i (.ofNat 0)), (.i (.ofNat 0)), (.i (.ofNat 0)), (.i (.ofNat 3))] h32) ( K [(.i n29), (.i n30), (.i n27), (.i (.ofNat 0))] h32))))))))))))))))))))))))))

/-- (crimp/sheets.Sheet).all -/
noncomputable def f67 (ls : List Lf) (h : HT) (K : List Lf → HT → R) : R := A.unI ls (fun n6 l7 => A.unI l7 (fun n8 l9 => A.un0 l9 ( A.new (.cells [(.int .i64 n6), (.int .i64 n8)] 2 true) h (fun m10 h11 => A.chk (.func (.func 89) ⟨[]⟩ ⟨[(.pointer (some ⟨m10, 0, none⟩))]⟩) ( K [(.v (.func (.func 89) ⟨[]⟩ ⟨[(.pointer (some ⟨m10, 0, none⟩))]⟩))] h11)))))

/-- slices.Clip[[]crimp/sheets.Unit,crimp/sheets.Unit] -/
noncomputable def f68 (ls : List Lf) (h : HT) (K : List Lf → HT → R) : R := A.unV ls (fun x6 l7 => A.un0 l7 ( A.opt (lenS x6) (fun x8 => A.opt (lenS x6) (fun x9 => A.opt (slS 2 x6 none (some x8) (some x9)) (fun x10 => A.chk x10 ( K [(.v x10)] h))))))

/-- crimp/sheets.named -/
noncomputable def f69 (ls : List Lf) (h : HT) (K : List Lf → HT → R) : R := A.unI ls (fun n6 l7 => A.unI l7 (fun n8 l9 => A.unI l9 (fun n10 l11 => A.unI l11 (fun n12 l13 => A.un0 l13 ( A.call 33 [(.i n6), (.i n8)] h (fun l14 h15 => A.unI l14 (fun n16 l17 => A.un0 l17 ( A.cmp .neq n16 (.ofNat 0) (fun t18 => A.cond t18 ( K [(.i (.ofNat 0)), (.i (.ofNat 0)), (.i (.ofNat 0)), (.i n16)] h15) ( A.call 19 [(.i n6), (.i n8), (.i n10), (.i n12)] h15 (fun l19 h20 => A.unI l19 (fun n21 l22 => A.unI l22 (fun n23 l24 => A.unI l24 (fun n25 l26 => A.un0 l26 ( A.cmp .neq n25 (.ofNat 0) (fun t27 => A.cond t27 ( K [(.i (.ofNat 0)), (.i (.ofNat 0)), (.i (.ofNat 0)), (.i (.ofNat 7))] h20) ( A.eqs [((.i n21), (.i n10)), ((.i n23), (.i n12))] (fun t28 => A.cond (!t28) ( K [(.i (.ofNat 0)), (.i (.ofNat 0)), (.i (.ofNat 0)), (.i (.ofNat 7))] h20) ( A.call 73 [(.i n6), (.i n8), (.i n10)] h20 (fun l29 h30 => A.unI l29 (fun n31 l32 => A.unI l32 (fun n33 l34 => A.unI l34 (fun n35 l36 => A.un0 l36 ( K [(.i n31), (.i n33), (.i n35), (.i (.ofNat 0))] h30))))))))))))))))))))))))

/-- slices.Clip[[]crimp/api.Point,crimp/api.Point] -/
noncomputable def f71 (ls : List Lf) (h : HT) (K : List Lf → HT → R) : R := A.unV ls (fun x6 l7 => A.un0 l7 ( A.opt (lenS x6) (fun x8 => A.opt (lenS x6) (fun x9 => A.opt (slS 2 x6 none (some x8) (some x9)) (fun x10 => A.chk x10 ( K [(.v x10)] h))))))

/-- (crimp/sheets.Sheet).has -/
noncomputable def f72 (ls : List Lf) (h : HT) (K : List Lf → HT → R) : R := A.unI ls (fun n6 l7 => A.unI l7 (fun n8 l9 => A.unI l9 (fun n10 l11 => A.un0 l11 ( A.join (fun l12 h13 => A.unB l12 (fun t14 l15 => A.un0 l15 ( K [(.b t14)] h13))) (fun j16 => A.cmp .geq n10 (.ofNat 0) (fun t17 => A.cond t17 ( A.ari .mul .i64 (.ofNat 4) n6 (fun n18 => A.ari .mul .i64 n18 n8 (fun n19 => A.cmp .lss n10 n19 (fun t20 => j16 [(.b t20)] h)))) ( j16 [(.b false)] h)))))))

/-- (crimp/sheets.Sheet).cell -/
noncomputable def f73 (ls : List Lf) (h : HT) (K : List Lf → HT → R) : R := A.unI ls (fun n6 l7 => A.unI l7 (fun n8 l9 => A.unI l9 (fun n10 l11 => A.un0 l11 ( A.ari .quo .i64 n10 (.ofNat 4) (fun n12 => A.ari .rem .i64 n12 n6 (fun n13 => A.ari .quo .i64 n10 (.ofNat 4) (fun n14 => A.ari .quo .i64 n14 n6 (fun n15 => A.ari .rem .i64 n10 (.ofNat 4) (fun n16 => A.conv .u8 n16 (fun n17 => K [(.i n13), (.i n15), (.i n17)] h))))))))))

/-- crimp/lines.Check -/
noncomputable def f74 (ls : List Lf) (h : HT) (K : List Lf → HT → R) : R := A.unI ls (fun n6 l7 => A.unI l7 (fun n8 l9 => A.un0 l9 ( A.cmp .lss n6 (.ofNat 1) (fun t10 => A.cond t10 ( K [(.i (.ofNat 1))] h) ( A.cmp .gtr n6 (.ofNat 4) (fun t11 => A.cond t11 ( K [(.i (.ofNat 1))] h) ( A.cmp .lss n8 (.negSucc 4095) (fun t12 => A.cond t12 ( K [(.i (.ofNat 1))] h) ( A.cmp .gtr n8 (.ofNat 4096) (fun t13 => A.cond t13 ( K [(.i (.ofNat 1))] h) ( K [(.i (.ofNat 0))] h)))))))))))

/-- (crimp/sheets.Sheet).all$1 -/
noncomputable def f89 (ls : List Lf) (h : HT) (K : List Lf → HT → R) : R := A.unV ls (fun x6 l7 => A.unV l7 (fun x8 l9 => A.un0 l9 ( A.peek (ldP 2 x8) h (fun l10 => A.ucI .i64 l10 (fun n11 l12 => A.ucI .i64 l12 (fun n13 l14 => A.uc0 l14 ( A.call 34 [(.i n11), (.i n13)] h (fun l15 h16 => A.unI l15 (fun n17 l18 => A.un0 l18 ( A.loop (fun s19 l20 h21 => A.unI l20 (fun n22 l23 => A.un0 l23 ( A.cmp .lss n22 n17 (fun t24 => A.cond t24 ( A.loop (fun s25 l26 h27 => A.unI l26 (fun n28 l29 => A.un0 l29 ( A.cmp .lss n28 (.ofNat 3) (fun t30 => A.cond t30 ( A.peek (ldP 2 x8) h27 (fun l31 => A.ucI .i64 l31 (fun n32 l33 => A.ucI .i64 l33 (fun n34 l35 => A.uc0 l35 ( A.call 18 [(.i n32), (.i n34), (.i n22), (.i n28)] h27 (fun l36 h37 => A.unI l36 (fun n38 l39 => A.unI l39 (fun n40 l41 => A.un0 l41 ( A.cmp .eql n40 (.ofNat 0) (fun t42 => A.cond t42 ( A.cmp .gtr n38 n22 (fun t43 => A.cond t43 ( A.callv x6 [(.agg ⟨[(.int .i64 n22), (.int .u8 n28)]⟩)] [(.leaf .b)] h37 (fun l44 h45 => A.unB l44 (fun t46 l47 => A.un0 l47 ( A.cond (!t46) ( K [] h45) ( A.ari .add .u8 n28 (.ofNat 1) (fun n48 => s25 [(.i n48)] h45)))))) ( A.ari .add .u8 n28 (.ofNat 1) (fun n49 => s25 [(.i n49)] h37)))) ( A.ari .add .u8 n28 (.ofNat 1) (fun n50 => s25 [(.i n50)] h37)))))))))))) ( A.ari .add .i64 n22 (.ofNat 1) (fun n51 => s19 [(.i n51)] h27)))))) [(.i (.ofNat 0))] h21) ( K [] h21))))) [(.i (.ofNat 0))] h16))))))))))

end
end Go.Am

