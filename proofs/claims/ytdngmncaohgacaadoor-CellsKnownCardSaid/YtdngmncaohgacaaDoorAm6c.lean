/-
  THE MACHINE FOLLOWS THE ABSTRACT RUN: code, calls, rounds.
-/
import Derived.Test.YtdngmncaohgacaaDoorAm6b
set_option linter.unusedSectionVars false
set_option linter.unusedSimpArgs false
set_option linter.unusedVariables false
set_option linter.constructorNameAsVariable false
namespace Go.Am

section
variable [Val]

section
variable {C : Cfg} {base : Nat} {H₀ : List HObj} {mu₀ : HMap} {w₀ : World} {la : LMap} {mu : HMap} {σ : St} {a : Act} {w : World}

theorem clearAt_get (keys : List Nat) : ∀ (l : List (Option (List Value))) (i j : Nat), (clearAt keys l i)[j]? = if keys.contains (i + j) then (l[j]?).map (fun _ => none) else l[j]?
  | [], i, j => by simp [clearAt]
  | x :: l, i, j => by
    cases j with
    | zero => simp only [clearAt, List.getElem?_cons_zero, Nat.add_zero]; split <;> rfl
    | succ j =>
      simp only [clearAt, List.getElem?_cons_succ]
      rw [clearAt_get keys l (i + 1) j, show i + 1 + j = i + (j + 1) by omega]

theorem clearV_ok {keys : List Nat} {v c : Value} (h : VR la mu v c) : VR (fun s => if keys.contains s then none else la s) mu (clearV keys v) c := by
  unfold clearV
  split
  · rename_i ad
    split
    · exact .poison c
    · rename_i hn
      cases h with
      | scalar h => simp [Am.scalar] at h
      | lptr h =>
        simp at hn
        exact .lptr (by simp [hn, h])
      | hptr h => exact .hptr h
      | gptr => exact .gptr
  · split
    · rename_i hl; exact (noLoc_down hl h).up
    · exact .poison c

theorem FI.clear (h : FI C base H₀ mu₀ w₀ la mu σ a w) (keys : List Nat) : ∃ la', FI C base H₀ mu₀ w₀ la' mu (σ.clear keys) a w := by
  unfold St.clear
  split
  · exact ⟨la, h⟩
  · refine ⟨fun s => if keys.contains s then none else la s, ⟨?_, ?_, ?_, ?_, h.sr.wr⟩, h.evo, ?_, h.marks, h.low⟩
    · refine ⟨by simpa using h.sr.vals.1, fun i x y hx hy => ?_⟩
      rw [List.getElem?_map] at hx
      cases hv : σ.tmps[i]? with
      | none => rw [hv] at hx; cases hx
      | some v =>
        rw [hv] at hx
        cases hx
        exact clearV_ok (h.sr.vals.2 i v y hv hy)
    · intro s b hb
      split at hb
      · cases hb
      · rename_i hk
        obtain ⟨vs, h1⟩ := h.sr.ldom s b hb
        exact ⟨vs, by rw [clearAt_get, Nat.zero_add, if_neg hk]; exact h1⟩
    · intro s vs hs
      rw [clearAt_get, Nat.zero_add] at hs
      split at hs
      · cases hl : σ.loc[s]? with
        | none => rw [hl] at hs; cases hs
        | some x => rw [hl] at hs; cases hs
      · rename_i hk
        obtain ⟨b, c, e, h1, h2⟩ := h.sr.loc s vs hs
        exact ⟨b, c, e, by show (if _ then none else la s) = _; rw [if_neg hk]; exact h1, h2⟩
    · intro s s' b hs hs'
      split at hs
      · cases hs
      · split at hs'
        · cases hs'
        · exact h.sr.linj s s' b hs hs'
    · intro s b hb
      split at hb
      · cases hb
      · exact h.fresh s b hb

theorem FI.drew (h : FI C base H₀ mu₀ w₀ la mu σ a w) (n : Nat) : FI C base H₀ mu₀ w₀ la mu σ a { w with drawn := n } :=
  ⟨⟨h.sr.vals, h.sr.ldom, h.sr.loc, h.sr.linj, h.sr.wr.drew n⟩, h.evo.drew n, h.fresh, h.marks, h.low⟩

theorem stepR_scope {P : Program} {b : Frame} {a : Act} {k : List Item} {cs : List Frame} {w : World} {c : Code} :
    step P (lone (b.atR a (.code (.scope c) :: k)) cs w) = .next (lone (b.atR a (.code c :: .inScope c :: k)) cs w) :=
  step_lone_go (by simp [stepG, stepG.exec, Frame.atR])

theorem stepR_inScope {P : Program} {b : Frame} {a : Act} {k : List Item} {cs : List Frame} {w : World} {c : Code} :
    step P (lone (b.atR a (.inScope c :: k)) cs w) = .next (lone (b.atR a k) cs w) :=
  step_lone_go (by simp [stepG, stepG.exec, Frame.atR])

/-- Where a piece of code leads. -/
def Arr (P : Program) (b : Frame) (k : List Item) (cs : List Frame) (m : Machine) (a' : Act) (w' : World) : Exit → Prop
  | .normal => Steps P m (lone (b.atR a' k) cs w')
  | .ret => ∃ todo, Steps P m (lone (b.atR a' (.code .ret :: todo)) cs w')
  | .exit id => ∃ todo, Steps P m (lone (b.atR a' (.code (.exit id) :: todo)) cs w') ∧ exitTo id todo = exitTo id k
  | _ => False

theorem Arr.of_steps {P : Program} {b : Frame} {k : List Item} {cs : List Frame} {m m₁ : Machine} {a' : Act} {w' : World} {e : Exit} (h : Steps P m m₁) (h' : Arr P b k cs m₁ a' w' e) : Arr P b k cs m a' w' e := by
  cases e with
  | normal => exact h.trans h'
  | ret => obtain ⟨t, h'⟩ := h'; exact ⟨t, h.trans h'⟩
  | exit id => obtain ⟨t, h', h''⟩ := h'; exact ⟨t, h.trans h', h''⟩
  | _ => exact h'.elim

/-- Out of an item that catches nothing. -/
theorem Arr.pass {P : Program} {b : Frame} {x : Item} {k : List Item} {cs : List Frame} {m : Machine} {a' : Act} {w' : World} {e : Exit} (hx : ∀ id, exitTo id (x :: k) = exitTo id k) (hn : e ≠ .normal) (h : Arr P b (x :: k) cs m a' w' e) : Arr P b k cs m a' w' e := by
  cases e with
  | normal => exact absurd rfl hn
  | ret => exact h
  | exit id => obtain ⟨t, h', h''⟩ := h; exact ⟨t, h', by rw [h'', hx]⟩
  | _ => exact h.elim

/-- The statement that is proved by induction. -/
def CodeOk (C : Cfg) (S : Sems) : Prop :=
  ∀ (base : Nat) (H₀ : List HObj) (mu₀ : HMap) (w₀ : World) (ro : Option Nat) (fn : FuncId) (pts : List Nat) (code : Code) (σ σ' : St) (e : Exit) (la : LMap) (mu : HMap) (a : Act) (w : World), (pts ≠ [] → ro = none) →
    S.ex pts code σ e σ' → FI C base H₀ mu₀ w₀ la mu σ a w →
    ∃ a' w' la' mu', FI C base H₀ mu₀ w₀ la' mu' σ' a' w' ∧ ∀ (b : Frame) k cs, b.roundOf = ro → b.fn = fn → Arr C.P b k cs (lone (b.atR a (.code code :: k)) cs w) a' w' e

theorem hloop_ok (hw : WR C base mu σ.heap w) {id : Nat} {r : ALoop} (h : hloop σ.heap id = some r) : ∃ p, mu id = some p ∧ σ.heap[id]? = some (.loop r) ∧
    ∃ L : Loop, w.heap[p.b]? = some (.loop L) ∧ L.state = r.state ∧ L.pending = r.pending ∧ L.params.toList = r.params ∧ L.assign = r.assign ∧ L.body = r.body ∧ VRs noL mu r.tmps L.tmps.toList := by
  unfold hloop at h
  split at h
  · rename_i r' hid
    cases h
    obtain ⟨p, hp, hr⟩ := hw.obj id _ hid rfl
    exact ⟨p, hp, hid, hr⟩
  · cases h

/-- A loop's record is written. -/
theorem WR.setLoop (hw : WR C base mu σ.heap w) {id : Nat} {r r' : ALoop} {p : Pl} {L' : Loop} (hid : σ.heap[id]? = some (.loop r)) (hp : mu id = some p)
    (h1 : L'.state = r'.state) (h2 : L'.pending = r'.pending) (h3 : L'.params.toList = r'.params) (h4 : L'.assign = r'.assign) (h5 : L'.body = r'.body) (h6 : VRs noL mu r'.tmps L'.tmps.toList) :
    WR C base mu (σ.heap.set id (.loop r')) { w with heap := w.heap.setIfInBounds p.b (.loop L') } ∧ Evo σ.heap mu w (σ.heap.set id (.loop r')) mu { w with heap := w.heap.setIfInBounds p.b (.loop L') } :=
  hw.set (w' := { w with heap := w.heap.setIfInBounds p.b (.loop L') }) (x := .loop L') hid rfl hp rfl rfl rfl rfl (.loop r') (fun _ => rfl) ⟨L', rfl, h1, h2, h3, h4, h5, h6⟩

theorem snap_ok {tmps : List Value} {cs : List Value} (h : VRs la mu tmps cs) : VRs noL mu (snap tmps) cs := by
  refine ⟨by simp [snap, h.1], fun i x y hx hy => ?_⟩
  simp only [snap, List.getElem?_map] at hx
  cases hv : tmps[i]? with
  | none => rw [hv] at hx; cases hx
  | some v =>
    rw [hv] at hx
    cases hx
    have := h.2 i v y hv hy
    show VR noL mu (if noLoc v then v else poison) y
    split
    · rename_i hn; exact noLoc_down hn this
    · exact .poison y

theorem snapOf_ok {tmps tm : List Value} {cs : List Value} (hs : SnapOf tmps tm) (h : VRs la mu tmps cs) : VRs noL mu tm cs := by
  refine ⟨by rw [hs.1, h.1], fun i x y hx hy => ?_⟩
  rcases hs.2 i x hx with rfl | ⟨h1, h2⟩
  · exact .poison y
  · exact noLoc_down h2 (h.2 i x y h1 hy)

/-- A block that is none of the abstract heap's. -/
theorem WR.other (hw : WR C base mu σ.heap w) (o : Obj) : WR C base mu σ.heap (w.alloc o) ∧ Evo σ.heap mu w σ.heap mu (w.alloc o) := by
  have hold : ∀ b, b < w.heap.size → (w.alloc o).heap[b]? = w.heap[b]? := fun b hb => by
    show (w.heap.push _)[b]? = _
    rw [Array.getElem?_push, if_neg (by omega)]
  refine ⟨⟨?_, hw.inj, hw.own, hw.ro, hw.dom, ?_⟩, ⟨Nat.le_refl _, fun _ _ => rfl, by simp, fun b hb _ => hold b hb, fun b hb => .inr hb, rfl, rfl, rfl⟩⟩
  · intro id x hid ha
    obtain ⟨p, h1, h2⟩ := hw.obj id x hid ha
    exact ⟨p, h1, by rw [hold _ (objR_lt ha h2)]; exact h2⟩
  · intro g vs hg
    obtain ⟨h1, h2, c, e', fr, h3, h4⟩ := hw.glob g vs hg
    exact ⟨h1, h2, c, e', fr, by rw [hold g (Array.getElem?_eq_some_iff.1 h3).1]; exact h3, h4⟩

theorem run_getLoop {l : Nat} {L : Loop} (h : w.heap[l]? = some (.loop L)) : (Instr.getLoop l).run C.P w = .ok L w := by
  have : (getObj l).run C.P w = .ok (.loop L) w := by simp [getObj, Sem.run, h]
  simp [Instr.getLoop, this]
theorem run_setLoop {l : Nat} {L : Loop} {o : Obj} (h : w.heap[l]? = some (.loop L)) : (setObj l o).run C.P w = .ok () { w with heap := w.heap.setIfInBounds l o } := by
  simp [setObj, Sem.run, h]

theorem run_endLoop {l : Nat} {L : Loop} (h : w.heap[l]? = some (.loop L)) (hb : L.state ≠ .busy) :
    (Instr.endLoop l).run C.P w = .ok L.pending { w with heap := w.heap.setIfInBounds l (.loop { L with state := .exhausted }) } := by
  simp [Instr.endLoop, Sem.run_bind, run_getLoop h, run_setLoop h, Result.andThen]
  exact fun h => absurd h hb

theorem run_beginRound {l : Nat} {L : Loop} (h : w.heap[l]? = some (.loop L)) (hb : L.state = .ready) :
    (Instr.beginRound l).run C.P w = .ok () { w with heap := w.heap.setIfInBounds l (.loop { L with state := .busy }) } := by
  simp [Instr.beginRound, Sem.run_bind, run_getLoop h, hb, run_setLoop h, Result.andThen]

theorem run_endRound {l : Nat} {L : Loop} (h : w.heap[l]? = some (.loop L)) (j : Option Code) :
    (Instr.endRound l j).run C.P w = .ok (.bool j.isNone) { w with heap := w.heap.setIfInBounds l (.loop { L with state := if j.isNone then .ready else .done, pending := j }) } := by
  simp [Instr.endRound, Sem.run_bind, run_getLoop h, run_setLoop h, Result.andThen]

theorem code_next (hm : C.P.follows .mixedOrders = true) {S : Sems} (hB : BOk C S.toBelow) (hS : CodeOk C S) : CodeOk C { S with ex := exNext C S } := by
  intro base H₀ mu₀ w₀ ro fn pts code σ σ' e la mu a w hro hex h
  cases code with
  | skip =>
    obtain ⟨rfl, rfl⟩ := hex
    exact ⟨a, w, la, mu, h, fun b k cs _ _ => .one stepR_skip⟩
  | label l =>
    obtain ⟨rfl, rfl⟩ := hex
    exact ⟨a, w, la, mu, h, fun b k cs _ _ => .one stepR_label⟩
  | ret =>
    obtain ⟨rfl, rfl⟩ := hex
    exact ⟨a, w, la, mu, h, fun b k cs _ _ => ⟨k, .refl _ _⟩⟩
  | exit id =>
    obtain ⟨rfl, rfl⟩ := hex
    exact ⟨a, w, la, mu, h, fun b k cs _ _ => ⟨k, .refl _ _, rfl⟩⟩
  | goto l => exact hex.elim
  | refuse s => exact hex.elim
  | seq x y =>
    obtain ⟨e₁, σ₁, h1, h2⟩ := hex
    obtain ⟨a₁, w₁, la₁, mu₁, g1, g2⟩ := hS base H₀ mu₀ w₀ ro fn pts x σ σ₁ e₁ la mu a w hro h1 h
    rcases h2 with ⟨rfl, h2⟩ | ⟨hne, rfl, rfl⟩
    · obtain ⟨a₂, w₂, la₂, mu₂, g3, g4⟩ := hS base H₀ mu₀ w₀ ro fn pts y σ₁ σ' e la₁ mu₁ a₁ w₁ hro h2 g1
      exact ⟨a₂, w₂, la₂, mu₂, g3, fun b k cs hb hf => .of_steps (.head stepR_seq (g2 b (.code y :: k) cs hb hf)) (g4 b k cs hb hf)⟩
    · exact ⟨a₁, w₁, la₁, mu₁, g1, fun b k cs hb hf => .of_steps (.one stepR_seq) (.pass (fun id => rfl) hne (g2 b (.code y :: k) cs hb hf))⟩
  | cond c x y =>
    obtain ⟨t, ht, h1⟩ := hex
    obtain ⟨a₁, w₁, la₁, mu₁, g1, g2⟩ := hS base H₀ mu₀ w₀ ro fn pts _ σ σ' e la mu a w hro h1 h
    have hc := eval_ok h.sr c
    rw [ht] at hc
    exact ⟨a₁, w₁, la₁, mu₁, g1, fun b k cs hb hf => .of_steps (.one (stepR_cond hc.bool)) (g2 b k cs hb hf)⟩
  | block id x =>
    obtain ⟨e₁, h1, rfl⟩ := hex
    obtain ⟨a₁, w₁, la₁, mu₁, g1, g2⟩ := hS base H₀ mu₀ w₀ ro fn pts x σ σ' e₁ la mu a w hro h1 h
    refine ⟨a₁, w₁, la₁, mu₁, g1, fun b k cs hb hf => ?_⟩
    have g := g2 b (.inBlock id :: k) cs hb hf
    refine .of_steps (.one stepR_block) ?_
    cases e₁ with
    | normal => exact Steps.trans g (.one stepR_inBlock)
    | ret => exact g
    | exit i =>
      obtain ⟨t, s1, s2⟩ := g
      show Arr C.P b k cs _ a₁ w₁ (if i = id then .normal else .exit i)
      by_cases hi : i = id
      · rw [if_pos hi]
        subst hi
        have : exitTo i t = some k := by rw [s2]; simp [exitTo]
        exact s1.trans (.one (stepR_exit this))
      · rw [if_neg hi]
        refine ⟨t, s1, ?_⟩
        rw [s2]
        have hne : (id == i) = false := by simp; exact fun e => hi e.symm
        simp [exitTo, hne]
    | _ => exact g.elim
  | loop x =>
    obtain ⟨e₁, σ₁, h1, h2⟩ := hex
    obtain ⟨la₀, h0⟩ := h.clear (boxKeys pts x)
    obtain ⟨a₁, w₁, la₁, mu₁, g1, g2⟩ := hS base H₀ mu₀ w₀ ro fn pts x _ σ₁ e₁ la₀ mu a w hro h1 h0
    rcases h2 with ⟨rfl, h2⟩ | ⟨hne, rfl, rfl⟩
    · obtain ⟨a₂, w₂, la₂, mu₂, g3, g4⟩ := hS base H₀ mu₀ w₀ ro fn pts (.loop x) σ₁ σ' e la₁ mu₁ a₁ w₁ hro h2 g1
      refine ⟨a₂, w₂, la₂, mu₂, g3, fun b k cs hb hf => ?_⟩
      have s1 : Steps C.P (lone (b.atR a (.code (.loop x) :: k)) cs w) (lone (b.atR a₁ (.inLoop x :: k)) cs w₁) := .head stepR_loop (g2 b (.inLoop x :: k) cs hb hf)
      have s2 := g4 b k cs hb hf
      -- the machine comes to the loop's head by the item, the abstract run by the code: both make the same next step
      have hsame : ∀ m', Steps C.P (lone (b.atR a₁ (.code (.loop x) :: k)) cs w₁) m' → (∃ n, runN C.P (n + 1) (lone (b.atR a₁ (.code (.loop x) :: k)) cs w₁) = .next m') ∨ m' = lone (b.atR a₁ (.code (.loop x) :: k)) cs w₁ := by
        rintro m' ⟨n, hn⟩
        cases n with
        | zero => simp [runN] at hn; exact .inr hn.symm
        | succ n => exact .inl ⟨n, hn⟩
      have hgo : ∀ m', Steps C.P (lone (b.atR a₁ (.code (.loop x) :: k)) cs w₁) m' → m' ≠ lone (b.atR a₁ (.code (.loop x) :: k)) cs w₁ → Steps C.P (lone (b.atR a₁ (.inLoop x :: k)) cs w₁) m' := by
        intro m' hm' hne
        rcases hsame m' hm' with ⟨n, hn⟩ | rfl
        · refine ⟨n + 1, ?_⟩
          simp only [runN, stepR_loop, stepR_inLoop] at hn ⊢
          exact hn
        · exact absurd rfl hne
      have htodo : ∀ (a' : Act) (t : List Item) (w' : World), t ≠ .code (.loop x) :: k → lone (b.atR a' t) cs w' ≠ lone (b.atR a₁ (.code (.loop x) :: k)) cs w₁ := by
        intro a' t w' hne e
        have e' := congrArg (fun m : Machine => (m.gs[0]?).map (fun g => g.frame.todo)) e
        simp [lone, Frame.atR] at e'
        exact hne e'
      refine .of_steps s1 ?_
      cases e with
      | normal =>
        refine hgo _ s2 (htodo _ _ _ fun e => ?_)
        have := congrArg List.length e
        simp at this
      | ret =>
        obtain ⟨t, s2⟩ := s2
        exact ⟨t, hgo _ s2 (htodo _ _ _ fun e => by simp at e)⟩
      | exit id =>
        obtain ⟨t, s2, s3⟩ := s2
        exact ⟨t, hgo _ s2 (htodo _ _ _ fun e => by simp at e), s3⟩
      | _ => exact s2.elim
    · exact ⟨a₁, w₁, la₁, mu₁, g1, fun b k cs hb hf => .of_steps (.one stepR_loop) (.pass (fun id => rfl) hne (g2 b (.inLoop x :: k) cs hb hf))⟩
  | scope x =>
    obtain ⟨a₁, w₁, la₁, mu₁, g1, g2⟩ := hS base H₀ mu₀ w₀ ro fn pts x σ σ' e la mu a w hro hex h
    refine ⟨a₁, w₁, la₁, mu₁, g1, fun b k cs hb hf => .of_steps (.one stepR_scope) ?_⟩
    have g := g2 b (.inScope x :: k) cs hb hf
    by_cases hn : e = .normal
    · subst hn; exact Steps.trans g (.one stepR_inScope)
    · exact .pass (fun id => rfl) hn g
  | region id ops draw =>
    obtain ⟨rfl, h1⟩ := hex
    cases draw with
    | false =>
      obtain ⟨a₁, w₁, la₁, mu₁, g1, g2⟩ := sim_opsR hB _ _ _ _ _ _ _ h h1
      exact ⟨a₁, w₁, la₁, mu₁, g1, fun b k cs _ _ => .head stepR_region (g2 b k cs)⟩
    | true =>
      have hd : FI C base H₀ mu₀ w₀ la mu σ a { w with drawn := w.drawn + 1 } := h.drew _
      obtain ⟨σ₀, h0, h1⟩ := h1
      obtain ⟨a₁, w₁, la₁, mu₁, g1, g2⟩ := sim_ops hB _ _ _ _ _ _ _ (hd.restate h0) (h1 (w.tape w.drawn (.order fn id)))
      refine ⟨a₁, w₁, la₁, mu₁, g1, fun b k cs _ hf => .head stepR_region_draw ?_⟩
      rw [hm, hf]
      exact g2 b k cs
  | rangeFunc f params assign body =>
    obtain ⟨hpts, g, first, cap, φ, tm, r, H, r₂, hsnap, hf, hnl, hcall, hl, hbusy, hexit, rfl⟩ := hex
    obtain rfl := hro hpts
    have hfe := eval_ok h.sr f
    rw [hf] at hfe
    obtain ⟨x', y', hev, r1, r2⟩ := hfe.func_inv
    have hnl' : first.toList.all noLoc3 = true ∧ cap.toList.all noLoc3 = true := by simpa [noLoc] using hnl
    have d1 : VRs noL mu first.toList x'.toList := ⟨r1.1, fun i u v hu hv => noLoc3_down (all_get hnl'.1 hu) (r1.2 i u v hu hv)⟩
    have d2 : VRs noL mu cap.toList y'.toList := ⟨r2.1, fun i u v hu hv => noLoc3_down (all_get hnl'.2 hu) (r2.2 i u v hu hv)⟩
    -- the block of the deferred calls
    obtain ⟨hW1, hE1⟩ := h.sr.wr.other (.deferred (some []))
    have hr1 : (w.alloc (.deferred (some []))).heap[w.heap.size]? = some (.deferred (some [])) := by
      show (w.heap.push _)[_]? = _
      simp
    have hno : ¬ Own mu σ.heap w.heap.size := fun ho => by have := (Own.lt h.sr.wr ho).1; omega
    have hF1 : FI C base H₀ mu₀ w₀ la mu σ { a with defers := ({ target := .collected w.heap.size, args := #[] } : Deferred) :: a.defers } (w.alloc (.deferred (some []))) := by
      have h' := h.heap hW1 hE1
      refine ⟨h'.sr, h'.evo, h'.fresh, ?_, h'.low⟩
      obtain ⟨rs, k1, k2, k3⟩ := h.marks
      have hlt : ∀ r ∈ rs, r < w.heap.size := fun r hr => by
        obtain ⟨_, k4, _⟩ := k3 r hr
        exact (Array.getElem?_eq_some_iff.1 k4).1
      refine ⟨w.heap.size :: rs, by rw [k1]; rfl, List.nodup_cons.2 ⟨fun hm => by have := hlt _ hm; omega, k2⟩, fun r hr => ?_⟩
      rcases List.mem_cons.1 hr with rfl | hr
      · exact ⟨h.evo.size, hr1, hno⟩
      · obtain ⟨k4, k5, k6⟩ := k3 r hr
        exact ⟨k4, by rw [hE1.keep r (hlt r hr) k6]; exact k5, k6⟩
    -- the loop's record
    have hb1 : base ≤ (w.alloc (.deferred (some []))).heap.size := hF1.big
    let L : Loop := { state := .ready, pending := none, fn, tmps := a.tmps, params, assign, body, defers := w.heap.size }
    let w₂ : World := (w.alloc (.deferred (some []))).alloc (.loop L)
    let p : Pl := ⟨(w.alloc (.deferred (some []))).heap.size, 0, 0, 0⟩
    obtain ⟨hW2, hE2⟩ := hF1.sr.wr.new hb1 (w' := w₂) (x := .loop L) rfl rfl rfl rfl (.loop { state := .ready, pending := none, fn := φ, tmps := tm, params := params.toList, assign, body }) p rfl
      ⟨L, rfl, rfl, rfl, rfl, rfl, rfl, (snapOf_ok hsnap h.sr.vals).mono (fun _ _ h => h) (upd_mono h.sr.wr p)⟩ (fun _ => rfl)
    have hF2 := hF1.heap hW2 hE2
    have hmono := upd_mono h.sr.wr p
    -- the call
    have hargs : VRs noL (upd mu σ.heap.length p) (first.toList ++ [.func (.yield σ.heap.length) #[] #[]] ++ cap.toList) (x' ++ #[Value.func (.yield p.b) #[] #[]] ++ y').toList := by
      simp only [Array.toList_append]
      exact ((d1.mono (fun _ _ h => h) hmono).append (.cons (.yield (upd_same _ _ _)) .nil)).append (d2.mono (fun _ _ h => h) hmono)
    obtain ⟨v, mu', w', q1, q2, q3, q4, q5⟩ := hB.call _ _ _ _ _ hcall base _ w₂ _ hF2.big hargs hW2
    have hF3 := hF2.heap q2 q3
    have hmu' : mu' σ.heap.length = some p := by rw [q3.same _ (by simp)]; exact upd_same _ _ _
    obtain ⟨p', hp', hid, L', hL', e1, e2, e3, e4, e5, e6⟩ := hloop_ok (σ := { σ with heap := H }) q2 hl
    obtain rfl : p' = p := by rw [hmu'] at hp'; exact (Option.some.inj hp').symm
    obtain ⟨hW4, hE4⟩ := WR.setLoop (σ := { σ with heap := H }) q2 hid hp' (r' := { r₂ with state := .exhausted }) (L' := { L' with state := .exhausted }) rfl e2 e3 e4 e5 e6
    have hF4 := hF3.heap hW4 hE4
    refine ⟨_, _, la, mu', hF4, fun b k cs hb hfn => ?_⟩
    have henter : (Instr.enterLoop b.fn a.tmps params assign body b.roundOf).run C.P w = .ok (p.b, [({ target := .collected w.heap.size, args := #[] } : Deferred)]) w₂ := by
      rw [hb, hfn]
      rfl
    have hres : (resolve a.eval (rangeCall f p.b) 0).run C.P w₂ = .ok { target := .fn (.func g) y', args := x' ++ #[.func (.yield p.b) #[] #[]] } w₂ := by
      have hmap : Array.map a.eval #[Operand.const (Value.func (Fn.yield p.b) #[] #[])] = #[Value.func (Fn.yield p.b) #[] #[]] := by simp [Act.eval]
      simp only [resolve, hev, Deferred.ofValue, hmap]
      rfl
    have hinv : (invoke (.fn (.func g) y') (x' ++ #[.func (.yield p.b) #[] #[]])).run C.P w₂ = .ok (.enter g (x' ++ #[.func (.yield p.b) #[] #[]] ++ y')) w₂ := q4
    have s1 := stepR_rangeFunc (P := C.P) (b := b) (a := a) (k := k) (cs := cs) henter hres hinv
    obtain ⟨fr, s2, _, s3⟩ := q5 (b.atR { a with defers := [({ target := .collected w.heap.size, args := #[] } : Deferred)] ++ a.defers } (.inRangeFunc p.b :: k) :: cs)
    have hend : (Instr.endLoop p.b).run C.P w' = .ok r₂.pending { w' with heap := w'.heap.setIfInBounds p.b (.loop { L' with state := .exhausted }) } := by
      rw [← e2]
      exact run_endLoop hL' (by rw [e1]; exact hbusy)
    have s4 : Steps C.P (lone (b.atR a (.code (.rangeFunc f params assign body) :: k)) cs w) (lone (b.atR { a with defers := [({ target := .collected w.heap.size, args := #[] } : Deferred)] ++ a.defers } ((r₂.pending.map Item.code).toList ++ k)) cs { w' with heap := w'.heap.setIfInBounds p.b (.loop { L' with state := .exhausted }) }) := by
      refine .head s1 (s2.trans (.head ?_ (.one (stepR_endRangeFunc hend))))
      rw [← finish_atR_inRangeFunc p.b v]
      exact step_leave_returned s3
    unfold exitOf at hexit
    split at hexit
    · rename_i hp; cases hexit; rw [hp] at s4; exact s4
    · rename_i hp; cases hexit; rw [hp] at s4; exact ⟨k, s4⟩
    · rename_i hp; cases hexit; rw [hp] at s4; exact ⟨k, s4, rfl⟩
    · cases hexit

end
end
end Go.Am
