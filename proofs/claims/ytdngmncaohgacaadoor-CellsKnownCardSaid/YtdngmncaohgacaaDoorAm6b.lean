/-
  THE MACHINE FOLLOWS THE ABSTRACT RUN: lists of operations, in whatever order.
-/
import Derived.Test.YtdngmncaohgacaaDoorAm6
set_option linter.unusedSectionVars false
set_option linter.unusedSimpArgs false
set_option linter.unusedVariables false
set_option linter.constructorNameAsVariable false
namespace Go.Am

section
variable [Val]

section
variable {C : Cfg} {base : Nat} {H₀ : List HObj} {mu₀ : HMap} {w₀ : World} {la : LMap} {mu : HMap} {σ : St} {a : Act} {w : World}

theorem wantedA_ok {ops : Array Oper} {o : Oper} {t : Bool} (h : VRs la mu σ.tmps a.tmps.toList) (hw : wantedA ops σ.tmps o = some t) : Region.wanted o (yielded ops a.tmps) = t := by
  unfold wantedA at hw
  unfold Region.wanted
  cases hg : o.guard with
  | none => rw [hg] at hw; cases hw; rfl
  | some jw =>
    obtain ⟨j, want⟩ := jw
    rw [hg] at hw
    simp only at hw ⊢
    unfold yielded
    cases hd : (ops[j]?).bind (·.dst) with
    | none =>
      rw [hd] at hw
      cases hw
      simp
    | some d =>
      rw [hd] at hw
      simp only [Option.bind_some] at hw ⊢
      cases hv : σ.tmps[d]? with
      | none =>
        rw [hv] at hw
        cases hw
        have : a.tmps[d]? = none := by
          have hl := h.1
          rw [List.getElem?_eq_none_iff] at hv
          rw [Array.getElem?_eq_none_iff]
          simp at hl; omega
        rw [this]; simp
      | some v =>
        rw [hv] at hw
        obtain ⟨v', h1, h2⟩ := h.get hv
        rw [show a.tmps[d]? = some v' by simpa using h1]
        cases v with
        | bool b =>
          have := h2.bool
          subst this
          cases hw
          simp
        | tuple vs =>
          split at hw
          · rename_i b e; cases e
          · rename_i vs' e
            cases e
            split at hw
            · cases hw
            · rename_i hsz
              cases hw
              obtain ⟨d', rfl, _⟩ := h2.untuple hsz
              rfl
          · rename_i h3 h4; exact absurd rfl (h4 vs)
        | _ =>
          cases hw
          cases h2 <;> first | rfl | (rename_i hs; simp [Am.scalar] at hs)

theorem effOf_not_defer {pts : List Nat} {ρ : Operand → Value} {o : Oper} {e : Eff} (h : effOf C pts ρ o = some e) : ∀ c, o.op ≠ .defer c := by
  intro c hc
  unfold effOf at h
  rw [hc] at h
  cases h

theorem sim_step {B : Below} (hB : BOk C B) {pts : List Nat} {ops : Array Oper} {i : Nat} {σ' : St} (h : FI C base H₀ mu₀ w₀ la mu σ a w) (hs : stepRel C B pts ops i σ σ') :
    ∃ a' w' la' mu', FI C base H₀ mu₀ w₀ la' mu' σ' a' w' ∧
      ∀ (b : Frame) rest k cs, Steps C.P (lone (b.atR a (.inRegion ops (i :: rest) :: k)) cs w) (lone (b.atR a' (.inRegion ops rest :: k)) cs w') := by
  unfold stepRel at hs
  split at hs
  · rename_i ho
    subst hs
    refine ⟨a, w, la, mu, h, fun b rest k cs => .one ?_⟩
    have := stepR_op_skip (P := C.P) (b := b) (a := a) (k := k) (cs := cs) (w := w) (ops := ops) (i := i) (rest := rest) (by simp [ho])
    simpa [ho, Act.put] using this
  · rename_i o ho
    split at hs
    · exact hs.elim
    · rename_i hw
      subst hs
      have hw' := wantedA_ok (a := a) h.sr.vals hw
      refine ⟨a.put o.dst undef, w, la, mu, h.put o.dst .undef, fun b rest k cs => .one ?_⟩
      have := stepR_op_skip (P := C.P) (b := b) (a := a) (k := k) (cs := cs) (w := w) (ops := ops) (i := i) (rest := rest) (by simp [ho, hw'])
      simpa [ho] using this
    · rename_i hw
      have hw' := wantedA_ok (a := a) h.sr.vals hw
      rcases hs with hs | ⟨v, hv, rfl⟩
      case inr =>
        obtain ⟨v', h1, h2⟩ := symRel_ok h.sr hv
        refine ⟨_, w, la, mu, h.put o.dst h2, fun b rest k cs => .one (stepR_value ho hw' (fun c hc => ?_) h1)⟩
        have h4 := hv.1
        rw [hc] at h4
        cases h4
      obtain ⟨e, he, hr⟩ := hs
      have hnd := effOf_not_defer he
      have hok := effOf_ok h.sr h.big he
      cases e with
      | val v =>
        obtain ⟨p, hp, rfl⟩ := hr
        cases hp
        obtain ⟨v', h1, h2⟩ := hok
        exact ⟨_, w, la, mu, h.put o.dst h2, fun b rest k cs => .one (stepR_value ho hw' hnd h1)⟩
      | lnew s vs =>
        obtain ⟨p, hp, rfl⟩ := hr
        simp only [applyEff] at hp
        split at hp
        · rename_i hloc
          cases hp
          obtain ⟨cells, e', h1, h2, h3⟩ := hok
          have hf := (h.lnew (e := e') hloc h2 h3).put o.dst (v := .pointer (some ⟨s, 0, some 0⟩)) (v' := .pointer (some ⟨w.heap.size, 0, none⟩)) (.lptr (by simp))
          exact ⟨_, _, _, _, hf, fun b rest k cs => .one (stepR_value ho hw' hnd h1)⟩
        · cases hp
      | lget s f =>
        obtain ⟨p, hp, rfl⟩ := hr
        simp only [applyEff] at hp
        split at hp
        · rename_i vs hloc
          cases hfv : f vs with
          | none => rw [hfv] at hp; cases hp
          | some v =>
            rw [hfv] at hp
            cases hp
            obtain ⟨v', h1, h2⟩ := hok vs v hloc hfv
            exact ⟨_, w, la, mu, h.put o.dst h2, fun b rest k cs => .one (stepR_value ho hw' hnd h1)⟩
        · cases hp
      | lset s f =>
        obtain ⟨p, hp, rfl⟩ := hr
        simp only [applyEff] at hp
        split at hp
        · rename_i vs hloc
          cases hfv : f vs with
          | none => rw [hfv] at hp; cases hp
          | some vs' =>
            rw [hfv] at hp
            cases hp
            obtain ⟨bl, c, cs0, e', h1, h2, h3, h4, h5⟩ := hok vs vs' hloc hfv
            have hf := (h.lset hloc h1 h2 h4 h5).put o.dst (v := undef) (v' := undef) .undef
            exact ⟨_, _, _, _, hf, fun b rest k cs => .one (stepR_unit ho hw' hnd h3)⟩
        · cases hp
      | hget f =>
        obtain ⟨p, hp, rfl⟩ := hr
        simp only [applyEff] at hp
        cases hfv : f σ.heap with
        | none => rw [hfv] at hp; cases hp
        | some v =>
          rw [hfv] at hp
          cases hp
          obtain ⟨v', h1, h2⟩ := hok v hfv
          exact ⟨_, w, la, mu, h.put o.dst h2, fun b rest k cs => .one (stepR_value ho hw' hnd h1)⟩
      | hop f =>
        obtain ⟨p, hp, rfl⟩ := hr
        simp only [applyEff] at hp
        cases hfv : f σ.heap with
        | none => rw [hfv] at hp; cases hp
        | some q =>
          rw [hfv] at hp
          cases hp
          obtain ⟨nx, v', w', mu', h1, h2, h3, h4, h5⟩ := hok q.1 q.2 hfv
          have hf := (h.heap h4 h5).put o.dst h3.up
          rcases h2 with rfl | ⟨rfl, rfl⟩
          · exact ⟨_, w', la, mu', hf, fun b rest k cs => .one (stepR_value ho hw' hnd h1)⟩
          · exact ⟨_, w', la, mu', hf, fun b rest k cs => .one (stepR_unit ho hw' hnd h1)⟩
      | call f args =>
        obtain ⟨r, H, hc, rfl⟩ := hr
        obtain ⟨args', h1, h2⟩ := hok
        obtain ⟨v, mu', w', h3, h4, h5, h6, h7⟩ := hB.call _ _ _ _ _ hc base mu w args' h.big h1 h.sr.wr
        rw [h6] at h2
        refine ⟨_, w', la, mu', (h.heap h4 h5).put o.dst h3.up, fun b rest k cs => ?_⟩
        obtain ⟨fr, s1, s2, s3⟩ := h7 (b.atR a (.inRegion ops (i :: rest) :: k) :: cs)
        refine .head (stepR_call ho hw' hnd h2) (s1.trans (.one ?_))
        rw [← finish_op ho v]
        exact step_leave_returned s3
      | yield l args =>
        obtain ⟨r, H, hc, rfl⟩ := hr
        obtain ⟨p, args', hp, h1, h2⟩ := hok
        obtain ⟨v, mu', w', fn, tmps, assign, body, h3, h4, h5, h6, h7⟩ := hB.yield _ _ _ _ _ hc base mu w args' p h.big hp h1 h.sr.wr
        rw [h6] at h2
        refine ⟨_, w', la, mu', (h.heap h4 h5).put o.dst h3.up, fun b rest k cs => ?_⟩
        refine .head (stepR_rnd ho hw' hnd h2) ?_
        rw [← finish_op ho v]
        exact h7 (b.atR a (.inRegion ops (i :: rest) :: k)) cs

theorem FI.restate {σ' : St} (h : FI C base H₀ mu₀ w₀ la mu σ a w) (hr : Restate σ σ') : FI C base H₀ mu₀ w₀ la mu σ' a w := by
  obtain ⟨h1, h2, h3, h4⟩ := hr
  obtain ⟨tmps, loc, heap⟩ := σ'
  simp only at h1 h2 h3 h4
  subst h1 h2
  refine ⟨⟨⟨by rw [h3]; exact h.sr.vals.1, fun i y c hy hc => ?_⟩, h.sr.ldom, h.sr.loc, h.sr.linj, h.sr.wr⟩, h.evo, h.fresh, h.marks, h.low⟩
  have hi : i < σ.tmps.length := by
    rw [← h3]
    exact (List.getElem?_eq_some_iff.1 hy).1
  have hv := h.sr.vals.2 i σ.tmps[i] c (by simp [hi]) hc
  rcases h4 i σ.tmps[i] y (by simp [hi]) hy with rfl | ⟨k1, k2, k3⟩
  · exact hv
  · rw [plain_eq k1 hv, k3]
    exact plain_den k2

theorem sim_opsR {B : Below} (hB : BOk C B) {pts : List Nat} {ops : Array Oper} : ∀ (l : List Nat) (σ σ' : St) (a : Act) (w : World) (la : LMap) (mu : HMap), FI C base H₀ mu₀ w₀ la mu σ a w → opsRelR C B pts ops l σ σ' →
    ∃ a' w' la' mu', FI C base H₀ mu₀ w₀ la' mu' σ' a' w' ∧
      ∀ (b : Frame) k cs, Steps C.P (lone (b.atR a (.inRegion ops l :: k)) cs w) (lone (b.atR a' k) cs w')
  | [], σ, σ', a, w, la, mu, h, hs => by
    cases hs
    exact ⟨a, w, la, mu, h, fun b k cs => .one stepR_region_end⟩
  | i :: l, σ, σ', a, w, la, mu, h, hs => by
    obtain ⟨σ₀, σ₁, h0, h1, h2⟩ := hs
    obtain ⟨a₁, w₁, la₁, mu₁, g1, g2⟩ := sim_step hB (h.restate h0) h1
    obtain ⟨a₂, w₂, la₂, mu₂, g3, g4⟩ := sim_opsR hB l σ₁ σ' a₁ w₁ la₁ mu₁ g1 h2
    exact ⟨a₂, w₂, la₂, mu₂, g3, fun b k cs => (g2 b l k cs).trans (g4 b k cs)⟩

theorem sim_ops {B : Below} (hB : BOk C B) {pts : List Nat} {ops : Array Oper} : ∀ (l : List Nat) (σ σ' : St) (a : Act) (w : World) (la : LMap) (mu : HMap), FI C base H₀ mu₀ w₀ la mu σ a w → opsRel C B pts ops l σ σ' →
    ∃ a' w' la' mu', FI C base H₀ mu₀ w₀ la' mu' σ' a' w' ∧
      ∀ (b : Frame) k cs, Steps C.P (lone (b.atR a (.inRegion ops l :: k)) cs w) (lone (b.atR a' k) cs w')
  | [], σ, σ', a, w, la, mu, h, hs => by
    cases hs
    exact ⟨a, w, la, mu, h, fun b k cs => .one stepR_region_end⟩
  | i :: l, σ, σ', a, w, la, mu, h, hs => by
    obtain ⟨σ₁, h1, h2⟩ := hs
    obtain ⟨a₁, w₁, la₁, mu₁, g1, g2⟩ := sim_step hB h h1
    obtain ⟨a₂, w₂, la₂, mu₂, g3, g4⟩ := sim_ops hB l σ₁ σ' a₁ w₁ la₁ mu₁ g1 h2
    exact ⟨a₂, w₂, la₂, mu₂, g3, fun b k cs => (g2 b l k cs).trans (g4 b k cs)⟩

end
end
end Go.Am
