/-
  THE OPERATIONS, ONE BY ONE: what each effect comes to; loads, stores, new variables.
-/
import Derived.Test.YtdngmncaohgacaaDoorAm5c
set_option linter.unusedSectionVars false
set_option linter.unusedSimpArgs false
set_option linter.unusedVariables false
set_option linter.constructorNameAsVariable false
namespace Go.Am

section
variable [Val]

/-- A step on the heap. -/
def HOk (C : Cfg) (base : Nat) (mu : HMap) (H : List HObj) (w : World) (s : Sem Next) (H' : List HObj) (v : Value) : Prop :=
  ∃ nx v' w' mu', s.run C.P w = .ok nx w' ∧ (nx = .value v' ∨ (nx = .skip ∧ v' = undef)) ∧ VR noL mu' v v' ∧ WR C base mu' H' w' ∧ Evo H mu w H' mu' w'

def EffOk (C : Cfg) (base : Nat) (la : LMap) (mu : HMap) (σ : St) (w : World) (s : Sem Next) : Eff → Prop
  | .val v => ValOk C.P la mu s w v
  | .lnew _ vs => ∃ cells e, s.run C.P w = .ok (.value (.pointer (some ⟨w.heap.size, 0, none⟩))) (w.alloc (.cells cells e)) ∧ VRs noL mu vs cells.toList ∧ vs.all cellOk = true
  | .lget k f => ∀ vs v, σ.loc[k]? = some (some vs) → f vs = some v → ValOk C.P la mu s w v
  | .lset k f => ∀ vs vs', σ.loc[k]? = some (some vs) → f vs = some vs' → ∃ b c cs e, la k = some b ∧ w.heap[b]? = some (.cells c e (0, 0)) ∧ s.run C.P w = .ok .skip (w.setRow b cs) ∧ VRs noL mu vs' cs.toList ∧ vs'.all cellOk = true
  | .hget f => ∀ v, f σ.heap = some v → ValOk C.P la mu s w v
  | .hop f => ∀ H' v, f σ.heap = some (H', v) → HOk C base mu σ.heap w s H' v
  | .call f args => ∃ args' : Array Value, VRs noL mu args args'.toList ∧ s.run C.P w = (callFunc f args').run C.P w
  | .yield l args => ∃ p args', mu l = some p ∧ VRs noL mu args (args' : Array Value).toList ∧ s.run C.P w = (Instr.yield p.b args').run C.P w

section
variable {C : Cfg} {base : Nat} {la : LMap} {mu : HMap} {σ : St} {a : Act} {w : World}

theorem heapPtr_ok {v c : Value} {p : Nat × Nat} (hp : heapPtr v = some p) (h : VR la mu v c) : ∃ q, mu p.1 = some q ∧ c = .pointer (some ⟨q.b, q.o + p.2, none⟩) := by
  unfold heapPtr at hp
  split at hp
  · rename_i a
    split at hp
    · rename_i hs
      cases hp
      cases h with
      | scalar h => simp [Am.scalar] at h
      | lptr h => simp at hs
      | hptr h => exact ⟨_, h, rfl⟩
      | gptr => simp at hs
    · cases hp
  · cases hp

theorem globPtr_ok {v c : Value} {p : Nat × Nat} (hp : globPtr v = some p) (h : VR la mu v c) : c = .pointer (some ⟨p.1, p.2, none⟩) := by
  unfold globPtr at hp
  split at hp
  · rename_i a
    split at hp
    · rename_i hs
      cases hp
      cases h with
      | scalar h => simp [Am.scalar] at h
      | lptr h => simp at hs
      | hptr h => simp at hs
      | gptr => rfl
    · cases hp
  · cases hp

theorem locPtr_ok {v c : Value} {s off : Nat} (hp : locPtr s v = some off) (h : VR la mu v c) : ∃ b, la s = some b ∧ c = .pointer (some ⟨b, off, none⟩) := by
  unfold locPtr at hp
  split at hp
  · rename_i a
    split at hp
    · rename_i hs
      cases hp
      obtain ⟨h1, rfl⟩ := hs
      cases h with
      | scalar h => simp [Am.scalar] at h
      | lptr h => exact ⟨_, h, rfl⟩
      | hptr h => simp at h1
      | gptr => simp at h1
    · cases hp
  · cases hp

theorem hcells_ok (hw : WR C base mu σ.heap w) {id : Nat} {vs : List Value} (h : hcells σ.heap id = some vs) {p : Pl} (hp : mu id = some p) :
    ∃ c e fr, w.heap[p.b]? = some (.cells c e fr) ∧ CellsR mu vs c p.o := by
  unfold hcells at h
  split at h
  · rename_i vs' esz rw_ hid
    cases h
    obtain ⟨q, hq, hr⟩ := hw.obj id _ hid rfl
    obtain rfl : p = q := by rw [hp] at hq; exact Option.some.inj hq
    obtain ⟨_, _, _, c, e, fr, h1, _, _, h2⟩ := hr
    exact ⟨c, e, fr, h1, h2⟩
  · cases h

theorem glob_ok (hw : WR C base mu σ.heap w) {g : Nat} {vs : List Value} (h : C.G g = some vs) : ∃ c e fr, w.heap[g]? = some (.cells c e fr) ∧ CellsR mu vs c 0 := by
  obtain ⟨_, _, c, e, fr, h1, h2⟩ := hw.glob g vs h
  exact ⟨c, e, fr, h1, .of_list h2⟩

theorem loc_ok (h : SR C base la mu σ a.tmps w) {s b : Nat} {vs : List Value} (hs : σ.loc[s]? = some (some vs)) (hb : la s = some b) :
    ∃ c e, w.heap[b]? = some (.cells c e (0, 0)) ∧ VRs noL mu vs c.toList ∧ vs.all cellOk = true := by
  obtain ⟨b', c, e, h1, h2, h3, h4, h5, h6⟩ := h.loc s vs hs
  obtain rfl : b = b' := by rw [hb] at h1; exact Option.some.inj h1
  exact ⟨c, e, h3, h5, h4⟩

theorem run_loadAt {c : Value} {t : TypeId} {d : Addr} {v' : Value} (hc : c = .pointer (some d)) (h : (loadVar t d).run C.P w = .ok v' w) : (Instr.loadAt t c).run C.P w = .ok v' w := by
  subst hc; simp [Instr.loadAt, Instr.sureAddr, h]

theorem loadEff_ok (h : SR C base la mu σ a.tmps w) {pts : List Nat} {t : TypeId} {x : Operand} {e : Eff} (he : loadEff C pts t x (oval σ.tmps x) = some e) :
    EffOk C base la mu σ w (do pure (.value (← Instr.loadAt t (a.eval x)))) e := by
  have hx := eval_ok h x
  unfold loadEff at he
  split at he
  · cases hp : heapPtr (oval σ.tmps x) with
    | none => rw [hp] at he; cases he
    | some p =>
      rw [hp] at he
      cases he
      obtain ⟨q, hq, hc⟩ := heapPtr_ok hp hx
      intro v hv
      simp only at hv
      cases hcl : hcells σ.heap p.1 with
      | none => rw [hcl] at hv; cases hv
      | some vs =>
        rw [hcl] at hv
        obtain ⟨c, e, fr, h1, h2⟩ := hcells_ok h.wr hcl hq
        obtain ⟨v', h3, h4⟩ := run_loadVar (C := C) h2 hv h1
        exact valOk_of (run_loadAt hc h3) h4.up
  · cases hp : globPtr (oval σ.tmps x) with
    | none => rw [hp] at he; cases he
    | some p =>
      rw [hp] at he
      have hc := globPtr_ok hp hx
      cases hg : C.G p.1 with
      | none => rw [Option.bind_some, hg] at he; cases he
      | some vs =>
        rw [Option.bind_some, hg, Option.bind_some] at he
        cases hv : readVar C.P t vs p.2 with
        | none => rw [hv] at he; cases he
        | some v =>
          rw [hv] at he
          cases he
          obtain ⟨c, e, fr, h1, h2⟩ := glob_ok h.wr hg
          obtain ⟨v', h3, h4⟩ := run_loadVar (C := C) h2 hv h1
          exact valOk_of (run_loadAt (by rw [hc, Nat.zero_add]) h3) h4.up
  · rename_i s _
    cases hp : locPtr s (oval σ.tmps x) with
    | none => rw [hp] at he; cases he
    | some off =>
      rw [hp] at he
      cases he
      obtain ⟨b, hb, hc⟩ := locPtr_ok hp hx
      intro vs v hs hv
      obtain ⟨c, e, h1, h2, _⟩ := loc_ok h hs hb
      obtain ⟨v', h3, h4⟩ := run_loadVar (C := C) (CellsR.of_list h2) hv h1
      exact valOk_of (run_loadAt (by rw [hc, Nat.zero_add]) h3) h4.up

theorem writeVar_parts {t : TypeId} {x : Value} {vs vs' : List Value} {off : Nat} (h : writeVar C.P t x vs off = some vs') :
    (x.cells.size = C.P.cellsOf t ∧ (C.P.info? t).isSome = true) ∧ x.cells.toList.all cellOk = true ∧ splice vs off x.cells.toList = some vs' := by
  unfold writeVar at h
  split at h
  · rename_i h1
    split at h
    · rename_i h2; exact ⟨h1, h2, h⟩
    · cases h
  · cases h

theorem run_storeAt {c y : Value} {t : TypeId} {d : Addr} {w' : World} (hc : c = .pointer (some d)) (h : (storeVar t d y).run C.P w = .ok () w') : (Instr.storeAt t c y).run C.P w = .ok () w' := by
  subst hc; simp [Instr.storeAt, Instr.sureAddr, h]

/-- A row of the abstract heap is written. -/
theorem WR.splice (hw : WR C base mu σ.heap w) {id : Nat} {vs vs' xs ys : List Value} {esz off : Nat} {p : Pl} (hid : σ.heap[id]? = some (.cells vs esz true)) (hp : mu id = some p)
    (hs : Am.splice vs off xs = some vs') (hx : VRs noL mu xs ys) (hok : xs.all cellOk = true) :
    ∃ c e, w.heap[p.b]? = some (.cells c e (0, 0)) ∧ p.o + off + ys.length ≤ c.size ∧
      WR C base mu (σ.heap.set id (.cells vs' esz true)) (w.setRow p.b (putCells c (p.o + off) ys)) ∧ Evo σ.heap mu w (σ.heap.set id (.cells vs' esz true)) mu (w.setRow p.b (putCells c (p.o + off) ys)) := by
  obtain ⟨q, hq, hr⟩ := hw.obj id _ hid rfl
  obtain rfl : p = q := by rw [hp] at hq; exact Option.some.inj hq
  obtain ⟨h1, h2, h3, c, e, fr, h4, h5, h6, h7⟩ := hr
  obtain rfl := h6 rfl
  have hl := splice_length hs
  have hxy := hx.1
  refine ⟨c, e, h4, by omega, ?_⟩
  refine hw.set hid rfl hp (setRow_heap_eq h4) rfl rfl rfl _ (fun _ => rfl) ?_
  exact ⟨h1, by omega, splice_all hs h3 hok, _, e, _, rfl, by rw [putCells_size (by omega)]; exact h5, fun _ => rfl, CellsR.splice h7 hs hx (by omega)⟩

theorem storeEff_ok (h : SR C base la mu σ a.tmps w) {pts : List Nat} {t : TypeId} {x z : Operand} {e : Eff} (he : storeEff C pts t x (oval σ.tmps x) (oval σ.tmps z) = some e) :
    EffOk C base la mu σ w (do Instr.storeAt t (a.eval x) (a.eval z); pure .skip) e := by
  have hx := eval_ok h x
  have hz := eval_ok h z
  unfold storeEff at he
  split at he
  · cases he
  · rename_i ht
    simp only [Bool.not_eq_true] at ht
    split at he
    · cases hp : heapPtr (oval σ.tmps x) with
      | none => rw [hp] at he; cases he
      | some p =>
        rw [hp] at he
        cases he
        obtain ⟨q, hq, hc⟩ := heapPtr_ok hp hx
        intro H' v hv
        unfold hstoreA at hv
        split at hv
        · rename_i vs esz hid
          cases hwr : writeVar C.P t (oval σ.tmps z) vs p.2 with
          | none => rw [hwr] at hv; cases hv
          | some vs' =>
            rw [hwr] at hv
            cases hv
            obtain ⟨h1, h2, h3⟩ := writeVar_parts hwr
            have hcs := hz.cells ht
            obtain ⟨c, e, h4, h5, h6, h7⟩ := h.wr.splice hid hq h3 (hcs.downc h2) h2
            have hst := run_storeVar (C := C) (at_ := q.o + p.2) ht hz h1 h2 h4 (by have := hcs.1; simp at this h5 ⊢; omega)
            refine ⟨.skip, undef, _, mu, ?_, .inr ⟨rfl, rfl⟩, .undef, h6, h7⟩
            simp [run_storeAt hc hst]
        · cases hv
    · cases he
    · rename_i s _
      cases hp : locPtr s (oval σ.tmps x) with
      | none => rw [hp] at he; cases he
      | some off =>
        rw [hp] at he
        cases he
        obtain ⟨b, hb, hc⟩ := locPtr_ok hp hx
        intro vs vs' hs hwr
        obtain ⟨h1, h2, h3⟩ := writeVar_parts hwr
        obtain ⟨c, e, h4, h5, h6⟩ := loc_ok h hs hb
        have hcs := hz.cells ht
        have hl := splice_length h3
        have hvc : vs.length = c.size := by simpa using h5.1
        have hcsl : (oval σ.tmps z).cells.size = (a.eval z).cells.size := by simpa using hcs.1
        have hst := run_storeVar (C := C) (at_ := off) ht hz h1 h2 h4 (by simp at hl; omega)
        refine ⟨b, c, putCells c off (a.eval z).cells.toList, e, hb, h4, by simp [run_storeAt hc hst], ?_, splice_all h3 h6 h2⟩
        have hsp := CellsR.splice (o := 0) (CellsR.of_list h5) h3 (hcs.downc h2) (by omega)
        rw [Nat.zero_add] at hsp
        have hsz : (putCells c off (a.eval z).cells.toList).size = c.size := putCells_size (by simp at hl ⊢; omega)
        refine ⟨by simp [hsz]; omega, fun i u y hu hy => ?_⟩
        obtain ⟨u', h8, h9⟩ := hsp i u hu
        rw [Nat.zero_add] at h8
        obtain rfl : u' = y := by rw [Array.getElem?_toList, h8] at hy; exact Option.some.inj hy
        exact h9

/-- A new variable. -/
theorem newVarEff_ok (h : SR C base la mu σ a.tmps w) (hb : base ≤ w.heap.size) {pts : List Nat} {dst : Option Tmp} {t : TypeId} {v c : Value} {e : Eff} (hv : VR la mu v c) (he : newVarEff C pts dst t v = some e) :
    EffOk C base la mu σ w (do pure (.value (← Instr.box t c))) e := by
  unfold newVarEff at he
  split at he
  · cases he
  · rename_i ht
    simp only [Bool.not_eq_true] at ht
    have hcs := hv.cells ht
    split at he
    · cases he
    · rename_i d
      split at he
      · cases he
      · rename_i hok
        simp only [Bool.not_eq_true, Bool.not_eq_false'] at hok
        split at he
        · cases he
          exact ⟨c.cells, t, by simp [Instr.box, newVar, newRow], hcs.downc hok, hok⟩
        · cases he
          intro H' u hu
          cases hu
          have hn := h.wr.new hb (w' := w.alloc (.cells c.cells t)) (x := .cells c.cells t) rfl rfl rfl rfl (.cells v.cells.toList (rowSize C.P t) true) ⟨w.heap.size, 0, c.cells.size, rowSize C.P t⟩ rfl (by
            have hl : v.cells.size = c.cells.size := by simpa using hcs.1
            refine ⟨rfl, by simp [hl], hok, c.cells, t, _, rfl, by simp, fun _ => rfl, fun i u hu => ?_⟩
            obtain ⟨u', h1, h2⟩ := (hcs.downc hok).get hu
            exact ⟨u', by simpa using h1, h2.mono (fun _ _ h => h) (upd_mono h.wr _)⟩) (fun _ => rfl)
          refine ⟨.value (.pointer (some ⟨w.heap.size, 0, none⟩)), _, _, _, by simp [Instr.box, newVar, newRow], .inl rfl, ?_, hn.1, hn.2⟩
          exact .hptr (upd_same _ _ _)

end
end
end Go.Am
