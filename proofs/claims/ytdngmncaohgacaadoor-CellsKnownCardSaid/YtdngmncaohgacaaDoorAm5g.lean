/-
  THE OPERATIONS, ONE BY ONE: copy, slices of arrays, maps.
-/
import Derived.Test.YtdngmncaohgacaaDoorAm5f
set_option linter.unusedSectionVars false
set_option linter.unusedSimpArgs false
set_option linter.unusedVariables false
set_option linter.constructorNameAsVariable false
namespace Go.Am

section
variable [Val]

section
variable {C : Cfg} {base : Nat} {la : LMap} {mu : HMap} {σ : St} {a : Act} {w : World}

theorem copyA_ok (h : SR C base la mu σ a.tmps w) {t ty : TypeId} {ats : Array TypeId} {d x : Operand} {H' : List HObj} {v : Value} (h0 : ats[0]? = some t)
    (hf : copyA C t (oval σ.tmps d) (oval σ.tmps x) σ.heap = some (H', v)) : HOk C base mu σ.heap w (do pure (.value (← Builtin.copy_ ats ty #[a.eval d, a.eval x]))) H' v := by
  have hd := eval_ok h d
  have hx := eval_ok h x
  unfold copyA at hf
  split at hf
  · rename_i elem hu hde
    rw [hde] at hd
    have hdv := scalar_eq (a := .slice none 0 0) rfl hd
    split at hf
    · cases hf
    · rename_i hsz
      obtain ⟨i, hi⟩ := cellsOf_info hsz
      cases hcv : cellsOfVal C σ.heap (C.P.cellsOf elem) (oval σ.tmps x) with
      | none => rw [hcv] at hf; cases hf
      | some p =>
        rw [hcv] at hf
        cases hf
        obtain ⟨new, n⟩ := p
        obtain ⟨ys, c1, c2, c3, c4, c5⟩ := cellsOfVal_ok h.wr hx hcv 0 w rfl
        have hfc := c5 (by omega)
        refine ⟨.value (.int .i64 0), _, w, mu, ?_, .inl rfl, .scalar rfl, h.wr, .refl _ _ _⟩
        simp at hfc
        simp [Builtin.copy_, h0, run_underlying hu, hdv, c1, run_sizeOf hi, hfc, goInt]
  · rename_i elem ad dlen cx hu hde
    rw [hde] at hd
    split at hf
    · cases hf
    · rename_i hsz
      obtain ⟨i, hi⟩ := cellsOf_info hsz
      split at hf
      · cases hf
      · rename_i hsp
        simp only [ne_eq, Classical.not_not] at hsp
        split at hf
        · rename_i new n vs esz hcv hid
          split at hf
          · cases hf
          · rename_i he
            simp only [ne_eq, Classical.not_not] at he
            subst he
            obtain ⟨ys, c1, c2, c3, c4, c5⟩ := cellsOfVal_ok h.wr hx hcv (Nat.min n dlen) w rfl
            have hfc := c5 (Nat.min_le_left _ _)
            cases hspl : splice vs ad.off (new.take (Nat.min n dlen * C.P.cellsOf elem)) with
            | none => rw [hspl] at hf; cases hf
            | some vs' =>
              rw [hspl] at hf
              cases hf
              obtain ⟨q, hq, hr⟩ := h.wr.obj _ _ hid rfl
              have hq1 := hr.1
              have c4' : (new.take (Nat.min n dlen * C.P.cellsOf elem)).all cellOk = true := List.all_eq_true.2 fun y hy => List.all_eq_true.1 c4 y (List.mem_of_mem_take hy)
              obtain ⟨c, e, g1, g2, g3, g4⟩ := h.wr.splice hid hq hspl (c3.take _) c4'
              have hdv : (∃ cap, a.eval d = .slice (some ⟨q.b, q.o + ad.off, none⟩) dlen cap) ∨ (∃ a', a.eval d = .slice (some a') 0 0 ∧ dlen = 0) := by
                generalize a.eval d = sv at hd
                cases hd with
                | scalar h => simp [Am.scalar] at h
                | @hslice _ _ _ cap _ p hm hr hl hxx =>
                  obtain rfl : p = q := by rw [hm] at hq; exact Option.some.inj hq
                  exact .inl ⟨cap, rfl⟩
                | hslice0 hxx => exact .inr ⟨_, rfl, rfl⟩
                | gslice hl => simp [tag] at hsp
                | gslice0 => simp [tag] at hsp
              rcases hdv with ⟨cap, hev⟩ | ⟨a', hev, rfl⟩
              · have hst := run_storeCells_put (C := C) (at_ := q.o + ad.off) (ys := ys.take (Nat.min n dlen * C.P.cellsOf elem)) g1 g2 (one_of_cellOk (c3.take _) c4')
                refine ⟨.value (.int .i64 (Nat.min n dlen)), _, _, mu, ?_, .inl rfl, .scalar rfl, g3, g4⟩
                rw [hev]
                simp [Builtin.copy_, h0, run_underlying hu, c1, run_sizeOf hi, hfc, hst, goInt]
              · have hmin : Nat.min n 0 = 0 := Nat.min_eq_right (Nat.zero_le _)
                rw [hmin] at hspl hfc ⊢
                simp at hspl hfc
                have hvv : vs' = vs := by
                  unfold Am.splice at hspl
                  split at hspl
                  · cases hspl; simp
                  · cases hspl
                subst hvv
                have hset : σ.heap.set ad.block (.cells vs' (C.P.cellsOf elem) true) = σ.heap := by
                  apply List.ext_getElem?
                  intro k
                  rw [List.getElem?_set]
                  split
                  · rename_i hk; subst hk
                    split
                    · rw [hid]
                    · rename_i hlt; rw [List.getElem?_eq_none (by omega)]
                  · rfl
                rw [hset]
                refine ⟨.value (.int .i64 0), _, w, mu, ?_, .inl rfl, .scalar rfl, h.wr, .refl _ _ _⟩
                rw [hev]
                simp [Builtin.copy_, h0, run_underlying hu, c1, run_sizeOf hi, hfc, storeCells, goInt]
        · cases hf
  · cases hf

/-! ### Slices of arrays -/

theorem arrBounds_ok {n : Nat} {lo hi mx lo' hi' mx' : Option Value} {r : Nat × Nat × Nat} (hf : arrBounds n lo hi mx = some r) (hlo : ORel la mu lo lo') (hhi : ORel la mu hi hi') (hmx : ORel la mu mx mx') :
    (Instr.sliceBounds false n n lo' hi' mx').run C.P w = .ok r w ∧ r.1 ≤ r.2.1 ∧ r.2.1 ≤ r.2.2 ∧ r.2.2 ≤ n := by
  unfold arrBounds at hf
  split at hf
  · rename_i lo0 hi0 mx0 e1 e2 e3
    simp only at hf
    split at hf
    · rename_i hb
      obtain ⟨b1, b2, b3, b4, b5⟩ := hb
      cases hf
      refine ⟨?_, by simp only; omega, by simp only; omega, by simp only; omega⟩
      exact run_bounds (boundOf_ok e1 hlo) (boundOf_ok e2 hhi) (boundOf_ok e3 hmx) b1 b2 b3 b4 b5 w
    · cases hf
  · cases hf

theorem run_sliceAt_arr {t elem : TypeId} {n l h m : Nat} {lo hi mx : Option Value} {d : Addr} {i : TypeInfo} (hu : C.P.underlying t = some (.array n elem)) (hi' : C.P.info? elem = some i)
    (hb : (Instr.sliceBounds false n n lo hi mx).run C.P w = .ok (l, h, m) w) :
    (Instr.sliceAt t (.pointer (some d)) lo hi mx).run C.P w = .ok (.slice (some (if m = l then d else d.add (l * C.P.cellsOf elem))) (h - l) (m - l)) w := by
  simp only [Instr.sliceAt, Instr.sureAddr, Sem.run_bind, run_underlying hu, Result.andThen_ok]
  simp [hb, run_sizeOf hi']

theorem sliceArr_ok (hw : WR C base mu σ.heap w) {t : TypeId} {ad : Addr} {y v : Value} {lo hi mx lo' hi' mx' : Option Value} {H : List HObj} (hH : ad.spot = some 1 ∨ H = σ.heap) (hf : sliceArr C t ad lo hi mx H = some v) (h : VR la mu (.pointer (some ad)) y)
    (hlo : ORel la mu lo lo') (hhi : ORel la mu hi hi') (hmx : ORel la mu mx mx') : ∃ v', (Instr.sliceAt t y lo' hi' mx').run C.P w = .ok v' w ∧ VR la mu v v' := by
  unfold sliceArr at hf
  split at hf
  · rename_i n elem hu
    split at hf
    · cases hf
    · rename_i hsz
      obtain ⟨i, hi0⟩ := cellsOf_info hsz
      split at hf
      · cases hf
      · rename_i l hh m hb
        obtain ⟨r1, r2, r3, r4⟩ := arrBounds_ok (C := C) (w := w) hb hlo hhi hmx
        simp only at r2 r3 r4
        split at hf
        · rename_i hsp
          cases hf
          cases h with
          | scalar h => simp [Am.scalar] at h
          | lptr h => simp at hsp
          | hptr h => simp at hsp
          | gptr =>
            rename_i g off
            refine ⟨_, run_sliceAt_arr hu hi0 r1, ?_⟩
            split
            · rename_i hm
              subst hm
              have : hh - m = 0 := by omega
              rw [this, Nat.sub_self]
              exact .gslice0
            · rw [add_none]
              exact .gslice (by omega)
        · rename_i hsp1
          split at hf
          · rename_i hsp
            split at hf
            · rename_i vs e rw0 hid
              split at hf
              · rename_i hc
                cases hf
                obtain ⟨rfl, hroom⟩ := hc
                have hH' : H = σ.heap := hH.resolve_left hsp1
                subst hH'
                obtain ⟨q, hq, hr⟩ := hw.obj _ _ hid rfl
                obtain ⟨o1, o2, _⟩ := hr
                cases h with
                | scalar h => simp [Am.scalar] at h
                | lptr h => simp at hsp
                | @hptr id off p h =>
                  obtain rfl : p = q := by rw [h] at hq; exact Option.some.inj hq
                  refine ⟨_, run_sliceAt_arr hu hi0 r1, ?_⟩
                  split
                  · rename_i hm
                    subst hm
                    have : hh - m = 0 := by omega
                    rw [this, Nat.sub_self]
                    exact .hslice0 (by omega)
                  · rw [add_none, Nat.add_assoc, ← o1]
                    refine .hslice h ?_ (by omega) (.inr rfl)
                    have : (l + (m - l)) * p.esz ≤ n * p.esz := Nat.mul_le_mul_right _ (by omega)
                    rw [Nat.add_mul] at this
                    rw [← o1] at hroom
                    simp only at hroom
                    show off + l * p.esz + _ ≤ p.room
                    omega
                | gptr => simp at hsp
              · cases hf
            · cases hf
          · cases hf
  · cases hf

/-! ### Maps -/

theorem pev_bind {α β : Type} {P : Program} {x : Sem α} {f : α → Sem β} {b : β} (h : pev P (x >>= f) = some b) : ∃ a, pev P x = some a ∧ pev P (f a) = some b := by
  induction x with
  | pure a => exact ⟨a, rfl, h⟩
  | program k ih => exact ih P h
  | _ => cases h

theorem findAsking_keys {P : Program} {kt : TypeId} {k : Value} : ∀ (es fs : List MapEntry) (i : Nat) (r : Option (Nat × Value)), es.map (·.key) = fs.map (·.key) → pev P (Instr.findAsking kt k es i) = some r →
    (∀ w, (Instr.findAsking kt k fs i).run P w = .ok (r.map fun p => (p.1, (fs.getD (p.1 - i) default).val)) w) ∧ ∀ p, r = some p → i ≤ p.1 ∧ p.1 < i + es.length
  | [], fs, i, r, hk, h => by
    have : fs = [] := by cases fs <;> simp_all
    subst this
    simp [Instr.findAsking, pev, Pure.pure] at h
    subst h
    exact ⟨fun w => by simp [Instr.findAsking], fun p hp => by cases hp⟩
  | e :: es, fs, i, r, hk, h => by
    cases fs with
    | nil => simp at hk
    | cons f fs =>
      simp only [List.map_cons, List.cons.injEq] at hk
      unfold Instr.findAsking at h
      obtain ⟨b, h1, h2⟩ := pev_bind h
      cases b with
      | true =>
        simp [pev, Pure.pure] at h2
        subst h2
        refine ⟨fun w => ?_, fun p hp => by cases hp; simp⟩
        have := pev_run h1 w
        rw [hk.1] at this
        simp [Instr.findAsking, this]
      | false =>
        simp only [Bool.false_eq_true, if_false] at h2
        obtain ⟨g1, g2⟩ := findAsking_keys es fs (i + 1) r hk.2 h2
        refine ⟨fun w => ?_, fun p hp => by have := g2 p hp; simp; omega⟩
        have := pev_run h1 w
        rw [hk.1] at this
        have e0 : (Instr.findAsking kt k (f :: fs) i).run P w = (Instr.findAsking kt k fs (i + 1)).run P w := by
          simp [Instr.findAsking, this]
        rw [e0, g1 w]
        cases r with
        | none => rfl
        | some p =>
          have := (g2 p rfl).1
          simp only [Option.map_some]
          rw [show p.1 - i = (p.1 - (i + 1)) + 1 by omega]
          rfl

theorem findNow_keys {kind : TypeDesc} {k : Value} : ∀ (es fs : List MapEntry) (i : Nat), es.map (·.key) = fs.map (·.key) →
    Instr.findNow kind k fs i = (Instr.findNow kind k es i).map fun r => r.map fun p => (p.1, (fs.getD (p.1 - i) default).val)
  | [], fs, i, hk => by
    have : fs = [] := by cases fs <;> simp_all
    subst this; rfl
  | e :: es, fs, i, hk => by
    cases fs with
    | nil => simp at hk
    | cons f fs =>
      simp only [List.map_cons, List.cons.injEq] at hk
      unfold Instr.findNow
      rw [hk.1]
      cases hs : Instr.sameNow kind k f.key with
      | none => rfl
      | some b =>
        cases b with
        | true => simp
        | false =>
          simp only
          rw [findNow_keys es fs (i + 1) hk.2]
          have hge : ∀ (l : List MapEntry) (j : Nat) (p : Nat × Value), Instr.findNow kind k l j = some (some p) → j ≤ p.1 := by
            intro l
            induction l with
            | nil => intro j p h; simp [Instr.findNow] at h
            | cons x l ih =>
              intro j p h
              unfold Instr.findNow at h
              split at h
              · cases h; exact Nat.le_refl _
              · have := ih (j + 1) p h; omega
              · cases h
          cases hr : Instr.findNow kind k es (i + 1) with
          | none => rfl
          | some r =>
            cases r with
            | none => rfl
            | some p =>
              have := hge _ _ _ hr
              simp only [Option.map_some]
              rw [show p.1 - i = (p.1 - (i + 1)) + 1 by omega]
              rfl

theorem findNow_lt {kind : TypeDesc} {k : Value} : ∀ (es : List MapEntry) (i : Nat) (p : Nat × Value), Instr.findNow kind k es i = some (some p) → i ≤ p.1 ∧ p.1 < i + es.length
  | [], i, p, h => by simp [Instr.findNow] at h
  | e :: es, i, p, h => by
    unfold Instr.findNow at h
    split at h
    · cases h; simp
    · have := findNow_lt es (i + 1) p h; simp; omega
    · cases h

theorem findA_ok {kt : TypeId} {k : Value} {es : List MapEntry} {fs : List MapEntry} {r : Option Nat} (hk : es.map (·.key) = fs.map (·.key)) (h : findA C.P kt k es = some r) :
    (∀ w, (Instr.findKey kt k fs).run C.P w = .ok (r.map fun i => (i, (fs.getD i default).val)) w) ∧ ∀ i, r = some i → i < es.length := by
  unfold findA at h
  have hk' : (es.map bareEntry).map (·.key) = fs.map (·.key) := by rw [List.map_map, ← hk]; rfl
  cases hp : pev C.P (Instr.findKey kt k (es.map bareEntry)) with
  | none => rw [hp] at h; cases h
  | some r0 =>
    rw [hp] at h
    cases h
    unfold Instr.findKey at hp
    obtain ⟨d, h1, h2⟩ := pev_bind hp
    cases hn : Instr.findNow d k (es.map bareEntry) 0 with
    | none =>
      rw [hn] at h2
      simp only at h2
      obtain ⟨g1, g2⟩ := findAsking_keys (es.map bareEntry) fs 0 r0 hk' h2
      refine ⟨fun w => ?_, fun i hi => ?_⟩
      · have hn' := findNow_keys (kind := d) (k := k) (es.map bareEntry) fs 0 hk'
        rw [hn] at hn'
        simp only [Instr.findKey, Sem.run_bind, pev_run h1 w, Result.andThen_ok, hn', Option.map_none, g1 w]
        cases r0 <;> simp
      · cases r0 with
        | none => cases hi
        | some p =>
          cases hi
          have := (g2 p rfl).2
          simpa using this
    | some r1 =>
      rw [hn] at h2
      simp [pev, Pure.pure] at h2
      subst h2
      refine ⟨fun w => ?_, fun i hi => ?_⟩
      · have hn' := findNow_keys (kind := d) (k := k) (es.map bareEntry) fs 0 hk'
        rw [hn] at hn'
        simp only [Instr.findKey, Sem.run_bind, pev_run h1 w, Result.andThen_ok, hn', Option.map_some, Sem.run_pure]
        cases r1 <;> simp
      · cases r1 with
        | none => cases hi
        | some p =>
          cases hi
          have := (findNow_lt _ _ _ hn).2
          simpa using this

/-- A map of the abstract heap, in the world. -/
theorem hmap_ok (hw : WR C base mu σ.heap w) {id : Nat} {es : List MapEntry} {c : Nat} (h : hmap σ.heap id = some (es, c)) {p : Pl} (hp : mu id = some p) :
    ∃ es', w.heap[p.b]? = some (.map es' c) ∧ es'.size = es.length ∧ ∀ (i : Nat) e, es[i]? = some e → ∃ e', es'[i]? = some e' ∧ entryR mu e e' := by
  unfold hmap at h
  split at h
  · rename_i es0 c0 hid
    cases h
    obtain ⟨q, hq, hr⟩ := hw.obj id _ hid rfl
    obtain rfl : p = q := by rw [hp] at hq; exact Option.some.inj hq
    exact hr
  · cases h

theorem hmap_get {id : Nat} {es : List MapEntry} {c : Nat} (h : hmap σ.heap id = some (es, c)) : σ.heap[id]? = some (.map es c) := by
  unfold hmap at h
  split at h
  · rename_i es0 c0 hid; cases h; exact hid
  · cases h

theorem map_keys {es : List MapEntry} {es' : Array MapEntry} (hs : es'.size = es.length) (hr : ∀ (i : Nat) e, es[i]? = some e → ∃ e', es'[i]? = some e' ∧ entryR mu e e') : es.map (·.key) = es'.toList.map (·.key) := by
  apply List.ext_getElem?
  intro i
  rw [List.getElem?_map, List.getElem?_map]
  cases he : es[i]? with
  | none =>
    have : es'.toList[i]? = none := by
      rw [List.getElem?_eq_none_iff] at he ⊢
      simp only [Array.length_toList]; omega
    rw [this, Option.map_none]
  | some e =>
    obtain ⟨e', h1, h2⟩ := hr i e he
    rw [show es'.toList[i]? = some e' by simpa using h1]
    simp [h2.1]

theorem keyOk_run {kt : TypeId} {k : Value} (h : keyOk C.P kt k = true) (b : Bool) (w : World) : (Instr.checkKey b 10000 kt k).run C.P w = .ok () w := by
  simp only [keyOk, Bool.and_eq_true] at h
  cases b with
  | true =>
    obtain ⟨u, hu⟩ := Option.isSome_iff_exists.1 h.1.2
    exact pev_run hu w
  | false =>
    obtain ⟨u, hu⟩ := Option.isSome_iff_exists.1 h.2
    exact pev_run hu w

theorem keyOk_underlying {kt : TypeId} {k : Value} (h : keyOk C.P kt k = true) : ∃ d, C.P.underlying kt = some d := by
  simp only [keyOk, Bool.and_eq_true] at h
  obtain ⟨u, hu⟩ := Option.isSome_iff_exists.1 h.2
  have hu' : pev C.P (Instr.checkKey false (9999 + 1) kt k) = some u := hu
  unfold Instr.checkKey at hu'
  obtain ⟨d, h1, _⟩ := pev_bind hu'
  cases hd : C.P.underlying kt with
  | some d => exact ⟨d, rfl⟩
  | none =>
    unfold underlying at h1
    obtain ⟨p, h2, h3⟩ := pev_bind h1
    have : p = C.P := by simp [pev, program] at h2; exact h2.symm
    subst this
    rw [hd] at h3
    cases h3

theorem keyOk_flat {kt : TypeId} {k : Value} (h : keyOk C.P kt k = true) : flat1 k = true := by
  simp only [keyOk, Bool.and_eq_true] at h
  exact h.1.1

theorem run_getObj_map {r : Nat} {es : Array MapEntry} {c : Nat} (h : w.heap[r]? = some (.map es c)) : (getObj r).run C.P w = .ok (.map es c) w := by
  simp [getObj, Sem.run, h]
theorem run_setObj_map {r : Nat} {es : Array MapEntry} {c : Nat} {o : Obj} (h : w.heap[r]? = some (.map es c)) : (setObj r o).run C.P w = .ok () { w with heap := w.heap.setIfInBounds r o } := by
  simp [setObj, Sem.run, h]

theorem VR.map_inv {id : Nat} {c : Value} (h : VR la mu (.map (some id)) c) : ∃ p, mu id = some p ∧ c = .map (some p.b) := by
  cases h with
  | scalar h => simp [Am.scalar] at h
  | map h => exact ⟨_, h, rfl⟩

theorem zero_run {t : TypeId} {z : Value} (h : zeroOf C.P t = some z) (w : World) : (zeroValue t).run C.P w = .ok z w := by
  obtain ⟨i, h1, h2, _⟩ := zeroOf_info h
  simp [zeroValue, typeInfo, h1, h2]

theorem lookupA_ok (hw : WR C base mu σ.heap w) {t : TypeId} {m m' k k' v : Value} {ok : Bool} {H : List HObj} (hH : m = .map none ∨ H = σ.heap) (hm : VR la mu m m') (hk : VR la mu k k') (hf : lookupA C t m k ok H = some v) :
    ∃ v', (Instr.lookup t m' k' ok).run C.P w = .ok v' w ∧ VR la mu v v' := by
  unfold lookupA at hf
  split at hf
  · rename_i kt et hu
    split at hf
    · cases hf
    · rename_i hko
      simp only [Bool.not_eq_true, Bool.not_eq_false'] at hko
      obtain rfl := flat1_eq (keyOk_flat hko) hk
      split at hf
      · cases hf
      · rename_i z hz
        have hzr := zero_run hz w
        have hzf := (zeroOf_ok hz).2.1
        obtain ⟨dk, hdk⟩ := keyOk_underlying hko
        split at hf
        · obtain rfl := scalar_eq (a := .map none) rfl hm
          cases hf
          cases ok with
          | true =>
            refine ⟨.tuple #[z, .bool false], ?_, VRs.tuple (.cons (.of_flat hzf) (.cons (.scalar rfl) .nil))⟩
            simp [Instr.lookup, run_underlying hu, keyOk_run hko, Instr.findKey, run_underlying hdk, Instr.findNow, hzr]
          | false =>
            refine ⟨z, ?_, .of_flat hzf⟩
            simp [Instr.lookup, run_underlying hu, keyOk_run hko, Instr.findKey, run_underlying hdk, Instr.findNow, hzr]
        · rename_i id
          have hH' : H = σ.heap := hH.resolve_left (by simp)
          subst hH'
          obtain ⟨p, hp, rfl⟩ := hm.map_inv
          split at hf
          · cases hf
          · rename_i es c hmap
            obtain ⟨es', h1, h2, h3⟩ := hmap_ok hw hmap hp
            have hkeys := map_keys h2 h3
            split at hf
            · cases hf
            · rename_i hfind
              obtain ⟨g1, g2⟩ := findA_ok (C := C) hkeys hfind
              cases hf
              cases ok with
              | true =>
                refine ⟨.tuple #[z, .bool false], ?_, VRs.tuple (.cons (.of_flat hzf) (.cons (.scalar rfl) .nil))⟩
                simp [Instr.lookup, run_underlying hu, run_getObj_map h1, keyOk_run hko, g1 w, hzr]
              | false =>
                refine ⟨z, ?_, .of_flat hzf⟩
                simp [Instr.lookup, run_underlying hu, run_getObj_map h1, keyOk_run hko, g1 w, hzr]
            · rename_i i hfind
              obtain ⟨g1, g2⟩ := findA_ok (C := C) hkeys hfind
              have hlt := g2 i rfl
              obtain ⟨e', h4, h5⟩ := h3 i es[i] (by simp [hlt])
              have hgd : (es'.toList.getD i default).val = e'.val := by
                rw [List.getD, show es'.toList[i]? = some e' by simpa using h4]; rfl
              have hev : entryVal es i = some es[i].val := by simp [entryVal, hlt]
              rw [hev] at hf
              cases hf
              cases ok with
              | true =>
                refine ⟨.tuple #[e'.val, .bool true], ?_, VRs.tuple (.cons h5.2.2.2.up (.cons (.scalar rfl) .nil))⟩
                simp [Instr.lookup, run_underlying hu, run_getObj_map h1, keyOk_run hko, g1 w, -List.getD_eq_getElem?_getD, hgd]
              | false =>
                refine ⟨e'.val, ?_, h5.2.2.2.up⟩
                simp [Instr.lookup, run_underlying hu, run_getObj_map h1, keyOk_run hko, g1 w, -List.getD_eq_getElem?_getD, hgd]
        · cases hf
  · cases hf

/-- A map is written. -/
theorem WR.setMap (hw : WR C base mu σ.heap w) {id : Nat} {es es1 : List MapEntry} {c c1 : Nat} {p : Pl} {es1' : Array MapEntry} (h : hmap σ.heap id = some (es, c)) (hp : mu id = some p)
    (hs : es1'.size = es1.length) (hr : ∀ (i : Nat) e, es1[i]? = some e → ∃ e', es1'[i]? = some e' ∧ entryR mu e e') :
    WR C base mu (σ.heap.set id (.map es1 c1)) { w with heap := w.heap.setIfInBounds p.b (.map es1' c1) } ∧ Evo σ.heap mu w (σ.heap.set id (.map es1 c1)) mu { w with heap := w.heap.setIfInBounds p.b (.map es1' c1) } :=
  hw.set (w' := { w with heap := w.heap.setIfInBounds p.b (.map es1' c1) }) (x := .map es1' c1) (hmap_get h) rfl hp rfl rfl rfl rfl (.map es1 c1) (fun _ => rfl) ⟨es1', rfl, hs, hr⟩

theorem entries_push {es : List MapEntry} {es' : Array MapEntry} {e e' : MapEntry} (hs : es'.size = es.length) (hr : ∀ (i : Nat) e, es[i]? = some e → ∃ e', es'[i]? = some e' ∧ entryR mu e e') (he : entryR mu e e') :
    (es'.push e').size = (es ++ [e]).length ∧ ∀ (i : Nat) x, (es ++ [e])[i]? = some x → ∃ x', (es'.push e')[i]? = some x' ∧ entryR mu x x' := by
  refine ⟨by simp [hs], fun i x hx => ?_⟩
  rcases get_append_one hx with ⟨hi, hx⟩ | ⟨rfl, rfl⟩
  · obtain ⟨x', h1, h2⟩ := hr i x hx
    exact ⟨x', by rw [Array.getElem?_push, if_neg (by omega)]; exact h1, h2⟩
  · exact ⟨e', by rw [Array.getElem?_push, if_pos hs.symm], he⟩

theorem entries_modify {es : List MapEntry} {es' : Array MapEntry} {j : Nat} {f f' : MapEntry → MapEntry} (hs : es'.size = es.length) (hr : ∀ (i : Nat) e, es[i]? = some e → ∃ e', es'[i]? = some e' ∧ entryR mu e e')
    (hf : ∀ e e', es[j]? = some e → entryR mu e e' → entryR mu (f e) (f' e')) :
    (es'.modify j f').size = (es.modify j f).length ∧ ∀ (i : Nat) x, (es.modify j f)[i]? = some x → ∃ x', (es'.modify j f')[i]? = some x' ∧ entryR mu x x' := by
  refine ⟨by simp [hs], fun i x hx => ?_⟩
  rw [List.getElem?_modify] at hx
  cases he : es[i]? with
  | none => rw [he] at hx; cases hx
  | some e =>
    rw [he] at hx
    obtain ⟨e', h1, h2⟩ := hr i e he
    simp only [Option.map_eq_map, Option.map_some, Option.some.injEq] at hx
    refine ⟨if j = i then f' e' else e', by rw [Array.getElem?_modify]; split <;> simp_all, ?_⟩
    subst hx
    split
    · rename_i hji; subst hji; exact hf e e' he h2
    · exact h2

end
end
end Go.Am
