/-
  THE OPERATIONS, ONE BY ONE: writing into maps; the master theorem: every effect is what the operation does.
-/
import Derived.Test.YtdngmncaohgacaaDoorAm5g
set_option linter.unusedSectionVars false
set_option linter.unusedSimpArgs false
set_option linter.unusedVariables false
set_option linter.constructorNameAsVariable false
namespace Go.Am

section
variable [Val]

section
variable {C : Cfg} {base : Nat} {la : LMap} {mu : HMap} {σ : St} {a : Act} {w : World}

theorem hok_skip {s : Sem Unit} {w' : World} {H' : List HObj} (h : s.run C.P w = .ok () w') (hw : WR C base mu H' w') (he : Evo σ.heap mu w H' mu w') : HOk C base mu σ.heap w (do s; pure .skip) H' undef :=
  ⟨.skip, undef, w', mu, by simp [h], .inr ⟨rfl, rfl⟩, .undef, hw, he⟩

theorem mapUpdateA_ok (h : SR C base la mu σ a.tmps w) {t : TypeId} {m k x : Operand} {H' : List HObj} {v : Value} (hf : mapUpdateA C t (oval σ.tmps m) (oval σ.tmps k) (oval σ.tmps x) σ.heap = some (H', v)) :
    HOk C base mu σ.heap w (do Instr.mapUpdate t (a.eval m) (a.eval k) (a.eval x); pure .skip) H' v := by
  have hm := eval_ok h m
  have hk := eval_ok h k
  have hx := eval_ok h x
  unfold mapUpdateA at hf
  split at hf
  · rename_i kt et id hu hme
    rw [hme] at hm
    obtain ⟨p, hp, hmv⟩ := hm.map_inv
    split at hf
    · cases hf
    · rename_i hc
      simp only [Bool.not_eq_true, Bool.not_eq_false', Bool.and_eq_true] at hc
      obtain ⟨⟨hko, hnl⟩, _⟩ := hc
      have hkv := flat1_eq (keyOk_flat hko) hk
      have hxn := noLoc_down hnl hx
      split at hf
      · cases hf
      · rename_i es c hmap
        obtain ⟨es', h1, h2, h3⟩ := hmap_ok h.wr hmap hp
        have hkeys := map_keys h2 h3
        split at hf
        · cases hf
        · rename_i hfind
          obtain ⟨g1, g2⟩ := findA_ok (C := C) hkeys hfind
          cases hf
          obtain ⟨n1, n2⟩ := entries_push (e := { key := oval σ.tmps k, val := oval σ.tmps x, born := c }) (e' := { key := oval σ.tmps k, val := a.eval x, born := c }) h2 h3 ⟨rfl, keyOk_flat hko, rfl, hxn⟩
          obtain ⟨k1, k2⟩ := h.wr.setMap (c1 := c + 1) hmap hp n1 n2
          refine hok_skip ?_ k1 k2
          rw [hmv, hkv]
          simp [Instr.mapUpdate, run_underlying hu, run_getObj_map h1, keyOk_run hko, g1 w, run_setObj_map h1]
        · rename_i i hfind
          obtain ⟨g1, g2⟩ := findA_ok (C := C) hkeys hfind
          have hlt := g2 i rfl
          split at hf
          · rename_i hsb
            cases hf
            obtain ⟨e', h4, h5⟩ := h3 i es[i] (by simp [hlt])
            obtain ⟨n1, n2⟩ := entries_modify (j := i) (f := fun e => { e with key := oval σ.tmps k, val := oval σ.tmps x }) (f' := fun e => { e with key := oval σ.tmps k, val := a.eval x }) h2 h3 (fun e e' _ he => ⟨rfl, keyOk_flat hko, he.2.2.1, hxn⟩)
            obtain ⟨k1, k2⟩ := h.wr.setMap (c1 := c) hmap hp n1 n2
            refine hok_skip ?_ k1 k2
            have hsb' : Instr.sameBits 10000 e'.key (oval σ.tmps k) = true := by
              rw [h5.1]; simpa [hlt] using hsb
            rw [hmv, hkv]
            simp [Instr.mapUpdate, run_underlying hu, run_getObj_map h1, keyOk_run hko, g1 w, h4, Instr.keyThatStays, hsb', run_setObj_map h1]
          · cases hf
  · cases hf

theorem mapEntryA_ok (h : SR C base la mu σ a.tmps w) {t : TypeId} {m k : Operand} {H' : List HObj} {v : Value} (hf : mapEntryA C t (oval σ.tmps m) (oval σ.tmps k) σ.heap = some (H', v)) :
    HOk C base mu σ.heap w (do pure (.value (← Instr.mapEntry t (a.eval m) (a.eval k)))) H' v := by
  have hm := eval_ok h m
  have hk := eval_ok h k
  unfold mapEntryA at hf
  split at hf
  · rename_i kt et id hu hme
    rw [hme] at hm
    obtain ⟨p, hp, hmv⟩ := hm.map_inv
    split at hf
    · cases hf
    · rename_i hko
      simp only [Bool.not_eq_true, Bool.not_eq_false'] at hko
      have hkv := flat1_eq (keyOk_flat hko) hk
      split at hf
      · cases hf
      · rename_i es c hmap
        obtain ⟨es', h1, h2, h3⟩ := hmap_ok h.wr hmap hp
        have hkeys := map_keys h2 h3
        split at hf
        · cases hf
        · rename_i hfind
          obtain ⟨g1, g2⟩ := findA_ok (C := C) hkeys hfind
          split at hf
          · cases hf
          · rename_i z hz
            have hzr := zero_run hz w
            have hzf := (zeroOf_ok hz).2.1
            cases hf
            obtain ⟨n1, n2⟩ := entries_push (mu := mu) (e := { key := oval σ.tmps k, val := z, born := c }) (e' := { key := oval σ.tmps k, val := z, born := c }) h2 h3 ⟨rfl, keyOk_flat hko, rfl, .of_flat hzf⟩
            obtain ⟨k1, k2⟩ := h.wr.setMap (c1 := c + 1) hmap hp n1 n2
            refine ⟨.value (.tuple #[z, goInt c]), _, _, mu, ?_, .inl rfl, VRs.tuple (.cons (.of_flat hzf) (.cons (.scalar rfl) .nil)), k1, k2⟩
            rw [hmv, hkv]
            simp [Instr.mapEntry, run_underlying hu, run_getObj_map h1, keyOk_run hko, g1 w, hzr, run_setObj_map h1]
        · rename_i i hfind
          obtain ⟨g1, g2⟩ := findA_ok (C := C) hkeys hfind
          have hlt := g2 i rfl
          split at hf
          · cases hf
          · rename_i e hei
            split at hf
            · rename_i hsb
              cases hf
              obtain ⟨e', h4, h5⟩ := h3 i e hei
              have hgd : (es'.toList.getD i default).val = e'.val := by
                rw [List.getD, show es'.toList[i]? = some e' by simpa using h4]; rfl
              obtain ⟨n1, n2⟩ := entries_modify (j := i) (f := fun e => { e with key := oval σ.tmps k }) (f' := fun e => { e with key := oval σ.tmps k }) h2 h3 (fun e e' _ he => ⟨rfl, keyOk_flat hko, he.2.2.1, he.2.2.2⟩)
              obtain ⟨k1, k2⟩ := h.wr.setMap (c1 := c) hmap hp n1 n2
              have hsb' : Instr.sameBits 10000 e'.key (oval σ.tmps k) = true := by rw [h5.1]; exact hsb
              refine ⟨.value (.tuple #[e'.val, goInt e'.born]), _, _, mu, ?_, .inl rfl, VRs.tuple (.cons h5.2.2.2 (.cons (by rw [h5.2.2.1]; exact .scalar rfl) .nil)), k1, k2⟩
              rw [hmv, hkv]
              simp [Instr.mapEntry, run_underlying hu, run_getObj_map h1, keyOk_run hko, g1 w, h4, Instr.keyThatStays, hsb', run_setObj_map h1, -List.getD_eq_getElem?_getD, hgd]
            · cases hf
  · cases hf

theorem findIdx_born {es : List MapEntry} {es' : Array MapEntry} {b : Int} (hs : es'.size = es.length) (hr : ∀ (i : Nat) e, es[i]? = some e → ∃ e', es'[i]? = some e' ∧ entryR mu e e') :
    es'.findIdx? (fun e => (e.born : Int) == b) = es.findIdx? (fun e => (e.born : Int) == b) := by
  have h0 : es'.findIdx? (fun e => (e.born : Int) == b) = es'.toList.findIdx? (fun e => (e.born : Int) == b) := by
    obtain ⟨l, rfl⟩ : ∃ l : List MapEntry, es' = l.toArray := ⟨es'.toList, by simp⟩
    rw [List.findIdx?_toArray]
  rw [h0]
  have h1 : es'.toList.map (·.born) = es.map (·.born) := by
    apply List.ext_getElem?
    intro i
    rw [List.getElem?_map, List.getElem?_map]
    cases he : es[i]? with
    | none =>
      have : es'.toList[i]? = none := by
        rw [List.getElem?_eq_none_iff] at he ⊢
        simp only [Array.length_toList]; omega
      rw [this, Option.map_none]
    | some e =>
      obtain ⟨e', h1, h2⟩ := hr i e he
      rw [show es'.toList[i]? = some e' by simpa using h1]
      simp [h2.2.2.1]
  have h2 : ∀ (l l' : List MapEntry), l.map (·.born) = l'.map (·.born) → l.findIdx? (fun e => (e.born : Int) == b) = l'.findIdx? (fun e => (e.born : Int) == b) := by
    intro l
    induction l with
    | nil => intro l' h; cases l' <;> simp_all
    | cons x l ih =>
      intro l' h
      cases l' with
      | nil => simp at h
      | cons y l' =>
        simp only [List.map_cons, List.cons.injEq] at h
        rw [List.findIdx?_cons, List.findIdx?_cons, h.1, ih l' h.2]
  exact h2 _ _ h1

theorem entryStoreA_ok (h : SR C base la mu σ a.tmps w) {t : TypeId} {m s x : Operand} {H' : List HObj} {v : Value} (hf : entryStoreA (oval σ.tmps m) (oval σ.tmps s) (oval σ.tmps x) σ.heap = some (H', v)) :
    HOk C base mu σ.heap w (do Instr.entryStore t (a.eval m) (a.eval s) (a.eval x); pure .skip) H' v := by
  have hm := eval_ok h m
  have hs := eval_ok h s
  have hx := eval_ok h x
  unfold entryStoreA at hf
  split at hf
  · rename_i id b hme hsb
    rw [hme] at hm
    obtain ⟨p, hp, hmv⟩ := hm.map_inv
    obtain ⟨kk, hsv⟩ := intOf_ok hsb hs
    split at hf
    · cases hf
    · rename_i hc
      simp only [Bool.or_eq_true, not_or, Bool.not_eq_true, Bool.not_eq_false'] at hc
      have hxn := noLoc_down hc.1 hx
      split at hf
      · cases hf
      · rename_i es c hmap
        obtain ⟨es', h1, h2, h3⟩ := hmap_ok h.wr hmap hp
        split at hf
        · rename_i i hfi
          cases hf
          obtain ⟨n1, n2⟩ := entries_modify (j := i) (f := fun e => { e with val := oval σ.tmps x }) (f' := fun e => { e with val := a.eval x }) h2 h3 (fun e e' _ he => ⟨he.1, he.2.1, he.2.2.1, hxn⟩)
          obtain ⟨k1, k2⟩ := h.wr.setMap (c1 := c) hmap hp n1 n2
          refine hok_skip ?_ k1 k2
          rw [hmv, hsv]
          have hfi' := findIdx_born (b := b) h2 h3
          rw [hfi] at hfi'
          simp [Instr.entryStore, run_getObj_map h1, asInt, asIntOf, hfi', run_setObj_map h1]
        · cases hf
  · cases hf

theorem deleteA_ok (h : SR C base la mu σ a.tmps w) {t ty : TypeId} {ats : Array TypeId} {m k : Operand} {H' : List HObj} {v : Value} (h0 : ats[0]? = some t)
    (hf : deleteA C t (oval σ.tmps m) (oval σ.tmps k) σ.heap = some (H', v)) : HOk C base mu σ.heap w (do pure (.value (← Builtin.delete_ ats ty #[a.eval m, a.eval k]))) H' v := by
  have hm := eval_ok h m
  have hk := eval_ok h k
  unfold deleteA at hf
  split at hf
  · rename_i kt et hu
    split at hf
    · cases hf
    · rename_i hko
      simp only [Bool.not_eq_true, Bool.not_eq_false'] at hko
      have hkv := flat1_eq (keyOk_flat hko) hk
      split at hf
      · rename_i hme
        rw [hme] at hm
        have hmv := scalar_eq (a := .map none) rfl hm
        cases hf
        refine ⟨.value undef, _, w, mu, ?_, .inl rfl, .undef, h.wr, .refl _ _ _⟩
        rw [hmv, hkv]
        simp [Builtin.delete_, h0, run_underlying hu, keyOk_run hko, undef]
      · rename_i id hme
        rw [hme] at hm
        obtain ⟨p, hp, hmv⟩ := hm.map_inv
        split at hf
        · cases hf
        · rename_i es c hmap
          obtain ⟨es', h1, h2, h3⟩ := hmap_ok h.wr hmap hp
          have hkeys := map_keys h2 h3
          split at hf
          · cases hf
          · rename_i hfind
            obtain ⟨g1, g2⟩ := findA_ok (C := C) hkeys hfind
            cases hf
            obtain ⟨k1, k2⟩ := h.wr.setMap (c1 := c) hmap hp h2 h3
            have hset : σ.heap.set id (.map es c) = σ.heap := by
              apply List.ext_getElem?
              intro j
              rw [List.getElem?_set]
              split
              · rename_i hj; subst hj
                have := hmap_get hmap
                split
                · rw [this]
                · rename_i hlt; rw [List.getElem?_eq_none (by omega)]
              · rfl
            rw [hset] at k1 k2
            refine ⟨.value undef, _, _, mu, ?_, .inl rfl, .undef, k1, k2⟩
            rw [hmv, hkv]
            simp [Builtin.delete_, h0, run_underlying hu, run_getObj_map h1, keyOk_run hko, g1 w, run_setObj_map h1, undef]
          · rename_i i hfind
            obtain ⟨g1, g2⟩ := findA_ok (C := C) hkeys hfind
            have hlt := g2 i rfl
            cases hf
            have hlt' : i < es'.size := by omega
            have herase : es'.eraseIdxIfInBounds i = es'.eraseIdx i hlt' := by simp [Array.eraseIdxIfInBounds, hlt']
            obtain ⟨k1, k2⟩ := h.wr.setMap (es1 := es.eraseIdx i) (es1' := es'.eraseIdxIfInBounds i) (c1 := c) hmap hp (by rw [herase, Array.size_eraseIdx, List.length_eraseIdx, if_pos hlt, h2]) (by
              intro j e hj
              rw [List.getElem?_eraseIdx] at hj
              rw [herase, Array.getElem?_eraseIdx]
              split at hj
              · rename_i hji
                obtain ⟨e', q1, q2⟩ := h3 j e hj
                exact ⟨e', by rw [if_pos hji]; exact q1, q2⟩
              · rename_i hji
                obtain ⟨e', q1, q2⟩ := h3 (j + 1) e hj
                exact ⟨e', by rw [if_neg hji]; exact q1, q2⟩)
            refine ⟨.value undef, _, _, mu, ?_, .inl rfl, .undef, k1, k2⟩
            rw [hmv, hkv]
            simp [Builtin.delete_, h0, run_underlying hu, run_getObj_map h1, keyOk_run hko, g1 w, run_setObj_map h1, undef]
      · cases hf
  · cases hf

theorem makeMap_ok (h : SR C base la mu σ a.tmps w) (hb : base ≤ w.heap.size) {t : TypeId} {r : Option Operand}
    (hr : hintOk C t (r.map (oval σ.tmps)) = true) :
    HOk C base mu σ.heap w (do pure (.value (← Instr.makeMap t (r.map a.eval)))) (σ.heap ++ [.map [] 0]) (.map (some σ.heap.length)) := by
  have hn := h.wr.new hb (w' := w.alloc (.map #[] 0)) (x := .map #[] 0) rfl rfl rfl rfl (.map [] 0) ⟨w.heap.size, 0, 0, 0⟩ rfl ⟨#[], rfl, rfl, fun i e h => by simp at h⟩ (fun _ => rfl)
  refine ⟨.value (.map (some w.heap.size)), _, _, _, ?_, .inl rfl, .map (upd_same _ _ _), hn.1, hn.2⟩
  cases r with
  | none => simp [Instr.makeMap]
  | some x =>
    simp only [hintOk, Option.map_some, Bool.and_eq_true] at hr
    obtain ⟨n, hn'⟩ := Option.isSome_iff_exists.1 hr.1
    obtain ⟨k, hk⟩ := intOf_ok hn' (eval_ok h x)
    have hu : ∃ kt et, C.P.underlying t = some (.map kt et) := by
      have h2 := hr.2
      split at h2
      · rename_i kt et hu; exact ⟨kt, et, hu⟩
      · cases h2
    obtain ⟨kt, et, hu⟩ := hu
    simp [Instr.makeMap, run_underlying hu, hk, asInt, asIntOf]

end
end
end Go.Am
