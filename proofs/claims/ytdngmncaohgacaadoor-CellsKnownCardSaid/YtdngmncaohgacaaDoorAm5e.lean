/-
  THE OPERATIONS, ONE BY ONE: slices that are laid, appended to and copied.
-/
import Derived.Test.YtdngmncaohgacaaDoorAm5d
set_option linter.unusedSectionVars false
set_option linter.unusedSimpArgs false
set_option linter.unusedVariables false
set_option linter.constructorNameAsVariable false
namespace Go.Am

section
variable [Val]

section
variable {C : Cfg} {base : Nat} {la : LMap} {mu : HMap} {σ : St} {a : Act} {w : World}

/-- A new row of cells, in a block of the world that has room for as many as it likes. -/
theorem WR.newRow (hw : WR C base mu σ.heap w) (hb : base ≤ w.heap.size) {w' : World} {vs ys : List Value} {cs : Array Value} {e : TypeId} {esz : Nat} (hx : VRs noL mu vs ys) (hok : vs.all cellOk = true)
    (hpre : ∀ (i : Nat) y, ys[i]? = some y → cs[i]? = some y) (hlen : ys.length ≤ cs.size) (hw' : w'.heap = w.heap.push (.cells cs e)) (hos : w'.os = w.os) (ht : w'.tape = w.tape) (hu : w'.output = w.output) :
    WR C base (upd mu σ.heap.length ⟨w.heap.size, 0, cs.size, esz⟩) (σ.heap ++ [.cells vs esz true]) w' ∧ Evo σ.heap mu w (σ.heap ++ [.cells vs esz true]) (upd mu σ.heap.length ⟨w.heap.size, 0, cs.size, esz⟩) w' := by
  refine hw.new hb hw' hos ht hu _ _ rfl ⟨rfl, by have := hx.1; simp only; omega, hok, cs, e, _, rfl, by simp, fun _ => rfl, fun i v hv => ?_⟩ (fun _ => rfl)
  obtain ⟨y, h1, h2⟩ := hx.get hv
  exact ⟨y, by simpa using hpre i y h1, h2.mono (fun _ _ h => h) (upd_mono hw _)⟩

theorem flat_cells {z : Value} (hz : flat z = true) (ht : isTuple z = false) : z.cells.toList.all scalar = true := by
  cases z with
  | agg cs => exact hz
  | tuple cs =>
    have hs : isSym (.tuple cs) = true := by simpa [isTuple] using ht
    simp [flat, isSym_size hs] at hz
  | _ => simpa [Value.cells, flat, flat1] using hz

theorem scalar_cellOk {v : Value} (h : scalar v = true) : cellOk v = true := by
  unfold Am.scalar at h; split at h <;> first | rfl | cases h

theorem VRs.scalars {vs : List Value} (h : vs.all scalar = true) : VRs la mu vs vs := by
  refine ⟨rfl, fun i x y hx hy => ?_⟩
  obtain rfl : x = y := by rw [hx] at hy; exact Option.some.inj hy
  exact .scalar (all_get h hx)

theorem all_mono {f g : Value → Bool} {vs : List Value} (h : vs.all f = true) (hfg : ∀ v, f v = true → g v = true) : vs.all g = true :=
  List.all_eq_true.2 fun x hx => hfg x (List.all_eq_true.1 h x hx)

theorem zerosA_get {z : List Value} {n i : Nat} (h : i < n * z.length) : (zerosA z n)[i]? = z[i % z.length]? := by
  unfold zerosA
  induction n generalizing i with
  | zero => simp at h
  | succ n ih =>
    rw [List.replicate_succ, List.flatten_cons]
    by_cases hi : i < z.length
    · rw [List.getElem?_append_left hi, Nat.mod_eq_of_lt hi]
    · rw [List.getElem?_append_right (by omega)]
      have hz : 0 < z.length := by
        rcases Nat.eq_zero_or_pos z.length with h0 | h0
        · rw [h0] at h; simp at h
        · exact h0
      rw [Nat.add_mul, Nat.one_mul] at h
      rw [ih (by omega), ← Nat.mod_eq_sub_mod (by omega)]

theorem zerosA_length {z : List Value} {n : Nat} : (zerosA z n).length = n * z.length := by
  unfold zerosA
  induction n with
  | zero => simp
  | succ n ih => rw [List.replicate_succ, List.flatten_cons, List.length_append, ih, Nat.add_mul]; omega

theorem zerosA_all {f : Value → Bool} {z : List Value} {n : Nat} (h : z.all f = true) : (zerosA z n).all f = true := by
  unfold zerosA
  rw [List.all_flatten]
  refine List.all_eq_true.2 fun l hl => ?_
  rw [List.mem_replicate] at hl
  rw [hl.2]; exact h

theorem madeCells_get {z : Array Value} {n m : Nat} (hm : z.size ≠ 0) (h : m = n * z.size) (i : Nat) (hi : i < m) : (madeCells z m)[i]? = (zerosA z.toList n)[i]? := by
  rw [zerosA_get (by simp; omega)]
  have hlt : i % z.size < z.size := Nat.mod_lt _ (by omega)
  simp only [madeCells, Array.getElem?_map]
  rw [Array.getElem?_range, if_pos hi]
  simp [hlt]

theorem makeSliceA_ok (h : SR C base la mu σ a.tmps w) (hb : base ≤ w.heap.size) {t : TypeId} {l c : Operand} {H' : List HObj} {v : Value}
    (hf : makeSliceA C t (oval σ.tmps l) (oval σ.tmps c) σ.heap = some (H', v)) : HOk C base mu σ.heap w (do pure (.value (← Instr.makeSlice t (a.eval l) (a.eval c)))) H' v := by
  unfold makeSliceA at hf
  split at hf
  · rename_i ln cn elem h1 h2 hu
    split at hf
    · rename_i info hi
      split at hf
      · cases hf
      · rename_i hsz
        split at hf
        · rename_i z hzero0
          obtain ⟨hzero, hzs, hzf, hzt⟩ := zeroI_ok hzero0
          first
          | skip
            split at hf
            · rename_i hbd
              cases hf
              obtain ⟨b1, b2, b3, b4⟩ := hbd
              obtain ⟨kl, el⟩ := intOf_ok h1 (eval_ok h l)
              obtain ⟨kc, ec⟩ := intOf_ok h2 (eval_ok h c)
              have hbytes : (info.bytes : Int) * cn ≤ 281474976710656 := by
                have h1 : (info.bytes : Int) * cn ≤ 4096 * cn := Int.mul_le_mul_of_nonneg_right (by omega) (by omega)
                omega
              have hrun := run_make (P := C.P) w t elem info z hu hi hzero kl kc ln cn b1 b2 hbytes (by omega)
              have hzc := flat_cells hzf hzt
              have hsz' : (madeCells z.cells (cn.toNat * info.size)).size = cn.toNat * info.size := by simp [madeCells]
              have hN := h.wr.newRow hb (w' := w.alloc (.cells (madeCells z.cells (cn.toNat * info.size)) elem)) (esz := info.size) (VRs.scalars (la := noL) (mu := mu) (zerosA_all (n := cn.toNat) hzc)) (all_mono (zerosA_all hzc) fun _ => scalar_cellOk)
                (cs := madeCells z.cells (cn.toNat * info.size)) (e := elem) (fun i y hy => by
                  have hlt : i < cn.toNat * info.size := by
                    rcases Nat.lt_or_ge i (cn.toNat * info.size) with h | h
                    · exact h
                    · rw [List.getElem?_eq_none (by rw [zerosA_length]; simp [hzs]; exact h)] at hy; cases hy
                  rw [madeCells_get (n := cn.toNat) (by omega) (by rw [hzs]) i hlt]; exact hy) (by rw [zerosA_length, hsz']; simp [hzs]) rfl rfl rfl rfl
              refine ⟨.value (.slice (some ⟨w.heap.size, 0, none⟩) ln.toNat cn.toNat), _, _, _, by rw [el, ec]; simp [hrun], .inl rfl, ?_, hN.1, hN.2⟩
              have := VR.hslice (la := noL) (id := σ.heap.length) (off := 0) (len := ln.toNat) (cap := cn.toNat) (cx := cn.toNat + 1) (upd_same mu σ.heap.length ⟨w.heap.size, 0, (madeCells z.cells (cn.toNat * info.size)).size, info.size⟩)
                (by simp only [hsz']; omega) (by omega) (.inr rfl)
              simpa using this
            · cases hf
        · cases hf
    · cases hf
  · cases hf

theorem fill_size (pl : Nat → Option (Nat × Nat)) : ∀ (ps : List (Nat × Value)) (cs r : Array Value), Instr.fill pl cs ps = some r → r.size = cs.size := by
  intro ps
  induction ps with
  | nil => intro cs r h; simp [Instr.fill] at h; rw [h]
  | cons p ps ih =>
    intro cs r h
    obtain ⟨i, x⟩ := p
    unfold Instr.fill at h
    split at h
    · cases h
    · split at h
      · cases h
      · rw [ih _ _ h]
        have : ∀ (l : List (Value × Nat)) (acc : Array Value) (off : Nat), (l.foldl (fun (acc : Array Value) (c, j) => acc.setIfInBounds (off + j) c) acc).size = acc.size := by
          intro l
          induction l with
          | nil => intro acc off; rfl
          | cons y l ih2 => intro acc off; rw [List.foldl_cons, ih2]; simp
        rw [← Array.foldl_toList]
        exact this _ _ _

theorem foldl_all {f : Value → Bool} (off : Nat) : ∀ (l : List (Value × Nat)) (acc : Array Value), acc.toList.all f = true → (∀ p ∈ l, f p.1 = true) →
    (l.foldl (fun (acc : Array Value) (c, j) => acc.setIfInBounds (off + j) c) acc).toList.all f = true := by
  intro l
  induction l with
  | nil => intro acc h _; exact h
  | cons y l ih =>
    intro acc h hl
    rw [List.foldl_cons]
    refine ih _ (List.all_eq_true.2 fun x hx => ?_) fun p hp => hl p (by simp [hp])
    simp only [Array.toList_setIfInBounds] at hx
    rcases List.mem_or_eq_of_mem_set hx with h1 | h1
    · exact List.all_eq_true.1 h x h1
    · rw [h1]; exact hl y (by simp)

theorem fill_all {f : Value → Bool} (pl : Nat → Option (Nat × Nat)) : ∀ (ps : List (Nat × Value)) (cs r : Array Value), cs.toList.all f = true → (∀ p ∈ ps, p.2.cells.toList.all f = true) → Instr.fill pl cs ps = some r → r.toList.all f = true := by
  intro ps
  induction ps with
  | nil => intro cs r h _ hf; simp [Instr.fill] at hf; subst hf; exact h
  | cons p ps ih =>
    intro cs r h hp hf
    obtain ⟨i, x⟩ := p
    unfold Instr.fill at hf
    split at hf
    · cases hf
    · rename_i off size hpl
      split at hf
      · cases hf
      · refine ih _ r ?_ (fun q hq => hp q (by simp [hq])) hf
        rw [← Array.foldl_toList, Array.toList_zipIdx]
        refine foldl_all off _ _ h fun q hq => ?_
        have hq' := List.mem_zipIdx hq
        exact List.all_eq_true.1 (hp (i, x) (by simp)) q.1 (by obtain ⟨_, _, h3⟩ := hq'; rw [h3]; exact List.getElem_mem _)

theorem buildSliceA_ok (h : SR C base la mu σ a.tmps w) (hb : base ≤ w.heap.size) {t : TypeId} {n : Nat} {ps : List (Nat × Value)} {qs : Array (Nat × Value)} {r : Nat × List Value}
    (hp : PRel la mu ps qs.toList) (hok : ∀ p ∈ ps, p.2.cells.toList.all cellOk = true) (hf : buildSliceA C t n ps = some r) :
    HOk C base mu σ.heap w (do pure (.value (← Instr.buildSlice t n qs))) (σ.heap ++ [.cells r.2 r.1 true]) (.slice (some ⟨σ.heap.length, 0, tag r.1⟩) n (n + 1)) := by
  unfold buildSliceA at hf
  split at hf
  · rename_i elem hu
    split at hf
    · rename_i info hi
      split at hf
      · cases hf
      · rename_i hne
        split at hf
        · cases hf
        · rename_i hbig
          split at hf
          · rename_i z hzero0
            obtain ⟨hzero, hzs, hzf, hzt⟩ := zeroI_ok hzero0
            first
            | skip
              have hzc := flat_cells hzf hzt
              cases hfl : Instr.fill (fun i => some (i * info.size, info.size)) (zerosA z.cells.toList n).toArray ps with
              | none => rw [hfl] at hf; cases hf
              | some cs =>
                rw [hfl] at hf
                cases hf
                have hz0 : VRs la mu (zerosA z.cells.toList n) (zerosA z.cells.toList n) := VRs.scalars (zerosA_all hzc)
                obtain ⟨r', h1, h2⟩ := fill_ok (la := la) (mu := mu) _ ps qs.toList (zerosA z.cells.toList n).toArray (zerosA z.cells.toList n).toArray cs (by simpa using hz0) hp hfl
                have hcells : cs.toList.all cellOk = true := fill_all _ ps _ cs (by simpa using all_mono (zerosA_all hzc) fun _ => scalar_cellOk) hok hfl
                have hsize : r'.size = n * info.size := by
                  rw [fill_size _ _ _ _ h1]; simp [zerosA_length, hzs]
                have hrange : ((Array.range (n * info.size)).map (z.cells[· % z.cells.size]!)) = (zerosA z.cells.toList n).toArray := by
                  apply Array.ext_getElem?
                  intro i
                  rw [show ((zerosA z.cells.toList n).toArray)[i]? = (zerosA z.cells.toList n)[i]? from by simp]
                  by_cases hlt : i < n * info.size
                  · exact madeCells_get (z := z.cells) (n := n) (m := n * info.size) (by omega) (by rw [hzs]) i hlt
                  · rw [Array.getElem?_eq_none (by simp; omega), List.getElem?_eq_none (by simp [zerosA_length, hzs]; omega)]
                have hN := h.wr.newRow hb (w' := w.alloc (.cells r' elem)) (esz := info.size) (h2.downc hcells) hcells (cs := r') (e := elem) (fun i y hy => by simpa using hy) (by simp) rfl rfl rfl rfl
                refine ⟨.value (.slice (some ⟨w.heap.size, 0, none⟩) n n), _, _, _, ?_, .inl rfl, ?_, hN.1, hN.2⟩
                · have e1 : ¬ (n * info.size = 0) := by
                    simp only [Nat.mul_eq_zero]; omega
                  have e2 : ¬ (n * C.P.cellsOf elem > 2 ^ 24) := by simp only [Program.cellsOf, hi, Option.map_some, Option.getD_some]; omega
                  have e3 : C.P.cellsOf elem = info.size := by simp [Program.cellsOf, hi]
                  have hzr : (zeroValue elem).run C.P w = .ok z w := by simp [zeroValue, typeInfo, hi, hzero]
                  rw [e3] at e2
                  simp only [Instr.buildSlice, Sem.run_bind, run_underlying hu, Result.andThen_ok, run_sizeOf hi, e3, if_neg e1, if_neg e2, hzr, Sem.run_pure, hrange, h1]
                  simp [newRow]
                · have := VR.hslice (la := noL) (id := σ.heap.length) (off := 0) (len := n) (cap := n) (cx := n + 1) (upd_same mu σ.heap.length ⟨w.heap.size, 0, r'.size, info.size⟩) (by simp only [hsize]; omega) (by omega) (.inr rfl)
                  simpa using this
          · cases hf
    · cases hf
  · cases hf

/-- The cells of a slice, or the bytes of a string, as the model reads them. -/
theorem cellsOfVal_ok (hw : WR C base mu σ.heap w) {x y : Value} {esz : Nat} {new : List Value} {n : Nat} (hx : VR la mu x y) (hf : cellsOfVal C σ.heap esz x = some (new, n)) (n' : Nat) (w' : World) (hw' : w'.heap = w.heap) :
    ∃ ys : List Value, (Builtin.lenOf y).run C.P w' = .ok n w' ∧ ys.length = n * esz ∧ VRs noL mu new ys ∧ new.all cellOk = true ∧
      (n' ≤ n → (Builtin.firstCells esz n' y).run C.P w' = .ok (ys.take (n' * esz)).toArray w') := by
  have cutTake : ∀ {vs xs : List Value} {c : Array Value} {o off b m : Nat} {e : TypeId} {fr : Nat × Nat}, CellsR mu vs c o → cut vs off (m * esz) = some xs → w.heap[b]? = some (.cells c e fr) → vs.all cellOk = true →
      ∃ ys : List Value, ys.length = m * esz ∧ VRs noL mu xs ys ∧ xs.all cellOk = true ∧ (n' ≤ m → (loadCells ⟨b, o + off, none⟩ (n' * esz)).run C.P w' = .ok (ys.take (n' * esz)).toArray w') := by
    intro vs xs c o off b m e fr hR hcut hbk hall
    obtain ⟨ys, g1, g2, g3⟩ := hR.cut hcut
    refine ⟨ys, g1, g2, ?_, fun hle => ?_⟩
    · unfold Am.cut at hcut
      split at hcut
      · cases hcut
        exact List.all_eq_true.2 fun x hx => List.all_eq_true.1 hall x (List.mem_of_mem_drop (List.mem_of_mem_take hx))
      · cases hcut
    · have hl : n' * esz ≤ m * esz := Nat.mul_le_mul_right _ hle
      have hlen : (ys.take (n' * esz)).length = n' * esz := by simp; omega
      have := run_loadCells_list (P := C.P) w' ⟨b, o + off, none⟩ (ys.take (n' * esz)) fun j v hj => by
        rw [add_none]
        have hbk' : w'.heap[b]? = some (.cells c e fr) := by rw [hw']; exact hbk
        rw [cell_at hbk']
        refine g3 j v ?_
        rw [List.getElem?_take] at hj
        split at hj
        · exact hj
        · cases hj
      rw [hlen] at this
      exact this
  unfold cellsOfVal at hf
  split at hf
  · cases hf
    have := scalar_eq (a := .slice none 0 0) rfl hx
    subst this
    exact ⟨[], by simp [Builtin.lenOf], by simp, .nil, rfl, fun hn => by simp [Builtin.firstCells]⟩
  · rename_i ad len cx
    split at hf
    · rename_i hsp
      cases hG : C.G ad.block with
      | none => rw [hG] at hf; cases hf
      | some vs =>
        rw [hG, Option.bind_some] at hf
        cases hcut : cut vs ad.off (len * esz) with
        | none => rw [hcut] at hf; cases hf
        | some xs =>
          rw [hcut] at hf
          cases hf
          obtain ⟨hg1, hg2, c, e, fr, hg3, hg4⟩ := hw.glob _ _ hG
          obtain ⟨ys, k1, k2, k3, k4⟩ := cutTake (CellsR.of_list hg4) hcut hg3 hg2
          cases hx with
          | scalar h => simp [Am.scalar] at h
          | hslice h hr hl hx => simp [tag] at hsp
          | hslice0 hx => simp [tag] at hsp
          | gslice hl =>
            refine ⟨ys, by simp [Builtin.lenOf], k1, k2, k3, fun hn => ?_⟩
            have := k4 hn
            rw [Nat.zero_add] at this
            simpa [Builtin.firstCells] using this
          | gslice0 =>
            refine ⟨ys, by simp [Builtin.lenOf], k1, k2, k3, fun hn => ?_⟩
            obtain rfl : n' = 0 := by omega
            simp [Builtin.firstCells, loadCells, loadCellsFrom]
    · split at hf
      · rename_i hsp
        split at hf
        · rename_i vs e0 rw0 hid
          split at hf
          · rename_i he
            cases hcut : cut vs ad.off (len * esz) with
            | none => rw [hcut] at hf; cases hf
            | some xs =>
              rw [hcut] at hf
              cases hf
              obtain ⟨q, hq, hr⟩ := hw.obj _ _ hid rfl
              obtain ⟨o1, o2, o3, c, e, fr, o4, o5, o6, o7⟩ := hr
              obtain ⟨ys, k1, k2, k3, k4⟩ := cutTake o7 hcut o4 o3
              cases hx with
              | scalar h => simp [Am.scalar] at h
              | @hslice _ _ _ _ _ p h hr hl hx =>
                obtain rfl : p = q := by rw [h] at hq; exact Option.some.inj hq
                refine ⟨ys, by simp [Builtin.lenOf], k1, k2, k3, fun hn => ?_⟩
                simpa [Builtin.firstCells] using k4 hn
              | hslice0 hx =>
                refine ⟨ys, by simp [Builtin.lenOf], k1, k2, k3, fun hn => ?_⟩
                obtain rfl : n' = 0 := by omega
                simp [Builtin.firstCells, loadCells, loadCellsFrom]
              | gslice hl => simp [tag] at hsp
              | gslice0 => simp [tag] at hsp
          · cases hf
        · cases hf
      · cases hf
  · rename_i s
    split at hf
    · rename_i he
      cases hf
      subst he
      have := scalar_eq (a := .string s) rfl hx
      subst this
      refine ⟨s.data.toList.map fun b => .int .u8 b.toNat, by simp [Builtin.lenOf], by rw [List.length_map, Nat.mul_one]; rfl, VRs.scalars ?_, ?_, fun hn => ?_⟩
      · exact List.all_eq_true.2 fun x hx => by obtain ⟨b, _, rfl⟩ := List.mem_map.1 hx; rfl
      · exact List.all_eq_true.2 fun x hx => by obtain ⟨b, _, rfl⟩ := List.mem_map.1 hx; rfl
      · simp only [Builtin.firstCells, Sem.run_pure, Nat.mul_one]
        congr 1
        apply Array.ext'
        simp [ByteArray.data_extract, List.extract]
    · cases hf
  · cases hf

end
end
end Go.Am
