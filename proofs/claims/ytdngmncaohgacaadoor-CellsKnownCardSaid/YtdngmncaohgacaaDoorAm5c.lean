/-
  THE OPERATIONS, ONE BY ONE: rows of cells: read, written, laid.
-/
import Derived.Test.YtdngmncaohgacaaDoorAm5b
set_option linter.unusedSectionVars false
set_option linter.unusedSimpArgs false
set_option linter.unusedVariables false
set_option linter.constructorNameAsVariable false
namespace Go.Am

section
variable [Val]

/-- The cells of a block, from a place on, are known. -/
def CellsR (mu : HMap) (vs : List Value) (c : Array Value) (o : Nat) : Prop := ∀ (i : Nat) v, vs[i]? = some v → ∃ v', c[o + i]? = some v' ∧ VR noL mu v v'

section
variable {C : Cfg} {la : LMap} {mu : HMap} {w : World}

theorem CellsR.of_list {vs : List Value} {c : Array Value} (h : VRs noL mu vs c.toList) : CellsR mu vs c 0 := by
  intro i v hv
  obtain ⟨v', h1, h2⟩ := h.get hv
  exact ⟨v', by simpa using h1, h2⟩

theorem CellsR.cut {vs xs : List Value} {c : Array Value} {o off n : Nat} (h : CellsR mu vs c o) (hc : cut vs off n = some xs) :
    ∃ ys : List Value, ys.length = n ∧ VRs noL mu xs ys ∧ ∀ (j : Nat) y, ys[j]? = some y → c[o + off + j]? = some y := by
  unfold Am.cut at hc
  split at hc
  · rename_i hl
    cases hc
    refine ⟨(List.range n).map fun j => c.getD (o + off + j) undef, by simp, ⟨by simp; omega, ?_⟩, ?_⟩
    · intro i x y hx hy
      have hi : i < n := by
        rcases Nat.lt_or_ge i n with h | h
        · exact h
        · rw [List.getElem?_eq_none (by simp; omega)] at hy; cases hy
      rw [List.getElem?_take, if_pos hi, List.getElem?_drop] at hx
      obtain ⟨v', h1, h2⟩ := h _ x hx
      simp [hi] at hy
      subst hy
      rw [← Nat.add_assoc] at h1
      simpa [h1] using h2
    · intro j y hy
      have hj : j < n := by
        rcases Nat.lt_or_ge j n with h | h
        · exact h
        · rw [List.getElem?_eq_none (by simp; omega)] at hy; cases hy
      have hx : ∃ x, vs[off + j]? = some x := ⟨vs[off + j]'(by omega), by simp⟩
      obtain ⟨x, hx⟩ := hx
      obtain ⟨v', h1, _⟩ := h _ x hx
      simp [hj] at hy
      rw [← Nat.add_assoc] at h1
      rw [h1, ← hy]; simp [h1]
  · cases hc

theorem cell_at {b : Nat} {c : Array Value} {e : TypeId} {fr : Nat × Nat} (h : w.heap[b]? = some (.cells c e fr)) (i : Nat) : w.cell? ⟨b, i, none⟩ = c[i]? := by
  simp [World.cell?, h]

theorem run_loadCells_cut {vs xs : List Value} {c : Array Value} {o off n b : Nat} {e : TypeId} {fr : Nat × Nat} (h : CellsR mu vs c o) (hc : cut vs off n = some xs) (hb : w.heap[b]? = some (.cells c e fr)) :
    ∃ ys : List Value, ys.length = n ∧ (loadCells ⟨b, o + off, none⟩ n).run C.P w = .ok ys.toArray w ∧ VRs noL mu xs ys := by
  obtain ⟨ys, h1, h2, h3⟩ := h.cut hc
  refine ⟨ys, h1, ?_, h2⟩
  rw [← h1]
  refine run_loadCells_list w _ ys fun j v hj => ?_
  rw [add_none, cell_at hb]
  exact h3 j v hj

theorem run_loadVar {vs : List Value} {c : Array Value} {o off b : Nat} {e : TypeId} {fr : Nat × Nat} {t : TypeId} {v : Value} (h : CellsR mu vs c o) (hr : readVar C.P t vs off = some v) (hb : w.heap[b]? = some (.cells c e fr)) :
    ∃ v', (loadVar t ⟨b, o + off, none⟩).run C.P w = .ok v' w ∧ VR noL mu v v' := by
  unfold readVar at hr
  cases hd : C.P.underlying t with
  | none => rw [hd] at hr; cases hr
  | some d =>
    rw [hd] at hr
    obtain ⟨i, hi⟩ := underlying_info hd
    have hag := run_isAgg hd w
    have hsz := run_sizeOf hi w
    have m1 : isAggD d = true → ((cut vs off (C.P.cellsOf t)).map fun cs => Value.agg cs.toArray) = some v → ∃ v', (loadVar t ⟨b, o + off, none⟩).run C.P w = .ok v' w ∧ VR noL mu v v' := by
      intro hdd hv
      cases hcut : cut vs off (C.P.cellsOf t) with
      | none => rw [hcut] at hv; cases hv
      | some xs =>
        rw [hcut] at hv
        cases hv
        obtain ⟨ys, h1, h2, h3⟩ := run_loadCells_cut (C := C) h hcut hb
        exact ⟨.agg ys.toArray, by simp [loadVar, hag, hdd, hsz, h2], VRs.agg (by simpa using h3)⟩
    have m2 : isAggD d = false → vs[off]? = some v → ∃ v', (loadVar t ⟨b, o + off, none⟩).run C.P w = .ok v' w ∧ VR noL mu v v' := by
      intro hdd hv
      obtain ⟨v', h1, h2⟩ := h off v hv
      exact ⟨v', by simp [loadVar, hag, hdd, cell_at hb, h1], h2⟩
    cases d <;> first | exact m1 rfl hr | exact m2 rfl hr

/-! ### Writing -/

theorem setRow_heap_eq {b : Nat} {c cs : Array Value} {e : TypeId} {fr : Nat × Nat} (h : w.heap[b]? = some (.cells c e fr)) : (w.setRow b cs).heap = w.heap.setIfInBounds b (.cells cs e fr) := by
  have hlt : b < w.heap.size := (Array.getElem?_eq_some_iff.1 h).1
  apply Array.ext (by simp [World.setRow])
  intro k h1 h2
  have e1 : (w.setRow b cs).heap[k]? = (w.heap.setIfInBounds b (.cells cs e fr))[k]? := by
    by_cases hk : k = b
    · subst hk
      rw [setRow_heap w k c cs e fr h]
      simp [hlt]
    · rw [setRow_other w b k cs hk, Array.getElem?_setIfInBounds_ne (Ne.symm hk)]
  have e2 := Array.getElem?_eq_getElem h1
  have e3 := Array.getElem?_eq_getElem h2
  rw [e2, e3] at e1
  exact Option.some.inj e1

/-- The cells behind a splice. -/
def putCells (c : Array Value) (at_ : Nat) (ys : List Value) : Array Value := (c.toList.take at_ ++ ys ++ c.toList.drop (at_ + ys.length)).toArray

theorem putCells_size {c : Array Value} {at_ : Nat} {ys : List Value} (h : at_ + ys.length ≤ c.size) : (putCells c at_ ys).size = c.size := by
  simp [putCells]; omega

theorem putCells_get {c : Array Value} {at_ : Nat} {ys : List Value} (h : at_ + ys.length ≤ c.size) (i : Nat) :
    (putCells c at_ ys)[i]? = if at_ ≤ i ∧ i < at_ + ys.length then ys[i - at_]? else c[i]? := by
  have hlen : (c.toList.take at_).length = at_ := by simp; omega
  simp only [putCells, List.getElem?_toArray]
  by_cases h1 : i < at_
  · rw [List.append_assoc, List.getElem?_append_left (by omega), List.getElem?_take, if_pos h1, if_neg (by omega)]
    simp
  · rw [List.append_assoc, List.getElem?_append_right (by omega), hlen]
    by_cases h2 : i < at_ + ys.length
    · rw [List.getElem?_append_left (by omega), if_pos ⟨by omega, h2⟩]
    · rw [List.getElem?_append_right (by omega), List.getElem?_drop, if_neg (by omega)]
      have : at_ + ys.length + (i - at_ - ys.length) = i := by omega
      rw [this]
      simp

theorem splice_get {vs vs' xs : List Value} {off : Nat} (hs : splice vs off xs = some vs') (i : Nat) :
    vs'[i]? = if off ≤ i ∧ i < off + xs.length then xs[i - off]? else vs[i]? := by
  unfold Am.splice at hs
  split at hs
  · rename_i hl
    cases hs
    have hlen : (vs.take off).length = off := by simp; omega
    by_cases h1 : i < off
    · rw [List.append_assoc, List.getElem?_append_left (by omega), List.getElem?_take, if_pos h1, if_neg (by omega)]
    · rw [List.append_assoc, List.getElem?_append_right (by omega), hlen]
      by_cases h2 : i < off + xs.length
      · rw [List.getElem?_append_left (by omega), if_pos ⟨by omega, h2⟩]
      · rw [List.getElem?_append_right (by omega), List.getElem?_drop, if_neg (by omega)]
        congr 1; omega
  · cases hs

theorem splice_length {vs vs' xs : List Value} {off : Nat} (hs : splice vs off xs = some vs') : vs'.length = vs.length ∧ off + xs.length ≤ vs.length := by
  unfold Am.splice at hs
  split at hs
  · cases hs; simp; omega
  · cases hs

theorem splice_all {f : Value → Bool} {vs vs' xs : List Value} {off : Nat} (hs : splice vs off xs = some vs') (h1 : vs.all f = true) (h2 : xs.all f = true) : vs'.all f = true := by
  unfold Am.splice at hs
  split at hs
  · cases hs
    rw [List.all_append, List.all_append, Bool.and_eq_true, Bool.and_eq_true]
    refine ⟨⟨List.all_eq_true.2 fun x hx => List.all_eq_true.1 h1 x (List.mem_of_mem_take hx), h2⟩, List.all_eq_true.2 fun x hx => List.all_eq_true.1 h1 x (List.mem_of_mem_drop hx)⟩
  · cases hs

theorem CellsR.splice {vs vs' xs ys : List Value} {c : Array Value} {o off : Nat} (h : CellsR mu vs c o) (hs : splice vs off xs = some vs') (hx : VRs noL mu xs ys) (hsz : o + vs.length ≤ c.size) :
    CellsR mu vs' (putCells c (o + off) ys) o := by
  have hl := splice_length hs
  have hxy := hx.1
  intro i v hv
  rw [splice_get hs] at hv
  rw [putCells_get (by omega)]
  by_cases hi : off ≤ i ∧ i < off + xs.length
  · rw [if_pos hi] at hv
    rw [if_pos (by omega)]
    obtain ⟨v', h1, h2⟩ := hx.get hv
    exact ⟨v', by rw [show o + i - (o + off) = i - off by omega]; exact h1, h2⟩
  · rw [if_neg hi] at hv
    rw [if_neg (by omega)]
    exact h i v hv

theorem one_of_cellOk {xs ys : List Value} (hx : VRs la mu xs ys) (h : xs.all cellOk = true) : ∀ y ∈ ys, y.oneCell' = true := by
  intro y hy
  obtain ⟨i, hi⟩ := List.getElem?_of_mem hy
  have hi' : i < ys.length := by
    rcases Nat.lt_or_ge i ys.length with h | h
    · exact h
    · rw [List.getElem?_eq_none h] at hi; cases hi
  have hxl : i < xs.length := by have := hx.1; omega
  have hok := all_get h (show xs[i]? = some xs[i] by simp [hxl])
  simp only [cellOk, Bool.and_eq_true] at hok
  have h0 := hx.2 i xs[i] y (by simp [hxl]) hi
  have := oneCell_of hok.2 h0
  cases y <;> first | rfl | exact (no_tuple_of hok.2 h0).elim | (simp [oneCell] at this)

theorem run_storeCells_put {c : Array Value} {e : TypeId} {b at_ : Nat} {ys : List Value} (hb : w.heap[b]? = some (.cells c e (0, 0))) (hl : at_ + ys.length ≤ c.size) (h1 : ∀ y ∈ ys, y.oneCell' = true) :
    (storeCells ⟨b, at_, none⟩ ys).run C.P w = .ok () (w.setRow b (putCells c at_ ys)) := by
  have := run_storeCells_at C.P b at_ e ys 0 c w hb (by simpa using hl) h1
  simpa [putCells] using this

theorem run_storeVar {c : Array Value} {e t : TypeId} {b at_ : Nat} {x y : Value} (ht : isTuple x = false) (hx : VR la mu x y) (hs : x.cells.size = C.P.cellsOf t ∧ (C.P.info? t).isSome = true) (hok : x.cells.toList.all cellOk = true)
    (hb : w.heap[b]? = some (.cells c e (0, 0))) (hl : at_ + x.cells.size ≤ c.size) :
    (storeVar t ⟨b, at_, none⟩ y).run C.P w = .ok () (w.setRow b (putCells c at_ y.cells.toList)) := by
  have hc := hx.cells ht
  have hsz : x.cells.size = y.cells.size := by simpa using hc.1
  obtain ⟨i, hi⟩ := Option.isSome_iff_exists.1 hs.2
  have hst := run_storeCells_put (C := C) (at_ := at_) (ys := y.cells.toList) hb (by simp; omega) (one_of_cellOk hc hok)
  simp [storeVar, run_sizeOf hi, show y.cells.size = C.P.cellsOf t by omega, hst]

end
end
end Go.Am
