/-
  THE OPERATIONS, ONE BY ONE: append and copy.
-/
import Derived.Test.YtdngmncaohgacaaDoorAm5e
set_option linter.unusedSectionVars false
set_option linter.unusedSimpArgs false
set_option linter.unusedVariables false
set_option linter.constructorNameAsVariable false
namespace Go.Am

section
variable [Val]

section
variable {C : Cfg} {base : Nat} {la : LMap} {mu : HMap} {σ : St} {a : Act} {w : World}

def isIntD : TypeDesc → Bool
  | .int _ => true
  | _ => false

theorem run_append_in {t xT ty e : TypeId} {i : TypeInfo} {d : TypeDesc} {ats : Array TypeId} (h0 : ats[0]? = some t) (h1 : ats[1]? = some xT) (ht : C.P.underlying t = some (.slice e)) (hx : C.P.underlying xT = some d) (hd : isIntD d = false)
    (hi : C.P.info? e = some i) {y : Value} {n sLen sCap : Nat} {ys : List Value} {b : Option Addr} (hl : (Builtin.lenOf y).run C.P w = .ok n w) (hf : (Builtin.firstCells i.size n y).run C.P w = .ok ys.toArray w) (hr : sLen + n ≤ sCap) :
    (Builtin.append_ ats ty #[.slice b sLen sCap, y]).run C.P w =
      match b with
      | none => .ok (.slice none (sLen + n) sCap) w
      | some ad => ((storeCells (ad.add (sLen * i.size)) ys).run C.P w).andThen fun _ w' => .ok (.slice (some ad) (sLen + n) sCap) w' := by
  have _hne : ∀ k, d = .int k → False := fun k e => by subst e; simp [isIntD] at hd
  cases b <;> simp [Builtin.append_, h0, h1, run_underlying ht, run_underlying hx, sizeOf, typeInfo, hi, hl, hf, hr]

theorem run_append_out {t xT ty e : TypeId} {i : TypeInfo} {d : TypeDesc} {z : Value} {ats : Array TypeId} (h0 : ats[0]? = some t) (h1 : ats[1]? = some xT) (ht : C.P.underlying t = some (.slice e)) (hx : C.P.underlying xT = some d) (hd : isIntD d = false)
    (hi : C.P.info? e = some i) (hz : i.zero = some z) {y : Value} {n sLen sCap : Nat} {olds ys : List Value} {b : Option Addr} (hl : (Builtin.lenOf y).run C.P w = .ok n w) (hf : (Builtin.firstCells i.size n y).run C.P w.drew = .ok ys.toArray w.drew)
    (ho : (Builtin.firstCells i.size sLen (.slice b sLen sCap)).run C.P w.drew = .ok olds.toArray w.drew)
    (hr : sCap < sLen + n) (hok : sizeOk (sLen + n) i.bytes = true) :
    (Builtin.append_ ats ty #[.slice b sLen sCap, y]).run C.P w =
      .ok (.slice (some ⟨w.heap.size, 0, none⟩) (sLen + n) (grownCap w (sLen + n) sCap e)) (w.drew.alloc (.cells ((olds ++ ys).toArray ++ Builtin.zeroCells z.cells (grownCap w (sLen + n) sCap e - (sLen + n))) e)) := by
  simp only [sizeOk, Bool.and_eq_true, Nat.ble_eq] at hok
  have hb : (sLen + n) * i.bytes ≤ 4294967296 * 4096 := Nat.mul_le_mul hok.1 hok.2
  have hfit := growslice_fits (old := sCap) (need := sLen + n) (bytes := i.bytes) (by omega) (by omega)
  have hn : ¬ (sLen + n ≤ sCap) := by omega
  have h63' : ¬ (9223372036854775807 < ((sLen : Int) + (n : Int))) := by omega
  have h48' : ¬ (281474976710656 < Builtin.nextslicecap (sLen + n) sCap * i.bytes) := by omega
  have _hne : ∀ k, d = .int k → False := fun k e => by subst e; simp [isIntD] at hd
  simp [Builtin.append_, h0, h1, run_underlying ht, run_underlying hx, sizeOf, typeInfo, zeroValue, hi, hz, hl, hf, ho, hn, h63', h48', Question.forced, newRow, grownCap]
  congr 2
  apply Array.ext'
  simp

theorem mem_take_drop {α : Type} {l : List α} {n m : Nat} {x : α} (h : x ∈ (l.drop n).take m) : x ∈ l := List.mem_of_mem_drop (List.mem_of_mem_take h)

theorem cut_all {f : Value → Bool} {vs xs : List Value} {off n : Nat} (hc : cut vs off n = some xs) (h : vs.all f = true) : xs.all f = true := by
  unfold Am.cut at hc
  split at hc
  · cases hc; exact List.all_eq_true.2 fun x hx => List.all_eq_true.1 h x (mem_take_drop hx)
  · cases hc

theorem cut_length {vs xs : List Value} {off n : Nat} (hc : cut vs off n = some xs) : xs.length = n ∧ off + n ≤ vs.length := by
  unfold Am.cut at hc
  split at hc
  · cases hc; simp; omega
  · cases hc

/-- The old cells of a slice, read before it grows. -/
theorem olds_ok {vs old : List Value} {p : Pl} {off len esz sCap : Nat} {c : Array Value} {e : TypeId} {fr : Nat × Nat} (hR : CellsR mu vs c p.o) (hcut : cut vs off (len * esz) = some old) (hbk : w.heap[p.b]? = some (.cells c e fr)) (w' : World) (hw' : w'.heap = w.heap) :
    ∃ os : List Value, os.length = len * esz ∧ VRs noL mu old os ∧ (Builtin.firstCells esz len (.slice (some ⟨p.b, p.o + off, none⟩) len sCap)).run C.P w' = .ok os.toArray w' ∧ ∀ (j : Nat) y, os[j]? = some y → c[p.o + off + j]? = some y := by
  obtain ⟨os, g1, g2, g3⟩ := hR.cut hcut
  refine ⟨os, g1, g2, ?_, g3⟩
  have := run_loadCells_list (P := C.P) w' ⟨p.b, p.o + off, none⟩ os fun j v hj => by
    rw [add_none, cell_at (by rw [hw']; exact hbk)]
    exact g3 j v hj
  rw [g1] at this
  simpa [Builtin.firstCells] using this

/-- A slice that has grown into a new row. -/
theorem grow_ok (hw : WR C base mu σ.heap w) (hb : base ≤ w.heap.size) {t xT ty e : TypeId} {i : TypeInfo} {d : TypeDesc} {z : Value} {ats : Array TypeId} (h0 : ats[0]? = some t) (h1 : ats[1]? = some xT) (ht : C.P.underlying t = some (.slice e)) (hx : C.P.underlying xT = some d) (hd : isIntD d = false)
    (hi : C.P.info? e = some i) (hz : i.zero = some z) (hzs : z.cells.size = i.size) {y : Value} {n sLen sCap : Nat} {old new olds ys : List Value} {b : Option Addr} (hl : (Builtin.lenOf y).run C.P w = .ok n w) (hf : (Builtin.firstCells i.size n y).run C.P w.drew = .ok ys.toArray w.drew)
    (ho : (Builtin.firstCells i.size sLen (.slice b sLen sCap)).run C.P w.drew = .ok olds.toArray w.drew) (hr : sCap < sLen + n) (hok : sizeOk (sLen + n) i.bytes = true)
    (r1 : VRs noL mu old olds) (r2 : VRs noL mu new ys) (l1 : olds.length = sLen * i.size) (l2 : ys.length = n * i.size) (ok1 : old.all cellOk = true) (ok2 : new.all cellOk = true) :
    HOk C base mu σ.heap w (do pure (.value (← Builtin.append_ ats ty #[.slice b sLen sCap, y]))) (σ.heap ++ [.cells (old ++ new) i.size true]) (.slice (some ⟨σ.heap.length, 0, tag i.size⟩) (sLen + n) 0) := by
  have hrun := run_append_out (ty := ty) h0 h1 ht hx hd hi hz hl hf ho hr hok
  have hge := grownCap_ge w (sLen + n) sCap e
  have hcs : ((olds ++ ys).toArray ++ Builtin.zeroCells z.cells (grownCap w (sLen + n) sCap e - (sLen + n))).size = grownCap w (sLen + n) sCap e * i.size := by
    simp [size_zeroCells, l1, l2, hzs]
    rw [← Nat.add_mul, ← Nat.add_mul]
    congr 1; omega
  have hN := (hw.drew (w.drawn + 1)).newRow (C := C) hb (w' := w.drew.alloc (.cells ((olds ++ ys).toArray ++ Builtin.zeroCells z.cells (grownCap w (sLen + n) sCap e - (sLen + n))) e)) (esz := i.size) (r1.append r2) (by simp [ok1, ok2]) (e := e)
    (fun j y hj => by
      have hjl : j < (olds ++ ys).length := by
        rcases Nat.lt_or_ge j (olds ++ ys).length with h | h
        · exact h
        · rw [List.getElem?_eq_none h] at hj; cases hj
      rw [Array.getElem?_append_left (by simpa using hjl)]
      simpa using hj) (by simp) rfl rfl rfl rfl
  refine ⟨.value (.slice (some ⟨w.heap.size, 0, none⟩) (sLen + n) (grownCap w (sLen + n) sCap e)), _, _, _, by simp [hrun], .inl rfl, ?_, hN.1, (Evo.refl σ.heap mu w).drew (w.drawn + 1) |>.trans hN.2⟩
  have := VR.hslice (la := noL) (id := σ.heap.length) (off := 0) (len := sLen + n) (cap := grownCap w (sLen + n) sCap e) (cx := 0) (upd_same mu σ.heap.length ⟨w.heap.size, 0, _, i.size⟩) (by rw [Nat.zero_add]; exact Nat.le_of_eq hcs.symm) hge (.inl rfl)
  exact this

theorem appendA_ok (h : SR C base la mu σ a.tmps w) (hb : base ≤ w.heap.size) {t xT ty : TypeId} {d : TypeDesc} {ats : Array TypeId} {s x : Operand} {H' : List HObj} {v : Value} (h0 : ats[0]? = some t) (h1 : ats[1]? = some xT) (hx : C.P.underlying xT = some d) (hd : isIntD d = false)
    (hf : appendA C t (oval σ.tmps s) (oval σ.tmps x) σ.heap = some (H', v)) : HOk C base mu σ.heap w (do pure (.value (← Builtin.append_ ats ty #[a.eval s, a.eval x]))) H' v := by
  have hs := eval_ok h s
  have hxv := eval_ok h x
  unfold appendA at hf
  split at hf
  · rename_i elem hu
    split at hf
    · cases hf
    · rename_i info hi
      split at hf
      · cases hf
      · rename_i hsz0
        split at hf
        · cases hf
        · rename_i hzn
          obtain ⟨z, hz0⟩ : ∃ z, zeroI info = some z := by
            cases hzz' : zeroI info with
            | none => simp [hzz'] at hzn
            | some z => exact ⟨z, rfl⟩
          obtain ⟨hz, hzs, _, _⟩ := zeroI_ok hz0
          split at hf
          · cases hf
          · rename_i new n hcv
            obtain ⟨ys, c1, c2, c3, c4, c5⟩ := cellsOfVal_ok h.wr hxv hcv n w rfl
            obtain ⟨ys', c1', c2', c3', c4', c5'⟩ := cellsOfVal_ok h.wr hxv hcv n w.drew rfl
            have hfy := c5 (Nat.le_refl _)
            have hfy' := c5' (Nat.le_refl _)
            rw [List.take_of_length_le (by omega)] at hfy hfy'
            split at hf
            · -- nil
              rename_i hse
              rw [hse] at hs
              have hsv := scalar_eq (a := .slice none 0 0) rfl hs
              rw [hsv]
              split at hf
              · rename_i hn0
                cases hf
                subst hn0
                have hrun := run_append_in (ty := ty) (b := none) (sLen := 0) (sCap := 0) h0 h1 hu hx hd hi c1 hfy (by omega)
                exact ⟨.value (.slice none 0 0), _, w, mu, by simpa using congrArg (fun r : Result Value => r.andThen fun v w => .ok (Next.value v) w) hrun, .inl rfl, .scalar rfl, h.wr, .refl _ _ _⟩
              · rename_i hn0
                split at hf
                · rename_i hok
                  cases hf
                  have := grow_ok (ty := ty) (b := none) (sLen := 0) (sCap := 0) (old := []) (olds := []) h.wr hb h0 h1 hu hx hd hi hz hzs c1 hfy' (by simp [Builtin.firstCells]) (by omega) (by simpa using hok) .nil c3' (by simp) c2' rfl c4'
                  simpa using this
                · cases hf
            · rename_i ad len cx hse
              rw [hse] at hs
              split at hf
              · cases hf
              · rename_i hsp
                simp only [ne_eq, Classical.not_not] at hsp
                split at hf
                · rename_i vs e0 rw0 hid
                  split at hf
                  · cases hf
                  · rename_i he0
                    simp only [ne_eq, Classical.not_not] at he0
                    subst he0
                    split at hf
                    · cases hf
                    · rename_i old hcut
                      obtain ⟨q, hq, hr⟩ := h.wr.obj _ _ hid rfl
                      obtain ⟨o1, o2, o3, c, e, fr, o4, o5, o6, o7⟩ := hr
                      -- what the slice is in the world
                      have hsv : (∃ cap, a.eval s = .slice (some ⟨q.b, q.o + ad.off, none⟩) len cap ∧ ad.off + cap * info.size ≤ q.room ∧ len ≤ cap ∧ (cx = 0 ∨ cx = cap + 1)) ∨ (∃ a', a.eval s = .slice (some a') 0 0 ∧ len = 0 ∧ cx ≤ 1) := by
                        clear hf
                        generalize a.eval s = sv at hs
                        cases hs with
                        | scalar h => simp [Am.scalar] at h
                        | @hslice _ _ _ cap _ p hm hr hl hxx =>
                          obtain rfl : p = q := by rw [hm] at hq; exact Option.some.inj hq
                          rw [o1] at hr
                          exact .inl ⟨cap, rfl, hr, hl, hxx⟩
                        | hslice0 hxx => exact .inr ⟨_, rfl, rfl, hxx⟩
                        | gslice hl => simp [tag] at hsp
                        | gslice0 => simp [tag] at hsp
                      -- growing, from either
                      have grow : ∀ cap', (∃ b, a.eval s = .slice b len cap' ∧ (b = some ⟨q.b, q.o + ad.off, none⟩ ∨ len = 0)) → cap' < len + n → sizeOk (len + n) info.bytes = true →
                          HOk C base mu σ.heap w (do pure (.value (← Builtin.append_ ats ty #[a.eval s, a.eval x]))) (σ.heap ++ [.cells (old ++ new) info.size true]) (.slice (some ⟨σ.heap.length, 0, tag info.size⟩) (len + n) 0) := by
                        rintro cap' ⟨b, hev, hb'⟩ hlt hok
                        rw [hev]
                        rcases hb' with rfl | rfl
                        · obtain ⟨os, g1, g2, g3, _⟩ := olds_ok (C := C) (sCap := cap') o7 hcut o4 w.drew rfl
                          exact grow_ok (ty := ty) h.wr hb h0 h1 hu hx hd hi hz hzs c1 hfy' g3 hlt hok g2 c3' g1 c2' (cut_all hcut o3) c4'
                        · have ho : old = [] := by
                            have := (cut_length hcut).1; simp at this; exact this
                          subst ho
                          exact grow_ok (ty := ty) (olds := []) h.wr hb h0 h1 hu hx hd hi hz hzs c1 hfy' (by cases b <;> simp [Builtin.firstCells, loadCells, loadCellsFrom]) hlt hok .nil c3' (by simp) c2' rfl c4'
                      split at hf
                      · -- the capacity is not known
                        split at hf
                        · rename_i hn0
                          cases hf
                          subst hn0
                          have hnil : ys = [] := by have := c2; simp at this; exact this
                          subst hnil
                          rcases hsv with ⟨cap, hev, hroom, hle, _⟩ | ⟨a', hev, rfl, _⟩
                          · have hrun := run_append_in (ty := ty) (b := some ⟨q.b, q.o + ad.off, none⟩) (sLen := len) (sCap := cap) h0 h1 hu hx hd hi c1 hfy (by omega)
                            refine ⟨.value (a.eval s), a.eval s, w, mu, ?_, .inl rfl, (noLoc1_down (by simp [noLoc1, hsp, tag]) hs), h.wr, .refl _ _ _⟩
                            rw [hev]; simp [hrun, storeCells]
                          · have hrun := run_append_in (ty := ty) (b := some a') (sLen := 0) (sCap := 0) h0 h1 hu hx hd hi c1 hfy (by omega)
                            refine ⟨.value (a.eval s), a.eval s, w, mu, ?_, .inl rfl, (noLoc1_down (by simp [noLoc1, hsp, tag]) hs), h.wr, .refl _ _ _⟩
                            rw [hev]; simp [hrun, storeCells]
                        · rename_i hn0
                          split at hf
                          · rename_i hok
                            cases hf
                            simp only [Bool.and_eq_true] at hok
                            obtain ⟨hrw, hok⟩ := hok
                            subst hrw
                            obtain rfl := o6 rfl
                            have hidl : ad.block < σ.heap.length := by
                              rcases Nat.lt_or_ge ad.block σ.heap.length with h | h
                              · exact h
                              · rw [List.getElem?_eq_none h] at hid; cases hid
                            -- in a new row: the old one dies
                            have away : HOk C base mu σ.heap w (do pure (.value (← Builtin.append_ ats ty #[a.eval s, a.eval x]))) (σ.heap ++ [.cells (old ++ new) info.size true]) (.slice (some ⟨σ.heap.length, 0, tag info.size⟩) (len + n) 0) →
                                HOk C base mu σ.heap w (do pure (.value (← Builtin.append_ ats ty #[a.eval s, a.eval x]))) (σ.heap.set ad.block .dead ++ [.cells (old ++ new) info.size true]) (.slice (some ⟨σ.heap.length, 0, tag info.size⟩) (len + n) 0) := by
                              rintro ⟨nx, v', w', mu', g1, g2, g3, g4, g5⟩
                              have hm' : mu' ad.block = some q := by rw [g5.same _ hidl]; exact hq
                              have hid' : (σ.heap ++ [.cells (old ++ new) info.size true])[ad.block]? = some (.cells vs info.size true) := by rw [List.getElem?_append_left hidl]; exact hid
                              have hlt := g4.lt hid' rfl hm'
                              obtain ⟨x0, hx0⟩ : ∃ x0, w'.heap[q.b]? = some x0 := ⟨w'.heap[q.b], by simp [hlt]⟩
                              have hself : w'.heap.setIfInBounds q.b x0 = w'.heap := by
                                apply Array.ext_getElem?
                                intro k
                                by_cases hk : k = q.b
                                · subst hk; rw [hx0]; simp [hlt]
                                · rw [Array.getElem?_setIfInBounds_ne (Ne.symm hk)]
                              obtain ⟨k1, k2⟩ := g4.set hid' rfl hm' (w' := w') (x := x0) hself.symm rfl rfl rfl .dead (fun h => by cases h) trivial
                              rw [List.set_append_left _ _ hidl] at k1 k2
                              exact ⟨nx, v', w', mu', g1, g2, g3, k1, g5.trans k2⟩
                            rcases hsv with ⟨cap, hev, hroom, hle, _⟩ | ⟨a', hev, rfl, _⟩
                            · by_cases hin : len + n ≤ cap
                              · -- in place
                                have hat : q.o + ad.off + len * info.size + ys.length ≤ c.size := by
                                  have : (len + n) * info.size ≤ cap * info.size := Nat.mul_le_mul_right _ hin
                                  rw [Nat.add_mul] at this
                                  omega
                                have hst := run_storeCells_put (C := C) (at_ := q.o + ad.off + len * info.size) (ys := ys) o4 hat (one_of_cellOk c3 c4)
                                have hrun := run_append_in (ty := ty) (b := some ⟨q.b, q.o + ad.off, none⟩) (sLen := len) (sCap := cap) h0 h1 hu hx hd hi c1 hfy hin
                                simp only [add_none] at hrun
                                rw [hst] at hrun
                                have hM := h.wr.move hid rfl hq (w' := w.setRow q.b (putCells c (q.o + ad.off + len * info.size) ys)) (setRow_heap_eq o4) rfl rfl rfl (.cells (old ++ new) info.size true) ⟨q.b, q.o + ad.off, q.room - ad.off, info.size⟩ rfl (by
                                  have hol := cut_length hcut
                                  have hnl := c3.1
                                  refine ⟨rfl, by simp only [List.length_append]; omega, by simp [cut_all hcut o3, c4], _, e, _, rfl, by rw [putCells_size (by omega)]; simp only; omega, fun _ => rfl, fun i v hv => ?_⟩
                                  obtain ⟨os, k1, k2, k3⟩ := CellsR.cut o7 hcut
                                  simp only
                                  rw [putCells_get (by omega)]
                                  by_cases hi' : i < old.length
                                  · rw [List.getElem?_append_left hi'] at hv
                                    obtain ⟨v', m1, m2⟩ := k2.get hv
                                    rw [if_neg (by omega)]
                                    exact ⟨v', k3 i v' m1, m2.mono (fun _ _ h => h) (upd_mono h.wr _)⟩
                                  · rw [List.getElem?_append_right (by omega)] at hv
                                    obtain ⟨v', m1, m2⟩ := c3.get hv
                                    have hil : i - old.length < ys.length := by
                                      rcases Nat.lt_or_ge (i - old.length) ys.length with h | h
                                      · exact h
                                      · rw [List.getElem?_eq_none h] at m1; cases m1
                                    rw [if_pos (by omega)]
                                    exact ⟨v', by rw [show q.o + ad.off + i - (q.o + ad.off + len * info.size) = i - old.length by omega]; exact m1, m2.mono (fun _ _ h => h) (upd_mono h.wr _)⟩) (fun _ => rfl)
                                refine ⟨.value (.slice (some ⟨q.b, q.o + ad.off, none⟩) (len + n) cap), _, _, _, by rw [hev]; simp [hrun], .inl rfl, ?_, hM.1, hM.2⟩
                                have := VR.hslice (la := noL) (id := σ.heap.length) (off := 0) (len := len + n) (cap := cap) (cx := 0) (upd_same mu σ.heap.length ⟨q.b, q.o + ad.off, q.room - ad.off, info.size⟩) (by simp only; omega) hin (.inl rfl)
                                simpa using this
                              · exact away (grow cap ⟨_, hev, .inl rfl⟩ (by omega) hok)
                            · exact away (grow 0 ⟨_, hev, .inr rfl⟩ (by omega) hok)
                          · cases hf
                      · -- the capacity is known
                        rename_i cap'
                        split at hf
                        · rename_i hin
                          split at hf
                          · rename_i hrw
                            subst hrw
                            obtain rfl := o6 rfl
                            cases hsp2 : splice vs (ad.off + len * info.size) new with
                            | none => rw [hsp2] at hf; cases hf
                            | some vs' =>
                              rw [hsp2] at hf
                              cases hf
                              obtain ⟨c', e', g1, g2, g3, g4⟩ := h.wr.splice hid hq hsp2 c3 c4
                              obtain ⟨rfl, rfl⟩ : c = c' ∧ e = e' := by
                                rw [g1] at o4
                                simp only [Option.some.injEq, Obj.cells.injEq] at o4
                                exact ⟨o4.1.symm, o4.2.1.symm⟩
                              rcases hsv with ⟨cap, hev, hroom, hle, hcx⟩ | ⟨a', hev, rfl, hcx⟩
                              · have hcap : cap = cap' := by omega
                                subst hcap
                                have hst := run_storeCells_put (C := C) (at_ := q.o + (ad.off + len * info.size)) (ys := ys) g1 g2 (one_of_cellOk c3 c4)
                                have hrun := run_append_in (ty := ty) (b := some ⟨q.b, q.o + ad.off, none⟩) (sLen := len) (sCap := cap) h0 h1 hu hx hd hi c1 hfy hin
                                simp only [add_none, Nat.add_assoc] at hrun hst
                                rw [hst] at hrun
                                refine ⟨.value (.slice (some ⟨q.b, q.o + ad.off, none⟩) (len + n) cap), _, _, mu, by rw [hev]; simp [hrun], .inl rfl, ?_, g3, g4⟩
                                obtain ⟨bl, of, sp⟩ := ad
                                simp only at hsp
                                subst hsp
                                rw [← o1]
                                exact .hslice hq (by rw [o1]; exact hroom) hin (.inr rfl)
                              · have hcap : cap' = 0 := by omega
                                subst hcap
                                have hn0 : n = 0 := by omega
                                subst hn0
                                have hnil : ys = [] := by have := c2; simp at this; exact this
                                subst hnil
                                have hnn : new = [] := by have := c3.1; simp at this; exact this
                                subst hnn
                                have hrun := run_append_in (ty := ty) (b := some a') (sLen := 0) (sCap := 0) h0 h1 hu hx hd hi c1 hfy (by omega)
                                have hvv : vs' = vs := by
                                  unfold Am.splice at hsp2
                                  split at hsp2
                                  · cases hsp2; simp
                                  · cases hsp2
                                subst hvv
                                have hset : σ.heap.set ad.block (.cells vs' info.size true) = σ.heap := by
                                  apply List.ext_getElem?
                                  intro k
                                  rw [List.getElem?_set]
                                  split
                                  · rename_i hk; subst hk
                                    split
                                    · rw [hid]
                                    · rename_i hlt; rw [List.getElem?_eq_none (by omega)]
                                  · rfl
                                rw [hset]
                                refine ⟨.value (a.eval s), a.eval s, w, mu, ?_, .inl rfl, (noLoc1_down (by simp [noLoc1, hsp, tag]) (by simpa using hs)), h.wr, .refl _ _ _⟩
                                rw [hev]; simp [hrun, storeCells]
                          · split at hf
                            · rename_i hn0
                              cases hf
                              subst hn0
                              have hnil : ys = [] := by have := c2; simp at this; exact this
                              subst hnil
                              refine ⟨.value (a.eval s), a.eval s, w, mu, ?_, .inl rfl, (noLoc1_down (by simp [noLoc1, hsp, tag]) (by simpa using hs)), h.wr, .refl _ _ _⟩
                              rcases hsv with ⟨cap, hev, hroom, hle, hcx⟩ | ⟨a', hev, rfl, hcx⟩
                              · have hrun := run_append_in (ty := ty) (b := some ⟨q.b, q.o + ad.off, none⟩) (sLen := len) (sCap := cap) h0 h1 hu hx hd hi c1 hfy (by omega)
                                rw [hev]; simp [hrun, storeCells]
                              · have hrun := run_append_in (ty := ty) (b := some a') (sLen := 0) (sCap := 0) h0 h1 hu hx hd hi c1 hfy (by omega)
                                rw [hev]; simp [hrun, storeCells]
                            · cases hf
                        · rename_i hin
                          split at hf
                          · rename_i hok
                            cases hf
                            rcases hsv with ⟨cap, hev, hroom, hle, hcx⟩ | ⟨a', hev, rfl, hcx⟩
                            · exact grow cap ⟨_, hev, .inl rfl⟩ (by omega) hok
                            · exact grow 0 ⟨_, hev, .inr rfl⟩ (by omega) hok
                          · cases hf
                · cases hf
            · cases hf
  · cases hf

end
end
end Go.Am
