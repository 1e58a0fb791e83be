/-
  THE OPERATIONS, ONE BY ONE: slices of slices, structs and arrays put together, nil.
-/
import Derived.Test.YtdngmncaohgacaaDoorAm5a
set_option linter.unusedSectionVars false
set_option linter.unusedSimpArgs false
set_option linter.unusedVariables false
set_option linter.constructorNameAsVariable false
namespace Go.Am

section
variable [Val]

section
variable {C : Cfg} {la : LMap} {mu : HMap} {w : World}

def ORel (la : LMap) (mu : HMap) : Option Value → Option Value → Prop
  | none, none => True
  | some a, some b => VR la mu a b
  | _, _ => False

theorem ORel.map {f g : Operand → Value} (x : Option Operand) (h : ∀ x, VR la mu (f x) (g x)) : ORel la mu (x.map f) (x.map g) := by
  cases x with
  | none => trivial
  | some x => exact h x

theorem boundOf_ok {x y : Option Value} {r : Option Int} (hb : boundOf x = some r) (h : ORel la mu x y) :
    (r = none ∧ y = none) ∨ (∃ k n, r = some n ∧ y = some (.int k n)) := by
  cases x with
  | none =>
    cases y with
    | none => simp [boundOf] at hb; exact .inl ⟨hb.symm, rfl⟩
    | some _ => exact h.elim
  | some x =>
    cases y with
    | none => exact h.elim
    | some y =>
      cases x <;> simp [boundOf] at hb
      rename_i k n
      have := VR.int h
      exact .inr ⟨k, n, hb.symm, by rw [this]⟩

theorem run_bound_in {k : IntKind} {n : Int} {y : Nat} {code : BoundsCode} (h0 : 0 ≤ n) (h1 : n ≤ y) (w : World) : (Instr.sliceBound (.int k n) y code).run C.P w = .ok n.toNat w := by
  simp [Instr.sliceBound, asIntOf, h0, h1]

/-- The bounds of a slice. -/
theorem run_bounds {lo hi mx : Option Int} {lo' hi' mx' : Option Value} {isSlice : Bool} {len cap : Nat}
    (hlo : (lo = none ∧ lo' = none) ∨ (∃ k n, lo = some n ∧ lo' = some (.int k n))) (hhi : (hi = none ∧ hi' = none) ∨ (∃ k n, hi = some n ∧ hi' = some (.int k n)))
    (hmx : (mx = none ∧ mx' = none) ∨ (∃ k n, mx = some n ∧ mx' = some (.int k n)))
    (h0 : 0 ≤ lo.getD 0) (h1 : lo.getD 0 ≤ hi.getD len) (h2 : hi.getD len ≤ mx.getD cap) (h3 : mx.getD cap ≤ cap) (h4 : mx.isNone ∨ hi.isSome) (w : World) :
    (Instr.sliceBounds isSlice len cap lo' hi' mx').run C.P w = .ok ((lo.getD 0).toNat, (hi.getD len).toNat, (mx.getD cap).toNat) w := by
  rcases hmx with ⟨rfl, rfl⟩ | ⟨km, m, rfl, rfl⟩
  · rcases hhi with ⟨rfl, rfl⟩ | ⟨kh, h, rfl, rfl⟩
    · rcases hlo with ⟨rfl, rfl⟩ | ⟨kl, l, rfl, rfl⟩
      · simp [Instr.sliceBounds]
      · simp at h0 h1 h2 h3
        simp [Instr.sliceBounds, run_bound_in h0 h1]
    · rcases hlo with ⟨rfl, rfl⟩ | ⟨kl, l, rfl, rfl⟩
      · simp at h0 h1 h2 h3
        simp [Instr.sliceBounds, run_bound_in h1 h2]
      · simp at h0 h1 h2 h3
        have e1 := run_bound_in (C := C) (k := kh) (code := if isSlice then .sliceAcap else .sliceAlen) (by omega) h2 w
        have e2 := run_bound_in (C := C) (k := kl) (y := h.toNat) (code := .sliceB) h0 (by omega) w
        simp [Instr.sliceBounds, e1, e2]
  · rcases hhi with ⟨rfl, rfl⟩ | ⟨kh, h, rfl, rfl⟩
    · simp at h4
    · rcases hlo with ⟨rfl, rfl⟩ | ⟨kl, l, rfl, rfl⟩
      · simp at h0 h1 h2 h3
        have e0 := run_bound_in (C := C) (k := km) (code := if isSlice then .slice3Acap else .slice3Alen) (by omega) h3 w
        have e1 := run_bound_in (C := C) (k := kh) (y := m.toNat) (code := .slice3B) (by omega) (by omega) w
        simp [Instr.sliceBounds, e0, e1]
      · simp at h0 h1 h2 h3
        have e0 := run_bound_in (C := C) (k := km) (code := if isSlice then .slice3Acap else .slice3Alen) (by omega) h3 w
        have e1 := run_bound_in (C := C) (k := kh) (n := h) (y := m.toNat) (code := .slice3B) (by omega) (by omega) w
        have e2 := run_bound_in (C := C) (k := kl) (y := h.toNat) (code := .slice3C) h0 (by omega) w
        simp [Instr.sliceBounds, e0, e1, e2]

/-- What a slice comes to, once its bounds are known. -/
theorem run_slice_done {t elem : TypeId} {a : Addr} {len cap l h m : Nat} {lo hi mx : Option Value} {i : TypeInfo} (hu : C.P.underlying t = some (.slice elem)) (hi' : C.P.info? elem = some i)
    (hb : (Instr.sliceBounds true len cap lo hi mx).run C.P w = .ok (l, h, m) w) :
    (Instr.sliceAt t (.slice (some a) len cap) lo hi mx).run C.P w = .ok (.slice (if m = l then some a else some (a.add (l * C.P.cellsOf elem))) (h - l) (m - l)) w := by
  simp only [Instr.sliceAt, Instr.slice, Sem.run_bind, run_underlying hu, Result.andThen_ok]
  simp [hb, run_sizeOf hi']

theorem sliceA_ok {t : TypeId} {x y v : Value} {lo hi mx lo' hi' mx' : Option Value} (hf : sliceA C t x lo hi mx = some v) (h : VR la mu x y)
    (hlo : ORel la mu lo lo') (hhi : ORel la mu hi hi') (hmx : ORel la mu mx mx') : ∃ v', (Instr.sliceAt t y lo' hi' mx').run C.P w = .ok v' w ∧ VR la mu v v' := by
  unfold sliceA at hf
  split at hf
  · rename_i lo0 hi0 mx0 e1 e2 e3
    have r1 := boundOf_ok e1 hlo
    have r2 := boundOf_ok e2 hhi
    have r3 := boundOf_ok e3 hmx
    split at hf
    · rename_i elem a len cx hu
      split at hf
      · cases hf
      · rename_i hz
        obtain ⟨i, hi⟩ := cellsOf_info hz
        split at hf
        · cases hf
        · rename_i hsp
          split at hf
          · rename_i hbd
            obtain ⟨hl0, hl1, hfit⟩ := hbd
            cases hf
            generalize hl : lo0.getD 0 = l at *
            generalize hh : hi0.getD (len : Int) = hv at *
            -- for a capacity that bears the bounds
            have go : ∀ (d : Addr) (cap : Nat), len ≤ cap → (cx = 0 ∨ cx = cap + 1) →
                (Instr.sliceAt t (.slice (some d) len cap) lo' hi' mx').run C.P w =
                  .ok (.slice (if (mx0.getD (cap : Int)).toNat = l.toNat then some d else some (d.add (l.toNat * C.P.cellsOf elem))) (hv.toNat - l.toNat) ((mx0.getD (cap : Int)).toNat - l.toNat)) w ∧
                hv ≤ mx0.getD (cap : Int) ∧ mx0.getD (cap : Int) ≤ cap := by
              intro d cap hlc hcx
              have b2 : hv ≤ mx0.getD (cap : Int) ∧ mx0.getD (cap : Int) ≤ cap := by
                cases mx0 with
                | none => simp only [sliceFits, hh] at hfit; simp; omega
                | some m => simp only [sliceFits, hh] at hfit; simp; omega
              have b3 : mx0.isNone ∨ hi0.isSome := by
                cases mx0 with
                | none => exact .inl rfl
                | some m => exact .inr hfit.1
              refine ⟨run_slice_done hu hi ?_, b2⟩
              rw [run_bounds (len := len) (cap := cap) r1 r2 r3 (by rw [hl]; exact hl0) (by rw [hl, hh]; exact hl1) (by rw [hh]; exact b2.1) b2.2 b3 w, hl, hh]
            cases h with
            | scalar h => simp [Am.scalar] at h
            | hslice h hr hlc hx =>
              rename_i id off cap p
              obtain ⟨hrun, hb1, hb2⟩ := go ⟨p.b, p.o + off, none⟩ cap hlc hx
              refine ⟨_, hrun, ?_⟩
              have hsz : C.P.cellsOf elem = p.esz := by simp [tag] at hsp; exact hsp.symm
              rw [hsz]
              split
              · rename_i hm
                have e1 : hv.toNat - l.toNat = 0 := by omega
                have e2 : (mx0.getD (cap : Int)).toNat - l.toNat = 0 := by omega
                rw [e1, e2]
                refine .hslice0 ?_
                cases mx0 with
                | none => simp [sliceCap] at hm ⊢; omega
                | some m => simp [sliceCap] at hm ⊢; omega
              · rename_i hm
                rw [add_none, Nat.add_assoc]
                refine .hslice h ?_ (by omega) ?_
                · have : (l.toNat + ((mx0.getD (cap : Int)).toNat - l.toNat)) * p.esz ≤ cap * p.esz := Nat.mul_le_mul_right _ (by omega)
                  rw [Nat.add_mul] at this
                  show off + l.toNat * p.esz + _ ≤ p.room
                  omega
                · cases mx0 with
                  | none => simp [sliceCap] at hm ⊢; omega
                  | some m => simp [sliceCap] at hm ⊢
            | hslice0 hx =>
              rename_i id off esz a'
              obtain ⟨hrun, hb1, hb2⟩ := go a' 0 (by omega) (by omega)
              refine ⟨_, hrun, ?_⟩
              have e0 : (mx0.getD ((0 : Nat) : Int)).toNat = l.toNat := by omega
              have e1 : hv.toNat - l.toNat = 0 := by omega
              rw [if_pos e0, e1, e0, Nat.sub_self]
              refine .hslice0 ?_
              cases mx0 with
              | none => simp [sliceCap]; omega
              | some m => simp [sliceCap] at e0 ⊢; omega
            | gslice hlc =>
              rename_i g off cap
              obtain ⟨hrun, hb1, hb2⟩ := go ⟨g, off, none⟩ cap hlc (.inr rfl)
              refine ⟨_, hrun, ?_⟩
              split
              · rename_i hm
                have e1 : hv.toNat - l.toNat = 0 := by omega
                have e2 : (mx0.getD (cap : Int)).toNat - l.toNat = 0 := by omega
                rw [e1, e2]
                have e3 : sliceCap (cap + 1) l.toNat mx0 = 1 := by
                  cases mx0 with
                  | none => simp [sliceCap] at hm ⊢; omega
                  | some m => simp [sliceCap] at hm ⊢; omega
                rw [e3]
                exact .gslice0
              · rename_i hm
                rw [add_none]
                have e3 : sliceCap (cap + 1) l.toNat mx0 = (mx0.getD (cap : Int)).toNat - l.toNat + 1 := by
                  cases mx0 with
                  | none => simp [sliceCap] at hm ⊢; omega
                  | some m => simp [sliceCap]
                rw [e3]
                exact .gslice (by omega)
            | gslice0 =>
              rename_i g off a'
              obtain ⟨hrun, hb1, hb2⟩ := go a' 0 (by omega) (.inr rfl)
              refine ⟨_, hrun, ?_⟩
              have e0 : (mx0.getD ((0 : Nat) : Int)).toNat = l.toNat := by omega
              have e1 : hv.toNat - l.toNat = 0 := by omega
              rw [if_pos e0, e1, e0, Nat.sub_self]
              have e3 : sliceCap (0 + 1) l.toNat mx0 = 1 := by
                cases mx0 with
                | none => simp [sliceCap] at e0 ⊢; omega
                | some m => simp [sliceCap] at e0 ⊢; omega
              rw [e3]
              exact .gslice0
          · cases hf
    · cases hf
  · cases hf

/-! ### Structs and arrays put together -/

theorem foldl_put {vs cs : List Value} (off : Nat) : ∀ (xs ys : List Value) (k : Nat), VRs la mu vs cs → VRs la mu xs ys →
    VRs la mu ((xs.zipIdx k).foldl (fun (acc : Array Value) (c, j) => acc.setIfInBounds (off + j) c) vs.toArray).toList
      ((ys.zipIdx k).foldl (fun (acc : Array Value) (c, j) => acc.setIfInBounds (off + j) c) cs.toArray).toList := by
  intro xs
  induction xs generalizing vs cs with
  | nil =>
    intro ys k h hx
    obtain rfl := hx.unnil
    simpa using h
  | cons x xs ih =>
    intro ys k h hx
    obtain ⟨y, ys, rfl, h1, h2⟩ := hx.uncons
    simp only [List.zipIdx_cons, List.foldl_cons]
    have e1 : vs.toArray.setIfInBounds (off + k) x = (vs.set (off + k) x).toArray := by simp
    have e2 : cs.toArray.setIfInBounds (off + k) y = (cs.set (off + k) y).toArray := by simp
    rw [e1, e2]
    exact ih ys (k + 1) (h.set _ h1) h2

theorem fill_ok (pl : Nat → Option (Nat × Nat)) : ∀ (ps qs : List (Nat × Value)) (vs cs r : Array Value), VRs la mu vs.toList cs.toList →
    (ps.length = qs.length ∧ ∀ (i : Nat) p q, ps[i]? = some p → qs[i]? = some q → p.1 = q.1 ∧ isTuple p.2 = false ∧ VR la mu p.2 q.2) →
    Instr.fill pl vs ps = some r → ∃ r', Instr.fill pl cs qs = some r' ∧ VRs la mu r.toList r'.toList := by
  intro ps
  induction ps with
  | nil =>
    intro qs vs cs r h hp hf
    have : qs = [] := by have := hp.1; cases qs <;> simp_all
    subst this
    simp [Instr.fill] at hf
    subst hf
    exact ⟨cs, by simp [Instr.fill], h⟩
  | cons p ps ih =>
    intro qs vs cs r h hp hf
    cases qs with
    | nil => have := hp.1; simp at this
    | cons q qs =>
      obtain ⟨hl, hpq⟩ := hp
      obtain ⟨e, ht, hv⟩ := hpq 0 p q rfl rfl
      obtain ⟨i, x⟩ := p
      obtain ⟨j, y⟩ := q
      simp only at e ht hv
      subst e
      have hc := hv.cells ht
      have hcs : x.cells.size = y.cells.size := by simpa using hc.1
      have hsz : vs.size = cs.size := by simpa using h.1
      unfold Instr.fill at hf ⊢
      split at hf
      · cases hf
      · rename_i off size hpl
        split at hf
        · cases hf
        · rename_i hcond
          rw [if_neg (by rw [← hcs, ← hsz]; exact hcond)]
          refine ih qs _ _ r ?_ ⟨by simpa using hl, fun k p q hp hq => hpq (k + 1) p q (by simpa using hp) (by simpa using hq)⟩ hf
          have conv : ∀ (zs us : Array Value), (zs.zipIdx.foldl (fun (acc : Array Value) (c, j) => acc.setIfInBounds (off + j) c) us) = zs.toList.zipIdx.foldl (fun (acc : Array Value) (c, j) => acc.setIfInBounds (off + j) c) us := by
            intro zs us; rw [← Array.foldl_toList, Array.toList_zipIdx]
          rw [conv, conv]
          have := foldl_put (la := la) (mu := mu) off x.cells.toList y.cells.toList 0 h hc
          simpa using this

theorem zeroI_ok {i : TypeInfo} {z : Value} (h : zeroI i = some z) : i.zero = some z ∧ z.cells.size = i.size ∧ flat z = true ∧ isTuple z = false := by
  unfold zeroI at h
  split at h
  · rename_i z' hz
    split at h
    · rename_i hc; cases h; exact ⟨hz, hc⟩
    · cases h
  · cases h
theorem zeroOf_info {P : Program} {t : TypeId} {z : Value} (h : zeroOf P t = some z) : ∃ i, P.info? t = some i ∧ i.zero = some z ∧ z.cells.size = i.size ∧ flat z = true ∧ isTuple z = false := by
  unfold zeroOf at h
  cases hi : P.info? t with
  | none => rw [hi] at h; cases h
  | some i => rw [hi, Option.bind_some] at h; exact ⟨i, rfl, zeroI_ok h⟩
theorem zeroOf_ok {P : Program} {t : TypeId} {z : Value} (h : zeroOf P t = some z) : z.cells.size = P.cellsOf t ∧ flat z = true ∧ isTuple z = false := by
  obtain ⟨i, h1, _, h2, h3⟩ := zeroOf_info h
  exact ⟨by rw [h2]; simp [Program.cellsOf, h1], h3⟩

/-- The parts of a struct or an array, related. -/
def PRel (la : LMap) (mu : HMap) (ps qs : List (Nat × Value)) : Prop := ps.length = qs.length ∧ ∀ (i : Nat) p q, ps[i]? = some p → qs[i]? = some q → p.1 = q.1 ∧ isTuple p.2 = false ∧ VR la mu p.2 q.2

theorem run_mapM_places (P : Program) (w : World) : ∀ (fs : List Field), (∀ f ∈ fs, (P.info? f.type).isSome = true) →
    (fs.mapM fun f => (do pure (f.offset, ← sizeOf f.type) : Sem (Nat × Nat))).run P w = .ok (fs.map fun f => (f.offset, P.cellsOf f.type)) w
  | [], _ => by simp
  | f :: fs, h => by
    obtain ⟨i, hi⟩ := Option.isSome_iff_exists.1 (h f (by simp))
    have ih := run_mapM_places P w fs fun g hg => h g (by simp [hg])
    simp only [List.mapM_cons, Sem.run_bind, run_sizeOf hi, Result.andThen_ok, Sem.run_pure, ih, List.map_cons]

theorem buildA_ok {t : TypeId} {ps : List (Nat × Value)} {qs : Array (Nat × Value)} {v : Value} (hf : buildA C t ps = some v) (hp : PRel la mu ps qs.toList) :
    ∃ v', (Instr.build t qs).run C.P w = .ok v' w ∧ VR la mu v v' := by
  unfold buildA at hf
  split at hf
  · rename_i z pl hzero hpl
    cases hfl : Instr.fill pl z.cells ps with
    | none => rw [hfl] at hf; cases hf
    | some r =>
      rw [hfl] at hf
      cases hf
      have hzc : VRs la mu z.cells.toList z.cells.toList := by
        refine ⟨rfl, fun i x y hx hy => ?_⟩
        obtain rfl : x = y := by rw [hx] at hy; exact Option.some.inj hy
        have := (zeroOf_ok hzero).2.1
        cases z with
        | agg cs => exact .scalar (all_get (f := Am.scalar) this hx)
        | tuple cs =>
          have hc : (Value.tuple cs).cells.toList = [.tuple cs] := rfl
          rw [hc] at hx
          cases i with
          | zero => simp at hx; subst hx; exact .of_flat this
          | succ i => simp at hx
        | _ =>
          cases i with
          | zero => simp [Value.cells] at hx; subst hx; exact .of_flat this
          | succ i => simp [Value.cells] at hx
      obtain ⟨r', h1, h2⟩ := fill_ok pl ps qs.toList z.cells z.cells r hzc hp hfl
      refine ⟨.agg r', ?_, h2.agg⟩
      have hzr : (zeroValue t).run C.P w = .ok z w := by
        obtain ⟨i, hi, h1, _⟩ := zeroOf_info hzero
        simp [zeroValue, typeInfo, hi, h1]
      unfold placesOf at hpl
      split at hpl
      · rename_i fs hu
        split at hpl
        · rename_i hall
          cases hpl
          have hm := run_mapM_places C.P w fs.toList (fun f hf => by
            have := Array.all_eq_true_iff_forall_mem.1 hall f (by simpa using hf)
            simpa using this)
          have hpl2 : (fun (i : Nat) => (((fs.toList.map fun (f : Field) => (f.offset, C.P.cellsOf f.type)).toArray)[i]? : Option (Nat × Nat))) = fun (i : Nat) => (fs[i]?).map fun (f : Field) => (f.offset, C.P.cellsOf f.type) := by
            funext i; simp
          simp only [Instr.build, Sem.run_bind, hzr, Result.andThen_ok, run_underlying hu, Array.mapM_eq_mapM_toList, Sem.run_map, hm]
          rw [hpl2, h1]
          rfl
        · cases hpl
      · rename_i n e hu
        split at hpl
        · rename_i hall
          cases hpl
          obtain ⟨i, hi⟩ := Option.isSome_iff_exists.1 hall
          simp only [Instr.build, Sem.run_bind, hzr, Result.andThen_ok, run_underlying hu, run_sizeOf hi]
          rw [h1]
          rfl
        · cases hpl
      · cases hpl
  · cases hf

end
end
end Go.Am
