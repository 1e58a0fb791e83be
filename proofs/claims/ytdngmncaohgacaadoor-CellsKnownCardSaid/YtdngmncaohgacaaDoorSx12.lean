/-
  WHAT THE PACKAGE-LEVEL VARIABLES HOLD, read off the row's list; a call as the row sees it.
-/
import Derived.Test.YtdngmncaohgacaaDoorSx11
import GoSem.ClaimJoined
import Derived.Calls
set_option linter.unusedSectionVars false
set_option linter.unusedSimpArgs false
set_option linter.unusedVariables false
set_option linter.constructorNameAsVariable false
namespace Go.Am
namespace Sx

/-- The cells of a datum of numbers, truth values, structs and arrays. -/
def unL (P : Program) (un : TypeId → DataW Unit → Option (List Value)) : List (Nat × TypeId) → List (DataW Unit) → Nat → Option (List Value)
  | [], [], _ => some []
  | (o, t) :: l, d :: ds, off => match Nat.beq o off, un t d with
    | true, some v => match Nat.beq v.length (P.cellsOf t), unL P un l ds (off + v.length) with
      | true, some vs => some (v ++ vs)
      | _, _ => none
    | _, _ => none
  | _, _, _ => none
def unD (P : Program) : Nat → TypeId → DataW Unit → Option (List Value)
  | 0, _, _ => none
  | fu + 1, t, d => match P.underlying t, d with
    | some .bool, .lit (.bool b) => some [.bool b]
    | some (.int k), .lit (.int _ n) => some [.int k n]
    | some (.struct fs), .agg ds => match unL P (unD P fu) (fs.toList.map fun f => (f.offset, f.type)) ds 0 with
      | some vs => if vs.length = P.cellsOf t then some vs else none
      | none => none
    | some (.array n e), .agg ds => match unL P (unD P fu) ((List.range n).map fun i => (i * P.cellsOf e, e)) ds 0 with
      | some vs => if vs.length = P.cellsOf t then some vs else none
      | none => none
    | _, _ => none

section
variable {P : Program} {w : World} {base : Nat} {spare : Nat → Bool} {held : Bool} {enc : TypeId × Value → Unit}

theorem seg_ok {un : TypeId → DataW Unit → Option (List Value)} {fuel : Nat} (hun : ∀ t d vs, un t d = some vs → ∀ cs p, DataW.trod enc P w base spare held fuel t cs = some (d, p) → cs = vs) {α : Type} (o : α → Nat) (ty : α → TypeId) (cs : List Value) :
    ∀ (l : List α) (xs : List (DataW Unit × List MemPlace)) (off : Nat) (vs : List Value), l.mapM (fun a => DataW.trod enc P w base spare held fuel (ty a) ((cs.drop (o a)).take (P.cellsOf (ty a)))) = some xs →
      unL P un (l.map fun a => (o a, ty a)) (xs.map (·.1)) off = some vs → (cs.drop off).take vs.length = vs
  | [], xs, off, vs, h1, h2 => by
    simp only [List.mapM_nil, Option.pure_def, Option.some.injEq] at h1
    subst h1
    simp only [List.map_nil, unL, Option.some.injEq] at h2
    subst h2
    simp
  | a :: l, xs, off, vs, h1, h2 => by
    rw [List.mapM_cons] at h1
    obtain ⟨x, h3, h1⟩ := Option.bind_eq_some_iff.1 h1
    obtain ⟨ys, h4, h1⟩ := Option.bind_eq_some_iff.1 h1
    cases h1
    simp only [List.map_cons, unL] at h2
    split at h2
    · rename_i v e1 e2
      split at h2
      · rename_i ws e3 e4
        cases h2
        have e1 := Nat.eq_of_beq_eq_true e1
        have e3 := Nat.eq_of_beq_eq_true e3
        have hv := hun _ _ _ e2 _ _ h3
        have ih := seg_ok hun o ty cs l ys _ _ h4 e4
        rw [e1, ← e3] at hv
        rw [List.length_append, List.take_add, hv, List.drop_drop]
        rw [ih]
      · cases h2
    · cases h2

theorem unD_ok : ∀ (fu : Nat) (t : TypeId) (d : DataW Unit) (vs : List Value), unD P fu t d = some vs → ∀ (fuel : Nat) (cs : List Value) (p : List MemPlace), DataW.trod enc P w base spare held fuel t cs = some (d, p) → cs = vs
  | 0, _, _, _, h => by cases h
  | fu + 1, t, d, vs, h => by
    intro fuel cs p hp
    cases fuel with
    | zero => simp [DataW.trod] at hp
    | succ fuel =>
      have hun : ∀ t d vs, unD P fu t d = some vs → ∀ cs p, DataW.trod enc P w base spare held fuel t cs = some (d, p) → cs = vs := fun t d vs h cs p => unD_ok fu t d vs h fuel cs p
      simp only [unD] at h
      split at h
      · rename_i b e
        cases h
        simp only [DataW.trod, e] at hp
        split at hp <;> simp_all
      · rename_i k k' n e
        cases h
        simp only [DataW.trod, e] at hp
        split at hp <;> first | cases hp | skip
        all_goals first
          | (split at hp
             · rename_i hh; simp at hp; obtain ⟨⟨rfl, rfl⟩, _⟩ := hp; rw [hh.1]
             · cases hp)
          | simp_all
      · rename_i fs ds e
        split at h
        · rename_i ws e2
          split at h
          · rename_i e3
            cases h
            simp only [DataW.trod, e] at hp
            split at hp
            · rename_i e4
              obtain ⟨xs, h5, h6⟩ := Option.map_eq_some_iff.1 hp
              simp only [Prod.mk.injEq, DataW.agg.injEq] at h6
              rw [← h6.1] at e2
              have := seg_ok hun (fun f : Field => f.offset) (fun f : Field => f.type) cs _ xs 0 _ h5 e2
              rw [List.drop_zero, List.take_of_length_le (by omega)] at this
              exact this
            · cases hp
          · cases h
        · cases h
      · rename_i n el ds e
        split at h
        · rename_i ws e2
          split at h
          · rename_i e3
            cases h
            simp only [DataW.trod, e] at hp
            split at hp
            · rename_i e4
              obtain ⟨xs, h5, h6⟩ := Option.map_eq_some_iff.1 hp
              simp only [Prod.mk.injEq, DataW.agg.injEq] at h6
              rw [← h6.1] at e2
              have := seg_ok hun (fun i => i * P.cellsOf el) (fun _ => el) cs _ xs 0 _ h5 e2
              rw [List.drop_zero, List.take_of_length_le (by omega)] at this
              exact this
            · cases hp
          · cases h
        · cases h
      · cases h

end

section
variable [Val]

/-- A call, as the row sees it. -/
theorem calls_of_ok {C : Cfg} {f : FuncId} {args : List Value} {r : Value} {H' : List HObj} (h : CallOk C f args [] r H') {args' : Array Value} {W : World} (ha : args.all flat = true) (hargs : args'.toList = args) (hr : flat r = true)
    (hG : ∀ g vs, C.G g = some vs → g < W.heap.size ∧ vs.all cellOk = true ∧ vs.all flat = true ∧ ∃ c e fr, W.heap[g]? = some (.cells c e fr) ∧ c.toList = vs) :
    Calls C.P f args' W fun e W' => e = .returned r ∧ W'.os = W.os ∧ W'.output = W.output ∧ W'.tape = W.tape ∧ ∀ b, b < W.heap.size → W'.heap[b]? = W.heap[b]? := by
  have hW0 : WR C W.heap.size (fun _ => none) [] W := by
    refine ⟨fun id o h => by simp at h, fun i j oi oj pi pj h => by simp at h, fun i o p h => by simp at h, fun i o p h => by simp at h, fun _ _ => rfl, fun g vs hg => ?_⟩
    obtain ⟨h1, h2, h3, c, e, fr, h4, h5⟩ := hG g vs hg
    refine ⟨h1, h2, c, e, fr, h4, ?_⟩
    rw [h5]
    exact ⟨rfl, fun i x y hx hy => by rw [hx] at hy; cases hy; exact .of_flat (List.all_eq_true.1 h3 x (List.mem_of_getElem? hx))⟩
  have hV : VRs noL (fun _ => none) args args'.toList := by
    rw [hargs]
    exact ⟨rfl, fun i x y hx hy => by rw [hx] at hy; cases hy; exact .of_flat (List.all_eq_true.1 ha x (List.mem_of_getElem? hx))⟩
  obtain ⟨v, mu', w', a1, a2, a3, _, a5⟩ := h W.heap.size (fun _ => none) W args' (Nat.le_refl _) hV hW0
  rw [flat_eq hr a1] at a5
  intro cs
  obtain ⟨fr, b1, b2, b3⟩ := a5 cs
  exact ⟨.returned r, w', fr, ⟨rfl, a3.os, a3.output, a3.tape, fun b hb => a3.keep b hb no_own⟩, b1, b2, b3⟩

end
end Sx
end Go.Am
