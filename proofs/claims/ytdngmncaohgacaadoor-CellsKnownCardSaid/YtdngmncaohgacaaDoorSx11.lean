/-
  CALLS THAT LEAVE NOTHING BEHIND: a run that begins with an empty heap is a run over any heap.
-/
import Derived.Test.YtdngmncaohgacaaDoorSx10
set_option linter.unusedSectionVars false
set_option linter.unusedSimpArgs false
set_option linter.unusedVariables false
set_option linter.constructorNameAsVariable false
namespace Go.Am
namespace Sx

section
variable [Val]

theorem objR_keep {mu : HMap} {p : Pl} {x y : Option Obj} {o : HObj} (hxy : ∀ a, x = some a → y = some a) (h : objR mu p x o) : objR mu p y o := by
  cases o with
  | cells vs esz rw =>
    obtain ⟨h1, h2, h3, c, e, fr, h4, h5⟩ := h
    exact ⟨h1, h2, h3, c, e, fr, hxy _ h4, h5⟩
  | map es clock =>
    obtain ⟨es', h1, h2⟩ := h
    exact ⟨es', hxy _ h1, h2⟩
  | loop r =>
    obtain ⟨L, h1, h2⟩ := h
    exact ⟨L, hxy _ h1, h2⟩
  | siter s pos => exact hxy _ h
  | dead => trivial

theorem flatVRs {la : LMap} {mu mu' : HMap} {vs cs : List Value} (hf : vs.all flat = true) (h : VRs la mu vs cs) : VRs la mu' vs cs := by
  refine ⟨h.1, fun i x y hx hy => ?_⟩
  have h1 := h.2 i x y hx hy
  have h2 : flat x = true := List.all_eq_true.1 hf x (List.mem_of_getElem? hx)
  rw [flat_eq h2 h1]
  exact .of_flat h2

theorem no_own {mu : HMap} {b : Nat} : ¬ Own mu [] b := by
  rintro ⟨id, o, p, h, _⟩
  simp at h

/-- THE FRAME. -/
theorem frame_ok {C : Cfg} (hG : ∀ g vs, C.G g = some vs → vs.all flat = true) {f : FuncId} {args : List Value} {r : Value} {H' : List HObj} (h : CallOk C f args [] r H') (ha : args.all flat = true) (hr : flat r = true) (H : List HObj) : CallOk C f args H r H := by
  intro base mu w args' hb hargs hW
  have hW0 : WR C w.heap.size (fun _ => none) [] w := by
    refine ⟨fun id o h => by simp at h, fun i j oi oj pi pj h => by simp at h, fun i o p h => by simp at h, fun i o p h => by simp at h, fun _ _ => rfl, fun g vs hg => ?_⟩
    obtain ⟨h1, h2, c, e, fr, h3, h4⟩ := hW.glob g vs hg
    exact ⟨by omega, h2, c, e, fr, h3, flatVRs (hG g vs hg) h4⟩
  obtain ⟨v, mu', w', a1, a2, a3, a4, a5⟩ := h w.heap.size (fun _ => none) w args' (Nat.le_refl _) (flatVRs ha hargs) hW0
  have hkeep : ∀ (b : Nat) x, w.heap[b]? = some x → w'.heap[b]? = some x := by
    intro b x hx
    have hlt : b < w.heap.size := by
      rcases Nat.lt_or_ge b w.heap.size with h | h
      · exact h
      · rw [Array.getElem?_eq_none h] at hx; cases hx
    rw [a3.keep b hlt no_own]; exact hx
  refine ⟨v, mu, w', ?_, ?_, ?_, a4, a5⟩
  · rw [flat_eq hr a1]; exact .of_flat hr
  · refine ⟨fun id o h1 h2 => ?_, hW.inj, hW.own, hW.ro, hW.dom, fun g vs hg => ?_⟩
    · obtain ⟨p, h3, h4⟩ := hW.obj id o h1 h2
      exact ⟨p, h3, objR_keep (hkeep p.b) h4⟩
    · obtain ⟨h1, h2, c, e, fr, h3, h4⟩ := hW.glob g vs hg
      exact ⟨h1, h2, c, e, fr, hkeep _ _ h3, h4⟩
  · exact ⟨Nat.le_refl _, fun _ _ => rfl, a3.size, fun b hb _ => a3.keep b hb no_own, fun b h => .inr h, a3.os, a3.tape, a3.output⟩

end

section
variable [Val] [Kno]

/-- What is known is a call. -/
theorem call_known {C : Cfg} {f : FuncId} {args : List Value} {r : Value} (h : Kno.kn f args r) (H : List HObj) : uCall C f args H r H := ⟨0, h, rfl⟩

end
end Sx
end Go.Am
