/-
  FROM A CALL TO THE ROW: arguments without addresses.
-/
import Derived.Test.YtdngmncaohgacaaDoorSx12
import Derived.Test.YtdngmncaohgacaaDoorRows
import Derived.ProofKit
import Derived.LaidMore
import Derived.OpenShut
import Derived.Stop.Joined
import Derived.MakeChecks
set_option linter.unusedSectionVars false
set_option linter.unusedSimpArgs false
set_option linter.unusedVariables false
set_option linter.constructorNameAsVariable false
namespace Go.Am
namespace Sx
open Go.ChangeShapes Go.WideShapes Go.ChangeAt Go.WideMaps Go.WideElems Go.RowKit

theorem kept_of {W W' : World} (h1 : W'.os = W.os) (h2 : W'.output = W.output) (h3 : ∀ b, b < W.heap.size → W'.heap[b]? = W.heap[b]?) (may : MemPlace → Prop) : W.keptBut W' may := by
  refine ⟨h1, h2, fun i hi => ?_⟩
  rw [h3 i hi]
  exact (World.keptBut_refl W may).2.2 i hi

theorem post_flat {H : Type} {enc : TypeId × Value → H} {P : Program} {f : Func} {s : ChangeSpec} {apart fresh handsOn again : Bool} {W W' : World} {args : Array Value} {v : Value} {ds gs : List (DataW H)}
    (hW : DataW.Whole enc P f.params.toList s.vars apart W args.toList ds gs [])
    (hres : ∀ (b : Nat) (sp : Nat → Bool) (hd : Bool), DataW.TrodAll enc P W' b sp hd f.resultTypes.toList (v.resultList f.resultTypes.size) (s.fn H (ds ++ gs)).results [])
    (hargs : ∀ sp : Nat → Bool, DataW.TrodAll enc P W' 0 sp true f.params.toList args.toList (s.fn H (ds ++ gs)).args [])
    (hvars : ∀ sp : Nat → Bool, DataW.TrodVars enc P W' sp s.vars (s.fn H (ds ++ gs)).vars [])
    (h1 : W'.os = W.os) (h2 : W'.output = W.output) (h3 : ∀ b, b < W.heap.size → W'.heap[b]? = W.heap[b]?)
    (hok : ∀ (j : Nat) (t : TypeId) (r : Value), f.resultTypes[j]? = some t → (v.resultList f.resultTypes.size)[j]? = some r → Value.okWide P W' .any 0 t r) :
    s.post enc P f apart fresh handsOn again W args v W' := by
  refine ⟨ds, gs, [], [], [], [], hW, hres _ _ _, hargs _, hvars _, kept_of h1 h2 h3 _, fun _ => ?_⟩
  refine ⟨hok, _, _, [], ⟨[], [], trodAll_append (hargs _) (hres _ _ _), hvars _, rfl, ?_, ?_⟩, ?_⟩
  · intro b off hp; cases hp
  · intro _; exact List.nodup_nil
  · intro p hp; cases hp

/-- A variable that is listed. -/
theorem laid_cells {P : Program} {w : World} {laid : List (String × DataW Unit)} {ps : List MemPlace} (h : DataW.LaidVars P w laid ps) : ∀ n d, (n, d) ∈ laid → ∀ g t fu vs, P.globalNamed n = some g → (P.globals[g]?).map (·.type) = some t → unD P fu t d = some vs →
    ∃ c e fr, w.heap[g]? = some (.cells c e fr) ∧ c.toList = vs := by
  induction laid generalizing ps with
  | nil => intro n d h; cases h
  | cons x l ih =>
    obtain ⟨n0, d0⟩ := x
    obtain ⟨g0, t0, cs, fuel, p, q, a1, a2, a3, a4, a5, a6⟩ := h
    intro n d hm g t fu vs b1 b2 b3
    rcases List.mem_cons.1 hm with e | hm
    · cases e
      rw [a1] at b1; cases b1
      rw [a2] at b2; cases b2
      have hc := unD_ok fu _ _ vs b3 _ _ _ a4
      unfold World.var? at a3
      rw [a1] at a3
      simp only [Option.bind_some] at a3
      split at a3
      · rename_i c ty fr e
        cases a3
        exact ⟨_, _, _, e, hc⟩
      · cases a3
    · exact ih a5 n d hm g t fu vs b1 b2 b3

section
variable [Val] [Kno]
/-- A closed function that says true. -/
theorem closed_true {C : Cfg} {Sg : FuncId → Option Sig} {T : Nat → Site} {call : CallB} (hc : CallBOk C Sg T call) {g : FuncId} (hs : Sg g = some ⟨[], [.leaf .b]⟩) (h : call (.f g) [] [] (fun l _ => match l with | [.b t] => t | _ => false) = true) :
    ∃ H', uCall C g [] [] (.bool true) H' := by
  obtain ⟨rs, h', ⟨sg, xs, ys, c1, c2, c3, c4⟩, hk⟩ := hc.f g [] [] _ (fun _ h => by cases h) h
  rw [hs] at c1
  cases c1
  have hx : xs = [] := by
    have := c2.1
    cases xs with
    | nil => rfl
    | cons x l => cases this
  subst hx
  obtain ⟨d1, d2, _⟩ := c3
  obtain ⟨y, rfl⟩ : ∃ y, ys = [y] := List.length_eq_one_iff.1 (areIs_length d1)
  · simp only [areIs, Bool.and_true] at d1
    cases y with
    | agg _ => cases d1
    | leaf l =>
      cases l with
      | b t =>
        simp only [lfsOf, S0.cells, List.map_cons, SL.lf, List.map_nil, List.append_nil] at d2
        subst d2
        have hk : t = true := hk
        subst hk
        exact ⟨_, c4⟩
      | l t =>
        simp only [lfsOf, S0.cells, List.map_cons, SL.lf, List.map_nil, List.append_nil] at d2
        subst d2
        have hk : t = true := hk
        subst hk
        exact ⟨_, c4⟩
      | i _ _ => cases d1
      | v _ => cases d1
end
end Sx
end Go.Am
