/-
  The examples of the chapter on cells hold, and so do all its laws at the cells derived from a counter (a closed statement; no conditions).
-/
import Derived.Test.YtdngmncaohgacaaDoorGr
import Derived.Test.YtdngmncaohgacaaDoorSx13
import Derived.Test.YtdngmncaohgacaaDoorTie
import Derived.Test.YtdngmncaohgacaaDoorCards
import Derived.SevenTiedAt
set_option linter.unusedSectionVars false
set_option linter.unusedSimpArgs false
set_option linter.unusedVariables false
set_option linter.constructorNameAsVariable false
set_option maxRecDepth 100000
namespace Go.Proofs.YtdngmncaohgacaaDoor
open Go Go.Am Go.Am.Sx
open Go.ChangeShapes Go.WideShapes Go.ChangeAt Go.WideMaps Go.WideElems Go.RowKit

instance val0 : Val := ⟨fun _ => 0⟩
theorem mixed : cc.P.follows .mixedOrders = true := by kernel_rfl
theorem gl_cells : (gl0.all cellOk && gl0.all flat && gl1.all cellOk && gl1.all flat) = true := by kernel_rfl
theorem gl_flat (g : Nat) (vs : List Value) (h : cc.G g = some vs) : vs.all flat = true := by
  have := gl_cells
  simp only [Bool.and_eq_true] at this
  unfold cc at h
  simp only at h
  split at h
  · cases h; exact this.1.1.2
  · cases h; exact this.2
  · cases h
theorem gl_cell (g : Nat) (vs : List Value) (h : cc.G g = some vs) : vs.all cellOk = true := by
  have := gl_cells
  simp only [Bool.and_eq_true] at this
  unfold cc at h
  simp only at h
  split at h
  · cases h; exact this.1.1.1
  · cases h; exact this.1.2
  · cases h

theorem lives44_run : runR [] 60 (.f 44) [] [] isT = true := by kernel_rfl
/-- The examples of the chapter. -/
theorem lives44 (H : List HObj) : CallOk cc 44 [] H (.bool true) H := by
  let _ : Kno := ⟨fun _ _ _ => False⟩
  obtain ⟨H', h⟩ := closed_true (run_ok [] (fun _ h => by cases h) 60) (g := 44) (by kernel_rfl) lives44_run
  exact frame_ok gl_flat (uCall_ok mixed (fun _ _ _ h => absurd h id) h) rfl rfl H
instance kn44 : Kno := ⟨fun f args r => f = 44 ∧ args = [] ∧ r = .bool true⟩
theorem kn44_ok (f : FuncId) (args : List Value) (r : Value) (h : Kno.kn f args r) (H : List HObj) : CallOk cc f args H r H := by
  obtain ⟨rfl, rfl, rfl⟩ := h
  exact lives44 H
theorem run44 (n : Nat) : CallBOk cc sgTab siteTab (runR [(44, true)] n) := run_ok [(44, true)] (fun p hp => by
  simp only [List.mem_singleton] at hp
  subst hp
  exact ⟨by kernel_rfl, rfl, rfl, rfl⟩) n

abbrev laidC : List (String × DataW Unit) := [("crimp/moves.turns", Rows.laid_crimp_moves_turns), ("crimp/cells.quarters", Rows.laid_crimp_cells_quarters)]
theorem name0 : Tryd.prog.globalNamed "crimp/cells.quarters" = some 0 := by kernel_rfl
theorem name1 : Tryd.prog.globalNamed "crimp/moves.turns" = some 1 := by kernel_rfl
/-- What the list gives. -/
theorem of_laid {W : World} (h : laidMetH Tryd.prog laidC W) (g : Nat) (vs : List Value) (hg : cc.G g = some vs) :
    g < W.heap.size ∧ vs.all cellOk = true ∧ vs.all flat = true ∧ ∃ c e fr, W.heap[g]? = some (.cells c e fr) ∧ c.toList = vs := by
  rw [MakeChecks.laidMetH_plain _ _ _ (by kernel_rfl)] at h
  obtain ⟨ps, h, _, _⟩ := h
  have main : ∃ c e fr, W.heap[g]? = some (.cells c e fr) ∧ c.toList = vs := by
    unfold cc at hg
    simp only at hg
    split at hg
    · cases hg
      exact laid_cells h "crimp/cells.quarters" Rows.laid_crimp_cells_quarters (List.mem_cons_of_mem _ List.mem_cons_self) 0 137 8 gl0 name0 (by kernel_rfl) (by kernel_rfl)
    · cases hg
      exact laid_cells h "crimp/moves.turns" Rows.laid_crimp_moves_turns List.mem_cons_self 1 154 8 gl1 name1 (by kernel_rfl) (by kernel_rfl)
    · cases hg
  refine ⟨?_, gl_cell g vs hg, gl_flat g vs hg, main⟩
  obtain ⟨c, e, fr, h1, _⟩ := main
  rcases Nat.lt_or_ge g W.heap.size with h | h
  · exact h
  · rw [Array.getElem?_eq_none h] at h1; cases h1
theorem own : ownKnob Tryd.prog.godebug = none := by kernel_rfl
theorem door_met (os : Os) (args : Array Value) : laidMetH Tryd.prog laidC ((World.doorLaid Tryd.prog 400 os).forCall (fun _ _ => 0) ⟨#[], args, []⟩).memory :=
  laidMetH_of_parts3 (fuel := 8) (laidMet_of_run' 8 (by kernel_rfl) (by kernel_rfl)) (by kernel_rfl) (by kernel_rfl)

theorem known_run : runR [(44, true)] 60 (.f 16) [] [] isT = true := by kernel_rfl
theorem known_call : ∃ H', CallOk cc 16 [] [] (.bool true) H' := by
  obtain ⟨H', h⟩ := closed_true (run44 60) (g := 16) (by kernel_rfl) known_run
  exact ⟨H', uCall_ok mixed kn44_ok h⟩

theorem lifted (os : Os) (started : os.Started) (H : Type) (enc : TypeId × Value → H) :
    ReturnsInHanded {} Tryd.checked os 16 .any (fun w args => (Rows.cellsKnownSpec.pre enc Tryd.prog Tryd.f16 [] false w args ∧ laidMetH Tryd.prog laidC w) ∧ sizedMet enc Tryd.prog Tryd.f16 (OpenSpec.ofChange Rows.cellsKnownSpec) false w args)
      (Rows.cellsKnownSpec.post enc Tryd.prog Tryd.f16 false true false false) := by
  refine returnsInHanded_of_change_and (C := Tryd.checked) (X := fun w _ => laidMetH Tryd.prog laidC w) (fun _ _ _ hh h => h.of_heap hh) own started (by kernel_rfl) Tryd.func16
    (ChangeSpec.witness_shaped (enc := enc) (C := Tryd.checked) (os := os) (X := fun w _ => laidMetH Tryd.prog laidC w) false (World.doorLaid Tryd.prog 400 os) #[] 8 rfl (World.shaped_of_RefB (by kernel_rfl) (by kernel_rfl)) (by kernel_rfl) (by kernel_rfl) (by kernel_rfl) (door_met os _)) ?_
  intro W base args ds gs before _ hW _ _ hL _
  obtain ⟨p, q, hA0, hV, rfl, hfz, hnd⟩ := id hW
  have hA : DataW.TrodAll enc Tryd.prog W 0 (fun _ => true) true [] args.toList ds p := by
    have := hA0
    rw [show Tryd.f16.params.toList = [] by kernel_rfl] at this
    exact this
  obtain ⟨rfl, rfl⟩ := trodVars_none hV
  have hargs : args = #[] ∧ ds = [] ∧ p = [] := by
    obtain ⟨l⟩ := args
    match l, ds, hA with
    | [], [], hA => exact ⟨rfl, rfl, hA⟩
  obtain ⟨rfl, rfl, rfl⟩ := hargs
  obtain ⟨H', hc⟩ := known_call
  refine (calls_of_ok hc (args' := #[]) rfl rfl rfl (of_laid hL)).mono fun e W' ⟨he, h1, h2, _, h3⟩ => ⟨_, he, ?_⟩
  exact post_flat hW (fun _ _ _ => trodAll_mk1 (shut_bool Tryd.underlying4 _)) (fun _ => by rw [show Tryd.f16.params.toList = [] by kernel_rfl]; exact rfl) (fun _ => rfl) h1 h2 h3 (ok_one (by kernel_rfl) rfl (okWide_bool_mk Tryd.underlying4 _))

set_option maxRecDepth 100000 in
theorem cellsKnown_said : Rows.CellsKnownSaid :=
  OpenClaim.holds_of_wide 16 Tryd.f16 rfl rfl rfl rfl rfl rfl rfl ⟨rfl, rfl, rfl, rfl, rfl⟩ rfl rfl rfl rfl rfl (by kernel_rfl) Tryd.func16 (by kernel_rfl)
    (of_decide_eq_true (by kernel_rfl)) (by unfold Func.isWrapper; first | (rw [if_pos (by decide +kernel)]; kernel_rfl) | (rw [if_neg (by decide +kernel)]; exact ⟨rfl, rfl⟩))
    (fun os started H enc _ => lifted os started H enc)

theorem cellsKnown : Rows.CellsKnownCardSaid :=
  Claim7.holds_tied_plain_at .later [] [.wider, .data] true (true, "5322ce7c994bb8f456b6a3e29e3f4d738235be5bec9dfe569c55de057caa8fdd") false
    cellsKnown_said (fun _ h => by cases h) (by kernel_rfl) (fun _ h => by cases h) cellsKnown_row_tie rfl ⟨rfl, rfl⟩ (by kernel_rfl) rfl
    (fun f fn hf hfn => by
      obtain rfl : f = 16 := Option.some.inj ((show Tryd.prog.funcNamed "crimp/crimplaw03.CellsKnown" = some 16 by kernel_rfl).symm.trans hf) |>.symm
      obtain rfl : fn = Tryd.f16 := (Option.some.inj (Tryd.func16.symm.trans hfn)).symm
      exact ⟨by kernel_rfl, fun j t ht => by
        rw [show Tryd.f16.params = #[] by kernel_rfl] at ht
        simp at ht⟩)
    (by kernel_rfl)
#print axioms cellsKnown
end Go.Proofs.YtdngmncaohgacaaDoor
