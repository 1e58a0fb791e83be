/-
  CellsWay: the law returns true at whatever arguments, and leaves them as they were (no conditions; the tables that the row lists hold what the program's text lays).
-/
import Derived.Test.YtdngmncaohgacaaDoorCW6
set_option linter.unusedSectionVars false
set_option linter.unusedSimpArgs false
set_option linter.unusedVariables false
set_option linter.constructorNameAsVariable false
set_option linter.defProp false
set_option maxRecDepth 100000
namespace Go.Proofs.YtdngmncaohgacaaDoor
open Go Go.Am Go.Am.Sx
open Go.ChangeShapes Go.WideShapes Go.ChangeAt Go.WideMaps Go.WideElems Go.RowKit

theorem lifted (os : Os) (started : os.Started) (H : Type) (enc : TypeId × Value → H) :
    ReturnsInHanded {} Tryd.checked os 15 .any (fun w args => (Rows.cellsWaySpec.pre enc Tryd.prog Tryd.f15 [] false w args ∧ laidMetH Tryd.prog laidC w) ∧ sizedMet enc Tryd.prog Tryd.f15 (OpenSpec.ofChange Rows.cellsWaySpec) false w args)
      (Rows.cellsWaySpec.post enc Tryd.prog Tryd.f15 false true false false) := by
  refine returnsInHanded_of_change_and (C := Tryd.checked) (X := fun w _ => laidMetH Tryd.prog laidC w) (fun _ _ _ hh h => h.of_heap hh) own started (by kernel_rfl) Tryd.func15
    (ChangeSpec.witness_shaped (enc := enc) (C := Tryd.checked) (os := os) (X := fun w _ => laidMetH Tryd.prog laidC w) false (World.doorLaid Tryd.prog 400 os) #[.agg #[.int .i8 0, .int .i8 0, .int .u8 0], .slice none 0 0] 8 rfl (World.shaped_of_RefB (by kernel_rfl) (by kernel_rfl)) (by kernel_rfl) (by kernel_rfl) (by kernel_rfl) (door_met os _)) ?_
  intro W base args ds gs before hval hW _ _ hL _
  obtain ⟨p, q, hA0, hV, hbef, hfz, hnd⟩ := id hW
  obtain ⟨rfl, rfl⟩ := trodVars_none hV
  have hl : ds.length = 2 := (kN hA0).trans (by kernel_rfl)
  obtain ⟨xs, bl, a1, a2, a3, a4, a5, a6⟩ := lR Tryd.f15.params.toList [[.i .i8, .i .i8, .i .u8], [.s [.i .u8]]] [.agg [.i .i8, .i .i8, .i .u8], lv] args.toList ds p 0 (by kernel_rfl) (fun j t v h1 h2 => hval j t v (by simpa using h1) (by simpa using h2)) hA0
  obtain ⟨h', hcl⟩ := jI (bU xs) (bl.map fun b => HO.o b.1) (a5 _ (hp_at bl))
  rw [absH_bl] at hcl
  have hc := nS (N := neuN) dm (Sg := ae) (g := 15) (sg := ⟨[.agg [.i .i8, .i .i8, .i .u8], lv], [lb]⟩) rfl hcl a2 rfl (ys := [.leaf (.b true)]) rfl rfl
  rcases ds with _ | ⟨d1, _ | ⟨d2, _ | ⟨d0, ds⟩⟩⟩ <;> first | (exfalso; simp at hl; done) | skip
  refine (pA a1 hc (args' := args) a4 rfl (of_laid hL)).mono fun e W' ⟨he, h1, h2, _, h3⟩ => ⟨_, he, ?_⟩
  exact post_sl hW (fun _ _ _ => trodAll_mk1 (shut_bool Tryd.underlying4 _)) (a6 W' _ h3 (fun b hb => by simpa using hb)) (fun _ => rfl) h1 h2 h3

set_option maxRecDepth 100000 in
theorem cellsWay_said : Rows.CellsWaySaid :=
  OpenClaim.holds_of_wide 15 Tryd.f15 rfl rfl rfl rfl rfl rfl rfl ⟨rfl, rfl, rfl, rfl, rfl⟩ rfl rfl rfl rfl rfl (by kernel_rfl) Tryd.func15 (by kernel_rfl)
    (of_decide_eq_true (by kernel_rfl)) (by unfold Func.isWrapper; first | (rw [if_pos (by decide +kernel)]; kernel_rfl) | (rw [if_neg (by decide +kernel)]; exact ⟨rfl, rfl⟩))
    (fun os started H enc _ => lifted os started H enc)

theorem no_stand : (Tryd.f15.params.toList.all fun t => !Tryd.prog.wantsStandIn t) = true := by kernel_rfl
theorem cellsWay : Rows.CellsWayCardSaid :=
  Claim7.holds_tied_plain_at .later [] [.wider, .data] true (true, "5322ce7c994bb8f456b6a3e29e3f4d738235be5bec9dfe569c55de057caa8fdd") false
    cellsWay_said (fun _ h => by cases h) (by kernel_rfl) (fun _ h => by cases h) cellsWay_row_tie rfl ⟨rfl, rfl⟩ (by kernel_rfl) rfl
    (fun f fn hf hfn => by
      obtain rfl : f = 15 := Option.some.inj ((show Tryd.prog.funcNamed "crimp/crimplaw03.CellsWay" = some 15 by kernel_rfl).symm.trans hf) |>.symm
      obtain rfl : fn = Tryd.f15 := (Option.some.inj (Tryd.func15.symm.trans hfn)).symm
      exact ⟨by kernel_rfl, fun j t ht => by
        have h := List.all_eq_true.1 no_stand t (by rw [← Array.getElem?_toList] at ht; exact List.mem_of_getElem? ht)
        exact (show Tryd.prog.wantsStandIn t = false by simpa using h)⟩)
    (by kernel_rfl)
#print axioms cellsWay
end Go.Proofs.YtdngmncaohgacaaDoor
