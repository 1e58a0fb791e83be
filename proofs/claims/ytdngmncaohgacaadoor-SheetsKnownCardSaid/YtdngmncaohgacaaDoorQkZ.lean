/-
  SheetsKnown: the law returns true at whatever arguments, and leaves them as they were (no conditions; the tables that the row lists hold what the program's text lays).
-/
import Derived.Test.YtdngmncaohgacaaDoorQk13
set_option linter.unusedSectionVars false
set_option linter.unusedSimpArgs false
set_option linter.unusedVariables false
set_option linter.constructorNameAsVariable false
set_option linter.defProp false
set_option maxRecDepth 100000
namespace Go.Proofs.YtdngmncaohgacaaDoor
open Go Go.Am Go.Am.Sx
open Go.ChangeShapes Go.WideShapes Go.ChangeAt Go.WideMaps Go.WideElems Go.RowKit

theorem leaves : ∀ ls, FitL [] ls → Cc 8 ls [.b true] := by
  intro ls h
  obtain rfl := FitL.nil h
  exact sheetsKnown_any (by omega)

theorem lifted (os : Os) (started : os.Started) (H : Type) (enc : TypeId × Value → H) :
    ReturnsInHanded {} Tryd.checked os 8 .any (fun w args => (Rows.sheetsKnownSpec.pre enc Tryd.prog Tryd.f8 [] false w args ∧ laidMetH Tryd.prog laidC w) ∧ sizedMet enc Tryd.prog Tryd.f8 (OpenSpec.ofChange Rows.sheetsKnownSpec) false w args)
      (Rows.sheetsKnownSpec.post enc Tryd.prog Tryd.f8 false true false false) := by
  refine returnsInHanded_of_change_and (C := Tryd.checked) (X := fun w _ => laidMetH Tryd.prog laidC w) (fun _ _ _ hh h => h.of_heap hh) own started (by kernel_rfl) Tryd.func8
    (ChangeSpec.witness_shaped (enc := enc) (C := Tryd.checked) (os := os) (X := fun w _ => laidMetH Tryd.prog laidC w) false (World.doorLaid Tryd.prog 400 os) #[] 8 rfl (World.shaped_of_RefB (by kernel_rfl) (by kernel_rfl)) (by kernel_rfl) (by kernel_rfl) (by kernel_rfl) (door_met os _)) ?_
  intro W base args ds gs before hval hW _ _ hL _
  obtain ⟨p, q, hA0, hV, rfl, hfz, hnd⟩ := id hW
  obtain ⟨rfl, rfl⟩ := trodVars_none hV
  have hl : ds.length = 0 := (trodAll_len hA0).trans (by kernel_rfl)
  obtain ⟨xs, a1, a2, a3, a4, rfl, a6⟩ := open_args Tryd.f8.params.toList [] args.toList ds p (by kernel_rfl) (fun j t v h1 h2 => hval j t v (by simp at h1) (by simp at h1)) hA0
  have hc := callok_of_ct mixed (Sg := sgTab) (g := 8) (sg := ⟨[], [lb]⟩) rfl (leaves _ a4) a2 rfl (ys := [.leaf (.b true)]) rfl rfl []
  rcases ds with _ | ⟨d0, ds⟩ <;> first | (exfalso; simp at hl; done) | skip
  refine (calls_of_ok hc (args' := args) (areIs_flat a2 (by kernel_rfl)) a1 rfl (of_laid hL)).mono fun e W' ⟨he, h1, h2, _, h3⟩ => ⟨_, he, ?_⟩
  exact post_flat hW (fun _ _ _ => trodAll_mk1 (shut_bool Tryd.underlying4 _)) (fun _ => a6 _ _ _ _) (fun _ => rfl) h1 h2 h3 (ok_one (by kernel_rfl) rfl (okWide_bool_mk Tryd.underlying4 _))

set_option maxRecDepth 100000 in
theorem sheetsKnown_said : Rows.SheetsKnownSaid :=
  OpenClaim.holds_of_wide 8 Tryd.f8 rfl rfl rfl rfl rfl rfl rfl ⟨rfl, rfl, rfl, rfl, rfl⟩ rfl rfl rfl rfl rfl (by kernel_rfl) Tryd.func8 (by kernel_rfl)
    (of_decide_eq_true (by kernel_rfl)) (by unfold Func.isWrapper; first | (rw [if_pos (by decide +kernel)]; kernel_rfl) | (rw [if_neg (by decide +kernel)]; exact ⟨rfl, rfl⟩))
    (fun os started H enc _ => lifted os started H enc)

theorem no_stand : (Tryd.f8.params.toList.all fun t => !Tryd.prog.wantsStandIn t) = true := by kernel_rfl
theorem sheetsKnown : Rows.SheetsKnownCardSaid :=
  Claim7.holds_tied_plain_at .later [] [.data] true (true, "5322ce7c994bb8f456b6a3e29e3f4d738235be5bec9dfe569c55de057caa8fdd") false
    sheetsKnown_said (fun _ h => by cases h) (by kernel_rfl) (fun _ h => by cases h) sheetsKnown_row_tie rfl ⟨rfl, rfl⟩ (by kernel_rfl) rfl
    (fun f fn hf hfn => by
      obtain rfl : f = 8 := Option.some.inj ((show Tryd.prog.funcNamed "crimp/crimplaw05.SheetsKnown" = some 8 by kernel_rfl).symm.trans hf) |>.symm
      obtain rfl : fn = Tryd.f8 := (Option.some.inj (Tryd.func8.symm.trans hfn)).symm
      exact ⟨by kernel_rfl, fun j t ht => by
        have h := List.all_eq_true.1 no_stand t (by rw [← Array.getElem?_toList] at ht; exact List.mem_of_getElem? ht)
        exact (show Tryd.prog.wantsStandIn t = false by simpa using h)⟩)
    (by kernel_rfl)
#print axioms sheetsKnown
end Go.Proofs.YtdngmncaohgacaaDoor
