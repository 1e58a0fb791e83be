/-
  CoversKnown: the law returns true at whatever arguments, and leaves them as they were (no conditions; the tables that the row lists hold what the program's text lays).
-/
import Derived.Test.YtnoemfdfghfkoaaGreatDoorCK18
set_option linter.unusedSectionVars false
set_option linter.unusedSimpArgs false
set_option linter.unusedVariables false
set_option linter.constructorNameAsVariable false
set_option linter.defProp false
set_option maxRecDepth 100000
namespace Go.Proofs.YtnoemfdfghfkoaaGreatDoor
open Go Go.Am Go.Am.Sx
open Go.ChangeShapes Go.WideShapes Go.ChangeAt Go.WideMaps Go.WideElems Go.RowKit

theorem leaves : ∀ ls, FitL [] ls → Cc 4 ls [.b true] := by
  intro ls h
  obtain rfl := FitL.nil h
  exact iQ (by omega)

theorem lifted (os : Os) (started : os.Started) (H : Type) (enc : TypeId × Value → H) :
    ReturnsInHanded {} Tryz.checked os 4 .any (fun w args => (Rows.coversKnownSpec.pre enc Tryz.prog Tryz.f4 [] false w args ∧ laidMetH Tryz.prog laidC w) ∧ sizedMet enc Tryz.prog Tryz.f4 (OpenSpec.ofChange Rows.coversKnownSpec) false w args)
      (Rows.coversKnownSpec.post enc Tryz.prog Tryz.f4 false true false false) := by
  refine returnsInHanded_of_change_and (C := Tryz.checked) (X := fun w _ => laidMetH Tryz.prog laidC w) (fun _ _ _ hh h => h.of_heap hh) own started (by kernel_rfl) Tryz.func4
    (ChangeSpec.witness_shaped (enc := enc) (C := Tryz.checked) (os := os) (X := fun w _ => laidMetH Tryz.prog laidC w) false (World.doorLaid Tryz.prog 400 os) #[] 8 rfl (World.shaped_of_RefB (by kernel_rfl) (by kernel_rfl)) (by kernel_rfl) (by kernel_rfl) (by kernel_rfl) (door_met os _)) ?_
  intro W base args ds gs before hval hW _ _ hL _
  obtain ⟨p, q, hA0, hV, rfl, hfz, hnd⟩ := id hW
  obtain ⟨rfl, rfl⟩ := trodVars_none hV
  have hl : ds.length = 0 := (jK hA0).trans (by kernel_rfl)
  obtain ⟨xs, a1, a2, a3, a4, rfl, a6⟩ := oc Tryz.f4.params.toList [] args.toList ds p (by kernel_rfl) (fun j t v h1 h2 => hval j t v (by simp at h1) (by simp at h1)) hA0
  have hc := ni mixed (Sg := ab) (g := 4) (sg := ⟨[], [lb]⟩) rfl (leaves _ a4) a2 rfl (ys := [.leaf (.b true)]) rfl rfl []
  rcases ds with _ | ⟨d0, ds⟩ <;> first | (exfalso; simp at hl; done) | skip
  obtain ⟨G, hG⟩ := of_laid hL
  refine (oF hc (args' := args) (kj a2 (by kernel_rfl)) a1 rfl hG).mono fun e W' ⟨he, h1, h2, _, h3⟩ => ⟨_, he, ?_⟩
  exact post_flat hW (fun _ _ _ => trodAll_mk1 (shut_bool Tryz.underlying4 _)) (fun _ => a6 _ _ _ _) (fun _ => rfl) h1 h2 h3 (ok_one (by kernel_rfl) rfl (okWide_bool_mk Tryz.underlying4 _))

set_option maxRecDepth 100000 in
theorem coversKnown_said : Rows.CoversKnownSaid :=
  OpenClaim.holds_of_wide 4 Tryz.f4 rfl rfl rfl rfl rfl rfl rfl ⟨rfl, rfl, rfl, rfl, rfl⟩ rfl rfl rfl rfl rfl (by kernel_rfl) Tryz.func4 (by kernel_rfl)
    (of_decide_eq_true (by kernel_rfl)) (by unfold Func.isWrapper; first | (rw [if_pos (by decide +kernel)]; kernel_rfl) | (rw [if_neg (by decide +kernel)]; exact ⟨rfl, rfl⟩))
    (fun os started H enc _ => lifted os started H enc)

theorem no_stand : (Tryz.f4.params.toList.all fun t => !Tryz.prog.wantsStandIn t) = true := by kernel_rfl
theorem coversKnown : Rows.CoversKnownCardSaid :=
  Claim7.holds_tied_plain_at .later [] [.wider, .data, .data, .widerDeep] true (true, "30861df5971baab587ec9e05048b256d953a1ef4f502336c99ad16ef61b6e11e") false
    coversKnown_said (fun _ h => by cases h) (by kernel_rfl) (fun _ h => by cases h) coversKnown_row_tie rfl ⟨rfl, rfl⟩ (by kernel_rfl) rfl
    (fun f fn hf hfn => by
      obtain rfl : f = 4 := Option.some.inj ((show Tryz.prog.funcNamed "crimp/crimplaw21.CoversKnown" = some 4 by kernel_rfl).symm.trans hf) |>.symm
      obtain rfl : fn = Tryz.f4 := (Option.some.inj (Tryz.func4.symm.trans hfn)).symm
      exact ⟨by kernel_rfl, fun j t ht => by
        have h := List.all_eq_true.1 no_stand t (by rw [← Array.getElem?_toList] at ht; exact List.mem_of_getElem? ht)
        exact (show Tryz.prog.wantsStandIn t = false by simpa using h)⟩)
    (by kernel_rfl)
#print axioms coversKnown
end Go.Proofs.YtnoemfdfghfkoaaGreatDoor
