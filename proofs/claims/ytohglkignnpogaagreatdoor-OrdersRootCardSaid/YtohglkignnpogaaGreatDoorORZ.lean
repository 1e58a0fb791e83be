/-
  OrdersRoot: the law returns true at whatever arguments, and leaves them as they were (no conditions; the tables that the row lists hold what the program's text lays).
-/
import Derived.Test.YtohglkignnpogaaGreatDoorOR8
set_option linter.unusedSectionVars false
set_option linter.unusedSimpArgs false
set_option linter.unusedVariables false
set_option linter.constructorNameAsVariable false
set_option linter.defProp false
set_option maxRecDepth 100000
namespace Go.Proofs.YtohglkignnpogaaGreatDoor
open Go Go.Am Go.Am.Sx
open Go.ChangeShapes Go.WideShapes Go.ChangeAt Go.WideMaps Go.WideElems Go.RowKit

theorem lifted (os : Os) (started : os.Started) (H : Type) (enc : TypeId × Value → H) :
    ReturnsInHanded {} Tryz.checked os 3 .any (fun w args => (Rows.ordersRootSpec.pre enc Tryz.prog Tryz.f3 [] false w args ∧ laidMetH Tryz.prog Jk w) ∧ sizedMet enc Tryz.prog Tryz.f3 (OpenSpec.ofChange Rows.ordersRootSpec) false w args)
      (Rows.ordersRootSpec.post enc Tryz.prog Tryz.f3 false true false false) := by
  refine returnsInHanded_of_change_and (C := Tryz.checked) (X := fun w _ => laidMetH Tryz.prog Jk w) (fun _ _ _ hh h => h.of_heap hh) own started (by kernel_rfl) Tryz.func3
    (ChangeSpec.witness_shaped (enc := enc) (C := Tryz.checked) (os := os) (X := fun w _ => laidMetH Tryz.prog Jk w) false (World.doorLaid Tryz.prog 400 os) #[.agg #[.int .u8 0, .int .u8 0, .slice none 0 0, .slice none 0 0], .agg #[.int .u8 0, .int .i64 0, .int .i64 0]] 8 rfl (World.shaped_of_RefB (by kernel_rfl) (by kernel_rfl)) (by kernel_rfl) (by kernel_rfl) (by kernel_rfl) (Qr os _)) ?_
  intro W base args ds gs before hval hW _ _ hL _
  obtain ⟨p, q, hA0, hV, hbef, hfz, hnd⟩ := id hW
  obtain ⟨rfl, rfl⟩ := trodVars_none hV
  have hl : ds.length = 2 := (rg hA0).trans (by kernel_rfl)
  obtain ⟨G, hG⟩ := Xg hL
  obtain ⟨xs, bl, a1, a2, a3, a4, a5, a6⟩ := sC Tryz.f3.params.toList [[.i .u8, .i .u8, .s [.i .u8, .i .u8, .i .u8], .s [.i .u8]], [.i .u8, .i .i64, .i .i64]] [.agg [.i .u8, .i .u8, .v, .v], .agg [.i .u8, .i .i64, .i .i64]] args.toList ds p 0 (by kernel_rfl) (fun j t v h1 h2 => hval j t v (by simpa using h1) (by simpa using h2)) hA0
  obtain ⟨h', hcl⟩ := ni (cV xs) (bl.map fun b => HO.o b.1) (a5 _ (hp_at bl))
  rw [U7] at hcl
  have hc := iU (N := Jo) GT (Sg := ac) (g := 3) (sg := ⟨[.agg [.i .u8, .i .u8, .v, .v], .agg [.i .u8, .i .i64, .i .i64]], [lb]⟩) rfl hcl a2 rfl (ys := [.leaf (.b true)]) rfl rfl
  rcases ds with _ | ⟨d1, _ | ⟨d2, _ | ⟨d0, ds⟩⟩⟩ <;> first | (exfalso; simp at hl; done) | skip
  refine (xR a1 hc (args' := args) a4 rfl hG qk).mono fun e W' ⟨he, h1, h2, _, h3⟩ => ⟨_, he, ?_⟩
  exact XE hW (fun _ _ _ => trodAll_mk1 (shut_bool Tryz.underlying4 _)) (a6 W' _ h3 (fun b hb => by simpa using hb)) (fun _ => rfl) h1 h2 h3

set_option maxRecDepth 100000 in
theorem ordersRoot_said : Rows.OrdersRootSaid :=
  OpenClaim.holds_of_wide 3 Tryz.f3 rfl rfl rfl rfl rfl rfl rfl ⟨rfl, rfl, rfl, rfl, rfl⟩ rfl rfl rfl rfl rfl (by kernel_rfl) Tryz.func3 (by kernel_rfl)
    (of_decide_eq_true (by kernel_rfl)) (by unfold Func.isWrapper; first | (rw [if_pos (by decide +kernel)]; kernel_rfl) | (rw [if_neg (by decide +kernel)]; exact ⟨rfl, rfl⟩))
    (fun os started H enc _ => lifted os started H enc)

theorem no_stand : (Tryz.f3.params.toList.all fun t => !Tryz.prog.wantsStandIn t) = true := by kernel_rfl
theorem ordersRoot : Rows.OrdersRootCardSaid :=
  Claim7.holds_tied_plain_at .later [] [.wider, .data, .data] true (true, "c46e0790a2e406fe84886291177a5c3fe6db89dccc33925b90502a7d88d0a157") false
    ordersRoot_said (fun _ h => by cases h) (by kernel_rfl) (fun _ h => by cases h) ordersRoot_row_tie rfl ⟨rfl, rfl⟩ (by kernel_rfl) rfl
    (fun f fn hf hfn => by
      obtain rfl : f = 3 := Option.some.inj ((show Tryz.prog.funcNamed "crimp/crimplaw26.OrdersRoot" = some 3 by kernel_rfl).symm.trans hf) |>.symm
      obtain rfl : fn = Tryz.f3 := (Option.some.inj (Tryz.func3.symm.trans hfn)).symm
      exact ⟨by kernel_rfl, fun j t ht => by
        have h := List.all_eq_true.1 no_stand t (by rw [← Array.getElem?_toList] at ht; exact List.mem_of_getElem? ht)
        exact (show Tryz.prog.wantsStandIn t = false by simpa using h)⟩)
    (by kernel_rfl)
#print axioms ordersRoot
end Go.Proofs.YtohglkignnpogaaGreatDoor
