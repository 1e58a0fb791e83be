/-
  PART 6 OF THE PROOF: C9a C9b C9c C9d Gr Lv Lv3 Pb L13 Cd1 Cd2 (no conditions).
-/
import Derived.Test.YtdngmncaohgacaaDoorCB5
import Derived.SevenTiedAt
import Derived.Test.YtdngmncaohgacaaDoorCards
import Derived.Test.YtdngmncaohgacaaDoorTie
set_option linter.unusedSectionVars false
set_option linter.unusedSimpArgs false
set_option linter.unusedVariables false
set_option linter.constructorNameAsVariable false
set_option linter.defProp false
/-
  CONTRACTS, BY PROGRAM: moves between cells.
-/
set_option maxRecDepth 100000
namespace Go.Am
open Sx Go.Proofs

theorem cbet000 {x y u v : Int} (h : -4096 ≤ x ∧ x ≤ 4096 ∧ -4096 ≤ y ∧ y ≤ 4096 ∧ -4096 ≤ u ∧ u ≤ 4096 ∧ -4096 ≤ v ∧ v ≤ 4096 ∧ (x + y + u + v) % 2 = 0) : Cc 55 [.i x, .i y, .i 0, .i u, .i v, .i 0] [.i 0, .i (u - (x)), .i (v - (y)), .i 0] := by
  refine q55 rfl ?_; unfold p55
  repeat (first | simp (disch := omega) only [↓qxs, ↓qxc, ↓qxa] | refine p_loop 9 ?_ | refine p_call (cellCheck_ok (by omega)) ?_ | refine p_call (middle (by omega)) ?_ | refine p_call (mpoint0 (by omega)) ?_ | refine p_call (mpoint1 (by omega)) ?_ | refine p_call (mpoint2 (by omega)) ?_ | refine p_call (mpoint3 (by omega)) ?_ | refine p_call (mpoint4 (by omega)) ?_ | refine p_call (mpoint5 (by omega)) ?_ | refine p_call (mpoint6 (by omega)) ?_ | refine p_call (mpoint7 (by omega)) ?_ | refine p_call (mcheck_ok (by omega)) ?_ | refine p_call (mcheck_no (by omega)) ?_ | refine p_call (moved00 (by omega)) ?_ | refine p_call (moved10 (by omega)) ?_ | refine p_call (moved20 (by omega)) ?_ | refine p_call (moved30 (by omega)) ?_ | refine p_call (moved40 (by omega)) ?_ | refine p_call (moved50 (by omega)) ?_ | refine p_call (moved60 (by omega)) ?_ | refine p_call (moved70 (by omega)) ?_)
  (try simp only [List.cons.injEq, Lf.i.injEq, and_true, true_and]); (try omega)
theorem rbet000 {x y u v : Int} (h : -4096 ≤ x ∧ x ≤ 4096 ∧ -4096 ≤ y ∧ y ≤ 4096 ∧ -4096 ≤ u ∧ u ≤ 4096 ∧ -4096 ≤ v ∧ v ≤ 4096 ∧ (x + y + u + v) % 2 = 0) : Cc 56 [.i x, .i y, .i 0, .i u, .i v, .i 0] [.i 0, .i (u - (x)), .i (v - (y)), .i 1] := by
  refine q56 rfl ?_; unfold p56
  repeat (first | simp (disch := omega) only [↓qxs, ↓qxc, ↓qxa] | refine p_opt_r (by simp only [pickL, putL, offX, Int.reduceToNat, Int.reduceAdd, Int.reduceMul, Int.reduceMod, Int.reduceSub, Int.reduceNeg, Int.reduceDiv, Nat.reduceAdd, Nat.reduceMul, Nat.reduceLeDiff, List.length_cons, List.length_nil, ↓reduceIte, List.drop_succ_cons, List.drop_zero, List.take_succ_cons, List.take_zero, List.cons_append, List.nil_append, Nat.zero_add, Int.toNat_zero, Nat.zero_mul, Nat.add_zero, Int.zero_add]; exact rfl) ?_ | refine p_loop 9 ?_ | refine p_call (rcorn0 (by omega)) ?_ | refine p_call (rcorn0 (by omega)) ?_ | refine p_call (rpoint0 (by omega)) ?_ | refine p_call (rpoint1 (by omega)) ?_ | refine p_call (rpoint2 (by omega)) ?_ | refine p_call (rpoint3 (by omega)) ?_ | refine p_call (rpoint4 (by omega)) ?_ | refine p_call (rpoint5 (by omega)) ?_ | refine p_call (rpoint6 (by omega)) ?_ | refine p_call (rpoint7 (by omega)) ?_ | refine p_call (v2_ok (by omega)) ?_ | refine p_call (v2_no (by omega)) ?_ | refine p_call (rmove00 (by omega)) ?_ | refine p_call (rmove10 (by omega)) ?_ | refine p_call (rmove20 (by omega)) ?_ | refine p_call (rmove30 (by omega)) ?_ | refine p_call (rmove40 (by omega)) ?_ | refine p_call (rmove50 (by omega)) ?_ | refine p_call (rmove60 (by omega)) ?_ | refine p_call (rmove70 (by omega)) ?_)
  (try simp only [List.cons.injEq, Lf.i.injEq, and_true, true_and]); (try omega)
theorem cbet001 {x y u v : Int} (h : -4096 ≤ x ∧ x ≤ 4096 ∧ -4096 ≤ y ∧ y ≤ 4096 ∧ -4096 ≤ u ∧ u ≤ 4096 ∧ -4096 ≤ v ∧ v ≤ 4096 ∧ (x + y + u + v) % 2 = 1) : Cc 55 [.i x, .i y, .i 0, .i u, .i v, .i 0] [.i 4, .i (u - (-x - 1)), .i (v - (y)), .i 0] := by
  refine q55 rfl ?_; unfold p55
  repeat (first | simp (disch := omega) only [↓qxs, ↓qxc, ↓qxa] | refine p_loop 9 ?_ | refine p_call (cellCheck_ok (by omega)) ?_ | refine p_call (middle (by omega)) ?_ | refine p_call (mpoint0 (by omega)) ?_ | refine p_call (mpoint1 (by omega)) ?_ | refine p_call (mpoint2 (by omega)) ?_ | refine p_call (mpoint3 (by omega)) ?_ | refine p_call (mpoint4 (by omega)) ?_ | refine p_call (mpoint5 (by omega)) ?_ | refine p_call (mpoint6 (by omega)) ?_ | refine p_call (mpoint7 (by omega)) ?_ | refine p_call (mcheck_ok (by omega)) ?_ | refine p_call (mcheck_no (by omega)) ?_ | refine p_call (moved00 (by omega)) ?_ | refine p_call (moved10 (by omega)) ?_ | refine p_call (moved20 (by omega)) ?_ | refine p_call (moved30 (by omega)) ?_ | refine p_call (moved40 (by omega)) ?_ | refine p_call (moved50 (by omega)) ?_ | refine p_call (moved60 (by omega)) ?_ | refine p_call (moved70 (by omega)) ?_)
  (try simp only [List.cons.injEq, Lf.i.injEq, and_true, true_and]); (try omega)
theorem rbet001 {x y u v : Int} (h : -4096 ≤ x ∧ x ≤ 4096 ∧ -4096 ≤ y ∧ y ≤ 4096 ∧ -4096 ≤ u ∧ u ≤ 4096 ∧ -4096 ≤ v ∧ v ≤ 4096 ∧ (x + y + u + v) % 2 = 1) : Cc 56 [.i x, .i y, .i 0, .i u, .i v, .i 0] [.i 4, .i (u - (-x - 1)), .i (v - (y)), .i 1] := by
  refine q56 rfl ?_; unfold p56
  repeat (first | simp (disch := omega) only [↓qxs, ↓qxc, ↓qxa] | refine p_opt_r (by simp only [pickL, putL, offX, Int.reduceToNat, Int.reduceAdd, Int.reduceMul, Int.reduceMod, Int.reduceSub, Int.reduceNeg, Int.reduceDiv, Nat.reduceAdd, Nat.reduceMul, Nat.reduceLeDiff, List.length_cons, List.length_nil, ↓reduceIte, List.drop_succ_cons, List.drop_zero, List.take_succ_cons, List.take_zero, List.cons_append, List.nil_append, Nat.zero_add, Int.toNat_zero, Nat.zero_mul, Nat.add_zero, Int.zero_add]; exact rfl) ?_ | refine p_loop 9 ?_ | refine p_call (rcorn0 (by omega)) ?_ | refine p_call (rcorn0 (by omega)) ?_ | refine p_call (rpoint0 (by omega)) ?_ | refine p_call (rpoint1 (by omega)) ?_ | refine p_call (rpoint2 (by omega)) ?_ | refine p_call (rpoint3 (by omega)) ?_ | refine p_call (rpoint4 (by omega)) ?_ | refine p_call (rpoint5 (by omega)) ?_ | refine p_call (rpoint6 (by omega)) ?_ | refine p_call (rpoint7 (by omega)) ?_ | refine p_call (v2_ok (by omega)) ?_ | refine p_call (v2_no (by omega)) ?_ | refine p_call (rmove00 (by omega)) ?_ | refine p_call (rmove10 (by omega)) ?_ | refine p_call (rmove20 (by omega)) ?_ | refine p_call (rmove30 (by omega)) ?_ | refine p_call (rmove40 (by omega)) ?_ | refine p_call (rmove50 (by omega)) ?_ | refine p_call (rmove60 (by omega)) ?_ | refine p_call (rmove70 (by omega)) ?_)
  (try simp only [List.cons.injEq, Lf.i.injEq, and_true, true_and]); (try omega)
theorem cbet010 {x y u v : Int} (h : -4096 ≤ x ∧ x ≤ 4096 ∧ -4096 ≤ y ∧ y ≤ 4096 ∧ -4096 ≤ u ∧ u ≤ 4096 ∧ -4096 ≤ v ∧ v ≤ 4096 ∧ (x + y + u + v) % 2 = 0) : Cc 55 [.i x, .i y, .i 0, .i u, .i v, .i 1] [.i 5, .i (u - (-y - 1)), .i (v - (-x - 1)), .i 0] := by
  refine q55 rfl ?_; unfold p55
  repeat (first | simp (disch := omega) only [↓qxs, ↓qxc, ↓qxa] | refine p_loop 9 ?_ | refine p_call (cellCheck_ok (by omega)) ?_ | refine p_call (middle (by omega)) ?_ | refine p_call (mpoint0 (by omega)) ?_ | refine p_call (mpoint1 (by omega)) ?_ | refine p_call (mpoint2 (by omega)) ?_ | refine p_call (mpoint3 (by omega)) ?_ | refine p_call (mpoint4 (by omega)) ?_ | refine p_call (mpoint5 (by omega)) ?_ | refine p_call (mpoint6 (by omega)) ?_ | refine p_call (mpoint7 (by omega)) ?_ | refine p_call (mcheck_ok (by omega)) ?_ | refine p_call (mcheck_no (by omega)) ?_ | refine p_call (moved00 (by omega)) ?_ | refine p_call (moved10 (by omega)) ?_ | refine p_call (moved20 (by omega)) ?_ | refine p_call (moved30 (by omega)) ?_ | refine p_call (moved40 (by omega)) ?_ | refine p_call (moved50 (by omega)) ?_ | refine p_call (moved60 (by omega)) ?_ | refine p_call (moved70 (by omega)) ?_)
  (try simp only [List.cons.injEq, Lf.i.injEq, and_true, true_and]); (try omega)
theorem rbet010 {x y u v : Int} (h : -4096 ≤ x ∧ x ≤ 4096 ∧ -4096 ≤ y ∧ y ≤ 4096 ∧ -4096 ≤ u ∧ u ≤ 4096 ∧ -4096 ≤ v ∧ v ≤ 4096 ∧ (x + y + u + v) % 2 = 0) : Cc 56 [.i x, .i y, .i 0, .i u, .i v, .i 1] [.i 5, .i (u - (-y - 1)), .i (v - (-x - 1)), .i 1] := by
  refine q56 rfl ?_; unfold p56
  repeat (first | simp (disch := omega) only [↓qxs, ↓qxc, ↓qxa] | refine p_opt_r (by simp only [pickL, putL, offX, Int.reduceToNat, Int.reduceAdd, Int.reduceMul, Int.reduceMod, Int.reduceSub, Int.reduceNeg, Int.reduceDiv, Nat.reduceAdd, Nat.reduceMul, Nat.reduceLeDiff, List.length_cons, List.length_nil, ↓reduceIte, List.drop_succ_cons, List.drop_zero, List.take_succ_cons, List.take_zero, List.cons_append, List.nil_append, Nat.zero_add, Int.toNat_zero, Nat.zero_mul, Nat.add_zero, Int.zero_add]; exact rfl) ?_ | refine p_loop 9 ?_ | refine p_call (rcorn1 (by omega)) ?_ | refine p_call (rcorn0 (by omega)) ?_ | refine p_call (rpoint0 (by omega)) ?_ | refine p_call (rpoint1 (by omega)) ?_ | refine p_call (rpoint2 (by omega)) ?_ | refine p_call (rpoint3 (by omega)) ?_ | refine p_call (rpoint4 (by omega)) ?_ | refine p_call (rpoint5 (by omega)) ?_ | refine p_call (rpoint6 (by omega)) ?_ | refine p_call (rpoint7 (by omega)) ?_ | refine p_call (v2_ok (by omega)) ?_ | refine p_call (v2_no (by omega)) ?_ | refine p_call (rmove00 (by omega)) ?_ | refine p_call (rmove10 (by omega)) ?_ | refine p_call (rmove20 (by omega)) ?_ | refine p_call (rmove30 (by omega)) ?_ | refine p_call (rmove40 (by omega)) ?_ | refine p_call (rmove50 (by omega)) ?_ | refine p_call (rmove60 (by omega)) ?_ | refine p_call (rmove70 (by omega)) ?_)
  (try simp only [List.cons.injEq, Lf.i.injEq, and_true, true_and]); (try omega)
theorem cbet011 {x y u v : Int} (h : -4096 ≤ x ∧ x ≤ 4096 ∧ -4096 ≤ y ∧ y ≤ 4096 ∧ -4096 ≤ u ∧ u ≤ 4096 ∧ -4096 ≤ v ∧ v ≤ 4096 ∧ (x + y + u + v) % 2 = 1) : Cc 55 [.i x, .i y, .i 0, .i u, .i v, .i 1] [.i 1, .i (u - (-y - 1)), .i (v - (x)), .i 0] := by
  refine q55 rfl ?_; unfold p55
  repeat (first | simp (disch := omega) only [↓qxs, ↓qxc, ↓qxa] | refine p_loop 9 ?_ | refine p_call (cellCheck_ok (by omega)) ?_ | refine p_call (middle (by omega)) ?_ | refine p_call (mpoint0 (by omega)) ?_ | refine p_call (mpoint1 (by omega)) ?_ | refine p_call (mpoint2 (by omega)) ?_ | refine p_call (mpoint3 (by omega)) ?_ | refine p_call (mpoint4 (by omega)) ?_ | refine p_call (mpoint5 (by omega)) ?_ | refine p_call (mpoint6 (by omega)) ?_ | refine p_call (mpoint7 (by omega)) ?_ | refine p_call (mcheck_ok (by omega)) ?_ | refine p_call (mcheck_no (by omega)) ?_ | refine p_call (moved00 (by omega)) ?_ | refine p_call (moved10 (by omega)) ?_ | refine p_call (moved20 (by omega)) ?_ | refine p_call (moved30 (by omega)) ?_ | refine p_call (moved40 (by omega)) ?_ | refine p_call (moved50 (by omega)) ?_ | refine p_call (moved60 (by omega)) ?_ | refine p_call (moved70 (by omega)) ?_)
  (try simp only [List.cons.injEq, Lf.i.injEq, and_true, true_and]); (try omega)
theorem rbet011 {x y u v : Int} (h : -4096 ≤ x ∧ x ≤ 4096 ∧ -4096 ≤ y ∧ y ≤ 4096 ∧ -4096 ≤ u ∧ u ≤ 4096 ∧ -4096 ≤ v ∧ v ≤ 4096 ∧ (x + y + u + v) % 2 = 1) : Cc 56 [.i x, .i y, .i 0, .i u, .i v, .i 1] [.i 1, .i (u - (-y - 1)), .i (v - (x)), .i 1] := by
  refine q56 rfl ?_; unfold p56
  repeat (first | simp (disch := omega) only [↓qxs, ↓qxc, ↓qxa] | refine p_opt_r (by simp only [pickL, putL, offX, Int.reduceToNat, Int.reduceAdd, Int.reduceMul, Int.reduceMod, Int.reduceSub, Int.reduceNeg, Int.reduceDiv, Nat.reduceAdd, Nat.reduceMul, Nat.reduceLeDiff, List.length_cons, List.length_nil, ↓reduceIte, List.drop_succ_cons, List.drop_zero, List.take_succ_cons, List.take_zero, List.cons_append, List.nil_append, Nat.zero_add, Int.toNat_zero, Nat.zero_mul, Nat.add_zero, Int.zero_add]; exact rfl) ?_ | refine p_loop 9 ?_ | refine p_call (rcorn1 (by omega)) ?_ | refine p_call (rcorn0 (by omega)) ?_ | refine p_call (rpoint0 (by omega)) ?_ | refine p_call (rpoint1 (by omega)) ?_ | refine p_call (rpoint2 (by omega)) ?_ | refine p_call (rpoint3 (by omega)) ?_ | refine p_call (rpoint4 (by omega)) ?_ | refine p_call (rpoint5 (by omega)) ?_ | refine p_call (rpoint6 (by omega)) ?_ | refine p_call (rpoint7 (by omega)) ?_ | refine p_call (v2_ok (by omega)) ?_ | refine p_call (v2_no (by omega)) ?_ | refine p_call (rmove00 (by omega)) ?_ | refine p_call (rmove10 (by omega)) ?_ | refine p_call (rmove20 (by omega)) ?_ | refine p_call (rmove30 (by omega)) ?_ | refine p_call (rmove40 (by omega)) ?_ | refine p_call (rmove50 (by omega)) ?_ | refine p_call (rmove60 (by omega)) ?_ | refine p_call (rmove70 (by omega)) ?_)
  (try simp only [List.cons.injEq, Lf.i.injEq, and_true, true_and]); (try omega)
theorem cbet020 {x y u v : Int} (h : -4096 ≤ x ∧ x ≤ 4096 ∧ -4096 ≤ y ∧ y ≤ 4096 ∧ -4096 ≤ u ∧ u ≤ 4096 ∧ -4096 ≤ v ∧ v ≤ 4096 ∧ (x + y + u + v) % 2 = 0) : Cc 55 [.i x, .i y, .i 0, .i u, .i v, .i 2] [.i 2, .i (u - (-x - 1)), .i (v - (-y - 1)), .i 0] := by
  refine q55 rfl ?_; unfold p55
  repeat (first | simp (disch := omega) only [↓qxs, ↓qxc, ↓qxa] | refine p_loop 9 ?_ | refine p_call (cellCheck_ok (by omega)) ?_ | refine p_call (middle (by omega)) ?_ | refine p_call (mpoint0 (by omega)) ?_ | refine p_call (mpoint1 (by omega)) ?_ | refine p_call (mpoint2 (by omega)) ?_ | refine p_call (mpoint3 (by omega)) ?_ | refine p_call (mpoint4 (by omega)) ?_ | refine p_call (mpoint5 (by omega)) ?_ | refine p_call (mpoint6 (by omega)) ?_ | refine p_call (mpoint7 (by omega)) ?_ | refine p_call (mcheck_ok (by omega)) ?_ | refine p_call (mcheck_no (by omega)) ?_ | refine p_call (moved00 (by omega)) ?_ | refine p_call (moved10 (by omega)) ?_ | refine p_call (moved20 (by omega)) ?_ | refine p_call (moved30 (by omega)) ?_ | refine p_call (moved40 (by omega)) ?_ | refine p_call (moved50 (by omega)) ?_ | refine p_call (moved60 (by omega)) ?_ | refine p_call (moved70 (by omega)) ?_)
  (try simp only [List.cons.injEq, Lf.i.injEq, and_true, true_and]); (try omega)
theorem rbet020 {x y u v : Int} (h : -4096 ≤ x ∧ x ≤ 4096 ∧ -4096 ≤ y ∧ y ≤ 4096 ∧ -4096 ≤ u ∧ u ≤ 4096 ∧ -4096 ≤ v ∧ v ≤ 4096 ∧ (x + y + u + v) % 2 = 0) : Cc 56 [.i x, .i y, .i 0, .i u, .i v, .i 2] [.i 2, .i (u - (-x - 1)), .i (v - (-y - 1)), .i 1] := by
  refine q56 rfl ?_; unfold p56
  repeat (first | simp (disch := omega) only [↓qxs, ↓qxc, ↓qxa] | refine p_opt_r (by simp only [pickL, putL, offX, Int.reduceToNat, Int.reduceAdd, Int.reduceMul, Int.reduceMod, Int.reduceSub, Int.reduceNeg, Int.reduceDiv, Nat.reduceAdd, Nat.reduceMul, Nat.reduceLeDiff, List.length_cons, List.length_nil, ↓reduceIte, List.drop_succ_cons, List.drop_zero, List.take_succ_cons, List.take_zero, List.cons_append, List.nil_append, Nat.zero_add, Int.toNat_zero, Nat.zero_mul, Nat.add_zero, Int.zero_add]; exact rfl) ?_ | refine p_loop 9 ?_ | refine p_call (rcorn2 (by omega)) ?_ | refine p_call (rcorn0 (by omega)) ?_ | refine p_call (rpoint0 (by omega)) ?_ | refine p_call (rpoint1 (by omega)) ?_ | refine p_call (rpoint2 (by omega)) ?_ | refine p_call (rpoint3 (by omega)) ?_ | refine p_call (rpoint4 (by omega)) ?_ | refine p_call (rpoint5 (by omega)) ?_ | refine p_call (rpoint6 (by omega)) ?_ | refine p_call (rpoint7 (by omega)) ?_ | refine p_call (v2_ok (by omega)) ?_ | refine p_call (v2_no (by omega)) ?_ | refine p_call (rmove00 (by omega)) ?_ | refine p_call (rmove10 (by omega)) ?_ | refine p_call (rmove20 (by omega)) ?_ | refine p_call (rmove30 (by omega)) ?_ | refine p_call (rmove40 (by omega)) ?_ | refine p_call (rmove50 (by omega)) ?_ | refine p_call (rmove60 (by omega)) ?_ | refine p_call (rmove70 (by omega)) ?_)
  (try simp only [List.cons.injEq, Lf.i.injEq, and_true, true_and]); (try omega)
theorem cbet021 {x y u v : Int} (h : -4096 ≤ x ∧ x ≤ 4096 ∧ -4096 ≤ y ∧ y ≤ 4096 ∧ -4096 ≤ u ∧ u ≤ 4096 ∧ -4096 ≤ v ∧ v ≤ 4096 ∧ (x + y + u + v) % 2 = 1) : Cc 55 [.i x, .i y, .i 0, .i u, .i v, .i 2] [.i 6, .i (u - (x)), .i (v - (-y - 1)), .i 0] := by
  refine q55 rfl ?_; unfold p55
  repeat (first | simp (disch := omega) only [↓qxs, ↓qxc, ↓qxa] | refine p_loop 9 ?_ | refine p_call (cellCheck_ok (by omega)) ?_ | refine p_call (middle (by omega)) ?_ | refine p_call (mpoint0 (by omega)) ?_ | refine p_call (mpoint1 (by omega)) ?_ | refine p_call (mpoint2 (by omega)) ?_ | refine p_call (mpoint3 (by omega)) ?_ | refine p_call (mpoint4 (by omega)) ?_ | refine p_call (mpoint5 (by omega)) ?_ | refine p_call (mpoint6 (by omega)) ?_ | refine p_call (mpoint7 (by omega)) ?_ | refine p_call (mcheck_ok (by omega)) ?_ | refine p_call (mcheck_no (by omega)) ?_ | refine p_call (moved00 (by omega)) ?_ | refine p_call (moved10 (by omega)) ?_ | refine p_call (moved20 (by omega)) ?_ | refine p_call (moved30 (by omega)) ?_ | refine p_call (moved40 (by omega)) ?_ | refine p_call (moved50 (by omega)) ?_ | refine p_call (moved60 (by omega)) ?_ | refine p_call (moved70 (by omega)) ?_)
  (try simp only [List.cons.injEq, Lf.i.injEq, and_true, true_and]); (try omega)
theorem rbet021 {x y u v : Int} (h : -4096 ≤ x ∧ x ≤ 4096 ∧ -4096 ≤ y ∧ y ≤ 4096 ∧ -4096 ≤ u ∧ u ≤ 4096 ∧ -4096 ≤ v ∧ v ≤ 4096 ∧ (x + y + u + v) % 2 = 1) : Cc 56 [.i x, .i y, .i 0, .i u, .i v, .i 2] [.i 6, .i (u - (x)), .i (v - (-y - 1)), .i 1] := by
  refine q56 rfl ?_; unfold p56
  repeat (first | simp (disch := omega) only [↓qxs, ↓qxc, ↓qxa] | refine p_opt_r (by simp only [pickL, putL, offX, Int.reduceToNat, Int.reduceAdd, Int.reduceMul, Int.reduceMod, Int.reduceSub, Int.reduceNeg, Int.reduceDiv, Nat.reduceAdd, Nat.reduceMul, Nat.reduceLeDiff, List.length_cons, List.length_nil, ↓reduceIte, List.drop_succ_cons, List.drop_zero, List.take_succ_cons, List.take_zero, List.cons_append, List.nil_append, Nat.zero_add, Int.toNat_zero, Nat.zero_mul, Nat.add_zero, Int.zero_add]; exact rfl) ?_ | refine p_loop 9 ?_ | refine p_call (rcorn2 (by omega)) ?_ | refine p_call (rcorn0 (by omega)) ?_ | refine p_call (rpoint0 (by omega)) ?_ | refine p_call (rpoint1 (by omega)) ?_ | refine p_call (rpoint2 (by omega)) ?_ | refine p_call (rpoint3 (by omega)) ?_ | refine p_call (rpoint4 (by omega)) ?_ | refine p_call (rpoint5 (by omega)) ?_ | refine p_call (rpoint6 (by omega)) ?_ | refine p_call (rpoint7 (by omega)) ?_ | refine p_call (v2_ok (by omega)) ?_ | refine p_call (v2_no (by omega)) ?_ | refine p_call (rmove00 (by omega)) ?_ | refine p_call (rmove10 (by omega)) ?_ | refine p_call (rmove20 (by omega)) ?_ | refine p_call (rmove30 (by omega)) ?_ | refine p_call (rmove40 (by omega)) ?_ | refine p_call (rmove50 (by omega)) ?_ | refine p_call (rmove60 (by omega)) ?_ | refine p_call (rmove70 (by omega)) ?_)
  (try simp only [List.cons.injEq, Lf.i.injEq, and_true, true_and]); (try omega)
theorem cbet030 {x y u v : Int} (h : -4096 ≤ x ∧ x ≤ 4096 ∧ -4096 ≤ y ∧ y ≤ 4096 ∧ -4096 ≤ u ∧ u ≤ 4096 ∧ -4096 ≤ v ∧ v ≤ 4096 ∧ (x + y + u + v) % 2 = 0) : Cc 55 [.i x, .i y, .i 0, .i u, .i v, .i 3] [.i 7, .i (u - (y)), .i (v - (x)), .i 0] := by
  refine q55 rfl ?_; unfold p55
  repeat (first | simp (disch := omega) only [↓qxs, ↓qxc, ↓qxa] | refine p_loop 9 ?_ | refine p_call (cellCheck_ok (by omega)) ?_ | refine p_call (middle (by omega)) ?_ | refine p_call (mpoint0 (by omega)) ?_ | refine p_call (mpoint1 (by omega)) ?_ | refine p_call (mpoint2 (by omega)) ?_ | refine p_call (mpoint3 (by omega)) ?_ | refine p_call (mpoint4 (by omega)) ?_ | refine p_call (mpoint5 (by omega)) ?_ | refine p_call (mpoint6 (by omega)) ?_ | refine p_call (mpoint7 (by omega)) ?_ | refine p_call (mcheck_ok (by omega)) ?_ | refine p_call (mcheck_no (by omega)) ?_ | refine p_call (moved00 (by omega)) ?_ | refine p_call (moved10 (by omega)) ?_ | refine p_call (moved20 (by omega)) ?_ | refine p_call (moved30 (by omega)) ?_ | refine p_call (moved40 (by omega)) ?_ | refine p_call (moved50 (by omega)) ?_ | refine p_call (moved60 (by omega)) ?_ | refine p_call (moved70 (by omega)) ?_)
  (try simp only [List.cons.injEq, Lf.i.injEq, and_true, true_and]); (try omega)
theorem rbet030 {x y u v : Int} (h : -4096 ≤ x ∧ x ≤ 4096 ∧ -4096 ≤ y ∧ y ≤ 4096 ∧ -4096 ≤ u ∧ u ≤ 4096 ∧ -4096 ≤ v ∧ v ≤ 4096 ∧ (x + y + u + v) % 2 = 0) : Cc 56 [.i x, .i y, .i 0, .i u, .i v, .i 3] [.i 7, .i (u - (y)), .i (v - (x)), .i 1] := by
  refine q56 rfl ?_; unfold p56
  repeat (first | simp (disch := omega) only [↓qxs, ↓qxc, ↓qxa] | refine p_opt_r (by simp only [pickL, putL, offX, Int.reduceToNat, Int.reduceAdd, Int.reduceMul, Int.reduceMod, Int.reduceSub, Int.reduceNeg, Int.reduceDiv, Nat.reduceAdd, Nat.reduceMul, Nat.reduceLeDiff, List.length_cons, List.length_nil, ↓reduceIte, List.drop_succ_cons, List.drop_zero, List.take_succ_cons, List.take_zero, List.cons_append, List.nil_append, Nat.zero_add, Int.toNat_zero, Nat.zero_mul, Nat.add_zero, Int.zero_add]; exact rfl) ?_ | refine p_loop 9 ?_ | refine p_call (rcorn3 (by omega)) ?_ | refine p_call (rcorn0 (by omega)) ?_ | refine p_call (rpoint0 (by omega)) ?_ | refine p_call (rpoint1 (by omega)) ?_ | refine p_call (rpoint2 (by omega)) ?_ | refine p_call (rpoint3 (by omega)) ?_ | refine p_call (rpoint4 (by omega)) ?_ | refine p_call (rpoint5 (by omega)) ?_ | refine p_call (rpoint6 (by omega)) ?_ | refine p_call (rpoint7 (by omega)) ?_ | refine p_call (v2_ok (by omega)) ?_ | refine p_call (v2_no (by omega)) ?_ | refine p_call (rmove00 (by omega)) ?_ | refine p_call (rmove10 (by omega)) ?_ | refine p_call (rmove20 (by omega)) ?_ | refine p_call (rmove30 (by omega)) ?_ | refine p_call (rmove40 (by omega)) ?_ | refine p_call (rmove50 (by omega)) ?_ | refine p_call (rmove60 (by omega)) ?_ | refine p_call (rmove70 (by omega)) ?_)
  (try simp only [List.cons.injEq, Lf.i.injEq, and_true, true_and]); (try omega)
theorem cbet031 {x y u v : Int} (h : -4096 ≤ x ∧ x ≤ 4096 ∧ -4096 ≤ y ∧ y ≤ 4096 ∧ -4096 ≤ u ∧ u ≤ 4096 ∧ -4096 ≤ v ∧ v ≤ 4096 ∧ (x + y + u + v) % 2 = 1) : Cc 55 [.i x, .i y, .i 0, .i u, .i v, .i 3] [.i 3, .i (u - (y)), .i (v - (-x - 1)), .i 0] := by
  refine q55 rfl ?_; unfold p55
  repeat (first | simp (disch := omega) only [↓qxs, ↓qxc, ↓qxa] | refine p_loop 9 ?_ | refine p_call (cellCheck_ok (by omega)) ?_ | refine p_call (middle (by omega)) ?_ | refine p_call (mpoint0 (by omega)) ?_ | refine p_call (mpoint1 (by omega)) ?_ | refine p_call (mpoint2 (by omega)) ?_ | refine p_call (mpoint3 (by omega)) ?_ | refine p_call (mpoint4 (by omega)) ?_ | refine p_call (mpoint5 (by omega)) ?_ | refine p_call (mpoint6 (by omega)) ?_ | refine p_call (mpoint7 (by omega)) ?_ | refine p_call (mcheck_ok (by omega)) ?_ | refine p_call (mcheck_no (by omega)) ?_ | refine p_call (moved00 (by omega)) ?_ | refine p_call (moved10 (by omega)) ?_ | refine p_call (moved20 (by omega)) ?_ | refine p_call (moved30 (by omega)) ?_ | refine p_call (moved40 (by omega)) ?_ | refine p_call (moved50 (by omega)) ?_ | refine p_call (moved60 (by omega)) ?_ | refine p_call (moved70 (by omega)) ?_)
  (try simp only [List.cons.injEq, Lf.i.injEq, and_true, true_and]); (try omega)
theorem rbet031 {x y u v : Int} (h : -4096 ≤ x ∧ x ≤ 4096 ∧ -4096 ≤ y ∧ y ≤ 4096 ∧ -4096 ≤ u ∧ u ≤ 4096 ∧ -4096 ≤ v ∧ v ≤ 4096 ∧ (x + y + u + v) % 2 = 1) : Cc 56 [.i x, .i y, .i 0, .i u, .i v, .i 3] [.i 3, .i (u - (y)), .i (v - (-x - 1)), .i 1] := by
  refine q56 rfl ?_; unfold p56
  repeat (first | simp (disch := omega) only [↓qxs, ↓qxc, ↓qxa] | refine p_opt_r (by simp only [pickL, putL, offX, Int.reduceToNat, Int.reduceAdd, Int.reduceMul, Int.reduceMod, Int.reduceSub, Int.reduceNeg, Int.reduceDiv, Nat.reduceAdd, Nat.reduceMul, Nat.reduceLeDiff, List.length_cons, List.length_nil, ↓reduceIte, List.drop_succ_cons, List.drop_zero, List.take_succ_cons, List.take_zero, List.cons_append, List.nil_append, Nat.zero_add, Int.toNat_zero, Nat.zero_mul, Nat.add_zero, Int.zero_add]; exact rfl) ?_ | refine p_loop 9 ?_ | refine p_call (rcorn3 (by omega)) ?_ | refine p_call (rcorn0 (by omega)) ?_ | refine p_call (rpoint0 (by omega)) ?_ | refine p_call (rpoint1 (by omega)) ?_ | refine p_call (rpoint2 (by omega)) ?_ | refine p_call (rpoint3 (by omega)) ?_ | refine p_call (rpoint4 (by omega)) ?_ | refine p_call (rpoint5 (by omega)) ?_ | refine p_call (rpoint6 (by omega)) ?_ | refine p_call (rpoint7 (by omega)) ?_ | refine p_call (v2_ok (by omega)) ?_ | refine p_call (v2_no (by omega)) ?_ | refine p_call (rmove00 (by omega)) ?_ | refine p_call (rmove10 (by omega)) ?_ | refine p_call (rmove20 (by omega)) ?_ | refine p_call (rmove30 (by omega)) ?_ | refine p_call (rmove40 (by omega)) ?_ | refine p_call (rmove50 (by omega)) ?_ | refine p_call (rmove60 (by omega)) ?_ | refine p_call (rmove70 (by omega)) ?_)
  (try simp only [List.cons.injEq, Lf.i.injEq, and_true, true_and]); (try omega)
end Go.Am
/-
  CONTRACTS, BY PROGRAM: moves between cells.
-/
set_option maxRecDepth 100000
namespace Go.Am
open Sx Go.Proofs

theorem cbet100 {x y u v : Int} (h : -4096 ≤ x ∧ x ≤ 4096 ∧ -4096 ≤ y ∧ y ≤ 4096 ∧ -4096 ≤ u ∧ u ≤ 4096 ∧ -4096 ≤ v ∧ v ≤ 4096 ∧ (x + y + u + v) % 2 = 0) : Cc 55 [.i x, .i y, .i 1, .i u, .i v, .i 0] [.i 5, .i (u - (-y - 1)), .i (v - (-x - 1)), .i 0] := by
  refine q55 rfl ?_; unfold p55
  repeat (first | simp (disch := omega) only [↓qxs, ↓qxc, ↓qxa] | refine p_loop 9 ?_ | refine p_call (cellCheck_ok (by omega)) ?_ | refine p_call (middle (by omega)) ?_ | refine p_call (mpoint0 (by omega)) ?_ | refine p_call (mpoint1 (by omega)) ?_ | refine p_call (mpoint2 (by omega)) ?_ | refine p_call (mpoint3 (by omega)) ?_ | refine p_call (mpoint4 (by omega)) ?_ | refine p_call (mpoint5 (by omega)) ?_ | refine p_call (mpoint6 (by omega)) ?_ | refine p_call (mpoint7 (by omega)) ?_ | refine p_call (mcheck_ok (by omega)) ?_ | refine p_call (mcheck_no (by omega)) ?_ | refine p_call (moved01 (by omega)) ?_ | refine p_call (moved11 (by omega)) ?_ | refine p_call (moved21 (by omega)) ?_ | refine p_call (moved31 (by omega)) ?_ | refine p_call (moved41 (by omega)) ?_ | refine p_call (moved51 (by omega)) ?_ | refine p_call (moved61 (by omega)) ?_ | refine p_call (moved71 (by omega)) ?_)
  (try simp only [List.cons.injEq, Lf.i.injEq, and_true, true_and]); (try omega)
theorem rbet100 {x y u v : Int} (h : -4096 ≤ x ∧ x ≤ 4096 ∧ -4096 ≤ y ∧ y ≤ 4096 ∧ -4096 ≤ u ∧ u ≤ 4096 ∧ -4096 ≤ v ∧ v ≤ 4096 ∧ (x + y + u + v) % 2 = 0) : Cc 56 [.i x, .i y, .i 1, .i u, .i v, .i 0] [.i 5, .i (u - (-y - 1)), .i (v - (-x - 1)), .i 1] := by
  refine q56 rfl ?_; unfold p56
  repeat (first | simp (disch := omega) only [↓qxs, ↓qxc, ↓qxa] | refine p_opt_r (by simp only [pickL, putL, offX, Int.reduceToNat, Int.reduceAdd, Int.reduceMul, Int.reduceMod, Int.reduceSub, Int.reduceNeg, Int.reduceDiv, Nat.reduceAdd, Nat.reduceMul, Nat.reduceLeDiff, List.length_cons, List.length_nil, ↓reduceIte, List.drop_succ_cons, List.drop_zero, List.take_succ_cons, List.take_zero, List.cons_append, List.nil_append, Nat.zero_add, Int.toNat_zero, Nat.zero_mul, Nat.add_zero, Int.zero_add]; exact rfl) ?_ | refine p_loop 9 ?_ | refine p_call (rcorn0 (by omega)) ?_ | refine p_call (rcorn1 (by omega)) ?_ | refine p_call (rpoint0 (by omega)) ?_ | refine p_call (rpoint1 (by omega)) ?_ | refine p_call (rpoint2 (by omega)) ?_ | refine p_call (rpoint3 (by omega)) ?_ | refine p_call (rpoint4 (by omega)) ?_ | refine p_call (rpoint5 (by omega)) ?_ | refine p_call (rpoint6 (by omega)) ?_ | refine p_call (rpoint7 (by omega)) ?_ | refine p_call (v2_ok (by omega)) ?_ | refine p_call (v2_no (by omega)) ?_ | refine p_call (rmove01 (by omega)) ?_ | refine p_call (rmove11 (by omega)) ?_ | refine p_call (rmove21 (by omega)) ?_ | refine p_call (rmove31 (by omega)) ?_ | refine p_call (rmove41 (by omega)) ?_ | refine p_call (rmove51 (by omega)) ?_ | refine p_call (rmove61 (by omega)) ?_ | refine p_call (rmove71 (by omega)) ?_)
  (try simp only [List.cons.injEq, Lf.i.injEq, and_true, true_and]); (try omega)
theorem cbet101 {x y u v : Int} (h : -4096 ≤ x ∧ x ≤ 4096 ∧ -4096 ≤ y ∧ y ≤ 4096 ∧ -4096 ≤ u ∧ u ≤ 4096 ∧ -4096 ≤ v ∧ v ≤ 4096 ∧ (x + y + u + v) % 2 = 1) : Cc 55 [.i x, .i y, .i 1, .i u, .i v, .i 0] [.i 3, .i (u - (y)), .i (v - (-x - 1)), .i 0] := by
  refine q55 rfl ?_; unfold p55
  repeat (first | simp (disch := omega) only [↓qxs, ↓qxc, ↓qxa] | refine p_loop 9 ?_ | refine p_call (cellCheck_ok (by omega)) ?_ | refine p_call (middle (by omega)) ?_ | refine p_call (mpoint0 (by omega)) ?_ | refine p_call (mpoint1 (by omega)) ?_ | refine p_call (mpoint2 (by omega)) ?_ | refine p_call (mpoint3 (by omega)) ?_ | refine p_call (mpoint4 (by omega)) ?_ | refine p_call (mpoint5 (by omega)) ?_ | refine p_call (mpoint6 (by omega)) ?_ | refine p_call (mpoint7 (by omega)) ?_ | refine p_call (mcheck_ok (by omega)) ?_ | refine p_call (mcheck_no (by omega)) ?_ | refine p_call (moved01 (by omega)) ?_ | refine p_call (moved11 (by omega)) ?_ | refine p_call (moved21 (by omega)) ?_ | refine p_call (moved31 (by omega)) ?_ | refine p_call (moved41 (by omega)) ?_ | refine p_call (moved51 (by omega)) ?_ | refine p_call (moved61 (by omega)) ?_ | refine p_call (moved71 (by omega)) ?_)
  (try simp only [List.cons.injEq, Lf.i.injEq, and_true, true_and]); (try omega)
theorem rbet101 {x y u v : Int} (h : -4096 ≤ x ∧ x ≤ 4096 ∧ -4096 ≤ y ∧ y ≤ 4096 ∧ -4096 ≤ u ∧ u ≤ 4096 ∧ -4096 ≤ v ∧ v ≤ 4096 ∧ (x + y + u + v) % 2 = 1) : Cc 56 [.i x, .i y, .i 1, .i u, .i v, .i 0] [.i 3, .i (u - (y)), .i (v - (-x - 1)), .i 1] := by
  refine q56 rfl ?_; unfold p56
  repeat (first | simp (disch := omega) only [↓qxs, ↓qxc, ↓qxa] | refine p_opt_r (by simp only [pickL, putL, offX, Int.reduceToNat, Int.reduceAdd, Int.reduceMul, Int.reduceMod, Int.reduceSub, Int.reduceNeg, Int.reduceDiv, Nat.reduceAdd, Nat.reduceMul, Nat.reduceLeDiff, List.length_cons, List.length_nil, ↓reduceIte, List.drop_succ_cons, List.drop_zero, List.take_succ_cons, List.take_zero, List.cons_append, List.nil_append, Nat.zero_add, Int.toNat_zero, Nat.zero_mul, Nat.add_zero, Int.zero_add]; exact rfl) ?_ | refine p_loop 9 ?_ | refine p_call (rcorn0 (by omega)) ?_ | refine p_call (rcorn1 (by omega)) ?_ | refine p_call (rpoint0 (by omega)) ?_ | refine p_call (rpoint1 (by omega)) ?_ | refine p_call (rpoint2 (by omega)) ?_ | refine p_call (rpoint3 (by omega)) ?_ | refine p_call (rpoint4 (by omega)) ?_ | refine p_call (rpoint5 (by omega)) ?_ | refine p_call (rpoint6 (by omega)) ?_ | refine p_call (rpoint7 (by omega)) ?_ | refine p_call (v2_ok (by omega)) ?_ | refine p_call (v2_no (by omega)) ?_ | refine p_call (rmove01 (by omega)) ?_ | refine p_call (rmove11 (by omega)) ?_ | refine p_call (rmove21 (by omega)) ?_ | refine p_call (rmove31 (by omega)) ?_ | refine p_call (rmove41 (by omega)) ?_ | refine p_call (rmove51 (by omega)) ?_ | refine p_call (rmove61 (by omega)) ?_ | refine p_call (rmove71 (by omega)) ?_)
  (try simp only [List.cons.injEq, Lf.i.injEq, and_true, true_and]); (try omega)
theorem cbet110 {x y u v : Int} (h : -4096 ≤ x ∧ x ≤ 4096 ∧ -4096 ≤ y ∧ y ≤ 4096 ∧ -4096 ≤ u ∧ u ≤ 4096 ∧ -4096 ≤ v ∧ v ≤ 4096 ∧ (x + y + u + v) % 2 = 0) : Cc 55 [.i x, .i y, .i 1, .i u, .i v, .i 1] [.i 0, .i (u - (x)), .i (v - (y)), .i 0] := by
  refine q55 rfl ?_; unfold p55
  repeat (first | simp (disch := omega) only [↓qxs, ↓qxc, ↓qxa] | refine p_loop 9 ?_ | refine p_call (cellCheck_ok (by omega)) ?_ | refine p_call (middle (by omega)) ?_ | refine p_call (mpoint0 (by omega)) ?_ | refine p_call (mpoint1 (by omega)) ?_ | refine p_call (mpoint2 (by omega)) ?_ | refine p_call (mpoint3 (by omega)) ?_ | refine p_call (mpoint4 (by omega)) ?_ | refine p_call (mpoint5 (by omega)) ?_ | refine p_call (mpoint6 (by omega)) ?_ | refine p_call (mpoint7 (by omega)) ?_ | refine p_call (mcheck_ok (by omega)) ?_ | refine p_call (mcheck_no (by omega)) ?_ | refine p_call (moved01 (by omega)) ?_ | refine p_call (moved11 (by omega)) ?_ | refine p_call (moved21 (by omega)) ?_ | refine p_call (moved31 (by omega)) ?_ | refine p_call (moved41 (by omega)) ?_ | refine p_call (moved51 (by omega)) ?_ | refine p_call (moved61 (by omega)) ?_ | refine p_call (moved71 (by omega)) ?_)
  (try simp only [List.cons.injEq, Lf.i.injEq, and_true, true_and]); (try omega)
theorem rbet110 {x y u v : Int} (h : -4096 ≤ x ∧ x ≤ 4096 ∧ -4096 ≤ y ∧ y ≤ 4096 ∧ -4096 ≤ u ∧ u ≤ 4096 ∧ -4096 ≤ v ∧ v ≤ 4096 ∧ (x + y + u + v) % 2 = 0) : Cc 56 [.i x, .i y, .i 1, .i u, .i v, .i 1] [.i 0, .i (u - (x)), .i (v - (y)), .i 1] := by
  refine q56 rfl ?_; unfold p56
  repeat (first | simp (disch := omega) only [↓qxs, ↓qxc, ↓qxa] | refine p_opt_r (by simp only [pickL, putL, offX, Int.reduceToNat, Int.reduceAdd, Int.reduceMul, Int.reduceMod, Int.reduceSub, Int.reduceNeg, Int.reduceDiv, Nat.reduceAdd, Nat.reduceMul, Nat.reduceLeDiff, List.length_cons, List.length_nil, ↓reduceIte, List.drop_succ_cons, List.drop_zero, List.take_succ_cons, List.take_zero, List.cons_append, List.nil_append, Nat.zero_add, Int.toNat_zero, Nat.zero_mul, Nat.add_zero, Int.zero_add]; exact rfl) ?_ | refine p_loop 9 ?_ | refine p_call (rcorn1 (by omega)) ?_ | refine p_call (rcorn1 (by omega)) ?_ | refine p_call (rpoint0 (by omega)) ?_ | refine p_call (rpoint1 (by omega)) ?_ | refine p_call (rpoint2 (by omega)) ?_ | refine p_call (rpoint3 (by omega)) ?_ | refine p_call (rpoint4 (by omega)) ?_ | refine p_call (rpoint5 (by omega)) ?_ | refine p_call (rpoint6 (by omega)) ?_ | refine p_call (rpoint7 (by omega)) ?_ | refine p_call (v2_ok (by omega)) ?_ | refine p_call (v2_no (by omega)) ?_ | refine p_call (rmove01 (by omega)) ?_ | refine p_call (rmove11 (by omega)) ?_ | refine p_call (rmove21 (by omega)) ?_ | refine p_call (rmove31 (by omega)) ?_ | refine p_call (rmove41 (by omega)) ?_ | refine p_call (rmove51 (by omega)) ?_ | refine p_call (rmove61 (by omega)) ?_ | refine p_call (rmove71 (by omega)) ?_)
  (try simp only [List.cons.injEq, Lf.i.injEq, and_true, true_and]); (try omega)
theorem cbet111 {x y u v : Int} (h : -4096 ≤ x ∧ x ≤ 4096 ∧ -4096 ≤ y ∧ y ≤ 4096 ∧ -4096 ≤ u ∧ u ≤ 4096 ∧ -4096 ≤ v ∧ v ≤ 4096 ∧ (x + y + u + v) % 2 = 1) : Cc 55 [.i x, .i y, .i 1, .i u, .i v, .i 1] [.i 6, .i (u - (x)), .i (v - (-y - 1)), .i 0] := by
  refine q55 rfl ?_; unfold p55
  repeat (first | simp (disch := omega) only [↓qxs, ↓qxc, ↓qxa] | refine p_loop 9 ?_ | refine p_call (cellCheck_ok (by omega)) ?_ | refine p_call (middle (by omega)) ?_ | refine p_call (mpoint0 (by omega)) ?_ | refine p_call (mpoint1 (by omega)) ?_ | refine p_call (mpoint2 (by omega)) ?_ | refine p_call (mpoint3 (by omega)) ?_ | refine p_call (mpoint4 (by omega)) ?_ | refine p_call (mpoint5 (by omega)) ?_ | refine p_call (mpoint6 (by omega)) ?_ | refine p_call (mpoint7 (by omega)) ?_ | refine p_call (mcheck_ok (by omega)) ?_ | refine p_call (mcheck_no (by omega)) ?_ | refine p_call (moved01 (by omega)) ?_ | refine p_call (moved11 (by omega)) ?_ | refine p_call (moved21 (by omega)) ?_ | refine p_call (moved31 (by omega)) ?_ | refine p_call (moved41 (by omega)) ?_ | refine p_call (moved51 (by omega)) ?_ | refine p_call (moved61 (by omega)) ?_ | refine p_call (moved71 (by omega)) ?_)
  (try simp only [List.cons.injEq, Lf.i.injEq, and_true, true_and]); (try omega)
theorem rbet111 {x y u v : Int} (h : -4096 ≤ x ∧ x ≤ 4096 ∧ -4096 ≤ y ∧ y ≤ 4096 ∧ -4096 ≤ u ∧ u ≤ 4096 ∧ -4096 ≤ v ∧ v ≤ 4096 ∧ (x + y + u + v) % 2 = 1) : Cc 56 [.i x, .i y, .i 1, .i u, .i v, .i 1] [.i 6, .i (u - (x)), .i (v - (-y - 1)), .i 1] := by
  refine q56 rfl ?_; unfold p56
  repeat (first | simp (disch := omega) only [↓qxs, ↓qxc, ↓qxa] | refine p_opt_r (by simp only [pickL, putL, offX, Int.reduceToNat, Int.reduceAdd, Int.reduceMul, Int.reduceMod, Int.reduceSub, Int.reduceNeg, Int.reduceDiv, Nat.reduceAdd, Nat.reduceMul, Nat.reduceLeDiff, List.length_cons, List.length_nil, ↓reduceIte, List.drop_succ_cons, List.drop_zero, List.take_succ_cons, List.take_zero, List.cons_append, List.nil_append, Nat.zero_add, Int.toNat_zero, Nat.zero_mul, Nat.add_zero, Int.zero_add]; exact rfl) ?_ | refine p_loop 9 ?_ | refine p_call (rcorn1 (by omega)) ?_ | refine p_call (rcorn1 (by omega)) ?_ | refine p_call (rpoint0 (by omega)) ?_ | refine p_call (rpoint1 (by omega)) ?_ | refine p_call (rpoint2 (by omega)) ?_ | refine p_call (rpoint3 (by omega)) ?_ | refine p_call (rpoint4 (by omega)) ?_ | refine p_call (rpoint5 (by omega)) ?_ | refine p_call (rpoint6 (by omega)) ?_ | refine p_call (rpoint7 (by omega)) ?_ | refine p_call (v2_ok (by omega)) ?_ | refine p_call (v2_no (by omega)) ?_ | refine p_call (rmove01 (by omega)) ?_ | refine p_call (rmove11 (by omega)) ?_ | refine p_call (rmove21 (by omega)) ?_ | refine p_call (rmove31 (by omega)) ?_ | refine p_call (rmove41 (by omega)) ?_ | refine p_call (rmove51 (by omega)) ?_ | refine p_call (rmove61 (by omega)) ?_ | refine p_call (rmove71 (by omega)) ?_)
  (try simp only [List.cons.injEq, Lf.i.injEq, and_true, true_and]); (try omega)
theorem cbet120 {x y u v : Int} (h : -4096 ≤ x ∧ x ≤ 4096 ∧ -4096 ≤ y ∧ y ≤ 4096 ∧ -4096 ≤ u ∧ u ≤ 4096 ∧ -4096 ≤ v ∧ v ≤ 4096 ∧ (x + y + u + v) % 2 = 0) : Cc 55 [.i x, .i y, .i 1, .i u, .i v, .i 2] [.i 7, .i (u - (y)), .i (v - (x)), .i 0] := by
  refine q55 rfl ?_; unfold p55
  repeat (first | simp (disch := omega) only [↓qxs, ↓qxc, ↓qxa] | refine p_loop 9 ?_ | refine p_call (cellCheck_ok (by omega)) ?_ | refine p_call (middle (by omega)) ?_ | refine p_call (mpoint0 (by omega)) ?_ | refine p_call (mpoint1 (by omega)) ?_ | refine p_call (mpoint2 (by omega)) ?_ | refine p_call (mpoint3 (by omega)) ?_ | refine p_call (mpoint4 (by omega)) ?_ | refine p_call (mpoint5 (by omega)) ?_ | refine p_call (mpoint6 (by omega)) ?_ | refine p_call (mpoint7 (by omega)) ?_ | refine p_call (mcheck_ok (by omega)) ?_ | refine p_call (mcheck_no (by omega)) ?_ | refine p_call (moved01 (by omega)) ?_ | refine p_call (moved11 (by omega)) ?_ | refine p_call (moved21 (by omega)) ?_ | refine p_call (moved31 (by omega)) ?_ | refine p_call (moved41 (by omega)) ?_ | refine p_call (moved51 (by omega)) ?_ | refine p_call (moved61 (by omega)) ?_ | refine p_call (moved71 (by omega)) ?_)
  (try simp only [List.cons.injEq, Lf.i.injEq, and_true, true_and]); (try omega)
theorem rbet120 {x y u v : Int} (h : -4096 ≤ x ∧ x ≤ 4096 ∧ -4096 ≤ y ∧ y ≤ 4096 ∧ -4096 ≤ u ∧ u ≤ 4096 ∧ -4096 ≤ v ∧ v ≤ 4096 ∧ (x + y + u + v) % 2 = 0) : Cc 56 [.i x, .i y, .i 1, .i u, .i v, .i 2] [.i 7, .i (u - (y)), .i (v - (x)), .i 1] := by
  refine q56 rfl ?_; unfold p56
  repeat (first | simp (disch := omega) only [↓qxs, ↓qxc, ↓qxa] | refine p_opt_r (by simp only [pickL, putL, offX, Int.reduceToNat, Int.reduceAdd, Int.reduceMul, Int.reduceMod, Int.reduceSub, Int.reduceNeg, Int.reduceDiv, Nat.reduceAdd, Nat.reduceMul, Nat.reduceLeDiff, List.length_cons, List.length_nil, ↓reduceIte, List.drop_succ_cons, List.drop_zero, List.take_succ_cons, List.take_zero, List.cons_append, List.nil_append, Nat.zero_add, Int.toNat_zero, Nat.zero_mul, Nat.add_zero, Int.zero_add]; exact rfl) ?_ | refine p_loop 9 ?_ | refine p_call (rcorn2 (by omega)) ?_ | refine p_call (rcorn1 (by omega)) ?_ | refine p_call (rpoint0 (by omega)) ?_ | refine p_call (rpoint1 (by omega)) ?_ | refine p_call (rpoint2 (by omega)) ?_ | refine p_call (rpoint3 (by omega)) ?_ | refine p_call (rpoint4 (by omega)) ?_ | refine p_call (rpoint5 (by omega)) ?_ | refine p_call (rpoint6 (by omega)) ?_ | refine p_call (rpoint7 (by omega)) ?_ | refine p_call (v2_ok (by omega)) ?_ | refine p_call (v2_no (by omega)) ?_ | refine p_call (rmove01 (by omega)) ?_ | refine p_call (rmove11 (by omega)) ?_ | refine p_call (rmove21 (by omega)) ?_ | refine p_call (rmove31 (by omega)) ?_ | refine p_call (rmove41 (by omega)) ?_ | refine p_call (rmove51 (by omega)) ?_ | refine p_call (rmove61 (by omega)) ?_ | refine p_call (rmove71 (by omega)) ?_)
  (try simp only [List.cons.injEq, Lf.i.injEq, and_true, true_and]); (try omega)
theorem cbet121 {x y u v : Int} (h : -4096 ≤ x ∧ x ≤ 4096 ∧ -4096 ≤ y ∧ y ≤ 4096 ∧ -4096 ≤ u ∧ u ≤ 4096 ∧ -4096 ≤ v ∧ v ≤ 4096 ∧ (x + y + u + v) % 2 = 1) : Cc 55 [.i x, .i y, .i 1, .i u, .i v, .i 2] [.i 1, .i (u - (-y - 1)), .i (v - (x)), .i 0] := by
  refine q55 rfl ?_; unfold p55
  repeat (first | simp (disch := omega) only [↓qxs, ↓qxc, ↓qxa] | refine p_loop 9 ?_ | refine p_call (cellCheck_ok (by omega)) ?_ | refine p_call (middle (by omega)) ?_ | refine p_call (mpoint0 (by omega)) ?_ | refine p_call (mpoint1 (by omega)) ?_ | refine p_call (mpoint2 (by omega)) ?_ | refine p_call (mpoint3 (by omega)) ?_ | refine p_call (mpoint4 (by omega)) ?_ | refine p_call (mpoint5 (by omega)) ?_ | refine p_call (mpoint6 (by omega)) ?_ | refine p_call (mpoint7 (by omega)) ?_ | refine p_call (mcheck_ok (by omega)) ?_ | refine p_call (mcheck_no (by omega)) ?_ | refine p_call (moved01 (by omega)) ?_ | refine p_call (moved11 (by omega)) ?_ | refine p_call (moved21 (by omega)) ?_ | refine p_call (moved31 (by omega)) ?_ | refine p_call (moved41 (by omega)) ?_ | refine p_call (moved51 (by omega)) ?_ | refine p_call (moved61 (by omega)) ?_ | refine p_call (moved71 (by omega)) ?_)
  (try simp only [List.cons.injEq, Lf.i.injEq, and_true, true_and]); (try omega)
theorem rbet121 {x y u v : Int} (h : -4096 ≤ x ∧ x ≤ 4096 ∧ -4096 ≤ y ∧ y ≤ 4096 ∧ -4096 ≤ u ∧ u ≤ 4096 ∧ -4096 ≤ v ∧ v ≤ 4096 ∧ (x + y + u + v) % 2 = 1) : Cc 56 [.i x, .i y, .i 1, .i u, .i v, .i 2] [.i 1, .i (u - (-y - 1)), .i (v - (x)), .i 1] := by
  refine q56 rfl ?_; unfold p56
  repeat (first | simp (disch := omega) only [↓qxs, ↓qxc, ↓qxa] | refine p_opt_r (by simp only [pickL, putL, offX, Int.reduceToNat, Int.reduceAdd, Int.reduceMul, Int.reduceMod, Int.reduceSub, Int.reduceNeg, Int.reduceDiv, Nat.reduceAdd, Nat.reduceMul, Nat.reduceLeDiff, List.length_cons, List.length_nil, ↓reduceIte, List.drop_succ_cons, List.drop_zero, List.take_succ_cons, List.take_zero, List.cons_append, List.nil_append, Nat.zero_add, Int.toNat_zero, Nat.zero_mul, Nat.add_zero, Int.zero_add]; exact rfl) ?_ | refine p_loop 9 ?_ | refine p_call (rcorn2 (by omega)) ?_ | refine p_call (rcorn1 (by omega)) ?_ | refine p_call (rpoint0 (by omega)) ?_ | refine p_call (rpoint1 (by omega)) ?_ | refine p_call (rpoint2 (by omega)) ?_ | refine p_call (rpoint3 (by omega)) ?_ | refine p_call (rpoint4 (by omega)) ?_ | refine p_call (rpoint5 (by omega)) ?_ | refine p_call (rpoint6 (by omega)) ?_ | refine p_call (rpoint7 (by omega)) ?_ | refine p_call (v2_ok (by omega)) ?_ | refine p_call (v2_no (by omega)) ?_ | refine p_call (rmove01 (by omega)) ?_ | refine p_call (rmove11 (by omega)) ?_ | refine p_call (rmove21 (by omega)) ?_ | refine p_call (rmove31 (by omega)) ?_ | refine p_call (rmove41 (by omega)) ?_ | refine p_call (rmove51 (by omega)) ?_ | refine p_call (rmove61 (by omega)) ?_ | refine p_call (rmove71 (by omega)) ?_)
  (try simp only [List.cons.injEq, Lf.i.injEq, and_true, true_and]); (try omega)
theorem cbet130 {x y u v : Int} (h : -4096 ≤ x ∧ x ≤ 4096 ∧ -4096 ≤ y ∧ y ≤ 4096 ∧ -4096 ≤ u ∧ u ≤ 4096 ∧ -4096 ≤ v ∧ v ≤ 4096 ∧ (x + y + u + v) % 2 = 0) : Cc 55 [.i x, .i y, .i 1, .i u, .i v, .i 3] [.i 2, .i (u - (-x - 1)), .i (v - (-y - 1)), .i 0] := by
  refine q55 rfl ?_; unfold p55
  repeat (first | simp (disch := omega) only [↓qxs, ↓qxc, ↓qxa] | refine p_loop 9 ?_ | refine p_call (cellCheck_ok (by omega)) ?_ | refine p_call (middle (by omega)) ?_ | refine p_call (mpoint0 (by omega)) ?_ | refine p_call (mpoint1 (by omega)) ?_ | refine p_call (mpoint2 (by omega)) ?_ | refine p_call (mpoint3 (by omega)) ?_ | refine p_call (mpoint4 (by omega)) ?_ | refine p_call (mpoint5 (by omega)) ?_ | refine p_call (mpoint6 (by omega)) ?_ | refine p_call (mpoint7 (by omega)) ?_ | refine p_call (mcheck_ok (by omega)) ?_ | refine p_call (mcheck_no (by omega)) ?_ | refine p_call (moved01 (by omega)) ?_ | refine p_call (moved11 (by omega)) ?_ | refine p_call (moved21 (by omega)) ?_ | refine p_call (moved31 (by omega)) ?_ | refine p_call (moved41 (by omega)) ?_ | refine p_call (moved51 (by omega)) ?_ | refine p_call (moved61 (by omega)) ?_ | refine p_call (moved71 (by omega)) ?_)
  (try simp only [List.cons.injEq, Lf.i.injEq, and_true, true_and]); (try omega)
theorem rbet130 {x y u v : Int} (h : -4096 ≤ x ∧ x ≤ 4096 ∧ -4096 ≤ y ∧ y ≤ 4096 ∧ -4096 ≤ u ∧ u ≤ 4096 ∧ -4096 ≤ v ∧ v ≤ 4096 ∧ (x + y + u + v) % 2 = 0) : Cc 56 [.i x, .i y, .i 1, .i u, .i v, .i 3] [.i 2, .i (u - (-x - 1)), .i (v - (-y - 1)), .i 1] := by
  refine q56 rfl ?_; unfold p56
  repeat (first | simp (disch := omega) only [↓qxs, ↓qxc, ↓qxa] | refine p_opt_r (by simp only [pickL, putL, offX, Int.reduceToNat, Int.reduceAdd, Int.reduceMul, Int.reduceMod, Int.reduceSub, Int.reduceNeg, Int.reduceDiv, Nat.reduceAdd, Nat.reduceMul, Nat.reduceLeDiff, List.length_cons, List.length_nil, ↓reduceIte, List.drop_succ_cons, List.drop_zero, List.take_succ_cons, List.take_zero, List.cons_append, List.nil_append, Nat.zero_add, Int.toNat_zero, Nat.zero_mul, Nat.add_zero, Int.zero_add]; exact rfl) ?_ | refine p_loop 9 ?_ | refine p_call (rcorn3 (by omega)) ?_ | refine p_call (rcorn1 (by omega)) ?_ | refine p_call (rpoint0 (by omega)) ?_ | refine p_call (rpoint1 (by omega)) ?_ | refine p_call (rpoint2 (by omega)) ?_ | refine p_call (rpoint3 (by omega)) ?_ | refine p_call (rpoint4 (by omega)) ?_ | refine p_call (rpoint5 (by omega)) ?_ | refine p_call (rpoint6 (by omega)) ?_ | refine p_call (rpoint7 (by omega)) ?_ | refine p_call (v2_ok (by omega)) ?_ | refine p_call (v2_no (by omega)) ?_ | refine p_call (rmove01 (by omega)) ?_ | refine p_call (rmove11 (by omega)) ?_ | refine p_call (rmove21 (by omega)) ?_ | refine p_call (rmove31 (by omega)) ?_ | refine p_call (rmove41 (by omega)) ?_ | refine p_call (rmove51 (by omega)) ?_ | refine p_call (rmove61 (by omega)) ?_ | refine p_call (rmove71 (by omega)) ?_)
  (try simp only [List.cons.injEq, Lf.i.injEq, and_true, true_and]); (try omega)
theorem cbet131 {x y u v : Int} (h : -4096 ≤ x ∧ x ≤ 4096 ∧ -4096 ≤ y ∧ y ≤ 4096 ∧ -4096 ≤ u ∧ u ≤ 4096 ∧ -4096 ≤ v ∧ v ≤ 4096 ∧ (x + y + u + v) % 2 = 1) : Cc 55 [.i x, .i y, .i 1, .i u, .i v, .i 3] [.i 4, .i (u - (-x - 1)), .i (v - (y)), .i 0] := by
  refine q55 rfl ?_; unfold p55
  repeat (first | simp (disch := omega) only [↓qxs, ↓qxc, ↓qxa] | refine p_loop 9 ?_ | refine p_call (cellCheck_ok (by omega)) ?_ | refine p_call (middle (by omega)) ?_ | refine p_call (mpoint0 (by omega)) ?_ | refine p_call (mpoint1 (by omega)) ?_ | refine p_call (mpoint2 (by omega)) ?_ | refine p_call (mpoint3 (by omega)) ?_ | refine p_call (mpoint4 (by omega)) ?_ | refine p_call (mpoint5 (by omega)) ?_ | refine p_call (mpoint6 (by omega)) ?_ | refine p_call (mpoint7 (by omega)) ?_ | refine p_call (mcheck_ok (by omega)) ?_ | refine p_call (mcheck_no (by omega)) ?_ | refine p_call (moved01 (by omega)) ?_ | refine p_call (moved11 (by omega)) ?_ | refine p_call (moved21 (by omega)) ?_ | refine p_call (moved31 (by omega)) ?_ | refine p_call (moved41 (by omega)) ?_ | refine p_call (moved51 (by omega)) ?_ | refine p_call (moved61 (by omega)) ?_ | refine p_call (moved71 (by omega)) ?_)
  (try simp only [List.cons.injEq, Lf.i.injEq, and_true, true_and]); (try omega)
theorem rbet131 {x y u v : Int} (h : -4096 ≤ x ∧ x ≤ 4096 ∧ -4096 ≤ y ∧ y ≤ 4096 ∧ -4096 ≤ u ∧ u ≤ 4096 ∧ -4096 ≤ v ∧ v ≤ 4096 ∧ (x + y + u + v) % 2 = 1) : Cc 56 [.i x, .i y, .i 1, .i u, .i v, .i 3] [.i 4, .i (u - (-x - 1)), .i (v - (y)), .i 1] := by
  refine q56 rfl ?_; unfold p56
  repeat (first | simp (disch := omega) only [↓qxs, ↓qxc, ↓qxa] | refine p_opt_r (by simp only [pickL, putL, offX, Int.reduceToNat, Int.reduceAdd, Int.reduceMul, Int.reduceMod, Int.reduceSub, Int.reduceNeg, Int.reduceDiv, Nat.reduceAdd, Nat.reduceMul, Nat.reduceLeDiff, List.length_cons, List.length_nil, ↓reduceIte, List.drop_succ_cons, List.drop_zero, List.take_succ_cons, List.take_zero, List.cons_append, List.nil_append, Nat.zero_add, Int.toNat_zero, Nat.zero_mul, Nat.add_zero, Int.zero_add]; exact rfl) ?_ | refine p_loop 9 ?_ | refine p_call (rcorn3 (by omega)) ?_ | refine p_call (rcorn1 (by omega)) ?_ | refine p_call (rpoint0 (by omega)) ?_ | refine p_call (rpoint1 (by omega)) ?_ | refine p_call (rpoint2 (by omega)) ?_ | refine p_call (rpoint3 (by omega)) ?_ | refine p_call (rpoint4 (by omega)) ?_ | refine p_call (rpoint5 (by omega)) ?_ | refine p_call (rpoint6 (by omega)) ?_ | refine p_call (rpoint7 (by omega)) ?_ | refine p_call (v2_ok (by omega)) ?_ | refine p_call (v2_no (by omega)) ?_ | refine p_call (rmove01 (by omega)) ?_ | refine p_call (rmove11 (by omega)) ?_ | refine p_call (rmove21 (by omega)) ?_ | refine p_call (rmove31 (by omega)) ?_ | refine p_call (rmove41 (by omega)) ?_ | refine p_call (rmove51 (by omega)) ?_ | refine p_call (rmove61 (by omega)) ?_ | refine p_call (rmove71 (by omega)) ?_)
  (try simp only [List.cons.injEq, Lf.i.injEq, and_true, true_and]); (try omega)
end Go.Am
/-
  CONTRACTS, BY PROGRAM: moves between cells.
-/
set_option maxRecDepth 100000
namespace Go.Am
open Sx Go.Proofs

theorem cbet200 {x y u v : Int} (h : -4096 ≤ x ∧ x ≤ 4096 ∧ -4096 ≤ y ∧ y ≤ 4096 ∧ -4096 ≤ u ∧ u ≤ 4096 ∧ -4096 ≤ v ∧ v ≤ 4096 ∧ (x + y + u + v) % 2 = 0) : Cc 55 [.i x, .i y, .i 2, .i u, .i v, .i 0] [.i 2, .i (u - (-x - 1)), .i (v - (-y - 1)), .i 0] := by
  refine q55 rfl ?_; unfold p55
  repeat (first | simp (disch := omega) only [↓qxs, ↓qxc, ↓qxa] | refine p_loop 9 ?_ | refine p_call (cellCheck_ok (by omega)) ?_ | refine p_call (middle (by omega)) ?_ | refine p_call (mpoint0 (by omega)) ?_ | refine p_call (mpoint1 (by omega)) ?_ | refine p_call (mpoint2 (by omega)) ?_ | refine p_call (mpoint3 (by omega)) ?_ | refine p_call (mpoint4 (by omega)) ?_ | refine p_call (mpoint5 (by omega)) ?_ | refine p_call (mpoint6 (by omega)) ?_ | refine p_call (mpoint7 (by omega)) ?_ | refine p_call (mcheck_ok (by omega)) ?_ | refine p_call (mcheck_no (by omega)) ?_ | refine p_call (moved02 (by omega)) ?_ | refine p_call (moved12 (by omega)) ?_ | refine p_call (moved22 (by omega)) ?_ | refine p_call (moved32 (by omega)) ?_ | refine p_call (moved42 (by omega)) ?_ | refine p_call (moved52 (by omega)) ?_ | refine p_call (moved62 (by omega)) ?_ | refine p_call (moved72 (by omega)) ?_)
  (try simp only [List.cons.injEq, Lf.i.injEq, and_true, true_and]); (try omega)
theorem rbet200 {x y u v : Int} (h : -4096 ≤ x ∧ x ≤ 4096 ∧ -4096 ≤ y ∧ y ≤ 4096 ∧ -4096 ≤ u ∧ u ≤ 4096 ∧ -4096 ≤ v ∧ v ≤ 4096 ∧ (x + y + u + v) % 2 = 0) : Cc 56 [.i x, .i y, .i 2, .i u, .i v, .i 0] [.i 2, .i (u - (-x - 1)), .i (v - (-y - 1)), .i 1] := by
  refine q56 rfl ?_; unfold p56
  repeat (first | simp (disch := omega) only [↓qxs, ↓qxc, ↓qxa] | refine p_opt_r (by simp only [pickL, putL, offX, Int.reduceToNat, Int.reduceAdd, Int.reduceMul, Int.reduceMod, Int.reduceSub, Int.reduceNeg, Int.reduceDiv, Nat.reduceAdd, Nat.reduceMul, Nat.reduceLeDiff, List.length_cons, List.length_nil, ↓reduceIte, List.drop_succ_cons, List.drop_zero, List.take_succ_cons, List.take_zero, List.cons_append, List.nil_append, Nat.zero_add, Int.toNat_zero, Nat.zero_mul, Nat.add_zero, Int.zero_add]; exact rfl) ?_ | refine p_loop 9 ?_ | refine p_call (rcorn0 (by omega)) ?_ | refine p_call (rcorn2 (by omega)) ?_ | refine p_call (rpoint0 (by omega)) ?_ | refine p_call (rpoint1 (by omega)) ?_ | refine p_call (rpoint2 (by omega)) ?_ | refine p_call (rpoint3 (by omega)) ?_ | refine p_call (rpoint4 (by omega)) ?_ | refine p_call (rpoint5 (by omega)) ?_ | refine p_call (rpoint6 (by omega)) ?_ | refine p_call (rpoint7 (by omega)) ?_ | refine p_call (v2_ok (by omega)) ?_ | refine p_call (v2_no (by omega)) ?_ | refine p_call (rmove02 (by omega)) ?_ | refine p_call (rmove12 (by omega)) ?_ | refine p_call (rmove22 (by omega)) ?_ | refine p_call (rmove32 (by omega)) ?_ | refine p_call (rmove42 (by omega)) ?_ | refine p_call (rmove52 (by omega)) ?_ | refine p_call (rmove62 (by omega)) ?_ | refine p_call (rmove72 (by omega)) ?_)
  (try simp only [List.cons.injEq, Lf.i.injEq, and_true, true_and]); (try omega)
theorem cbet201 {x y u v : Int} (h : -4096 ≤ x ∧ x ≤ 4096 ∧ -4096 ≤ y ∧ y ≤ 4096 ∧ -4096 ≤ u ∧ u ≤ 4096 ∧ -4096 ≤ v ∧ v ≤ 4096 ∧ (x + y + u + v) % 2 = 1) : Cc 55 [.i x, .i y, .i 2, .i u, .i v, .i 0] [.i 6, .i (u - (x)), .i (v - (-y - 1)), .i 0] := by
  refine q55 rfl ?_; unfold p55
  repeat (first | simp (disch := omega) only [↓qxs, ↓qxc, ↓qxa] | refine p_loop 9 ?_ | refine p_call (cellCheck_ok (by omega)) ?_ | refine p_call (middle (by omega)) ?_ | refine p_call (mpoint0 (by omega)) ?_ | refine p_call (mpoint1 (by omega)) ?_ | refine p_call (mpoint2 (by omega)) ?_ | refine p_call (mpoint3 (by omega)) ?_ | refine p_call (mpoint4 (by omega)) ?_ | refine p_call (mpoint5 (by omega)) ?_ | refine p_call (mpoint6 (by omega)) ?_ | refine p_call (mpoint7 (by omega)) ?_ | refine p_call (mcheck_ok (by omega)) ?_ | refine p_call (mcheck_no (by omega)) ?_ | refine p_call (moved02 (by omega)) ?_ | refine p_call (moved12 (by omega)) ?_ | refine p_call (moved22 (by omega)) ?_ | refine p_call (moved32 (by omega)) ?_ | refine p_call (moved42 (by omega)) ?_ | refine p_call (moved52 (by omega)) ?_ | refine p_call (moved62 (by omega)) ?_ | refine p_call (moved72 (by omega)) ?_)
  (try simp only [List.cons.injEq, Lf.i.injEq, and_true, true_and]); (try omega)
theorem rbet201 {x y u v : Int} (h : -4096 ≤ x ∧ x ≤ 4096 ∧ -4096 ≤ y ∧ y ≤ 4096 ∧ -4096 ≤ u ∧ u ≤ 4096 ∧ -4096 ≤ v ∧ v ≤ 4096 ∧ (x + y + u + v) % 2 = 1) : Cc 56 [.i x, .i y, .i 2, .i u, .i v, .i 0] [.i 6, .i (u - (x)), .i (v - (-y - 1)), .i 1] := by
  refine q56 rfl ?_; unfold p56
  repeat (first | simp (disch := omega) only [↓qxs, ↓qxc, ↓qxa] | refine p_opt_r (by simp only [pickL, putL, offX, Int.reduceToNat, Int.reduceAdd, Int.reduceMul, Int.reduceMod, Int.reduceSub, Int.reduceNeg, Int.reduceDiv, Nat.reduceAdd, Nat.reduceMul, Nat.reduceLeDiff, List.length_cons, List.length_nil, ↓reduceIte, List.drop_succ_cons, List.drop_zero, List.take_succ_cons, List.take_zero, List.cons_append, List.nil_append, Nat.zero_add, Int.toNat_zero, Nat.zero_mul, Nat.add_zero, Int.zero_add]; exact rfl) ?_ | refine p_loop 9 ?_ | refine p_call (rcorn0 (by omega)) ?_ | refine p_call (rcorn2 (by omega)) ?_ | refine p_call (rpoint0 (by omega)) ?_ | refine p_call (rpoint1 (by omega)) ?_ | refine p_call (rpoint2 (by omega)) ?_ | refine p_call (rpoint3 (by omega)) ?_ | refine p_call (rpoint4 (by omega)) ?_ | refine p_call (rpoint5 (by omega)) ?_ | refine p_call (rpoint6 (by omega)) ?_ | refine p_call (rpoint7 (by omega)) ?_ | refine p_call (v2_ok (by omega)) ?_ | refine p_call (v2_no (by omega)) ?_ | refine p_call (rmove02 (by omega)) ?_ | refine p_call (rmove12 (by omega)) ?_ | refine p_call (rmove22 (by omega)) ?_ | refine p_call (rmove32 (by omega)) ?_ | refine p_call (rmove42 (by omega)) ?_ | refine p_call (rmove52 (by omega)) ?_ | refine p_call (rmove62 (by omega)) ?_ | refine p_call (rmove72 (by omega)) ?_)
  (try simp only [List.cons.injEq, Lf.i.injEq, and_true, true_and]); (try omega)
theorem cbet210 {x y u v : Int} (h : -4096 ≤ x ∧ x ≤ 4096 ∧ -4096 ≤ y ∧ y ≤ 4096 ∧ -4096 ≤ u ∧ u ≤ 4096 ∧ -4096 ≤ v ∧ v ≤ 4096 ∧ (x + y + u + v) % 2 = 0) : Cc 55 [.i x, .i y, .i 2, .i u, .i v, .i 1] [.i 7, .i (u - (y)), .i (v - (x)), .i 0] := by
  refine q55 rfl ?_; unfold p55
  repeat (first | simp (disch := omega) only [↓qxs, ↓qxc, ↓qxa] | refine p_loop 9 ?_ | refine p_call (cellCheck_ok (by omega)) ?_ | refine p_call (middle (by omega)) ?_ | refine p_call (mpoint0 (by omega)) ?_ | refine p_call (mpoint1 (by omega)) ?_ | refine p_call (mpoint2 (by omega)) ?_ | refine p_call (mpoint3 (by omega)) ?_ | refine p_call (mpoint4 (by omega)) ?_ | refine p_call (mpoint5 (by omega)) ?_ | refine p_call (mpoint6 (by omega)) ?_ | refine p_call (mpoint7 (by omega)) ?_ | refine p_call (mcheck_ok (by omega)) ?_ | refine p_call (mcheck_no (by omega)) ?_ | refine p_call (moved02 (by omega)) ?_ | refine p_call (moved12 (by omega)) ?_ | refine p_call (moved22 (by omega)) ?_ | refine p_call (moved32 (by omega)) ?_ | refine p_call (moved42 (by omega)) ?_ | refine p_call (moved52 (by omega)) ?_ | refine p_call (moved62 (by omega)) ?_ | refine p_call (moved72 (by omega)) ?_)
  (try simp only [List.cons.injEq, Lf.i.injEq, and_true, true_and]); (try omega)
theorem rbet210 {x y u v : Int} (h : -4096 ≤ x ∧ x ≤ 4096 ∧ -4096 ≤ y ∧ y ≤ 4096 ∧ -4096 ≤ u ∧ u ≤ 4096 ∧ -4096 ≤ v ∧ v ≤ 4096 ∧ (x + y + u + v) % 2 = 0) : Cc 56 [.i x, .i y, .i 2, .i u, .i v, .i 1] [.i 7, .i (u - (y)), .i (v - (x)), .i 1] := by
  refine q56 rfl ?_; unfold p56
  repeat (first | simp (disch := omega) only [↓qxs, ↓qxc, ↓qxa] | refine p_opt_r (by simp only [pickL, putL, offX, Int.reduceToNat, Int.reduceAdd, Int.reduceMul, Int.reduceMod, Int.reduceSub, Int.reduceNeg, Int.reduceDiv, Nat.reduceAdd, Nat.reduceMul, Nat.reduceLeDiff, List.length_cons, List.length_nil, ↓reduceIte, List.drop_succ_cons, List.drop_zero, List.take_succ_cons, List.take_zero, List.cons_append, List.nil_append, Nat.zero_add, Int.toNat_zero, Nat.zero_mul, Nat.add_zero, Int.zero_add]; exact rfl) ?_ | refine p_loop 9 ?_ | refine p_call (rcorn1 (by omega)) ?_ | refine p_call (rcorn2 (by omega)) ?_ | refine p_call (rpoint0 (by omega)) ?_ | refine p_call (rpoint1 (by omega)) ?_ | refine p_call (rpoint2 (by omega)) ?_ | refine p_call (rpoint3 (by omega)) ?_ | refine p_call (rpoint4 (by omega)) ?_ | refine p_call (rpoint5 (by omega)) ?_ | refine p_call (rpoint6 (by omega)) ?_ | refine p_call (rpoint7 (by omega)) ?_ | refine p_call (v2_ok (by omega)) ?_ | refine p_call (v2_no (by omega)) ?_ | refine p_call (rmove02 (by omega)) ?_ | refine p_call (rmove12 (by omega)) ?_ | refine p_call (rmove22 (by omega)) ?_ | refine p_call (rmove32 (by omega)) ?_ | refine p_call (rmove42 (by omega)) ?_ | refine p_call (rmove52 (by omega)) ?_ | refine p_call (rmove62 (by omega)) ?_ | refine p_call (rmove72 (by omega)) ?_)
  (try simp only [List.cons.injEq, Lf.i.injEq, and_true, true_and]); (try omega)
theorem cbet211 {x y u v : Int} (h : -4096 ≤ x ∧ x ≤ 4096 ∧ -4096 ≤ y ∧ y ≤ 4096 ∧ -4096 ≤ u ∧ u ≤ 4096 ∧ -4096 ≤ v ∧ v ≤ 4096 ∧ (x + y + u + v) % 2 = 1) : Cc 55 [.i x, .i y, .i 2, .i u, .i v, .i 1] [.i 3, .i (u - (y)), .i (v - (-x - 1)), .i 0] := by
  refine q55 rfl ?_; unfold p55
  repeat (first | simp (disch := omega) only [↓qxs, ↓qxc, ↓qxa] | refine p_loop 9 ?_ | refine p_call (cellCheck_ok (by omega)) ?_ | refine p_call (middle (by omega)) ?_ | refine p_call (mpoint0 (by omega)) ?_ | refine p_call (mpoint1 (by omega)) ?_ | refine p_call (mpoint2 (by omega)) ?_ | refine p_call (mpoint3 (by omega)) ?_ | refine p_call (mpoint4 (by omega)) ?_ | refine p_call (mpoint5 (by omega)) ?_ | refine p_call (mpoint6 (by omega)) ?_ | refine p_call (mpoint7 (by omega)) ?_ | refine p_call (mcheck_ok (by omega)) ?_ | refine p_call (mcheck_no (by omega)) ?_ | refine p_call (moved02 (by omega)) ?_ | refine p_call (moved12 (by omega)) ?_ | refine p_call (moved22 (by omega)) ?_ | refine p_call (moved32 (by omega)) ?_ | refine p_call (moved42 (by omega)) ?_ | refine p_call (moved52 (by omega)) ?_ | refine p_call (moved62 (by omega)) ?_ | refine p_call (moved72 (by omega)) ?_)
  (try simp only [List.cons.injEq, Lf.i.injEq, and_true, true_and]); (try omega)
theorem rbet211 {x y u v : Int} (h : -4096 ≤ x ∧ x ≤ 4096 ∧ -4096 ≤ y ∧ y ≤ 4096 ∧ -4096 ≤ u ∧ u ≤ 4096 ∧ -4096 ≤ v ∧ v ≤ 4096 ∧ (x + y + u + v) % 2 = 1) : Cc 56 [.i x, .i y, .i 2, .i u, .i v, .i 1] [.i 3, .i (u - (y)), .i (v - (-x - 1)), .i 1] := by
  refine q56 rfl ?_; unfold p56
  repeat (first | simp (disch := omega) only [↓qxs, ↓qxc, ↓qxa] | refine p_opt_r (by simp only [pickL, putL, offX, Int.reduceToNat, Int.reduceAdd, Int.reduceMul, Int.reduceMod, Int.reduceSub, Int.reduceNeg, Int.reduceDiv, Nat.reduceAdd, Nat.reduceMul, Nat.reduceLeDiff, List.length_cons, List.length_nil, ↓reduceIte, List.drop_succ_cons, List.drop_zero, List.take_succ_cons, List.take_zero, List.cons_append, List.nil_append, Nat.zero_add, Int.toNat_zero, Nat.zero_mul, Nat.add_zero, Int.zero_add]; exact rfl) ?_ | refine p_loop 9 ?_ | refine p_call (rcorn1 (by omega)) ?_ | refine p_call (rcorn2 (by omega)) ?_ | refine p_call (rpoint0 (by omega)) ?_ | refine p_call (rpoint1 (by omega)) ?_ | refine p_call (rpoint2 (by omega)) ?_ | refine p_call (rpoint3 (by omega)) ?_ | refine p_call (rpoint4 (by omega)) ?_ | refine p_call (rpoint5 (by omega)) ?_ | refine p_call (rpoint6 (by omega)) ?_ | refine p_call (rpoint7 (by omega)) ?_ | refine p_call (v2_ok (by omega)) ?_ | refine p_call (v2_no (by omega)) ?_ | refine p_call (rmove02 (by omega)) ?_ | refine p_call (rmove12 (by omega)) ?_ | refine p_call (rmove22 (by omega)) ?_ | refine p_call (rmove32 (by omega)) ?_ | refine p_call (rmove42 (by omega)) ?_ | refine p_call (rmove52 (by omega)) ?_ | refine p_call (rmove62 (by omega)) ?_ | refine p_call (rmove72 (by omega)) ?_)
  (try simp only [List.cons.injEq, Lf.i.injEq, and_true, true_and]); (try omega)
theorem cbet220 {x y u v : Int} (h : -4096 ≤ x ∧ x ≤ 4096 ∧ -4096 ≤ y ∧ y ≤ 4096 ∧ -4096 ≤ u ∧ u ≤ 4096 ∧ -4096 ≤ v ∧ v ≤ 4096 ∧ (x + y + u + v) % 2 = 0) : Cc 55 [.i x, .i y, .i 2, .i u, .i v, .i 2] [.i 0, .i (u - (x)), .i (v - (y)), .i 0] := by
  refine q55 rfl ?_; unfold p55
  repeat (first | simp (disch := omega) only [↓qxs, ↓qxc, ↓qxa] | refine p_loop 9 ?_ | refine p_call (cellCheck_ok (by omega)) ?_ | refine p_call (middle (by omega)) ?_ | refine p_call (mpoint0 (by omega)) ?_ | refine p_call (mpoint1 (by omega)) ?_ | refine p_call (mpoint2 (by omega)) ?_ | refine p_call (mpoint3 (by omega)) ?_ | refine p_call (mpoint4 (by omega)) ?_ | refine p_call (mpoint5 (by omega)) ?_ | refine p_call (mpoint6 (by omega)) ?_ | refine p_call (mpoint7 (by omega)) ?_ | refine p_call (mcheck_ok (by omega)) ?_ | refine p_call (mcheck_no (by omega)) ?_ | refine p_call (moved02 (by omega)) ?_ | refine p_call (moved12 (by omega)) ?_ | refine p_call (moved22 (by omega)) ?_ | refine p_call (moved32 (by omega)) ?_ | refine p_call (moved42 (by omega)) ?_ | refine p_call (moved52 (by omega)) ?_ | refine p_call (moved62 (by omega)) ?_ | refine p_call (moved72 (by omega)) ?_)
  (try simp only [List.cons.injEq, Lf.i.injEq, and_true, true_and]); (try omega)
theorem rbet220 {x y u v : Int} (h : -4096 ≤ x ∧ x ≤ 4096 ∧ -4096 ≤ y ∧ y ≤ 4096 ∧ -4096 ≤ u ∧ u ≤ 4096 ∧ -4096 ≤ v ∧ v ≤ 4096 ∧ (x + y + u + v) % 2 = 0) : Cc 56 [.i x, .i y, .i 2, .i u, .i v, .i 2] [.i 0, .i (u - (x)), .i (v - (y)), .i 1] := by
  refine q56 rfl ?_; unfold p56
  repeat (first | simp (disch := omega) only [↓qxs, ↓qxc, ↓qxa] | refine p_opt_r (by simp only [pickL, putL, offX, Int.reduceToNat, Int.reduceAdd, Int.reduceMul, Int.reduceMod, Int.reduceSub, Int.reduceNeg, Int.reduceDiv, Nat.reduceAdd, Nat.reduceMul, Nat.reduceLeDiff, List.length_cons, List.length_nil, ↓reduceIte, List.drop_succ_cons, List.drop_zero, List.take_succ_cons, List.take_zero, List.cons_append, List.nil_append, Nat.zero_add, Int.toNat_zero, Nat.zero_mul, Nat.add_zero, Int.zero_add]; exact rfl) ?_ | refine p_loop 9 ?_ | refine p_call (rcorn2 (by omega)) ?_ | refine p_call (rcorn2 (by omega)) ?_ | refine p_call (rpoint0 (by omega)) ?_ | refine p_call (rpoint1 (by omega)) ?_ | refine p_call (rpoint2 (by omega)) ?_ | refine p_call (rpoint3 (by omega)) ?_ | refine p_call (rpoint4 (by omega)) ?_ | refine p_call (rpoint5 (by omega)) ?_ | refine p_call (rpoint6 (by omega)) ?_ | refine p_call (rpoint7 (by omega)) ?_ | refine p_call (v2_ok (by omega)) ?_ | refine p_call (v2_no (by omega)) ?_ | refine p_call (rmove02 (by omega)) ?_ | refine p_call (rmove12 (by omega)) ?_ | refine p_call (rmove22 (by omega)) ?_ | refine p_call (rmove32 (by omega)) ?_ | refine p_call (rmove42 (by omega)) ?_ | refine p_call (rmove52 (by omega)) ?_ | refine p_call (rmove62 (by omega)) ?_ | refine p_call (rmove72 (by omega)) ?_)
  (try simp only [List.cons.injEq, Lf.i.injEq, and_true, true_and]); (try omega)
theorem cbet221 {x y u v : Int} (h : -4096 ≤ x ∧ x ≤ 4096 ∧ -4096 ≤ y ∧ y ≤ 4096 ∧ -4096 ≤ u ∧ u ≤ 4096 ∧ -4096 ≤ v ∧ v ≤ 4096 ∧ (x + y + u + v) % 2 = 1) : Cc 55 [.i x, .i y, .i 2, .i u, .i v, .i 2] [.i 4, .i (u - (-x - 1)), .i (v - (y)), .i 0] := by
  refine q55 rfl ?_; unfold p55
  repeat (first | simp (disch := omega) only [↓qxs, ↓qxc, ↓qxa] | refine p_loop 9 ?_ | refine p_call (cellCheck_ok (by omega)) ?_ | refine p_call (middle (by omega)) ?_ | refine p_call (mpoint0 (by omega)) ?_ | refine p_call (mpoint1 (by omega)) ?_ | refine p_call (mpoint2 (by omega)) ?_ | refine p_call (mpoint3 (by omega)) ?_ | refine p_call (mpoint4 (by omega)) ?_ | refine p_call (mpoint5 (by omega)) ?_ | refine p_call (mpoint6 (by omega)) ?_ | refine p_call (mpoint7 (by omega)) ?_ | refine p_call (mcheck_ok (by omega)) ?_ | refine p_call (mcheck_no (by omega)) ?_ | refine p_call (moved02 (by omega)) ?_ | refine p_call (moved12 (by omega)) ?_ | refine p_call (moved22 (by omega)) ?_ | refine p_call (moved32 (by omega)) ?_ | refine p_call (moved42 (by omega)) ?_ | refine p_call (moved52 (by omega)) ?_ | refine p_call (moved62 (by omega)) ?_ | refine p_call (moved72 (by omega)) ?_)
  (try simp only [List.cons.injEq, Lf.i.injEq, and_true, true_and]); (try omega)
theorem rbet221 {x y u v : Int} (h : -4096 ≤ x ∧ x ≤ 4096 ∧ -4096 ≤ y ∧ y ≤ 4096 ∧ -4096 ≤ u ∧ u ≤ 4096 ∧ -4096 ≤ v ∧ v ≤ 4096 ∧ (x + y + u + v) % 2 = 1) : Cc 56 [.i x, .i y, .i 2, .i u, .i v, .i 2] [.i 4, .i (u - (-x - 1)), .i (v - (y)), .i 1] := by
  refine q56 rfl ?_; unfold p56
  repeat (first | simp (disch := omega) only [↓qxs, ↓qxc, ↓qxa] | refine p_opt_r (by simp only [pickL, putL, offX, Int.reduceToNat, Int.reduceAdd, Int.reduceMul, Int.reduceMod, Int.reduceSub, Int.reduceNeg, Int.reduceDiv, Nat.reduceAdd, Nat.reduceMul, Nat.reduceLeDiff, List.length_cons, List.length_nil, ↓reduceIte, List.drop_succ_cons, List.drop_zero, List.take_succ_cons, List.take_zero, List.cons_append, List.nil_append, Nat.zero_add, Int.toNat_zero, Nat.zero_mul, Nat.add_zero, Int.zero_add]; exact rfl) ?_ | refine p_loop 9 ?_ | refine p_call (rcorn2 (by omega)) ?_ | refine p_call (rcorn2 (by omega)) ?_ | refine p_call (rpoint0 (by omega)) ?_ | refine p_call (rpoint1 (by omega)) ?_ | refine p_call (rpoint2 (by omega)) ?_ | refine p_call (rpoint3 (by omega)) ?_ | refine p_call (rpoint4 (by omega)) ?_ | refine p_call (rpoint5 (by omega)) ?_ | refine p_call (rpoint6 (by omega)) ?_ | refine p_call (rpoint7 (by omega)) ?_ | refine p_call (v2_ok (by omega)) ?_ | refine p_call (v2_no (by omega)) ?_ | refine p_call (rmove02 (by omega)) ?_ | refine p_call (rmove12 (by omega)) ?_ | refine p_call (rmove22 (by omega)) ?_ | refine p_call (rmove32 (by omega)) ?_ | refine p_call (rmove42 (by omega)) ?_ | refine p_call (rmove52 (by omega)) ?_ | refine p_call (rmove62 (by omega)) ?_ | refine p_call (rmove72 (by omega)) ?_)
  (try simp only [List.cons.injEq, Lf.i.injEq, and_true, true_and]); (try omega)
theorem cbet230 {x y u v : Int} (h : -4096 ≤ x ∧ x ≤ 4096 ∧ -4096 ≤ y ∧ y ≤ 4096 ∧ -4096 ≤ u ∧ u ≤ 4096 ∧ -4096 ≤ v ∧ v ≤ 4096 ∧ (x + y + u + v) % 2 = 0) : Cc 55 [.i x, .i y, .i 2, .i u, .i v, .i 3] [.i 5, .i (u - (-y - 1)), .i (v - (-x - 1)), .i 0] := by
  refine q55 rfl ?_; unfold p55
  repeat (first | simp (disch := omega) only [↓qxs, ↓qxc, ↓qxa] | refine p_loop 9 ?_ | refine p_call (cellCheck_ok (by omega)) ?_ | refine p_call (middle (by omega)) ?_ | refine p_call (mpoint0 (by omega)) ?_ | refine p_call (mpoint1 (by omega)) ?_ | refine p_call (mpoint2 (by omega)) ?_ | refine p_call (mpoint3 (by omega)) ?_ | refine p_call (mpoint4 (by omega)) ?_ | refine p_call (mpoint5 (by omega)) ?_ | refine p_call (mpoint6 (by omega)) ?_ | refine p_call (mpoint7 (by omega)) ?_ | refine p_call (mcheck_ok (by omega)) ?_ | refine p_call (mcheck_no (by omega)) ?_ | refine p_call (moved02 (by omega)) ?_ | refine p_call (moved12 (by omega)) ?_ | refine p_call (moved22 (by omega)) ?_ | refine p_call (moved32 (by omega)) ?_ | refine p_call (moved42 (by omega)) ?_ | refine p_call (moved52 (by omega)) ?_ | refine p_call (moved62 (by omega)) ?_ | refine p_call (moved72 (by omega)) ?_)
  (try simp only [List.cons.injEq, Lf.i.injEq, and_true, true_and]); (try omega)
theorem rbet230 {x y u v : Int} (h : -4096 ≤ x ∧ x ≤ 4096 ∧ -4096 ≤ y ∧ y ≤ 4096 ∧ -4096 ≤ u ∧ u ≤ 4096 ∧ -4096 ≤ v ∧ v ≤ 4096 ∧ (x + y + u + v) % 2 = 0) : Cc 56 [.i x, .i y, .i 2, .i u, .i v, .i 3] [.i 5, .i (u - (-y - 1)), .i (v - (-x - 1)), .i 1] := by
  refine q56 rfl ?_; unfold p56
  repeat (first | simp (disch := omega) only [↓qxs, ↓qxc, ↓qxa] | refine p_opt_r (by simp only [pickL, putL, offX, Int.reduceToNat, Int.reduceAdd, Int.reduceMul, Int.reduceMod, Int.reduceSub, Int.reduceNeg, Int.reduceDiv, Nat.reduceAdd, Nat.reduceMul, Nat.reduceLeDiff, List.length_cons, List.length_nil, ↓reduceIte, List.drop_succ_cons, List.drop_zero, List.take_succ_cons, List.take_zero, List.cons_append, List.nil_append, Nat.zero_add, Int.toNat_zero, Nat.zero_mul, Nat.add_zero, Int.zero_add]; exact rfl) ?_ | refine p_loop 9 ?_ | refine p_call (rcorn3 (by omega)) ?_ | refine p_call (rcorn2 (by omega)) ?_ | refine p_call (rpoint0 (by omega)) ?_ | refine p_call (rpoint1 (by omega)) ?_ | refine p_call (rpoint2 (by omega)) ?_ | refine p_call (rpoint3 (by omega)) ?_ | refine p_call (rpoint4 (by omega)) ?_ | refine p_call (rpoint5 (by omega)) ?_ | refine p_call (rpoint6 (by omega)) ?_ | refine p_call (rpoint7 (by omega)) ?_ | refine p_call (v2_ok (by omega)) ?_ | refine p_call (v2_no (by omega)) ?_ | refine p_call (rmove02 (by omega)) ?_ | refine p_call (rmove12 (by omega)) ?_ | refine p_call (rmove22 (by omega)) ?_ | refine p_call (rmove32 (by omega)) ?_ | refine p_call (rmove42 (by omega)) ?_ | refine p_call (rmove52 (by omega)) ?_ | refine p_call (rmove62 (by omega)) ?_ | refine p_call (rmove72 (by omega)) ?_)
  (try simp only [List.cons.injEq, Lf.i.injEq, and_true, true_and]); (try omega)
theorem cbet231 {x y u v : Int} (h : -4096 ≤ x ∧ x ≤ 4096 ∧ -4096 ≤ y ∧ y ≤ 4096 ∧ -4096 ≤ u ∧ u ≤ 4096 ∧ -4096 ≤ v ∧ v ≤ 4096 ∧ (x + y + u + v) % 2 = 1) : Cc 55 [.i x, .i y, .i 2, .i u, .i v, .i 3] [.i 1, .i (u - (-y - 1)), .i (v - (x)), .i 0] := by
  refine q55 rfl ?_; unfold p55
  repeat (first | simp (disch := omega) only [↓qxs, ↓qxc, ↓qxa] | refine p_loop 9 ?_ | refine p_call (cellCheck_ok (by omega)) ?_ | refine p_call (middle (by omega)) ?_ | refine p_call (mpoint0 (by omega)) ?_ | refine p_call (mpoint1 (by omega)) ?_ | refine p_call (mpoint2 (by omega)) ?_ | refine p_call (mpoint3 (by omega)) ?_ | refine p_call (mpoint4 (by omega)) ?_ | refine p_call (mpoint5 (by omega)) ?_ | refine p_call (mpoint6 (by omega)) ?_ | refine p_call (mpoint7 (by omega)) ?_ | refine p_call (mcheck_ok (by omega)) ?_ | refine p_call (mcheck_no (by omega)) ?_ | refine p_call (moved02 (by omega)) ?_ | refine p_call (moved12 (by omega)) ?_ | refine p_call (moved22 (by omega)) ?_ | refine p_call (moved32 (by omega)) ?_ | refine p_call (moved42 (by omega)) ?_ | refine p_call (moved52 (by omega)) ?_ | refine p_call (moved62 (by omega)) ?_ | refine p_call (moved72 (by omega)) ?_)
  (try simp only [List.cons.injEq, Lf.i.injEq, and_true, true_and]); (try omega)
theorem rbet231 {x y u v : Int} (h : -4096 ≤ x ∧ x ≤ 4096 ∧ -4096 ≤ y ∧ y ≤ 4096 ∧ -4096 ≤ u ∧ u ≤ 4096 ∧ -4096 ≤ v ∧ v ≤ 4096 ∧ (x + y + u + v) % 2 = 1) : Cc 56 [.i x, .i y, .i 2, .i u, .i v, .i 3] [.i 1, .i (u - (-y - 1)), .i (v - (x)), .i 1] := by
  refine q56 rfl ?_; unfold p56
  repeat (first | simp (disch := omega) only [↓qxs, ↓qxc, ↓qxa] | refine p_opt_r (by simp only [pickL, putL, offX, Int.reduceToNat, Int.reduceAdd, Int.reduceMul, Int.reduceMod, Int.reduceSub, Int.reduceNeg, Int.reduceDiv, Nat.reduceAdd, Nat.reduceMul, Nat.reduceLeDiff, List.length_cons, List.length_nil, ↓reduceIte, List.drop_succ_cons, List.drop_zero, List.take_succ_cons, List.take_zero, List.cons_append, List.nil_append, Nat.zero_add, Int.toNat_zero, Nat.zero_mul, Nat.add_zero, Int.zero_add]; exact rfl) ?_ | refine p_loop 9 ?_ | refine p_call (rcorn3 (by omega)) ?_ | refine p_call (rcorn2 (by omega)) ?_ | refine p_call (rpoint0 (by omega)) ?_ | refine p_call (rpoint1 (by omega)) ?_ | refine p_call (rpoint2 (by omega)) ?_ | refine p_call (rpoint3 (by omega)) ?_ | refine p_call (rpoint4 (by omega)) ?_ | refine p_call (rpoint5 (by omega)) ?_ | refine p_call (rpoint6 (by omega)) ?_ | refine p_call (rpoint7 (by omega)) ?_ | refine p_call (v2_ok (by omega)) ?_ | refine p_call (v2_no (by omega)) ?_ | refine p_call (rmove02 (by omega)) ?_ | refine p_call (rmove12 (by omega)) ?_ | refine p_call (rmove22 (by omega)) ?_ | refine p_call (rmove32 (by omega)) ?_ | refine p_call (rmove42 (by omega)) ?_ | refine p_call (rmove52 (by omega)) ?_ | refine p_call (rmove62 (by omega)) ?_ | refine p_call (rmove72 (by omega)) ?_)
  (try simp only [List.cons.injEq, Lf.i.injEq, and_true, true_and]); (try omega)
end Go.Am
/-
  CONTRACTS, BY PROGRAM: moves between cells.
-/
set_option maxRecDepth 100000
namespace Go.Am
open Sx Go.Proofs

theorem cbet300 {x y u v : Int} (h : -4096 ≤ x ∧ x ≤ 4096 ∧ -4096 ≤ y ∧ y ≤ 4096 ∧ -4096 ≤ u ∧ u ≤ 4096 ∧ -4096 ≤ v ∧ v ≤ 4096 ∧ (x + y + u + v) % 2 = 0) : Cc 55 [.i x, .i y, .i 3, .i u, .i v, .i 0] [.i 7, .i (u - (y)), .i (v - (x)), .i 0] := by
  refine q55 rfl ?_; unfold p55
  repeat (first | simp (disch := omega) only [↓qxs, ↓qxc, ↓qxa] | refine p_loop 9 ?_ | refine p_call (cellCheck_ok (by omega)) ?_ | refine p_call (middle (by omega)) ?_ | refine p_call (mpoint0 (by omega)) ?_ | refine p_call (mpoint1 (by omega)) ?_ | refine p_call (mpoint2 (by omega)) ?_ | refine p_call (mpoint3 (by omega)) ?_ | refine p_call (mpoint4 (by omega)) ?_ | refine p_call (mpoint5 (by omega)) ?_ | refine p_call (mpoint6 (by omega)) ?_ | refine p_call (mpoint7 (by omega)) ?_ | refine p_call (mcheck_ok (by omega)) ?_ | refine p_call (mcheck_no (by omega)) ?_ | refine p_call (moved03 (by omega)) ?_ | refine p_call (moved13 (by omega)) ?_ | refine p_call (moved23 (by omega)) ?_ | refine p_call (moved33 (by omega)) ?_ | refine p_call (moved43 (by omega)) ?_ | refine p_call (moved53 (by omega)) ?_ | refine p_call (moved63 (by omega)) ?_ | refine p_call (moved73 (by omega)) ?_)
  (try simp only [List.cons.injEq, Lf.i.injEq, and_true, true_and]); (try omega)
theorem rbet300 {x y u v : Int} (h : -4096 ≤ x ∧ x ≤ 4096 ∧ -4096 ≤ y ∧ y ≤ 4096 ∧ -4096 ≤ u ∧ u ≤ 4096 ∧ -4096 ≤ v ∧ v ≤ 4096 ∧ (x + y + u + v) % 2 = 0) : Cc 56 [.i x, .i y, .i 3, .i u, .i v, .i 0] [.i 7, .i (u - (y)), .i (v - (x)), .i 1] := by
  refine q56 rfl ?_; unfold p56
  repeat (first | simp (disch := omega) only [↓qxs, ↓qxc, ↓qxa] | refine p_opt_r (by simp only [pickL, putL, offX, Int.reduceToNat, Int.reduceAdd, Int.reduceMul, Int.reduceMod, Int.reduceSub, Int.reduceNeg, Int.reduceDiv, Nat.reduceAdd, Nat.reduceMul, Nat.reduceLeDiff, List.length_cons, List.length_nil, ↓reduceIte, List.drop_succ_cons, List.drop_zero, List.take_succ_cons, List.take_zero, List.cons_append, List.nil_append, Nat.zero_add, Int.toNat_zero, Nat.zero_mul, Nat.add_zero, Int.zero_add]; exact rfl) ?_ | refine p_loop 9 ?_ | refine p_call (rcorn0 (by omega)) ?_ | refine p_call (rcorn3 (by omega)) ?_ | refine p_call (rpoint0 (by omega)) ?_ | refine p_call (rpoint1 (by omega)) ?_ | refine p_call (rpoint2 (by omega)) ?_ | refine p_call (rpoint3 (by omega)) ?_ | refine p_call (rpoint4 (by omega)) ?_ | refine p_call (rpoint5 (by omega)) ?_ | refine p_call (rpoint6 (by omega)) ?_ | refine p_call (rpoint7 (by omega)) ?_ | refine p_call (v2_ok (by omega)) ?_ | refine p_call (v2_no (by omega)) ?_ | refine p_call (rmove03 (by omega)) ?_ | refine p_call (rmove13 (by omega)) ?_ | refine p_call (rmove23 (by omega)) ?_ | refine p_call (rmove33 (by omega)) ?_ | refine p_call (rmove43 (by omega)) ?_ | refine p_call (rmove53 (by omega)) ?_ | refine p_call (rmove63 (by omega)) ?_ | refine p_call (rmove73 (by omega)) ?_)
  (try simp only [List.cons.injEq, Lf.i.injEq, and_true, true_and]); (try omega)
theorem cbet301 {x y u v : Int} (h : -4096 ≤ x ∧ x ≤ 4096 ∧ -4096 ≤ y ∧ y ≤ 4096 ∧ -4096 ≤ u ∧ u ≤ 4096 ∧ -4096 ≤ v ∧ v ≤ 4096 ∧ (x + y + u + v) % 2 = 1) : Cc 55 [.i x, .i y, .i 3, .i u, .i v, .i 0] [.i 1, .i (u - (-y - 1)), .i (v - (x)), .i 0] := by
  refine q55 rfl ?_; unfold p55
  repeat (first | simp (disch := omega) only [↓qxs, ↓qxc, ↓qxa] | refine p_loop 9 ?_ | refine p_call (cellCheck_ok (by omega)) ?_ | refine p_call (middle (by omega)) ?_ | refine p_call (mpoint0 (by omega)) ?_ | refine p_call (mpoint1 (by omega)) ?_ | refine p_call (mpoint2 (by omega)) ?_ | refine p_call (mpoint3 (by omega)) ?_ | refine p_call (mpoint4 (by omega)) ?_ | refine p_call (mpoint5 (by omega)) ?_ | refine p_call (mpoint6 (by omega)) ?_ | refine p_call (mpoint7 (by omega)) ?_ | refine p_call (mcheck_ok (by omega)) ?_ | refine p_call (mcheck_no (by omega)) ?_ | refine p_call (moved03 (by omega)) ?_ | refine p_call (moved13 (by omega)) ?_ | refine p_call (moved23 (by omega)) ?_ | refine p_call (moved33 (by omega)) ?_ | refine p_call (moved43 (by omega)) ?_ | refine p_call (moved53 (by omega)) ?_ | refine p_call (moved63 (by omega)) ?_ | refine p_call (moved73 (by omega)) ?_)
  (try simp only [List.cons.injEq, Lf.i.injEq, and_true, true_and]); (try omega)
theorem rbet301 {x y u v : Int} (h : -4096 ≤ x ∧ x ≤ 4096 ∧ -4096 ≤ y ∧ y ≤ 4096 ∧ -4096 ≤ u ∧ u ≤ 4096 ∧ -4096 ≤ v ∧ v ≤ 4096 ∧ (x + y + u + v) % 2 = 1) : Cc 56 [.i x, .i y, .i 3, .i u, .i v, .i 0] [.i 1, .i (u - (-y - 1)), .i (v - (x)), .i 1] := by
  refine q56 rfl ?_; unfold p56
  repeat (first | simp (disch := omega) only [↓qxs, ↓qxc, ↓qxa] | refine p_opt_r (by simp only [pickL, putL, offX, Int.reduceToNat, Int.reduceAdd, Int.reduceMul, Int.reduceMod, Int.reduceSub, Int.reduceNeg, Int.reduceDiv, Nat.reduceAdd, Nat.reduceMul, Nat.reduceLeDiff, List.length_cons, List.length_nil, ↓reduceIte, List.drop_succ_cons, List.drop_zero, List.take_succ_cons, List.take_zero, List.cons_append, List.nil_append, Nat.zero_add, Int.toNat_zero, Nat.zero_mul, Nat.add_zero, Int.zero_add]; exact rfl) ?_ | refine p_loop 9 ?_ | refine p_call (rcorn0 (by omega)) ?_ | refine p_call (rcorn3 (by omega)) ?_ | refine p_call (rpoint0 (by omega)) ?_ | refine p_call (rpoint1 (by omega)) ?_ | refine p_call (rpoint2 (by omega)) ?_ | refine p_call (rpoint3 (by omega)) ?_ | refine p_call (rpoint4 (by omega)) ?_ | refine p_call (rpoint5 (by omega)) ?_ | refine p_call (rpoint6 (by omega)) ?_ | refine p_call (rpoint7 (by omega)) ?_ | refine p_call (v2_ok (by omega)) ?_ | refine p_call (v2_no (by omega)) ?_ | refine p_call (rmove03 (by omega)) ?_ | refine p_call (rmove13 (by omega)) ?_ | refine p_call (rmove23 (by omega)) ?_ | refine p_call (rmove33 (by omega)) ?_ | refine p_call (rmove43 (by omega)) ?_ | refine p_call (rmove53 (by omega)) ?_ | refine p_call (rmove63 (by omega)) ?_ | refine p_call (rmove73 (by omega)) ?_)
  (try simp only [List.cons.injEq, Lf.i.injEq, and_true, true_and]); (try omega)
theorem cbet310 {x y u v : Int} (h : -4096 ≤ x ∧ x ≤ 4096 ∧ -4096 ≤ y ∧ y ≤ 4096 ∧ -4096 ≤ u ∧ u ≤ 4096 ∧ -4096 ≤ v ∧ v ≤ 4096 ∧ (x + y + u + v) % 2 = 0) : Cc 55 [.i x, .i y, .i 3, .i u, .i v, .i 1] [.i 2, .i (u - (-x - 1)), .i (v - (-y - 1)), .i 0] := by
  refine q55 rfl ?_; unfold p55
  repeat (first | simp (disch := omega) only [↓qxs, ↓qxc, ↓qxa] | refine p_loop 9 ?_ | refine p_call (cellCheck_ok (by omega)) ?_ | refine p_call (middle (by omega)) ?_ | refine p_call (mpoint0 (by omega)) ?_ | refine p_call (mpoint1 (by omega)) ?_ | refine p_call (mpoint2 (by omega)) ?_ | refine p_call (mpoint3 (by omega)) ?_ | refine p_call (mpoint4 (by omega)) ?_ | refine p_call (mpoint5 (by omega)) ?_ | refine p_call (mpoint6 (by omega)) ?_ | refine p_call (mpoint7 (by omega)) ?_ | refine p_call (mcheck_ok (by omega)) ?_ | refine p_call (mcheck_no (by omega)) ?_ | refine p_call (moved03 (by omega)) ?_ | refine p_call (moved13 (by omega)) ?_ | refine p_call (moved23 (by omega)) ?_ | refine p_call (moved33 (by omega)) ?_ | refine p_call (moved43 (by omega)) ?_ | refine p_call (moved53 (by omega)) ?_ | refine p_call (moved63 (by omega)) ?_ | refine p_call (moved73 (by omega)) ?_)
  (try simp only [List.cons.injEq, Lf.i.injEq, and_true, true_and]); (try omega)
theorem rbet310 {x y u v : Int} (h : -4096 ≤ x ∧ x ≤ 4096 ∧ -4096 ≤ y ∧ y ≤ 4096 ∧ -4096 ≤ u ∧ u ≤ 4096 ∧ -4096 ≤ v ∧ v ≤ 4096 ∧ (x + y + u + v) % 2 = 0) : Cc 56 [.i x, .i y, .i 3, .i u, .i v, .i 1] [.i 2, .i (u - (-x - 1)), .i (v - (-y - 1)), .i 1] := by
  refine q56 rfl ?_; unfold p56
  repeat (first | simp (disch := omega) only [↓qxs, ↓qxc, ↓qxa] | refine p_opt_r (by simp only [pickL, putL, offX, Int.reduceToNat, Int.reduceAdd, Int.reduceMul, Int.reduceMod, Int.reduceSub, Int.reduceNeg, Int.reduceDiv, Nat.reduceAdd, Nat.reduceMul, Nat.reduceLeDiff, List.length_cons, List.length_nil, ↓reduceIte, List.drop_succ_cons, List.drop_zero, List.take_succ_cons, List.take_zero, List.cons_append, List.nil_append, Nat.zero_add, Int.toNat_zero, Nat.zero_mul, Nat.add_zero, Int.zero_add]; exact rfl) ?_ | refine p_loop 9 ?_ | refine p_call (rcorn1 (by omega)) ?_ | refine p_call (rcorn3 (by omega)) ?_ | refine p_call (rpoint0 (by omega)) ?_ | refine p_call (rpoint1 (by omega)) ?_ | refine p_call (rpoint2 (by omega)) ?_ | refine p_call (rpoint3 (by omega)) ?_ | refine p_call (rpoint4 (by omega)) ?_ | refine p_call (rpoint5 (by omega)) ?_ | refine p_call (rpoint6 (by omega)) ?_ | refine p_call (rpoint7 (by omega)) ?_ | refine p_call (v2_ok (by omega)) ?_ | refine p_call (v2_no (by omega)) ?_ | refine p_call (rmove03 (by omega)) ?_ | refine p_call (rmove13 (by omega)) ?_ | refine p_call (rmove23 (by omega)) ?_ | refine p_call (rmove33 (by omega)) ?_ | refine p_call (rmove43 (by omega)) ?_ | refine p_call (rmove53 (by omega)) ?_ | refine p_call (rmove63 (by omega)) ?_ | refine p_call (rmove73 (by omega)) ?_)
  (try simp only [List.cons.injEq, Lf.i.injEq, and_true, true_and]); (try omega)
theorem cbet311 {x y u v : Int} (h : -4096 ≤ x ∧ x ≤ 4096 ∧ -4096 ≤ y ∧ y ≤ 4096 ∧ -4096 ≤ u ∧ u ≤ 4096 ∧ -4096 ≤ v ∧ v ≤ 4096 ∧ (x + y + u + v) % 2 = 1) : Cc 55 [.i x, .i y, .i 3, .i u, .i v, .i 1] [.i 4, .i (u - (-x - 1)), .i (v - (y)), .i 0] := by
  refine q55 rfl ?_; unfold p55
  repeat (first | simp (disch := omega) only [↓qxs, ↓qxc, ↓qxa] | refine p_loop 9 ?_ | refine p_call (cellCheck_ok (by omega)) ?_ | refine p_call (middle (by omega)) ?_ | refine p_call (mpoint0 (by omega)) ?_ | refine p_call (mpoint1 (by omega)) ?_ | refine p_call (mpoint2 (by omega)) ?_ | refine p_call (mpoint3 (by omega)) ?_ | refine p_call (mpoint4 (by omega)) ?_ | refine p_call (mpoint5 (by omega)) ?_ | refine p_call (mpoint6 (by omega)) ?_ | refine p_call (mpoint7 (by omega)) ?_ | refine p_call (mcheck_ok (by omega)) ?_ | refine p_call (mcheck_no (by omega)) ?_ | refine p_call (moved03 (by omega)) ?_ | refine p_call (moved13 (by omega)) ?_ | refine p_call (moved23 (by omega)) ?_ | refine p_call (moved33 (by omega)) ?_ | refine p_call (moved43 (by omega)) ?_ | refine p_call (moved53 (by omega)) ?_ | refine p_call (moved63 (by omega)) ?_ | refine p_call (moved73 (by omega)) ?_)
  (try simp only [List.cons.injEq, Lf.i.injEq, and_true, true_and]); (try omega)
theorem rbet311 {x y u v : Int} (h : -4096 ≤ x ∧ x ≤ 4096 ∧ -4096 ≤ y ∧ y ≤ 4096 ∧ -4096 ≤ u ∧ u ≤ 4096 ∧ -4096 ≤ v ∧ v ≤ 4096 ∧ (x + y + u + v) % 2 = 1) : Cc 56 [.i x, .i y, .i 3, .i u, .i v, .i 1] [.i 4, .i (u - (-x - 1)), .i (v - (y)), .i 1] := by
  refine q56 rfl ?_; unfold p56
  repeat (first | simp (disch := omega) only [↓qxs, ↓qxc, ↓qxa] | refine p_opt_r (by simp only [pickL, putL, offX, Int.reduceToNat, Int.reduceAdd, Int.reduceMul, Int.reduceMod, Int.reduceSub, Int.reduceNeg, Int.reduceDiv, Nat.reduceAdd, Nat.reduceMul, Nat.reduceLeDiff, List.length_cons, List.length_nil, ↓reduceIte, List.drop_succ_cons, List.drop_zero, List.take_succ_cons, List.take_zero, List.cons_append, List.nil_append, Nat.zero_add, Int.toNat_zero, Nat.zero_mul, Nat.add_zero, Int.zero_add]; exact rfl) ?_ | refine p_loop 9 ?_ | refine p_call (rcorn1 (by omega)) ?_ | refine p_call (rcorn3 (by omega)) ?_ | refine p_call (rpoint0 (by omega)) ?_ | refine p_call (rpoint1 (by omega)) ?_ | refine p_call (rpoint2 (by omega)) ?_ | refine p_call (rpoint3 (by omega)) ?_ | refine p_call (rpoint4 (by omega)) ?_ | refine p_call (rpoint5 (by omega)) ?_ | refine p_call (rpoint6 (by omega)) ?_ | refine p_call (rpoint7 (by omega)) ?_ | refine p_call (v2_ok (by omega)) ?_ | refine p_call (v2_no (by omega)) ?_ | refine p_call (rmove03 (by omega)) ?_ | refine p_call (rmove13 (by omega)) ?_ | refine p_call (rmove23 (by omega)) ?_ | refine p_call (rmove33 (by omega)) ?_ | refine p_call (rmove43 (by omega)) ?_ | refine p_call (rmove53 (by omega)) ?_ | refine p_call (rmove63 (by omega)) ?_ | refine p_call (rmove73 (by omega)) ?_)
  (try simp only [List.cons.injEq, Lf.i.injEq, and_true, true_and]); (try omega)
theorem cbet320 {x y u v : Int} (h : -4096 ≤ x ∧ x ≤ 4096 ∧ -4096 ≤ y ∧ y ≤ 4096 ∧ -4096 ≤ u ∧ u ≤ 4096 ∧ -4096 ≤ v ∧ v ≤ 4096 ∧ (x + y + u + v) % 2 = 0) : Cc 55 [.i x, .i y, .i 3, .i u, .i v, .i 2] [.i 5, .i (u - (-y - 1)), .i (v - (-x - 1)), .i 0] := by
  refine q55 rfl ?_; unfold p55
  repeat (first | simp (disch := omega) only [↓qxs, ↓qxc, ↓qxa] | refine p_loop 9 ?_ | refine p_call (cellCheck_ok (by omega)) ?_ | refine p_call (middle (by omega)) ?_ | refine p_call (mpoint0 (by omega)) ?_ | refine p_call (mpoint1 (by omega)) ?_ | refine p_call (mpoint2 (by omega)) ?_ | refine p_call (mpoint3 (by omega)) ?_ | refine p_call (mpoint4 (by omega)) ?_ | refine p_call (mpoint5 (by omega)) ?_ | refine p_call (mpoint6 (by omega)) ?_ | refine p_call (mpoint7 (by omega)) ?_ | refine p_call (mcheck_ok (by omega)) ?_ | refine p_call (mcheck_no (by omega)) ?_ | refine p_call (moved03 (by omega)) ?_ | refine p_call (moved13 (by omega)) ?_ | refine p_call (moved23 (by omega)) ?_ | refine p_call (moved33 (by omega)) ?_ | refine p_call (moved43 (by omega)) ?_ | refine p_call (moved53 (by omega)) ?_ | refine p_call (moved63 (by omega)) ?_ | refine p_call (moved73 (by omega)) ?_)
  (try simp only [List.cons.injEq, Lf.i.injEq, and_true, true_and]); (try omega)
theorem rbet320 {x y u v : Int} (h : -4096 ≤ x ∧ x ≤ 4096 ∧ -4096 ≤ y ∧ y ≤ 4096 ∧ -4096 ≤ u ∧ u ≤ 4096 ∧ -4096 ≤ v ∧ v ≤ 4096 ∧ (x + y + u + v) % 2 = 0) : Cc 56 [.i x, .i y, .i 3, .i u, .i v, .i 2] [.i 5, .i (u - (-y - 1)), .i (v - (-x - 1)), .i 1] := by
  refine q56 rfl ?_; unfold p56
  repeat (first | simp (disch := omega) only [↓qxs, ↓qxc, ↓qxa] | refine p_opt_r (by simp only [pickL, putL, offX, Int.reduceToNat, Int.reduceAdd, Int.reduceMul, Int.reduceMod, Int.reduceSub, Int.reduceNeg, Int.reduceDiv, Nat.reduceAdd, Nat.reduceMul, Nat.reduceLeDiff, List.length_cons, List.length_nil, ↓reduceIte, List.drop_succ_cons, List.drop_zero, List.take_succ_cons, List.take_zero, List.cons_append, List.nil_append, Nat.zero_add, Int.toNat_zero, Nat.zero_mul, Nat.add_zero, Int.zero_add]; exact rfl) ?_ | refine p_loop 9 ?_ | refine p_call (rcorn2 (by omega)) ?_ | refine p_call (rcorn3 (by omega)) ?_ | refine p_call (rpoint0 (by omega)) ?_ | refine p_call (rpoint1 (by omega)) ?_ | refine p_call (rpoint2 (by omega)) ?_ | refine p_call (rpoint3 (by omega)) ?_ | refine p_call (rpoint4 (by omega)) ?_ | refine p_call (rpoint5 (by omega)) ?_ | refine p_call (rpoint6 (by omega)) ?_ | refine p_call (rpoint7 (by omega)) ?_ | refine p_call (v2_ok (by omega)) ?_ | refine p_call (v2_no (by omega)) ?_ | refine p_call (rmove03 (by omega)) ?_ | refine p_call (rmove13 (by omega)) ?_ | refine p_call (rmove23 (by omega)) ?_ | refine p_call (rmove33 (by omega)) ?_ | refine p_call (rmove43 (by omega)) ?_ | refine p_call (rmove53 (by omega)) ?_ | refine p_call (rmove63 (by omega)) ?_ | refine p_call (rmove73 (by omega)) ?_)
  (try simp only [List.cons.injEq, Lf.i.injEq, and_true, true_and]); (try omega)
theorem cbet321 {x y u v : Int} (h : -4096 ≤ x ∧ x ≤ 4096 ∧ -4096 ≤ y ∧ y ≤ 4096 ∧ -4096 ≤ u ∧ u ≤ 4096 ∧ -4096 ≤ v ∧ v ≤ 4096 ∧ (x + y + u + v) % 2 = 1) : Cc 55 [.i x, .i y, .i 3, .i u, .i v, .i 2] [.i 3, .i (u - (y)), .i (v - (-x - 1)), .i 0] := by
  refine q55 rfl ?_; unfold p55
  repeat (first | simp (disch := omega) only [↓qxs, ↓qxc, ↓qxa] | refine p_loop 9 ?_ | refine p_call (cellCheck_ok (by omega)) ?_ | refine p_call (middle (by omega)) ?_ | refine p_call (mpoint0 (by omega)) ?_ | refine p_call (mpoint1 (by omega)) ?_ | refine p_call (mpoint2 (by omega)) ?_ | refine p_call (mpoint3 (by omega)) ?_ | refine p_call (mpoint4 (by omega)) ?_ | refine p_call (mpoint5 (by omega)) ?_ | refine p_call (mpoint6 (by omega)) ?_ | refine p_call (mpoint7 (by omega)) ?_ | refine p_call (mcheck_ok (by omega)) ?_ | refine p_call (mcheck_no (by omega)) ?_ | refine p_call (moved03 (by omega)) ?_ | refine p_call (moved13 (by omega)) ?_ | refine p_call (moved23 (by omega)) ?_ | refine p_call (moved33 (by omega)) ?_ | refine p_call (moved43 (by omega)) ?_ | refine p_call (moved53 (by omega)) ?_ | refine p_call (moved63 (by omega)) ?_ | refine p_call (moved73 (by omega)) ?_)
  (try simp only [List.cons.injEq, Lf.i.injEq, and_true, true_and]); (try omega)
theorem rbet321 {x y u v : Int} (h : -4096 ≤ x ∧ x ≤ 4096 ∧ -4096 ≤ y ∧ y ≤ 4096 ∧ -4096 ≤ u ∧ u ≤ 4096 ∧ -4096 ≤ v ∧ v ≤ 4096 ∧ (x + y + u + v) % 2 = 1) : Cc 56 [.i x, .i y, .i 3, .i u, .i v, .i 2] [.i 3, .i (u - (y)), .i (v - (-x - 1)), .i 1] := by
  refine q56 rfl ?_; unfold p56
  repeat (first | simp (disch := omega) only [↓qxs, ↓qxc, ↓qxa] | refine p_opt_r (by simp only [pickL, putL, offX, Int.reduceToNat, Int.reduceAdd, Int.reduceMul, Int.reduceMod, Int.reduceSub, Int.reduceNeg, Int.reduceDiv, Nat.reduceAdd, Nat.reduceMul, Nat.reduceLeDiff, List.length_cons, List.length_nil, ↓reduceIte, List.drop_succ_cons, List.drop_zero, List.take_succ_cons, List.take_zero, List.cons_append, List.nil_append, Nat.zero_add, Int.toNat_zero, Nat.zero_mul, Nat.add_zero, Int.zero_add]; exact rfl) ?_ | refine p_loop 9 ?_ | refine p_call (rcorn2 (by omega)) ?_ | refine p_call (rcorn3 (by omega)) ?_ | refine p_call (rpoint0 (by omega)) ?_ | refine p_call (rpoint1 (by omega)) ?_ | refine p_call (rpoint2 (by omega)) ?_ | refine p_call (rpoint3 (by omega)) ?_ | refine p_call (rpoint4 (by omega)) ?_ | refine p_call (rpoint5 (by omega)) ?_ | refine p_call (rpoint6 (by omega)) ?_ | refine p_call (rpoint7 (by omega)) ?_ | refine p_call (v2_ok (by omega)) ?_ | refine p_call (v2_no (by omega)) ?_ | refine p_call (rmove03 (by omega)) ?_ | refine p_call (rmove13 (by omega)) ?_ | refine p_call (rmove23 (by omega)) ?_ | refine p_call (rmove33 (by omega)) ?_ | refine p_call (rmove43 (by omega)) ?_ | refine p_call (rmove53 (by omega)) ?_ | refine p_call (rmove63 (by omega)) ?_ | refine p_call (rmove73 (by omega)) ?_)
  (try simp only [List.cons.injEq, Lf.i.injEq, and_true, true_and]); (try omega)
theorem cbet330 {x y u v : Int} (h : -4096 ≤ x ∧ x ≤ 4096 ∧ -4096 ≤ y ∧ y ≤ 4096 ∧ -4096 ≤ u ∧ u ≤ 4096 ∧ -4096 ≤ v ∧ v ≤ 4096 ∧ (x + y + u + v) % 2 = 0) : Cc 55 [.i x, .i y, .i 3, .i u, .i v, .i 3] [.i 0, .i (u - (x)), .i (v - (y)), .i 0] := by
  refine q55 rfl ?_; unfold p55
  repeat (first | simp (disch := omega) only [↓qxs, ↓qxc, ↓qxa] | refine p_loop 9 ?_ | refine p_call (cellCheck_ok (by omega)) ?_ | refine p_call (middle (by omega)) ?_ | refine p_call (mpoint0 (by omega)) ?_ | refine p_call (mpoint1 (by omega)) ?_ | refine p_call (mpoint2 (by omega)) ?_ | refine p_call (mpoint3 (by omega)) ?_ | refine p_call (mpoint4 (by omega)) ?_ | refine p_call (mpoint5 (by omega)) ?_ | refine p_call (mpoint6 (by omega)) ?_ | refine p_call (mpoint7 (by omega)) ?_ | refine p_call (mcheck_ok (by omega)) ?_ | refine p_call (mcheck_no (by omega)) ?_ | refine p_call (moved03 (by omega)) ?_ | refine p_call (moved13 (by omega)) ?_ | refine p_call (moved23 (by omega)) ?_ | refine p_call (moved33 (by omega)) ?_ | refine p_call (moved43 (by omega)) ?_ | refine p_call (moved53 (by omega)) ?_ | refine p_call (moved63 (by omega)) ?_ | refine p_call (moved73 (by omega)) ?_)
  (try simp only [List.cons.injEq, Lf.i.injEq, and_true, true_and]); (try omega)
theorem rbet330 {x y u v : Int} (h : -4096 ≤ x ∧ x ≤ 4096 ∧ -4096 ≤ y ∧ y ≤ 4096 ∧ -4096 ≤ u ∧ u ≤ 4096 ∧ -4096 ≤ v ∧ v ≤ 4096 ∧ (x + y + u + v) % 2 = 0) : Cc 56 [.i x, .i y, .i 3, .i u, .i v, .i 3] [.i 0, .i (u - (x)), .i (v - (y)), .i 1] := by
  refine q56 rfl ?_; unfold p56
  repeat (first | simp (disch := omega) only [↓qxs, ↓qxc, ↓qxa] | refine p_opt_r (by simp only [pickL, putL, offX, Int.reduceToNat, Int.reduceAdd, Int.reduceMul, Int.reduceMod, Int.reduceSub, Int.reduceNeg, Int.reduceDiv, Nat.reduceAdd, Nat.reduceMul, Nat.reduceLeDiff, List.length_cons, List.length_nil, ↓reduceIte, List.drop_succ_cons, List.drop_zero, List.take_succ_cons, List.take_zero, List.cons_append, List.nil_append, Nat.zero_add, Int.toNat_zero, Nat.zero_mul, Nat.add_zero, Int.zero_add]; exact rfl) ?_ | refine p_loop 9 ?_ | refine p_call (rcorn3 (by omega)) ?_ | refine p_call (rcorn3 (by omega)) ?_ | refine p_call (rpoint0 (by omega)) ?_ | refine p_call (rpoint1 (by omega)) ?_ | refine p_call (rpoint2 (by omega)) ?_ | refine p_call (rpoint3 (by omega)) ?_ | refine p_call (rpoint4 (by omega)) ?_ | refine p_call (rpoint5 (by omega)) ?_ | refine p_call (rpoint6 (by omega)) ?_ | refine p_call (rpoint7 (by omega)) ?_ | refine p_call (v2_ok (by omega)) ?_ | refine p_call (v2_no (by omega)) ?_ | refine p_call (rmove03 (by omega)) ?_ | refine p_call (rmove13 (by omega)) ?_ | refine p_call (rmove23 (by omega)) ?_ | refine p_call (rmove33 (by omega)) ?_ | refine p_call (rmove43 (by omega)) ?_ | refine p_call (rmove53 (by omega)) ?_ | refine p_call (rmove63 (by omega)) ?_ | refine p_call (rmove73 (by omega)) ?_)
  (try simp only [List.cons.injEq, Lf.i.injEq, and_true, true_and]); (try omega)
theorem cbet331 {x y u v : Int} (h : -4096 ≤ x ∧ x ≤ 4096 ∧ -4096 ≤ y ∧ y ≤ 4096 ∧ -4096 ≤ u ∧ u ≤ 4096 ∧ -4096 ≤ v ∧ v ≤ 4096 ∧ (x + y + u + v) % 2 = 1) : Cc 55 [.i x, .i y, .i 3, .i u, .i v, .i 3] [.i 6, .i (u - (x)), .i (v - (-y - 1)), .i 0] := by
  refine q55 rfl ?_; unfold p55
  repeat (first | simp (disch := omega) only [↓qxs, ↓qxc, ↓qxa] | refine p_loop 9 ?_ | refine p_call (cellCheck_ok (by omega)) ?_ | refine p_call (middle (by omega)) ?_ | refine p_call (mpoint0 (by omega)) ?_ | refine p_call (mpoint1 (by omega)) ?_ | refine p_call (mpoint2 (by omega)) ?_ | refine p_call (mpoint3 (by omega)) ?_ | refine p_call (mpoint4 (by omega)) ?_ | refine p_call (mpoint5 (by omega)) ?_ | refine p_call (mpoint6 (by omega)) ?_ | refine p_call (mpoint7 (by omega)) ?_ | refine p_call (mcheck_ok (by omega)) ?_ | refine p_call (mcheck_no (by omega)) ?_ | refine p_call (moved03 (by omega)) ?_ | refine p_call (moved13 (by omega)) ?_ | refine p_call (moved23 (by omega)) ?_ | refine p_call (moved33 (by omega)) ?_ | refine p_call (moved43 (by omega)) ?_ | refine p_call (moved53 (by omega)) ?_ | refine p_call (moved63 (by omega)) ?_ | refine p_call (moved73 (by omega)) ?_)
  (try simp only [List.cons.injEq, Lf.i.injEq, and_true, true_and]); (try omega)
theorem rbet331 {x y u v : Int} (h : -4096 ≤ x ∧ x ≤ 4096 ∧ -4096 ≤ y ∧ y ≤ 4096 ∧ -4096 ≤ u ∧ u ≤ 4096 ∧ -4096 ≤ v ∧ v ≤ 4096 ∧ (x + y + u + v) % 2 = 1) : Cc 56 [.i x, .i y, .i 3, .i u, .i v, .i 3] [.i 6, .i (u - (x)), .i (v - (-y - 1)), .i 1] := by
  refine q56 rfl ?_; unfold p56
  repeat (first | simp (disch := omega) only [↓qxs, ↓qxc, ↓qxa] | refine p_opt_r (by simp only [pickL, putL, offX, Int.reduceToNat, Int.reduceAdd, Int.reduceMul, Int.reduceMod, Int.reduceSub, Int.reduceNeg, Int.reduceDiv, Nat.reduceAdd, Nat.reduceMul, Nat.reduceLeDiff, List.length_cons, List.length_nil, ↓reduceIte, List.drop_succ_cons, List.drop_zero, List.take_succ_cons, List.take_zero, List.cons_append, List.nil_append, Nat.zero_add, Int.toNat_zero, Nat.zero_mul, Nat.add_zero, Int.zero_add]; exact rfl) ?_ | refine p_loop 9 ?_ | refine p_call (rcorn3 (by omega)) ?_ | refine p_call (rcorn3 (by omega)) ?_ | refine p_call (rpoint0 (by omega)) ?_ | refine p_call (rpoint1 (by omega)) ?_ | refine p_call (rpoint2 (by omega)) ?_ | refine p_call (rpoint3 (by omega)) ?_ | refine p_call (rpoint4 (by omega)) ?_ | refine p_call (rpoint5 (by omega)) ?_ | refine p_call (rpoint6 (by omega)) ?_ | refine p_call (rpoint7 (by omega)) ?_ | refine p_call (v2_ok (by omega)) ?_ | refine p_call (v2_no (by omega)) ?_ | refine p_call (rmove03 (by omega)) ?_ | refine p_call (rmove13 (by omega)) ?_ | refine p_call (rmove23 (by omega)) ?_ | refine p_call (rmove33 (by omega)) ?_ | refine p_call (rmove43 (by omega)) ?_ | refine p_call (rmove53 (by omega)) ?_ | refine p_call (rmove63 (by omega)) ?_ | refine p_call (rmove73 (by omega)) ?_)
  (try simp only [List.cons.injEq, Lf.i.injEq, and_true, true_and]); (try omega)
end Go.Am
/-
  THE TABLE OF RUNS, BY PROGRAM.
-/
set_option maxRecDepth 100000
namespace Go.Am
open Sx
abbrev FB := List Lf → HL → (List Lf → HL → Bool) → Bool
def nf : FB := fun _ _ _ => false
noncomputable def tabB (A : Alg Bool HL) : Tr FB := (.node nf (.node nf (.node nf (.node nf (.node nf (.node nf .leaf (.node (f95 A) .leaf .leaf)) (.node (f47 A) (.node (f79 A) .leaf .leaf) .leaf)) (.node nf (.node nf .leaf (.node (f103 A) .leaf .leaf)) (.node (f55 A) .leaf .leaf))) (.node nf (.node nf (.node nf .leaf (.node (f99 A) .leaf .leaf)) (.node nf (.node (f83 A) .leaf .leaf) .leaf)) (.node nf (.node (f43 A) (.node (f75 A) .leaf .leaf) .leaf) (.node nf (.node (f91 A) .leaf .leaf) .leaf)))) (.node nf (.node nf (.node nf (.node nf .leaf (.node (f97 A) .leaf .leaf)) .leaf) (.node nf (.node (f41 A) .leaf (.node (f105 A) .leaf .leaf)) .leaf)) (.node nf (.node nf (.node nf .leaf (.node (f101 A) .leaf .leaf)) (.node nf (.node (f85 A) .leaf .leaf) .leaf)) .leaf))) (.node nf (.node nf (.node nf (.node nf (.node nf .leaf (.node (f96 A) .leaf .leaf)) (.node (f48 A) (.node (f80 A) .leaf .leaf) .leaf)) (.node nf (.node (f40 A) .leaf (.node (f104 A) .leaf .leaf)) .leaf)) (.node nf (.node nf (.node nf .leaf (.node (f100 A) .leaf .leaf)) (.node (f52 A) .leaf .leaf)) (.node nf (.node (f44 A) .leaf .leaf) (.node nf (.node (f92 A) .leaf .leaf) .leaf)))) (.node nf (.node nf (.node nf (.node nf (.node (f66 A) .leaf .leaf) (.node (f98 A) .leaf .leaf)) (.node (f50 A) (.node (f82 A) .leaf .leaf) .leaf)) (.node nf (.node nf (.node (f74 A) .leaf .leaf) (.node (f106 A) .leaf .leaf)) (.node nf (.node (f90 A) .leaf .leaf) .leaf))) (.node nf (.node nf (.node nf .leaf (.node (f102 A) .leaf .leaf)) .leaf) (.node nf (.node nf (.node (f78 A) .leaf .leaf) .leaf) (.node nf (.node (f94 A) .leaf .leaf) .leaf))))))
/-- Closed functions whose answer is known. -/
def knB (kn : List (FuncId × Bool)) (f : FuncId) : Option Bool := match kn with
  | [] => none
  | p :: l => match Nat.beq p.1 f with
    | true => some p.2
    | false => knB l f
noncomputable def tabT (kn : List (FuncId × Bool)) (A : Alg Bool HL) (k : CK) : FB := match k with
  | .f f => match knB kn f with
    | some t => fun ls h K => match ls with
      | [] => K [.b t] h
      | _ => false
    | none => match Nat.blt f 107 with
      | true => (pathOf f).get nf (tabB A)
      | false => nf
  | .y κ vs l => fun ls h K => execY A (xc 0) sgTab drN (siteTab κ) vs l ls h K
noncomputable abbrev runR (kn : List (FuncId × Bool)) (n : Nat) : CallB := Sx.runT sgTab siteTab (tabT kn) n
def isT (l : List Lf) (_ : HL) : Bool := match l with | [.b t] => t | _ => false
section
variable [Val] [Kno]
def TabP (k : Nat) : Prop := ∀ A ls h K, (pathOf k).get nf (tabB A) ls h K = true → ∃ fn, FnIs (xc k) sgTab k fn ∧ execF A (xc k) sgTab drN fn ls h K = true
theorem TabP.of {k : Nat} {g : Alg Bool HL → FB} {fn : Fn1} (h1 : (fun A : Alg Bool HL => (pathOf k).get nf (tabB A)) = g) (h2 : g = fun A ls h K => execF A (xc k) sgTab drN fn ls h K) (h3 : FnIs (xc k) sgTab k fn) : TabP k := by
  intro A ls h K hk
  refine ⟨fn, h3, ?_⟩
  have := congrFun (h1.trans h2) A
  rw [this] at hk
  exact hk
theorem TabP.no {k : Nat} (h1 : (fun A : Alg Bool HL => (pathOf k).get nf (tabB A)) = fun _ => nf) : TabP k := by
  intro A ls h K hk
  have := congrFun h1 A
  rw [this] at hk
  cases hk

theorem t0 : TabP 0 := .no (by kernel_rfl)
theorem t1 : TabP 1 := .no (by kernel_rfl)
theorem t2 : TabP 2 := .no (by kernel_rfl)
theorem t3 : TabP 3 := .no (by kernel_rfl)
theorem t4 : TabP 4 := .no (by kernel_rfl)
theorem t5 : TabP 5 := .no (by kernel_rfl)
theorem t6 : TabP 6 := .no (by kernel_rfl)
theorem t7 : TabP 7 := .no (by kernel_rfl)
theorem t8 : TabP 8 := .no (by kernel_rfl)
theorem t9 : TabP 9 := .no (by kernel_rfl)
theorem t10 : TabP 10 := .no (by kernel_rfl)
theorem t11 : TabP 11 := .no (by kernel_rfl)
theorem t12 : TabP 12 := .no (by kernel_rfl)
theorem t13 : TabP 13 := .no (by kernel_rfl)
theorem t14 : TabP 14 := .no (by kernel_rfl)
theorem t15 : TabP 15 := .no (by kernel_rfl)
theorem t16 : TabP 16 := .no (by kernel_rfl)
theorem t17 : TabP 17 := .no (by kernel_rfl)
theorem t18 : TabP 18 := .no (by kernel_rfl)
theorem t19 : TabP 19 := .no (by kernel_rfl)
theorem t20 : TabP 20 := .no (by kernel_rfl)
theorem t21 : TabP 21 := .no (by kernel_rfl)
theorem t22 : TabP 22 := .no (by kernel_rfl)
theorem t23 : TabP 23 := .no (by kernel_rfl)
theorem t24 : TabP 24 := .no (by kernel_rfl)
theorem t25 : TabP 25 := .no (by kernel_rfl)
theorem t26 : TabP 26 := .no (by kernel_rfl)
theorem t27 : TabP 27 := .no (by kernel_rfl)
theorem t28 : TabP 28 := .no (by kernel_rfl)
theorem t29 : TabP 29 := .no (by kernel_rfl)
theorem t30 : TabP 30 := .no (by kernel_rfl)
theorem t31 : TabP 31 := .no (by kernel_rfl)
theorem t32 : TabP 32 := .no (by kernel_rfl)
theorem t33 : TabP 33 := .no (by kernel_rfl)
theorem t34 : TabP 34 := .no (by kernel_rfl)
theorem t35 : TabP 35 := .no (by kernel_rfl)
theorem t36 : TabP 36 := .no (by kernel_rfl)
theorem t37 : TabP 37 := .no (by kernel_rfl)
theorem t38 : TabP 38 := .no (by kernel_rfl)
theorem t39 : TabP 39 := .no (by kernel_rfl)
theorem t40 : TabP 40 := .of (g := fun A => f40 A) (by kernel_rfl) (congrFun (congrFun e40 Bool) HL) i40
theorem t41 : TabP 41 := .of (g := fun A => f41 A) (by kernel_rfl) (congrFun (congrFun e41 Bool) HL) i41
theorem t42 : TabP 42 := .no (by kernel_rfl)
theorem t43 : TabP 43 := .of (g := fun A => f43 A) (by kernel_rfl) (congrFun (congrFun e43 Bool) HL) i43
theorem t44 : TabP 44 := .of (g := fun A => f44 A) (by kernel_rfl) (congrFun (congrFun e44 Bool) HL) i44
theorem t45 : TabP 45 := .no (by kernel_rfl)
theorem t46 : TabP 46 := .no (by kernel_rfl)
theorem t47 : TabP 47 := .of (g := fun A => f47 A) (by kernel_rfl) (congrFun (congrFun e47 Bool) HL) i47
theorem t48 : TabP 48 := .of (g := fun A => f48 A) (by kernel_rfl) (congrFun (congrFun e48 Bool) HL) i48
theorem t49 : TabP 49 := .no (by kernel_rfl)
theorem t50 : TabP 50 := .of (g := fun A => f50 A) (by kernel_rfl) (congrFun (congrFun e50 Bool) HL) i50
theorem t51 : TabP 51 := .no (by kernel_rfl)
theorem t52 : TabP 52 := .of (g := fun A => f52 A) (by kernel_rfl) (congrFun (congrFun e52 Bool) HL) i52
theorem t53 : TabP 53 := .no (by kernel_rfl)
theorem t54 : TabP 54 := .no (by kernel_rfl)
theorem t55 : TabP 55 := .of (g := fun A => f55 A) (by kernel_rfl) (congrFun (congrFun e55 Bool) HL) i55
theorem t56 : TabP 56 := .no (by kernel_rfl)
theorem t57 : TabP 57 := .no (by kernel_rfl)
theorem t58 : TabP 58 := .no (by kernel_rfl)
theorem t59 : TabP 59 := .no (by kernel_rfl)
theorem t60 : TabP 60 := .no (by kernel_rfl)
theorem t61 : TabP 61 := .no (by kernel_rfl)
theorem t62 : TabP 62 := .no (by kernel_rfl)
theorem t63 : TabP 63 := .no (by kernel_rfl)
theorem t64 : TabP 64 := .no (by kernel_rfl)
theorem t65 : TabP 65 := .no (by kernel_rfl)
theorem t66 : TabP 66 := .of (g := fun A => f66 A) (by kernel_rfl) (congrFun (congrFun e66 Bool) HL) i66
theorem t67 : TabP 67 := .no (by kernel_rfl)
theorem t68 : TabP 68 := .no (by kernel_rfl)
theorem t69 : TabP 69 := .no (by kernel_rfl)
theorem t70 : TabP 70 := .no (by kernel_rfl)
theorem t71 : TabP 71 := .no (by kernel_rfl)
theorem t72 : TabP 72 := .no (by kernel_rfl)
theorem t73 : TabP 73 := .no (by kernel_rfl)
theorem t74 : TabP 74 := .of (g := fun A => f74 A) (by kernel_rfl) (congrFun (congrFun e74 Bool) HL) i74
theorem t75 : TabP 75 := .of (g := fun A => f75 A) (by kernel_rfl) (congrFun (congrFun e75 Bool) HL) i75
theorem t76 : TabP 76 := .no (by kernel_rfl)
theorem t77 : TabP 77 := .no (by kernel_rfl)
theorem t78 : TabP 78 := .of (g := fun A => f78 A) (by kernel_rfl) (congrFun (congrFun e78 Bool) HL) i78
theorem t79 : TabP 79 := .of (g := fun A => f79 A) (by kernel_rfl) (congrFun (congrFun e79 Bool) HL) i79
theorem t80 : TabP 80 := .of (g := fun A => f80 A) (by kernel_rfl) (congrFun (congrFun e80 Bool) HL) i80
theorem t81 : TabP 81 := .no (by kernel_rfl)
theorem t82 : TabP 82 := .of (g := fun A => f82 A) (by kernel_rfl) (congrFun (congrFun e82 Bool) HL) i82
theorem t83 : TabP 83 := .of (g := fun A => f83 A) (by kernel_rfl) (congrFun (congrFun e83 Bool) HL) i83
theorem t84 : TabP 84 := .no (by kernel_rfl)
theorem t85 : TabP 85 := .of (g := fun A => f85 A) (by kernel_rfl) (congrFun (congrFun e85 Bool) HL) i85
theorem t86 : TabP 86 := .no (by kernel_rfl)
theorem t87 : TabP 87 := .no (by kernel_rfl)
theorem t88 : TabP 88 := .no (by kernel_rfl)
theorem t89 : TabP 89 := .no (by kernel_rfl)
theorem t90 : TabP 90 := .of (g := fun A => f90 A) (by kernel_rfl) (congrFun (congrFun e90 Bool) HL) i90
theorem t91 : TabP 91 := .of (g := fun A => f91 A) (by kernel_rfl) (congrFun (congrFun e91 Bool) HL) i91
theorem t92 : TabP 92 := .of (g := fun A => f92 A) (by kernel_rfl) (congrFun (congrFun e92 Bool) HL) i92
theorem t93 : TabP 93 := .no (by kernel_rfl)
theorem t94 : TabP 94 := .of (g := fun A => f94 A) (by kernel_rfl) (congrFun (congrFun e94 Bool) HL) i94
theorem t95 : TabP 95 := .of (g := fun A => f95 A) (by kernel_rfl) (congrFun (congrFun e95 Bool) HL) i95
theorem t96 : TabP 96 := .of (g := fun A => f96 A) (by kernel_rfl) (congrFun (congrFun e96 Bool) HL) i96
theorem t97 : TabP 97 := .of (g := fun A => f97 A) (by kernel_rfl) (congrFun (congrFun e97 Bool) HL) i97
theorem t98 : TabP 98 := .of (g := fun A => f98 A) (by kernel_rfl) (congrFun (congrFun e98 Bool) HL) i98
theorem t99 : TabP 99 := .of (g := fun A => f99 A) (by kernel_rfl) (congrFun (congrFun e99 Bool) HL) i99
theorem t100 : TabP 100 := .of (g := fun A => f100 A) (by kernel_rfl) (congrFun (congrFun e100 Bool) HL) i100
theorem t101 : TabP 101 := .of (g := fun A => f101 A) (by kernel_rfl) (congrFun (congrFun e101 Bool) HL) i101
theorem t102 : TabP 102 := .of (g := fun A => f102 A) (by kernel_rfl) (congrFun (congrFun e102 Bool) HL) i102
theorem t103 : TabP 103 := .of (g := fun A => f103 A) (by kernel_rfl) (congrFun (congrFun e103 Bool) HL) i103
theorem t104 : TabP 104 := .of (g := fun A => f104 A) (by kernel_rfl) (congrFun (congrFun e104 Bool) HL) i104
theorem t105 : TabP 105 := .of (g := fun A => f105 A) (by kernel_rfl) (congrFun (congrFun e105 Bool) HL) i105
theorem t106 : TabP 106 := .of (g := fun A => f106 A) (by kernel_rfl) (congrFun (congrFun e106 Bool) HL) i106
theorem tabAll : ∀ f, Nat.blt f 107 = true → TabP f
  | 0, _ => t0
  | 1, _ => t1
  | 2, _ => t2
  | 3, _ => t3
  | 4, _ => t4
  | 5, _ => t5
  | 6, _ => t6
  | 7, _ => t7
  | 8, _ => t8
  | 9, _ => t9
  | 10, _ => t10
  | 11, _ => t11
  | 12, _ => t12
  | 13, _ => t13
  | 14, _ => t14
  | 15, _ => t15
  | 16, _ => t16
  | 17, _ => t17
  | 18, _ => t18
  | 19, _ => t19
  | 20, _ => t20
  | 21, _ => t21
  | 22, _ => t22
  | 23, _ => t23
  | 24, _ => t24
  | 25, _ => t25
  | 26, _ => t26
  | 27, _ => t27
  | 28, _ => t28
  | 29, _ => t29
  | 30, _ => t30
  | 31, _ => t31
  | 32, _ => t32
  | 33, _ => t33
  | 34, _ => t34
  | 35, _ => t35
  | 36, _ => t36
  | 37, _ => t37
  | 38, _ => t38
  | 39, _ => t39
  | 40, _ => t40
  | 41, _ => t41
  | 42, _ => t42
  | 43, _ => t43
  | 44, _ => t44
  | 45, _ => t45
  | 46, _ => t46
  | 47, _ => t47
  | 48, _ => t48
  | 49, _ => t49
  | 50, _ => t50
  | 51, _ => t51
  | 52, _ => t52
  | 53, _ => t53
  | 54, _ => t54
  | 55, _ => t55
  | 56, _ => t56
  | 57, _ => t57
  | 58, _ => t58
  | 59, _ => t59
  | 60, _ => t60
  | 61, _ => t61
  | 62, _ => t62
  | 63, _ => t63
  | 64, _ => t64
  | 65, _ => t65
  | 66, _ => t66
  | 67, _ => t67
  | 68, _ => t68
  | 69, _ => t69
  | 70, _ => t70
  | 71, _ => t71
  | 72, _ => t72
  | 73, _ => t73
  | 74, _ => t74
  | 75, _ => t75
  | 76, _ => t76
  | 77, _ => t77
  | 78, _ => t78
  | 79, _ => t79
  | 80, _ => t80
  | 81, _ => t81
  | 82, _ => t82
  | 83, _ => t83
  | 84, _ => t84
  | 85, _ => t85
  | 86, _ => t86
  | 87, _ => t87
  | 88, _ => t88
  | 89, _ => t89
  | 90, _ => t90
  | 91, _ => t91
  | 92, _ => t92
  | 93, _ => t93
  | 94, _ => t94
  | 95, _ => t95
  | 96, _ => t96
  | 97, _ => t97
  | 98, _ => t98
  | 99, _ => t99
  | 100, _ => t100
  | 101, _ => t101
  | 102, _ => t102
  | 103, _ => t103
  | 104, _ => t104
  | 105, _ => t105
  | 106, _ => t106
  | n + 107, h => by rw [Nat.blt_eq] at h; omega
theorem knB_mem {f : FuncId} {t : Bool} : ∀ {l : List (FuncId × Bool)}, knB l f = some t → (f, t) ∈ l
  | p :: l, h => by
    unfold knB at h
    split at h
    · rename_i e
      cases h
      have := Nat.eq_of_beq_eq_true e
      subst this
      exact List.mem_cons_self
    · exact List.mem_cons_of_mem _ (knB_mem h)
theorem run_ok (kn : List (FuncId × Bool)) (hkn : ∀ p ∈ kn, sgTab p.1 = some ⟨[], [lb]⟩ ∧ Kno.kn p.1 [] (.bool p.2)) (n : Nat) : CallBOk cc sgTab siteTab (runR kn n) :=
  Sx.runT_ok (tab := tabT kn) (T := siteTab) (X := xc) (dr := drN) (fun pts ops h n σ σ' hx => dr_ok neuN_ok pts ops h n σ σ' hx) (fun _ => ⟨rfl, rfl⟩) (fun A f ls h K hk => by
    simp only [tabT] at hk
    cases e0 : knB kn f with
    | some t =>
      rw [e0] at hk
      match ls, hk with
      | [], hk =>
        obtain ⟨h1, h2⟩ := hkn _ (knB_mem e0)
        exact .inr ⟨[.b t], fun H => ⟨⟨[], [lb]⟩, [], [.leaf (.b t)], h1, ⟨rfl, rfl, fun _ h => by cases h⟩, ⟨rfl, rfl, fun x hx => by
          simp only [List.mem_singleton] at hx
          subst hx
          intro y hy
          simp only [S0.cells, List.mem_singleton] at hy
          subst hy; trivial⟩, call_known h2 H⟩, hk⟩
    | none =>
      rw [e0] at hk
      cases e : Nat.blt f 107 with
      | true => rw [e] at hk; exact .inl (tabAll f e A ls h K hk)
      | false => rw [e] at hk; cases hk) (fun A κ vs l ls h K hk => ⟨0, hk⟩) n
end
end Go.Am

/-
  CLOSED FUNCTIONS THAT THE KERNEL RUNS: their contracts.
-/
set_option maxRecDepth 100000
namespace Go.Am
open Sx Go.Proofs

/-- A closed function that a run shows to say true. -/
theorem ran {g : FuncId} {n : Nat} (hs : sgTab g = some ⟨[], [lb]⟩) (h : runR [] n (.f g) [] [] isT = true) : Cc g [] [.b true] := by
  obtain ⟨H', h1⟩ := closed_true (run_ok [] (fun _ h => by cases h) n) hs h
  intro H
  refine ⟨⟨[], [lb]⟩, [], [.leaf (.b true)], hs, ⟨rfl, rfl, fun _ h => by cases h⟩, ⟨rfl, rfl, fun x hx => ?_⟩, ⟨0, fun H => frame_ok gl_flat (uCallC_ok mixed h1) rfl rfl H, rfl⟩⟩
  simp only [List.mem_singleton] at hx
  subst hx
  intro y hy
  simp only [S0.cells, List.mem_singleton] at hy
  subst hy; trivial
end Go.Am

/-
  The examples of chapter 3.
-/
set_option maxRecDepth 100000
namespace Go.Am
open Sx Go.Proofs
theorem lives : Cc 44 [] [.b true] := ran (n := 60) rfl (by kernel_rfl)
end Go.Am

/-
  RULES ON TRUTH VALUES.
-/
namespace Go.Am
open Sx Go.Proofs
theorem b_tt {l : List (Lf × Lf)} {K : Bool → Prop} : P1.eqs ((.b true, .b true) :: l) (@hid _ ⟨K⟩) = P1.eqs l (@hid _ ⟨K⟩) := rfl
theorem b_ff {l : List (Lf × Lf)} {K : Bool → Prop} : P1.eqs ((.b false, .b false) :: l) (@hid _ ⟨K⟩) = P1.eqs l (@hid _ ⟨K⟩) := rfl
theorem b_nt {X Y : Prop} : P1.cond (!true) X (@hid _ ⟨Y⟩) = Y := b_cond_f
theorem b_nf {X Y : Prop} : P1.cond (!false) (@hid _ ⟨X⟩) Y = X := b_cond_t
/-- These, in one. -/
def qxb := And.intro @b_tt (And.intro @b_ff (And.intro @b_nt @b_nf))
end Go.Am

/-
  CONTRACTS, BY PROGRAM: CellsBetween.
-/
set_option maxRecDepth 100000
set_option maxHeartbeats 4000000
namespace Go.Am
open Sx Go.Proofs

theorem cellsBetween000 {x y u v : Int} (h : -4096 ≤ x ∧ x ≤ 4096 ∧ -4096 ≤ y ∧ y ≤ 4096 ∧ -4096 ≤ u ∧ u ≤ 4096 ∧ -4096 ≤ v ∧ v ≤ 4096 ∧ (x + y + u + v) % 2 = 0) : Cc 13 [.i x, .i y, .i 0, .i u, .i v, .i 0] [.b true] := by
  refine q13 rfl ?_; unfold p13
  (repeat (first | simp (disch := omega) only [↓qxs, ↓qxc, ↓qxa, ↓qxb] | refine p_call (cbet000 (by omega)) ?_ | refine p_call (rbet000 (by omega)) ?_ | refine p_call (cmove00 (by omega)) ?_ | refine p_call lives ?_ | refine p_call (v3_ok (by omega)) ?_ | refine p_call (v3_no (by omega)) ?_ | refine p_call (cellCheck_ok (by omega)) ?_ | refine p_call (cellCheck_no (by omega)) ?_))
theorem cellsBetween001 {x y u v : Int} (h : -4096 ≤ x ∧ x ≤ 4096 ∧ -4096 ≤ y ∧ y ≤ 4096 ∧ -4096 ≤ u ∧ u ≤ 4096 ∧ -4096 ≤ v ∧ v ≤ 4096 ∧ (x + y + u + v) % 2 = 1) : Cc 13 [.i x, .i y, .i 0, .i u, .i v, .i 0] [.b true] := by
  refine q13 rfl ?_; unfold p13
  (repeat (first | simp (disch := omega) only [↓qxs, ↓qxc, ↓qxa, ↓qxb] | refine p_call (cbet001 (by omega)) ?_ | refine p_call (rbet001 (by omega)) ?_ | refine p_call (cmove40 (by omega)) ?_ | refine p_call lives ?_ | refine p_call (v3_ok (by omega)) ?_ | refine p_call (v3_no (by omega)) ?_ | refine p_call (cellCheck_ok (by omega)) ?_ | refine p_call (cellCheck_no (by omega)) ?_))
theorem cellsBetween010 {x y u v : Int} (h : -4096 ≤ x ∧ x ≤ 4096 ∧ -4096 ≤ y ∧ y ≤ 4096 ∧ -4096 ≤ u ∧ u ≤ 4096 ∧ -4096 ≤ v ∧ v ≤ 4096 ∧ (x + y + u + v) % 2 = 0) : Cc 13 [.i x, .i y, .i 0, .i u, .i v, .i 1] [.b true] := by
  refine q13 rfl ?_; unfold p13
  (repeat (first | simp (disch := omega) only [↓qxs, ↓qxc, ↓qxa, ↓qxb] | refine p_call (cbet010 (by omega)) ?_ | refine p_call (rbet010 (by omega)) ?_ | refine p_call (cmove50 (by omega)) ?_ | refine p_call lives ?_ | refine p_call (v3_ok (by omega)) ?_ | refine p_call (v3_no (by omega)) ?_ | refine p_call (cellCheck_ok (by omega)) ?_ | refine p_call (cellCheck_no (by omega)) ?_))
theorem cellsBetween011 {x y u v : Int} (h : -4096 ≤ x ∧ x ≤ 4096 ∧ -4096 ≤ y ∧ y ≤ 4096 ∧ -4096 ≤ u ∧ u ≤ 4096 ∧ -4096 ≤ v ∧ v ≤ 4096 ∧ (x + y + u + v) % 2 = 1) : Cc 13 [.i x, .i y, .i 0, .i u, .i v, .i 1] [.b true] := by
  refine q13 rfl ?_; unfold p13
  (repeat (first | simp (disch := omega) only [↓qxs, ↓qxc, ↓qxa, ↓qxb] | refine p_call (cbet011 (by omega)) ?_ | refine p_call (rbet011 (by omega)) ?_ | refine p_call (cmove10 (by omega)) ?_ | refine p_call lives ?_ | refine p_call (v3_ok (by omega)) ?_ | refine p_call (v3_no (by omega)) ?_ | refine p_call (cellCheck_ok (by omega)) ?_ | refine p_call (cellCheck_no (by omega)) ?_))
theorem cellsBetween020 {x y u v : Int} (h : -4096 ≤ x ∧ x ≤ 4096 ∧ -4096 ≤ y ∧ y ≤ 4096 ∧ -4096 ≤ u ∧ u ≤ 4096 ∧ -4096 ≤ v ∧ v ≤ 4096 ∧ (x + y + u + v) % 2 = 0) : Cc 13 [.i x, .i y, .i 0, .i u, .i v, .i 2] [.b true] := by
  refine q13 rfl ?_; unfold p13
  (repeat (first | simp (disch := omega) only [↓qxs, ↓qxc, ↓qxa, ↓qxb] | refine p_call (cbet020 (by omega)) ?_ | refine p_call (rbet020 (by omega)) ?_ | refine p_call (cmove20 (by omega)) ?_ | refine p_call lives ?_ | refine p_call (v3_ok (by omega)) ?_ | refine p_call (v3_no (by omega)) ?_ | refine p_call (cellCheck_ok (by omega)) ?_ | refine p_call (cellCheck_no (by omega)) ?_))
theorem cellsBetween021 {x y u v : Int} (h : -4096 ≤ x ∧ x ≤ 4096 ∧ -4096 ≤ y ∧ y ≤ 4096 ∧ -4096 ≤ u ∧ u ≤ 4096 ∧ -4096 ≤ v ∧ v ≤ 4096 ∧ (x + y + u + v) % 2 = 1) : Cc 13 [.i x, .i y, .i 0, .i u, .i v, .i 2] [.b true] := by
  refine q13 rfl ?_; unfold p13
  (repeat (first | simp (disch := omega) only [↓qxs, ↓qxc, ↓qxa, ↓qxb] | refine p_call (cbet021 (by omega)) ?_ | refine p_call (rbet021 (by omega)) ?_ | refine p_call (cmove60 (by omega)) ?_ | refine p_call lives ?_ | refine p_call (v3_ok (by omega)) ?_ | refine p_call (v3_no (by omega)) ?_ | refine p_call (cellCheck_ok (by omega)) ?_ | refine p_call (cellCheck_no (by omega)) ?_))
theorem cellsBetween030 {x y u v : Int} (h : -4096 ≤ x ∧ x ≤ 4096 ∧ -4096 ≤ y ∧ y ≤ 4096 ∧ -4096 ≤ u ∧ u ≤ 4096 ∧ -4096 ≤ v ∧ v ≤ 4096 ∧ (x + y + u + v) % 2 = 0) : Cc 13 [.i x, .i y, .i 0, .i u, .i v, .i 3] [.b true] := by
  refine q13 rfl ?_; unfold p13
  (repeat (first | simp (disch := omega) only [↓qxs, ↓qxc, ↓qxa, ↓qxb] | refine p_call (cbet030 (by omega)) ?_ | refine p_call (rbet030 (by omega)) ?_ | refine p_call (cmove70 (by omega)) ?_ | refine p_call lives ?_ | refine p_call (v3_ok (by omega)) ?_ | refine p_call (v3_no (by omega)) ?_ | refine p_call (cellCheck_ok (by omega)) ?_ | refine p_call (cellCheck_no (by omega)) ?_))
theorem cellsBetween031 {x y u v : Int} (h : -4096 ≤ x ∧ x ≤ 4096 ∧ -4096 ≤ y ∧ y ≤ 4096 ∧ -4096 ≤ u ∧ u ≤ 4096 ∧ -4096 ≤ v ∧ v ≤ 4096 ∧ (x + y + u + v) % 2 = 1) : Cc 13 [.i x, .i y, .i 0, .i u, .i v, .i 3] [.b true] := by
  refine q13 rfl ?_; unfold p13
  (repeat (first | simp (disch := omega) only [↓qxs, ↓qxc, ↓qxa, ↓qxb] | refine p_call (cbet031 (by omega)) ?_ | refine p_call (rbet031 (by omega)) ?_ | refine p_call (cmove30 (by omega)) ?_ | refine p_call lives ?_ | refine p_call (v3_ok (by omega)) ?_ | refine p_call (v3_no (by omega)) ?_ | refine p_call (cellCheck_ok (by omega)) ?_ | refine p_call (cellCheck_no (by omega)) ?_))
theorem cellsBetween100 {x y u v : Int} (h : -4096 ≤ x ∧ x ≤ 4096 ∧ -4096 ≤ y ∧ y ≤ 4096 ∧ -4096 ≤ u ∧ u ≤ 4096 ∧ -4096 ≤ v ∧ v ≤ 4096 ∧ (x + y + u + v) % 2 = 0) : Cc 13 [.i x, .i y, .i 1, .i u, .i v, .i 0] [.b true] := by
  refine q13 rfl ?_; unfold p13
  (repeat (first | simp (disch := omega) only [↓qxs, ↓qxc, ↓qxa, ↓qxb] | refine p_call (cbet100 (by omega)) ?_ | refine p_call (rbet100 (by omega)) ?_ | refine p_call (cmove51 (by omega)) ?_ | refine p_call lives ?_ | refine p_call (v3_ok (by omega)) ?_ | refine p_call (v3_no (by omega)) ?_ | refine p_call (cellCheck_ok (by omega)) ?_ | refine p_call (cellCheck_no (by omega)) ?_))
theorem cellsBetween101 {x y u v : Int} (h : -4096 ≤ x ∧ x ≤ 4096 ∧ -4096 ≤ y ∧ y ≤ 4096 ∧ -4096 ≤ u ∧ u ≤ 4096 ∧ -4096 ≤ v ∧ v ≤ 4096 ∧ (x + y + u + v) % 2 = 1) : Cc 13 [.i x, .i y, .i 1, .i u, .i v, .i 0] [.b true] := by
  refine q13 rfl ?_; unfold p13
  (repeat (first | simp (disch := omega) only [↓qxs, ↓qxc, ↓qxa, ↓qxb] | refine p_call (cbet101 (by omega)) ?_ | refine p_call (rbet101 (by omega)) ?_ | refine p_call (cmove31 (by omega)) ?_ | refine p_call lives ?_ | refine p_call (v3_ok (by omega)) ?_ | refine p_call (v3_no (by omega)) ?_ | refine p_call (cellCheck_ok (by omega)) ?_ | refine p_call (cellCheck_no (by omega)) ?_))
theorem cellsBetween110 {x y u v : Int} (h : -4096 ≤ x ∧ x ≤ 4096 ∧ -4096 ≤ y ∧ y ≤ 4096 ∧ -4096 ≤ u ∧ u ≤ 4096 ∧ -4096 ≤ v ∧ v ≤ 4096 ∧ (x + y + u + v) % 2 = 0) : Cc 13 [.i x, .i y, .i 1, .i u, .i v, .i 1] [.b true] := by
  refine q13 rfl ?_; unfold p13
  (repeat (first | simp (disch := omega) only [↓qxs, ↓qxc, ↓qxa, ↓qxb] | refine p_call (cbet110 (by omega)) ?_ | refine p_call (rbet110 (by omega)) ?_ | refine p_call (cmove01 (by omega)) ?_ | refine p_call lives ?_ | refine p_call (v3_ok (by omega)) ?_ | refine p_call (v3_no (by omega)) ?_ | refine p_call (cellCheck_ok (by omega)) ?_ | refine p_call (cellCheck_no (by omega)) ?_))
theorem cellsBetween111 {x y u v : Int} (h : -4096 ≤ x ∧ x ≤ 4096 ∧ -4096 ≤ y ∧ y ≤ 4096 ∧ -4096 ≤ u ∧ u ≤ 4096 ∧ -4096 ≤ v ∧ v ≤ 4096 ∧ (x + y + u + v) % 2 = 1) : Cc 13 [.i x, .i y, .i 1, .i u, .i v, .i 1] [.b true] := by
  refine q13 rfl ?_; unfold p13
  (repeat (first | simp (disch := omega) only [↓qxs, ↓qxc, ↓qxa, ↓qxb] | refine p_call (cbet111 (by omega)) ?_ | refine p_call (rbet111 (by omega)) ?_ | refine p_call (cmove61 (by omega)) ?_ | refine p_call lives ?_ | refine p_call (v3_ok (by omega)) ?_ | refine p_call (v3_no (by omega)) ?_ | refine p_call (cellCheck_ok (by omega)) ?_ | refine p_call (cellCheck_no (by omega)) ?_))
theorem cellsBetween120 {x y u v : Int} (h : -4096 ≤ x ∧ x ≤ 4096 ∧ -4096 ≤ y ∧ y ≤ 4096 ∧ -4096 ≤ u ∧ u ≤ 4096 ∧ -4096 ≤ v ∧ v ≤ 4096 ∧ (x + y + u + v) % 2 = 0) : Cc 13 [.i x, .i y, .i 1, .i u, .i v, .i 2] [.b true] := by
  refine q13 rfl ?_; unfold p13
  (repeat (first | simp (disch := omega) only [↓qxs, ↓qxc, ↓qxa, ↓qxb] | refine p_call (cbet120 (by omega)) ?_ | refine p_call (rbet120 (by omega)) ?_ | refine p_call (cmove71 (by omega)) ?_ | refine p_call lives ?_ | refine p_call (v3_ok (by omega)) ?_ | refine p_call (v3_no (by omega)) ?_ | refine p_call (cellCheck_ok (by omega)) ?_ | refine p_call (cellCheck_no (by omega)) ?_))
theorem cellsBetween121 {x y u v : Int} (h : -4096 ≤ x ∧ x ≤ 4096 ∧ -4096 ≤ y ∧ y ≤ 4096 ∧ -4096 ≤ u ∧ u ≤ 4096 ∧ -4096 ≤ v ∧ v ≤ 4096 ∧ (x + y + u + v) % 2 = 1) : Cc 13 [.i x, .i y, .i 1, .i u, .i v, .i 2] [.b true] := by
  refine q13 rfl ?_; unfold p13
  (repeat (first | simp (disch := omega) only [↓qxs, ↓qxc, ↓qxa, ↓qxb] | refine p_call (cbet121 (by omega)) ?_ | refine p_call (rbet121 (by omega)) ?_ | refine p_call (cmove11 (by omega)) ?_ | refine p_call lives ?_ | refine p_call (v3_ok (by omega)) ?_ | refine p_call (v3_no (by omega)) ?_ | refine p_call (cellCheck_ok (by omega)) ?_ | refine p_call (cellCheck_no (by omega)) ?_))
theorem cellsBetween130 {x y u v : Int} (h : -4096 ≤ x ∧ x ≤ 4096 ∧ -4096 ≤ y ∧ y ≤ 4096 ∧ -4096 ≤ u ∧ u ≤ 4096 ∧ -4096 ≤ v ∧ v ≤ 4096 ∧ (x + y + u + v) % 2 = 0) : Cc 13 [.i x, .i y, .i 1, .i u, .i v, .i 3] [.b true] := by
  refine q13 rfl ?_; unfold p13
  (repeat (first | simp (disch := omega) only [↓qxs, ↓qxc, ↓qxa, ↓qxb] | refine p_call (cbet130 (by omega)) ?_ | refine p_call (rbet130 (by omega)) ?_ | refine p_call (cmove21 (by omega)) ?_ | refine p_call lives ?_ | refine p_call (v3_ok (by omega)) ?_ | refine p_call (v3_no (by omega)) ?_ | refine p_call (cellCheck_ok (by omega)) ?_ | refine p_call (cellCheck_no (by omega)) ?_))
theorem cellsBetween131 {x y u v : Int} (h : -4096 ≤ x ∧ x ≤ 4096 ∧ -4096 ≤ y ∧ y ≤ 4096 ∧ -4096 ≤ u ∧ u ≤ 4096 ∧ -4096 ≤ v ∧ v ≤ 4096 ∧ (x + y + u + v) % 2 = 1) : Cc 13 [.i x, .i y, .i 1, .i u, .i v, .i 3] [.b true] := by
  refine q13 rfl ?_; unfold p13
  (repeat (first | simp (disch := omega) only [↓qxs, ↓qxc, ↓qxa, ↓qxb] | refine p_call (cbet131 (by omega)) ?_ | refine p_call (rbet131 (by omega)) ?_ | refine p_call (cmove41 (by omega)) ?_ | refine p_call lives ?_ | refine p_call (v3_ok (by omega)) ?_ | refine p_call (v3_no (by omega)) ?_ | refine p_call (cellCheck_ok (by omega)) ?_ | refine p_call (cellCheck_no (by omega)) ?_))
theorem cellsBetween200 {x y u v : Int} (h : -4096 ≤ x ∧ x ≤ 4096 ∧ -4096 ≤ y ∧ y ≤ 4096 ∧ -4096 ≤ u ∧ u ≤ 4096 ∧ -4096 ≤ v ∧ v ≤ 4096 ∧ (x + y + u + v) % 2 = 0) : Cc 13 [.i x, .i y, .i 2, .i u, .i v, .i 0] [.b true] := by
  refine q13 rfl ?_; unfold p13
  (repeat (first | simp (disch := omega) only [↓qxs, ↓qxc, ↓qxa, ↓qxb] | refine p_call (cbet200 (by omega)) ?_ | refine p_call (rbet200 (by omega)) ?_ | refine p_call (cmove22 (by omega)) ?_ | refine p_call lives ?_ | refine p_call (v3_ok (by omega)) ?_ | refine p_call (v3_no (by omega)) ?_ | refine p_call (cellCheck_ok (by omega)) ?_ | refine p_call (cellCheck_no (by omega)) ?_))
theorem cellsBetween201 {x y u v : Int} (h : -4096 ≤ x ∧ x ≤ 4096 ∧ -4096 ≤ y ∧ y ≤ 4096 ∧ -4096 ≤ u ∧ u ≤ 4096 ∧ -4096 ≤ v ∧ v ≤ 4096 ∧ (x + y + u + v) % 2 = 1) : Cc 13 [.i x, .i y, .i 2, .i u, .i v, .i 0] [.b true] := by
  refine q13 rfl ?_; unfold p13
  (repeat (first | simp (disch := omega) only [↓qxs, ↓qxc, ↓qxa, ↓qxb] | refine p_call (cbet201 (by omega)) ?_ | refine p_call (rbet201 (by omega)) ?_ | refine p_call (cmove62 (by omega)) ?_ | refine p_call lives ?_ | refine p_call (v3_ok (by omega)) ?_ | refine p_call (v3_no (by omega)) ?_ | refine p_call (cellCheck_ok (by omega)) ?_ | refine p_call (cellCheck_no (by omega)) ?_))
theorem cellsBetween210 {x y u v : Int} (h : -4096 ≤ x ∧ x ≤ 4096 ∧ -4096 ≤ y ∧ y ≤ 4096 ∧ -4096 ≤ u ∧ u ≤ 4096 ∧ -4096 ≤ v ∧ v ≤ 4096 ∧ (x + y + u + v) % 2 = 0) : Cc 13 [.i x, .i y, .i 2, .i u, .i v, .i 1] [.b true] := by
  refine q13 rfl ?_; unfold p13
  (repeat (first | simp (disch := omega) only [↓qxs, ↓qxc, ↓qxa, ↓qxb] | refine p_call (cbet210 (by omega)) ?_ | refine p_call (rbet210 (by omega)) ?_ | refine p_call (cmove72 (by omega)) ?_ | refine p_call lives ?_ | refine p_call (v3_ok (by omega)) ?_ | refine p_call (v3_no (by omega)) ?_ | refine p_call (cellCheck_ok (by omega)) ?_ | refine p_call (cellCheck_no (by omega)) ?_))
theorem cellsBetween211 {x y u v : Int} (h : -4096 ≤ x ∧ x ≤ 4096 ∧ -4096 ≤ y ∧ y ≤ 4096 ∧ -4096 ≤ u ∧ u ≤ 4096 ∧ -4096 ≤ v ∧ v ≤ 4096 ∧ (x + y + u + v) % 2 = 1) : Cc 13 [.i x, .i y, .i 2, .i u, .i v, .i 1] [.b true] := by
  refine q13 rfl ?_; unfold p13
  (repeat (first | simp (disch := omega) only [↓qxs, ↓qxc, ↓qxa, ↓qxb] | refine p_call (cbet211 (by omega)) ?_ | refine p_call (rbet211 (by omega)) ?_ | refine p_call (cmove32 (by omega)) ?_ | refine p_call lives ?_ | refine p_call (v3_ok (by omega)) ?_ | refine p_call (v3_no (by omega)) ?_ | refine p_call (cellCheck_ok (by omega)) ?_ | refine p_call (cellCheck_no (by omega)) ?_))
theorem cellsBetween220 {x y u v : Int} (h : -4096 ≤ x ∧ x ≤ 4096 ∧ -4096 ≤ y ∧ y ≤ 4096 ∧ -4096 ≤ u ∧ u ≤ 4096 ∧ -4096 ≤ v ∧ v ≤ 4096 ∧ (x + y + u + v) % 2 = 0) : Cc 13 [.i x, .i y, .i 2, .i u, .i v, .i 2] [.b true] := by
  refine q13 rfl ?_; unfold p13
  (repeat (first | simp (disch := omega) only [↓qxs, ↓qxc, ↓qxa, ↓qxb] | refine p_call (cbet220 (by omega)) ?_ | refine p_call (rbet220 (by omega)) ?_ | refine p_call (cmove02 (by omega)) ?_ | refine p_call lives ?_ | refine p_call (v3_ok (by omega)) ?_ | refine p_call (v3_no (by omega)) ?_ | refine p_call (cellCheck_ok (by omega)) ?_ | refine p_call (cellCheck_no (by omega)) ?_))
theorem cellsBetween221 {x y u v : Int} (h : -4096 ≤ x ∧ x ≤ 4096 ∧ -4096 ≤ y ∧ y ≤ 4096 ∧ -4096 ≤ u ∧ u ≤ 4096 ∧ -4096 ≤ v ∧ v ≤ 4096 ∧ (x + y + u + v) % 2 = 1) : Cc 13 [.i x, .i y, .i 2, .i u, .i v, .i 2] [.b true] := by
  refine q13 rfl ?_; unfold p13
  (repeat (first | simp (disch := omega) only [↓qxs, ↓qxc, ↓qxa, ↓qxb] | refine p_call (cbet221 (by omega)) ?_ | refine p_call (rbet221 (by omega)) ?_ | refine p_call (cmove42 (by omega)) ?_ | refine p_call lives ?_ | refine p_call (v3_ok (by omega)) ?_ | refine p_call (v3_no (by omega)) ?_ | refine p_call (cellCheck_ok (by omega)) ?_ | refine p_call (cellCheck_no (by omega)) ?_))
theorem cellsBetween230 {x y u v : Int} (h : -4096 ≤ x ∧ x ≤ 4096 ∧ -4096 ≤ y ∧ y ≤ 4096 ∧ -4096 ≤ u ∧ u ≤ 4096 ∧ -4096 ≤ v ∧ v ≤ 4096 ∧ (x + y + u + v) % 2 = 0) : Cc 13 [.i x, .i y, .i 2, .i u, .i v, .i 3] [.b true] := by
  refine q13 rfl ?_; unfold p13
  (repeat (first | simp (disch := omega) only [↓qxs, ↓qxc, ↓qxa, ↓qxb] | refine p_call (cbet230 (by omega)) ?_ | refine p_call (rbet230 (by omega)) ?_ | refine p_call (cmove52 (by omega)) ?_ | refine p_call lives ?_ | refine p_call (v3_ok (by omega)) ?_ | refine p_call (v3_no (by omega)) ?_ | refine p_call (cellCheck_ok (by omega)) ?_ | refine p_call (cellCheck_no (by omega)) ?_))
theorem cellsBetween231 {x y u v : Int} (h : -4096 ≤ x ∧ x ≤ 4096 ∧ -4096 ≤ y ∧ y ≤ 4096 ∧ -4096 ≤ u ∧ u ≤ 4096 ∧ -4096 ≤ v ∧ v ≤ 4096 ∧ (x + y + u + v) % 2 = 1) : Cc 13 [.i x, .i y, .i 2, .i u, .i v, .i 3] [.b true] := by
  refine q13 rfl ?_; unfold p13
  (repeat (first | simp (disch := omega) only [↓qxs, ↓qxc, ↓qxa, ↓qxb] | refine p_call (cbet231 (by omega)) ?_ | refine p_call (rbet231 (by omega)) ?_ | refine p_call (cmove12 (by omega)) ?_ | refine p_call lives ?_ | refine p_call (v3_ok (by omega)) ?_ | refine p_call (v3_no (by omega)) ?_ | refine p_call (cellCheck_ok (by omega)) ?_ | refine p_call (cellCheck_no (by omega)) ?_))
theorem cellsBetween300 {x y u v : Int} (h : -4096 ≤ x ∧ x ≤ 4096 ∧ -4096 ≤ y ∧ y ≤ 4096 ∧ -4096 ≤ u ∧ u ≤ 4096 ∧ -4096 ≤ v ∧ v ≤ 4096 ∧ (x + y + u + v) % 2 = 0) : Cc 13 [.i x, .i y, .i 3, .i u, .i v, .i 0] [.b true] := by
  refine q13 rfl ?_; unfold p13
  (repeat (first | simp (disch := omega) only [↓qxs, ↓qxc, ↓qxa, ↓qxb] | refine p_call (cbet300 (by omega)) ?_ | refine p_call (rbet300 (by omega)) ?_ | refine p_call (cmove73 (by omega)) ?_ | refine p_call lives ?_ | refine p_call (v3_ok (by omega)) ?_ | refine p_call (v3_no (by omega)) ?_ | refine p_call (cellCheck_ok (by omega)) ?_ | refine p_call (cellCheck_no (by omega)) ?_))
theorem cellsBetween301 {x y u v : Int} (h : -4096 ≤ x ∧ x ≤ 4096 ∧ -4096 ≤ y ∧ y ≤ 4096 ∧ -4096 ≤ u ∧ u ≤ 4096 ∧ -4096 ≤ v ∧ v ≤ 4096 ∧ (x + y + u + v) % 2 = 1) : Cc 13 [.i x, .i y, .i 3, .i u, .i v, .i 0] [.b true] := by
  refine q13 rfl ?_; unfold p13
  (repeat (first | simp (disch := omega) only [↓qxs, ↓qxc, ↓qxa, ↓qxb] | refine p_call (cbet301 (by omega)) ?_ | refine p_call (rbet301 (by omega)) ?_ | refine p_call (cmove13 (by omega)) ?_ | refine p_call lives ?_ | refine p_call (v3_ok (by omega)) ?_ | refine p_call (v3_no (by omega)) ?_ | refine p_call (cellCheck_ok (by omega)) ?_ | refine p_call (cellCheck_no (by omega)) ?_))
theorem cellsBetween310 {x y u v : Int} (h : -4096 ≤ x ∧ x ≤ 4096 ∧ -4096 ≤ y ∧ y ≤ 4096 ∧ -4096 ≤ u ∧ u ≤ 4096 ∧ -4096 ≤ v ∧ v ≤ 4096 ∧ (x + y + u + v) % 2 = 0) : Cc 13 [.i x, .i y, .i 3, .i u, .i v, .i 1] [.b true] := by
  refine q13 rfl ?_; unfold p13
  (repeat (first | simp (disch := omega) only [↓qxs, ↓qxc, ↓qxa, ↓qxb] | refine p_call (cbet310 (by omega)) ?_ | refine p_call (rbet310 (by omega)) ?_ | refine p_call (cmove23 (by omega)) ?_ | refine p_call lives ?_ | refine p_call (v3_ok (by omega)) ?_ | refine p_call (v3_no (by omega)) ?_ | refine p_call (cellCheck_ok (by omega)) ?_ | refine p_call (cellCheck_no (by omega)) ?_))
theorem cellsBetween311 {x y u v : Int} (h : -4096 ≤ x ∧ x ≤ 4096 ∧ -4096 ≤ y ∧ y ≤ 4096 ∧ -4096 ≤ u ∧ u ≤ 4096 ∧ -4096 ≤ v ∧ v ≤ 4096 ∧ (x + y + u + v) % 2 = 1) : Cc 13 [.i x, .i y, .i 3, .i u, .i v, .i 1] [.b true] := by
  refine q13 rfl ?_; unfold p13
  (repeat (first | simp (disch := omega) only [↓qxs, ↓qxc, ↓qxa, ↓qxb] | refine p_call (cbet311 (by omega)) ?_ | refine p_call (rbet311 (by omega)) ?_ | refine p_call (cmove43 (by omega)) ?_ | refine p_call lives ?_ | refine p_call (v3_ok (by omega)) ?_ | refine p_call (v3_no (by omega)) ?_ | refine p_call (cellCheck_ok (by omega)) ?_ | refine p_call (cellCheck_no (by omega)) ?_))
theorem cellsBetween320 {x y u v : Int} (h : -4096 ≤ x ∧ x ≤ 4096 ∧ -4096 ≤ y ∧ y ≤ 4096 ∧ -4096 ≤ u ∧ u ≤ 4096 ∧ -4096 ≤ v ∧ v ≤ 4096 ∧ (x + y + u + v) % 2 = 0) : Cc 13 [.i x, .i y, .i 3, .i u, .i v, .i 2] [.b true] := by
  refine q13 rfl ?_; unfold p13
  (repeat (first | simp (disch := omega) only [↓qxs, ↓qxc, ↓qxa, ↓qxb] | refine p_call (cbet320 (by omega)) ?_ | refine p_call (rbet320 (by omega)) ?_ | refine p_call (cmove53 (by omega)) ?_ | refine p_call lives ?_ | refine p_call (v3_ok (by omega)) ?_ | refine p_call (v3_no (by omega)) ?_ | refine p_call (cellCheck_ok (by omega)) ?_ | refine p_call (cellCheck_no (by omega)) ?_))
theorem cellsBetween321 {x y u v : Int} (h : -4096 ≤ x ∧ x ≤ 4096 ∧ -4096 ≤ y ∧ y ≤ 4096 ∧ -4096 ≤ u ∧ u ≤ 4096 ∧ -4096 ≤ v ∧ v ≤ 4096 ∧ (x + y + u + v) % 2 = 1) : Cc 13 [.i x, .i y, .i 3, .i u, .i v, .i 2] [.b true] := by
  refine q13 rfl ?_; unfold p13
  (repeat (first | simp (disch := omega) only [↓qxs, ↓qxc, ↓qxa, ↓qxb] | refine p_call (cbet321 (by omega)) ?_ | refine p_call (rbet321 (by omega)) ?_ | refine p_call (cmove33 (by omega)) ?_ | refine p_call lives ?_ | refine p_call (v3_ok (by omega)) ?_ | refine p_call (v3_no (by omega)) ?_ | refine p_call (cellCheck_ok (by omega)) ?_ | refine p_call (cellCheck_no (by omega)) ?_))
theorem cellsBetween330 {x y u v : Int} (h : -4096 ≤ x ∧ x ≤ 4096 ∧ -4096 ≤ y ∧ y ≤ 4096 ∧ -4096 ≤ u ∧ u ≤ 4096 ∧ -4096 ≤ v ∧ v ≤ 4096 ∧ (x + y + u + v) % 2 = 0) : Cc 13 [.i x, .i y, .i 3, .i u, .i v, .i 3] [.b true] := by
  refine q13 rfl ?_; unfold p13
  (repeat (first | simp (disch := omega) only [↓qxs, ↓qxc, ↓qxa, ↓qxb] | refine p_call (cbet330 (by omega)) ?_ | refine p_call (rbet330 (by omega)) ?_ | refine p_call (cmove03 (by omega)) ?_ | refine p_call lives ?_ | refine p_call (v3_ok (by omega)) ?_ | refine p_call (v3_no (by omega)) ?_ | refine p_call (cellCheck_ok (by omega)) ?_ | refine p_call (cellCheck_no (by omega)) ?_))
theorem cellsBetween331 {x y u v : Int} (h : -4096 ≤ x ∧ x ≤ 4096 ∧ -4096 ≤ y ∧ y ≤ 4096 ∧ -4096 ≤ u ∧ u ≤ 4096 ∧ -4096 ≤ v ∧ v ≤ 4096 ∧ (x + y + u + v) % 2 = 1) : Cc 13 [.i x, .i y, .i 3, .i u, .i v, .i 3] [.b true] := by
  refine q13 rfl ?_; unfold p13
  (repeat (first | simp (disch := omega) only [↓qxs, ↓qxc, ↓qxa, ↓qxb] | refine p_call (cbet331 (by omega)) ?_ | refine p_call (rbet331 (by omega)) ?_ | refine p_call (cmove63 (by omega)) ?_ | refine p_call lives ?_ | refine p_call (v3_ok (by omega)) ?_ | refine p_call (v3_no (by omega)) ?_ | refine p_call (cellCheck_ok (by omega)) ?_ | refine p_call (cellCheck_no (by omega)) ?_))
theorem cellsBetween_any {x y q u v r : Int} (h : -9223372036854775808 ≤ x ∧ x ≤ 9223372036854775807 ∧ -9223372036854775808 ≤ y ∧ y ≤ 9223372036854775807 ∧ 0 ≤ q ∧ q ≤ 255 ∧ -9223372036854775808 ≤ u ∧ u ≤ 9223372036854775807 ∧ -9223372036854775808 ≤ v ∧ v ≤ 9223372036854775807 ∧ 0 ≤ r ∧ r ≤ 255) : Cc 13 [.i x, .i y, .i q, .i u, .i v, .i r] [.b true] := by
  by_cases ha : -4096 ≤ x ∧ x ≤ 4096 ∧ -4096 ≤ y ∧ y ≤ 4096 ∧ q ≤ 3
  · by_cases hb : -4096 ≤ u ∧ u ≤ 4096 ∧ -4096 ≤ v ∧ v ≤ 4096 ∧ r ≤ 3
    · obtain rfl | rfl | rfl | rfl : q = 0 ∨ q = 1 ∨ q = 2 ∨ q = 3 := by omega
      all_goals (obtain rfl | rfl | rfl | rfl : r = 0 ∨ r = 1 ∨ r = 2 ∨ r = 3 := by omega)
      all_goals (obtain hp | hp : (x + y + u + v) % 2 = 0 ∨ (x + y + u + v) % 2 = 1 := by omega)
      · exact cellsBetween000 (by omega)
      · exact cellsBetween001 (by omega)
      · exact cellsBetween010 (by omega)
      · exact cellsBetween011 (by omega)
      · exact cellsBetween020 (by omega)
      · exact cellsBetween021 (by omega)
      · exact cellsBetween030 (by omega)
      · exact cellsBetween031 (by omega)
      · exact cellsBetween100 (by omega)
      · exact cellsBetween101 (by omega)
      · exact cellsBetween110 (by omega)
      · exact cellsBetween111 (by omega)
      · exact cellsBetween120 (by omega)
      · exact cellsBetween121 (by omega)
      · exact cellsBetween130 (by omega)
      · exact cellsBetween131 (by omega)
      · exact cellsBetween200 (by omega)
      · exact cellsBetween201 (by omega)
      · exact cellsBetween210 (by omega)
      · exact cellsBetween211 (by omega)
      · exact cellsBetween220 (by omega)
      · exact cellsBetween221 (by omega)
      · exact cellsBetween230 (by omega)
      · exact cellsBetween231 (by omega)
      · exact cellsBetween300 (by omega)
      · exact cellsBetween301 (by omega)
      · exact cellsBetween310 (by omega)
      · exact cellsBetween311 (by omega)
      · exact cellsBetween320 (by omega)
      · exact cellsBetween321 (by omega)
      · exact cellsBetween330 (by omega)
      · exact cellsBetween331 (by omega)
    · refine q13 rfl ?_; unfold p13
      first | (exfalso; omega) | (repeat (first | simp (disch := omega) only [↓qxs, ↓qxc, ↓qxa, ↓qxb] | refine p_call (cbet_no (by omega)) ?_ | refine p_call lives ?_ | refine p_call (v3_ok (by omega)) ?_ | refine p_call (v3_no (by omega)) ?_ | refine p_call (cellCheck_ok (by omega)) ?_ | refine p_call (cellCheck_no (by omega)) ?_))
  · refine q13 rfl ?_; unfold p13
    first | (exfalso; omega) | (repeat (first | simp (disch := omega) only [↓qxs, ↓qxc, ↓qxa, ↓qxb] | refine p_call (cbet_no (by omega)) ?_ | refine p_call lives ?_ | refine p_call (v3_ok (by omega)) ?_ | refine p_call (v3_no (by omega)) ?_ | refine p_call (cellCheck_ok (by omega)) ?_ | refine p_call (cellCheck_no (by omega)) ?_))
end Go.Am
/-
  ARGUMENTS WITHOUT ADDRESSES, as the row reads them.
-/
namespace Go.Am
namespace Sx
open Go.ChangeShapes Go.WideShapes Go.ChangeAt Go.WideMaps Go.WideElems Go.RowKit

/-- The cells are of these kinds, in their ranges. -/
def FitC : List LK → List Value → Prop
  | [], [] => True
  | .i k :: ks, v :: vs => (∃ n, v = .int k n ∧ (Lit.int k n).wf = true) ∧ FitC ks vs
  | .b :: ks, v :: vs => (∃ t, v = .bool t) ∧ FitC ks vs
  | _, _ => False
/-- The leaves are of these kinds, in their ranges. -/
def FitL : List LK → List Lf → Prop
  | [], [] => True
  | .i k :: ks, .i n :: ls => (Lit.int k n).wf = true ∧ FitL ks ls
  | .b :: ks, .b _ :: ls => FitL ks ls
  | _, _ => False

theorem FitC.len : ∀ {ks : List LK} {vs : List Value}, FitC ks vs → vs.length = ks.length
  | [], [], _ => rfl
  | .i k :: ks, v :: vs, h => by simp [FitC.len h.2]
  | .b :: ks, v :: vs, h => by simp [FitC.len h.2]
  | .v :: _, _, h => by cases h
  | [], _ :: _, h => by cases h
  | .i _ :: _, [], h => by cases h
  | .b :: _, [], h => by cases h
theorem FitC.app : ∀ {ks ks' : List LK} {vs vs' : List Value}, FitC ks vs → FitC ks' vs' → FitC (ks ++ ks') (vs ++ vs')
  | [], _, [], _, _, h => h
  | .i k :: ks, _, v :: vs, _, h, h' => ⟨h.1, FitC.app h.2 h'⟩
  | .b :: ks, _, v :: vs, _, h, h' => ⟨h.1, FitC.app h.2 h'⟩
  | .v :: _, _, _, _, h, _ => by cases h
  | [], _, _ :: _, _, h, _ => by cases h
  | .i _ :: _, _, [], _, h, _ => by cases h
  | .b :: _, _, [], _, h, _ => by cases h
theorem FitL.app : ∀ {ks ks' : List LK} {vs vs' : List Lf}, FitL ks vs → FitL ks' vs' → FitL (ks ++ ks') (vs ++ vs')
  | [], _, [], _, _, h => h
  | .i k :: ks, _, .i v :: vs, _, h, h' => ⟨h.1, FitL.app h.2 h'⟩
  | .b :: ks, _, .b v :: vs, _, h, h' => FitL.app (ks := ks) h h'
  | .v :: _, _, _, _, h, _ => by cases h
  | [], _, _ :: _, _, h, _ => by cases h
  | .i _ :: _, _, [], _, h, _ => by cases h
  | .b :: _, _, [], _, h, _ => by cases h
  | .i _ :: _, _, .b _ :: _, _, h, _ => by cases h
  | .i _ :: _, _, .v _ :: _, _, h, _ => by cases h
  | .b :: _, _, .i _ :: _, _, h, _ => by cases h
  | .b :: _, _, .v _ :: _, _, h, _ => by cases h
/-- Cells as leaves. -/
theorem FitC.sl : ∀ {ks : List LK} {vs : List Value}, FitC ks vs → ∃ xs : List SL, xs.map SL.val = vs ∧ allIs xs ks = true ∧ (∀ x ∈ xs, x.good) ∧ FitL ks (xs.map SL.lf)
  | [], [], _ => ⟨[], rfl, rfl, fun _ h => (by cases h), trivial⟩
  | .i k :: ks, v :: vs, h => by
    obtain ⟨⟨n, rfl, hw⟩, h2⟩ := h
    obtain ⟨xs, a, b, c, d⟩ := FitC.sl h2
    exact ⟨.i k n :: xs, by simp [a, SL.val], by simp [allIs, b, SL.is, kSame_self], fun x hx => by
      rcases List.mem_cons.1 hx with rfl | hx
      · trivial
      · exact c x hx, hw, d⟩
  | .b :: ks, v :: vs, h => by
    obtain ⟨⟨n, rfl⟩, h2⟩ := h
    obtain ⟨xs, a, b, c, d⟩ := FitC.sl h2
    exact ⟨.b n :: xs, by simp [a, SL.val], by simp [allIs, b, SL.is], fun x hx => by
      rcases List.mem_cons.1 hx with rfl | hx
      · trivial
      · exact c x hx, d⟩
  | .v :: _, _, h => by cases h
  | [], _ :: _, h => by cases h
  | .i _ :: _, [], h => by cases h
  | .b :: _, [], h => by cases h

/-- The kinds of the cells of a type of numbers, truth values and structs. -/
def flatF (F : TypeId → Option (List LK)) : List Field → Nat → Option (List LK)
  | [], _ => some []
  | f :: fs, off => match Nat.beq f.offset off, F f.type with
    | true, some ks => (flatF F fs (off + ks.length)).map (ks ++ ·)
    | _, _ => none
def flatT (P : Program) : Nat → TypeId → Option (List LK)
  | 0, _ => none
  | d + 1, t => match P.underlying t with
    | some (.int k) => some [.i k]
    | some .bool => some [.b]
    | some (.struct fs) => match flatF (flatT P d) fs.toList 0 with
      | some ks => match Nat.beq ks.length (P.cellsOf t) with
        | true => some ks
        | false => none
      | none => none
    | _ => none
def skT (P : Program) (t : TypeId) : Option SK :=
  match P.underlying t with
  | some (.int k) => some (.leaf (.i k))
  | some .bool => some (.leaf .b)
  | some (.struct _) => (flatT P 20 t).map .agg
  | _ => none

section
variable {H : Type} {enc : TypeId × Value → H} {P : Program}

theorem take_take_len {α : Type} (l : List α) (c : Nat) : l.take (l.take c).length = l.take c := by
  rw [List.length_take]
  rcases Nat.le_total c l.length with h | h
  · rw [Nat.min_eq_left h]
  · rw [Nat.min_eq_right h, List.take_of_length_le h, List.take_of_length_le (Nat.le_refl _)]

theorem flatF_ok {F : TypeId → Option (List LK)} {w : World} {base : Nat} {sp : Nat → Bool} {held : Bool} {fuel : Nat}
    (hF : ∀ t ks, F t = some ks → ∀ cs (x : DataW H × List MemPlace), DataW.trod enc P w base sp held fuel t cs = some x → x.2 = [] ∧ FitC ks cs ∧ ∀ w' b' s' h', DataW.trod enc P w' b' s' h' fuel t cs = some x) (cs : List Value) :
    ∀ (fs : List Field) (off : Nat) (ks : List LK) (xs : List (DataW H × List MemPlace)), flatF F fs off = some ks → fs.mapM (fun f => DataW.trod enc P w base sp held fuel f.type ((cs.drop f.offset).take (P.cellsOf f.type))) = some xs →
      xs.flatMap (·.2) = [] ∧ FitC ks ((cs.drop off).take ks.length) ∧ ∀ w' b' s' h', fs.mapM (fun f => DataW.trod enc P w' b' s' h' fuel f.type ((cs.drop f.offset).take (P.cellsOf f.type))) = some xs
  | [], off, ks, xs, h1, h2 => by
    simp only [flatF, Option.some.injEq] at h1
    subst h1
    simp only [List.mapM_nil, Option.pure_def, Option.some.injEq] at h2
    subst h2
    refine ⟨rfl, by simp [FitC], fun _ _ _ _ => by simp⟩
  | f :: fs, off, ks, xs, h1, h2 => by
    simp only [flatF] at h1
    split at h1
    · rename_i k1 e1 e2
      obtain ⟨k2, e3, rfl⟩ := Option.map_eq_some_iff.1 h1
      have e1 := Nat.eq_of_beq_eq_true e1
      rw [List.mapM_cons] at h2
      obtain ⟨x, h3, h2⟩ := Option.bind_eq_some_iff.1 h2
      obtain ⟨ys, h4, h2⟩ := Option.bind_eq_some_iff.1 h2
      cases h2
      obtain ⟨a1, a2, a3⟩ := hF _ _ e2 _ _ h3
      obtain ⟨b1, b2, b3⟩ := flatF_ok hF cs fs _ k2 ys e3 h4
      refine ⟨by simp [a1, b1], ?_, fun w' b' s' h' => ?_⟩
      · rw [List.length_append, List.take_add]
        refine FitC.app ?_ (by rw [List.drop_drop]; exact b2)
        have hl := FitC.len a2
        rw [e1] at a2 hl
        rw [← hl, take_take_len]
        exact a2
      · rw [List.mapM_cons, a3 w' b' s' h', b3 w' b' s' h']
        rfl
    · cases h1

theorem flatT_ok : ∀ (d : Nat) (t : TypeId) (ks : List LK), flatT P d t = some ks → ∀ (w : World) (base : Nat) (sp : Nat → Bool) (held : Bool) (fuel : Nat) (cs : List Value) (x : DataW H × List MemPlace), DataW.trod enc P w base sp held fuel t cs = some x →
    x.2 = [] ∧ FitC ks cs ∧ ∀ w' b' s' h', DataW.trod enc P w' b' s' h' fuel t cs = some x
  | 0, _, _, h => by cases h
  | d + 1, t, ks, h => by
    intro w base sp held fuel cs x hx
    simp only [flatT] at h
    split at h
    · rename_i k e
      cases h
      obtain ⟨n, rfl, rfl, hw⟩ := DataW.trod_int e hx
      refine ⟨rfl, ⟨⟨n, rfl, hw⟩, trivial⟩, fun w' b' s' h' => ?_⟩
      cases fuel with
      | zero => simp [DataW.trod] at hx
      | succ m => simp [DataW.trod, e, hw]
    · rename_i e
      cases h
      obtain ⟨n, rfl, rfl⟩ := DataW.trod_bool e hx
      refine ⟨rfl, ⟨⟨n, rfl⟩, trivial⟩, fun w' b' s' h' => ?_⟩
      cases fuel with
      | zero => simp [DataW.trod] at hx
      | succ m => simp [DataW.trod, e]
    · rename_i fs e
      split at h
      · rename_i k2 e2
        split at h
        · rename_i e3
          cases h
          have e3 := Nat.eq_of_beq_eq_true e3
          cases fuel with
          | zero => simp [DataW.trod] at hx
          | succ m =>
            simp only [DataW.trod, e] at hx
            split at hx
            · rename_i hl
              obtain ⟨xs, h5, rfl⟩ := Option.map_eq_some_iff.1 hx
              obtain ⟨a1, a2, a3⟩ := flatF_ok (fun t ks h cs x hx => flatT_ok d t ks h w base sp held m cs x hx) cs fs.toList 0 ks xs e2 h5
              rw [List.drop_zero, List.take_of_length_le (by omega)] at a2
              refine ⟨a1, a2, fun w' b' s' h' => ?_⟩
              simp only [DataW.trod, e, hl, if_true]
              rw [a3 w' b' s' h']
              rfl
            · cases hx
        · cases h
      · cases h
    · cases h

theorem open_flat {w : World} {r : Reach} {b0 base : Nat} {sp : Nat → Bool} {held : Bool} {t : TypeId} {sk : SK} {v : Value} {d : DataW H} {ps : List MemPlace} (h : skT P t = some sk) (hval : Value.okWide P w r b0 t v) (hd : DataW.Trod enc P w base sp held t v d ps) :
    ∃ x : S0, v = x.val ∧ x.is sk = true ∧ x.good ∧ FitL (skKs sk) (x.cells.map SL.lf) ∧ ps = [] ∧ ∀ w' b' s' h', DataW.Trod enc P w' b' s' h' t v d [] := by
  unfold skT at h
  split at h
  · rename_i k e
    cases h
    obtain ⟨n, rfl, rfl, rfl, hw⟩ := open_int e hval hd
    refine ⟨.leaf (.i k n), rfl, by simp [S0.is, SL.is, kSame_self], fun x hx => ?_, ⟨hw, trivial⟩, rfl, fun w' b' s' h' => shut_int e hw⟩
    simp only [S0.cells, List.mem_singleton] at hx
    subst hx; trivial
  · rename_i e
    cases h
    obtain ⟨n, rfl, rfl, rfl⟩ := open_bool e hval hd
    refine ⟨.leaf (.b n), rfl, rfl, fun x hx => ?_, trivial, rfl, fun w' b' s' h' => shut_bool e n⟩
    simp only [S0.cells, List.mem_singleton] at hx
    subst hx; trivial
  · rename_i fs e
    obtain ⟨ks, e2, rfl⟩ := Option.map_eq_some_iff.1 h
    obtain ⟨cs, rfl, hc⟩ := okWide_struct e hval
    obtain ⟨fuel, hf⟩ := hd
    obtain ⟨a1, a2, a3⟩ := flatT_ok 20 t ks e2 w base sp held fuel _ _ hf
    obtain ⟨xs, b1, b2, b3, b4⟩ := FitC.sl a2
    have a1 : ps = [] := a1
    subst a1
    refine ⟨.agg xs, ?_, b2, b3, b4, rfl, fun w' b' s' h' => ⟨fuel, a3 w' b' s' h'⟩⟩
    show Value.agg cs = .agg ⟨xs.map SL.val⟩
    rw [b1]
    rfl
  · cases h

def skTs (P : Program) : List TypeId → Option (List SK)
  | [] => some []
  | t :: ts => match skT P t, skTs P ts with
    | some k, some ks => some (k :: ks)
    | _, _ => none

theorem open_args {w : World} {b0 base : Nat} {r : Reach} {sp : Nat → Bool} {held : Bool} : ∀ (ts : List TypeId) (sks : List SK) (vs : List Value) (ds : List (DataW H)) (ps : List MemPlace), skTs P ts = some sks →
    (∀ (j : Nat) t v, ts[j]? = some t → vs[j]? = some v → Value.okWide P w r b0 t v) → DataW.TrodAll enc P w base sp held ts vs ds ps →
    ∃ xs : List S0, vs = valsOf xs ∧ areIs xs sks = true ∧ (∀ x ∈ xs, x.good) ∧ FitL (sks.flatMap skKs) (lfsOf xs) ∧ ps = [] ∧ ∀ w' b' s' h', DataW.TrodAll enc P w' b' s' h' ts vs ds []
  | [], sks, [], [], ps, h, _, ht => by
    cases h
    have ht : ps = [] := ht
    exact ⟨[], rfl, rfl, fun _ h => (by cases h), trivial, ht, fun _ _ _ _ => rfl⟩
  | t :: ts, sks, v :: vs, d :: ds, ps, h, hv, ht => by
    simp only [skTs] at h
    split at h
    · rename_i k ks e1 e2
      cases h
      obtain ⟨p, q, h1, h2, rfl⟩ := ht
      obtain ⟨x, a1, a2, a3, a4, rfl, a6⟩ := open_flat e1 (hv 0 t v rfl rfl) h1
      obtain ⟨xs, b1, b2, b3, b4, rfl, b6⟩ := open_args ts ks vs ds q e2 (fun j t v h1 h2 => hv (j + 1) t v h1 h2) h2
      refine ⟨x :: xs, by rw [a1, b1]; rfl, by simp [areIs, a2, b2], fun y hy => ?_, ?_, rfl, fun w' b' s' h' => ⟨[], [], a6 w' b' s' h', b6 w' b' s' h', rfl⟩⟩
      · rcases List.mem_cons.1 hy with rfl | hy
        · exact a3
        · exact b3 y hy
      · exact FitL.app a4 b4
    · cases h
  | [], _, _ :: _, _, _, _, _, ht => by cases ht
  | [], _, [], _ :: _, _, _, _, ht => by cases ht
  | _ :: _, _, [], _, _, _, _, ht => by cases ht
  | _ :: _, _, _ :: _, [], _, _, _, ht => by cases ht
end

section
variable [Val]
/-- A contract, as a call. -/
theorem callok_of_ct {C : Cfg} {Sg : FuncId → Option Sig} (hm : C.P.follows .mixedOrders = true) {g : FuncId} {sg : Sig} (hs : Sg g = some sg) {ls rs : List Lf} (hc : Ct C Sg g ls rs) {xs ys : List S0} (h1 : areIs xs sg.ps = true) (h2 : lfsOf xs = ls) (h3 : areIs ys sg.rs = true) (h4 : lfsOf ys = rs) (H : List HObj) :
    CallOk C g (valsOf xs) H (packA (valsOf ys)) H := by
  let _ : Kno := KnoC C
  obtain ⟨sg', xs', ys', c1, c2, c3, c4⟩ := hc H
  rw [hs] at c1
  cases c1
  obtain ⟨w1, _⟩ := areIs_val c2.1 h1 (c2.2.1.trans h2.symm)
  obtain ⟨w2, _⟩ := areIs_val c3.1 h3 (c3.2.1.trans h4.symm)
  rw [w1, w2] at c4
  exact uCallC_ok hm c4
end
end Sx
end Go.Am
namespace Go.Am
namespace Sx
theorem FitL.i {k : IntKind} {ks : List LK} {ls : List Lf} (h : FitL (.i k :: ks) ls) : ∃ n r, ls = .i n :: r ∧ (Lit.int k n).wf = true ∧ FitL ks r := by
  match ls, h with
  | .i n :: r, h => exact ⟨n, r, rfl, h.1, h.2⟩
theorem FitL.b {ks : List LK} {ls : List Lf} (h : FitL (.b :: ks) ls) : ∃ n r, ls = .b n :: r ∧ FitL ks r := by
  match ls, h with
  | .b n :: r, h => exact ⟨n, r, rfl, h⟩
theorem FitL.nil {ls : List Lf} (h : FitL [] ls) : ls = [] := by
  match ls, h with
  | [], _ => rfl
theorem wf_i64 {n : Int} (h : (Lit.int .i64 n).wf = true) : -9223372036854775808 ≤ n ∧ n ≤ 9223372036854775807 := by
  simp only [Lit.wf, Bool.and_eq_true, decide_eq_true_eq] at h
  exact h
theorem wf_u8 {n : Int} (h : (Lit.int .u8 n).wf = true) : 0 ≤ n ∧ n ≤ 255 := by
  simp only [Lit.wf, Bool.and_eq_true, decide_eq_true_eq] at h
  exact h
theorem wf_i8 {n : Int} (h : (Lit.int .i8 n).wf = true) : -128 ≤ n ∧ n ≤ 127 := by
  simp only [Lit.wf, Bool.and_eq_true, decide_eq_true_eq] at h
  exact h
theorem trodAll_len {H : Type} {enc : TypeId × Value → H} {P : Program} {w : World} {base : Nat} {sp : Nat → Bool} {held : Bool} : ∀ {ts : List TypeId} {vs : List Value} {ds : List (DataW H)} {ps : List MemPlace}, DataW.TrodAll enc P w base sp held ts vs ds ps → ds.length = ts.length
  | [], [], [], _, _ => rfl
  | _ :: _, _ :: _, _ :: _, _, h => by
    obtain ⟨p, q, _, h2, _⟩ := h
    simp [trodAll_len h2]
  | [], _ :: _, _, _, h => by cases h
  | [], [], _ :: _, _, h => by cases h
  | _ :: _, [], _, _, h => by cases h
  | _ :: _, _ :: _, [], _, h => by cases h
end Sx
end Go.Am

/-
  WHAT THE ROW SAYS OF THE LISTED VARIABLES: both tables.
-/
set_option maxRecDepth 100000
namespace Go.Proofs.YtdngmncaohgacaaDoor
open Go Go.Am Go.Am.Sx
open Go.ChangeShapes Go.WideShapes Go.ChangeAt Go.WideMaps Go.WideElems Go.RowKit

abbrev laidC : List (String × DataW Unit) := [("crimp/moves.turns", Rows.laid_crimp_moves_turns), ("crimp/cells.quarters", Rows.laid_crimp_cells_quarters)]
theorem name0 : Tryd.prog.globalNamed "crimp/cells.quarters" = some 0 := by kernel_rfl
theorem name1 : Tryd.prog.globalNamed "crimp/moves.turns" = some 1 := by kernel_rfl
/-- What the list gives. -/
theorem of_laid {W : World} (h : laidMetH Tryd.prog laidC W) (g : Nat) (vs : List Value) (hg : cc.G g = some vs) :
    g < W.heap.size ∧ vs.all cellOk = true ∧ vs.all flat = true ∧ ∃ c e fr, W.heap[g]? = some (.cells c e fr) ∧ c.toList = vs := by
  rw [MakeChecks.laidMetH_plain _ _ _ (by kernel_rfl)] at h
  obtain ⟨ps, h, _, _⟩ := h
  have main : ∃ c e fr, W.heap[g]? = some (.cells c e fr) ∧ c.toList = vs := by
    unfold cc at hg
    simp only at hg
    split at hg
    · cases hg
      exact laid_cells h "crimp/cells.quarters" Rows.laid_crimp_cells_quarters (List.mem_cons_of_mem _ List.mem_cons_self) 0 137 8 gl0 name0 (by kernel_rfl) (by kernel_rfl)
    · cases hg
      exact laid_cells h "crimp/moves.turns" Rows.laid_crimp_moves_turns List.mem_cons_self 1 154 8 gl1 name1 (by kernel_rfl) (by kernel_rfl)
    · cases hg
  refine ⟨?_, gl_cell g vs hg, gl_flat g vs hg, main⟩
  obtain ⟨c, e, fr, h1, _⟩ := main
  rcases Nat.lt_or_ge g W.heap.size with h | h
  · exact h
  · rw [Array.getElem?_eq_none h] at h1; cases h1
theorem own : ownKnob Tryd.prog.godebug = none := by kernel_rfl
theorem door_met (os : Os) (args : Array Value) : laidMetH Tryd.prog laidC ((World.doorLaid Tryd.prog 400 os).forCall (fun _ _ => 0) ⟨#[], args, []⟩).memory :=
  laidMetH_of_parts3 (fuel := 8) (laidMet_of_run' 8 (by kernel_rfl) (by kernel_rfl)) (by kernel_rfl) (by kernel_rfl)
end Go.Proofs.YtdngmncaohgacaaDoor

