/-
  PART 6 OF THE PROOF: D3 Lv Lv5 Cd1 St1 D2 (no conditions).
-/
import Derived.Test.YtdngmncaohgacaaDoorSN5
set_option linter.unusedSectionVars false
set_option linter.unusedSimpArgs false
set_option linter.unusedVariables false
set_option linter.constructorNameAsVariable false
set_option linter.defProp false
/-
  CONTRACTS, BY PROGRAM: neighbours within a sheet.
-/
set_option maxRecDepth 100000
set_option maxHeartbeats 4000000
namespace Go.Am
open Sx Go.Proofs
theorem shId10 {v x y : Int} (h : (1 ≤ v ∧ v ≤ 5) ∧ 0 ≤ x ∧ x < 1 ∧ 0 ≤ y ∧ y < v) : Cc 36 [.i 1, .i v, .i x, .i y, .i 0] [.i (4 * (y * 1 + x) + 0), .i 0] := by
  refine q36 rfl ?_; unfold p36
  repeat (first | simp (disch := omega) only [↓qxs, ↓qxc, ↓qxa, ↓qxb] | refine p_call (shCheck_ok (by omega)) ?_ | refine p_call (cellCheck_ok (by omega)) ?_)
  (try simp only [List.cons.injEq, Lf.i.injEq, and_true, true_and]); (try omega)
theorem rId10 {v x y : Int} (h : (1 ≤ v ∧ v ≤ 5) ∧ 0 ≤ x ∧ x < 1 ∧ 0 ≤ y ∧ y < v) : Cc 38 [.i 1, .i v, .i x, .i y, .i 0] [.i (4 * (y * 1 + x) + 0)] := by
  refine q38 rfl ?_; unfold p38
  repeat (first | simp (disch := omega) only [↓qxs, ↓qxc, ↓qxa, ↓qxb])
  (try simp only [List.cons.injEq, Lf.i.injEq, and_true, true_and]); (try omega)
theorem shId11 {v x y : Int} (h : (1 ≤ v ∧ v ≤ 5) ∧ 0 ≤ x ∧ x < 1 ∧ 0 ≤ y ∧ y < v) : Cc 36 [.i 1, .i v, .i x, .i y, .i 1] [.i (4 * (y * 1 + x) + 1), .i 0] := by
  refine q36 rfl ?_; unfold p36
  repeat (first | simp (disch := omega) only [↓qxs, ↓qxc, ↓qxa, ↓qxb] | refine p_call (shCheck_ok (by omega)) ?_ | refine p_call (cellCheck_ok (by omega)) ?_)
  (try simp only [List.cons.injEq, Lf.i.injEq, and_true, true_and]); (try omega)
theorem rId11 {v x y : Int} (h : (1 ≤ v ∧ v ≤ 5) ∧ 0 ≤ x ∧ x < 1 ∧ 0 ≤ y ∧ y < v) : Cc 38 [.i 1, .i v, .i x, .i y, .i 1] [.i (4 * (y * 1 + x) + 1)] := by
  refine q38 rfl ?_; unfold p38
  repeat (first | simp (disch := omega) only [↓qxs, ↓qxc, ↓qxa, ↓qxb])
  (try simp only [List.cons.injEq, Lf.i.injEq, and_true, true_and]); (try omega)
theorem shId12 {v x y : Int} (h : (1 ≤ v ∧ v ≤ 5) ∧ 0 ≤ x ∧ x < 1 ∧ 0 ≤ y ∧ y < v) : Cc 36 [.i 1, .i v, .i x, .i y, .i 2] [.i (4 * (y * 1 + x) + 2), .i 0] := by
  refine q36 rfl ?_; unfold p36
  repeat (first | simp (disch := omega) only [↓qxs, ↓qxc, ↓qxa, ↓qxb] | refine p_call (shCheck_ok (by omega)) ?_ | refine p_call (cellCheck_ok (by omega)) ?_)
  (try simp only [List.cons.injEq, Lf.i.injEq, and_true, true_and]); (try omega)
theorem rId12 {v x y : Int} (h : (1 ≤ v ∧ v ≤ 5) ∧ 0 ≤ x ∧ x < 1 ∧ 0 ≤ y ∧ y < v) : Cc 38 [.i 1, .i v, .i x, .i y, .i 2] [.i (4 * (y * 1 + x) + 2)] := by
  refine q38 rfl ?_; unfold p38
  repeat (first | simp (disch := omega) only [↓qxs, ↓qxc, ↓qxa, ↓qxb])
  (try simp only [List.cons.injEq, Lf.i.injEq, and_true, true_and]); (try omega)
theorem shId13 {v x y : Int} (h : (1 ≤ v ∧ v ≤ 5) ∧ 0 ≤ x ∧ x < 1 ∧ 0 ≤ y ∧ y < v) : Cc 36 [.i 1, .i v, .i x, .i y, .i 3] [.i (4 * (y * 1 + x) + 3), .i 0] := by
  refine q36 rfl ?_; unfold p36
  repeat (first | simp (disch := omega) only [↓qxs, ↓qxc, ↓qxa, ↓qxb] | refine p_call (shCheck_ok (by omega)) ?_ | refine p_call (cellCheck_ok (by omega)) ?_)
  (try simp only [List.cons.injEq, Lf.i.injEq, and_true, true_and]); (try omega)
theorem rId13 {v x y : Int} (h : (1 ≤ v ∧ v ≤ 5) ∧ 0 ≤ x ∧ x < 1 ∧ 0 ≤ y ∧ y < v) : Cc 38 [.i 1, .i v, .i x, .i y, .i 3] [.i (4 * (y * 1 + x) + 3)] := by
  refine q38 rfl ?_; unfold p38
  repeat (first | simp (disch := omega) only [↓qxs, ↓qxc, ↓qxa, ↓qxb])
  (try simp only [List.cons.injEq, Lf.i.injEq, and_true, true_and]); (try omega)
theorem shId20 {v x y : Int} (h : (1 ≤ v ∧ v ≤ 5) ∧ 0 ≤ x ∧ x < 2 ∧ 0 ≤ y ∧ y < v) : Cc 36 [.i 2, .i v, .i x, .i y, .i 0] [.i (4 * (y * 2 + x) + 0), .i 0] := by
  refine q36 rfl ?_; unfold p36
  repeat (first | simp (disch := omega) only [↓qxs, ↓qxc, ↓qxa, ↓qxb] | refine p_call (shCheck_ok (by omega)) ?_ | refine p_call (cellCheck_ok (by omega)) ?_)
  (try simp only [List.cons.injEq, Lf.i.injEq, and_true, true_and]); (try omega)
theorem rId20 {v x y : Int} (h : (1 ≤ v ∧ v ≤ 5) ∧ 0 ≤ x ∧ x < 2 ∧ 0 ≤ y ∧ y < v) : Cc 38 [.i 2, .i v, .i x, .i y, .i 0] [.i (4 * (y * 2 + x) + 0)] := by
  refine q38 rfl ?_; unfold p38
  repeat (first | simp (disch := omega) only [↓qxs, ↓qxc, ↓qxa, ↓qxb])
  (try simp only [List.cons.injEq, Lf.i.injEq, and_true, true_and]); (try omega)
theorem shId21 {v x y : Int} (h : (1 ≤ v ∧ v ≤ 5) ∧ 0 ≤ x ∧ x < 2 ∧ 0 ≤ y ∧ y < v) : Cc 36 [.i 2, .i v, .i x, .i y, .i 1] [.i (4 * (y * 2 + x) + 1), .i 0] := by
  refine q36 rfl ?_; unfold p36
  repeat (first | simp (disch := omega) only [↓qxs, ↓qxc, ↓qxa, ↓qxb] | refine p_call (shCheck_ok (by omega)) ?_ | refine p_call (cellCheck_ok (by omega)) ?_)
  (try simp only [List.cons.injEq, Lf.i.injEq, and_true, true_and]); (try omega)
theorem rId21 {v x y : Int} (h : (1 ≤ v ∧ v ≤ 5) ∧ 0 ≤ x ∧ x < 2 ∧ 0 ≤ y ∧ y < v) : Cc 38 [.i 2, .i v, .i x, .i y, .i 1] [.i (4 * (y * 2 + x) + 1)] := by
  refine q38 rfl ?_; unfold p38
  repeat (first | simp (disch := omega) only [↓qxs, ↓qxc, ↓qxa, ↓qxb])
  (try simp only [List.cons.injEq, Lf.i.injEq, and_true, true_and]); (try omega)
theorem shId22 {v x y : Int} (h : (1 ≤ v ∧ v ≤ 5) ∧ 0 ≤ x ∧ x < 2 ∧ 0 ≤ y ∧ y < v) : Cc 36 [.i 2, .i v, .i x, .i y, .i 2] [.i (4 * (y * 2 + x) + 2), .i 0] := by
  refine q36 rfl ?_; unfold p36
  repeat (first | simp (disch := omega) only [↓qxs, ↓qxc, ↓qxa, ↓qxb] | refine p_call (shCheck_ok (by omega)) ?_ | refine p_call (cellCheck_ok (by omega)) ?_)
  (try simp only [List.cons.injEq, Lf.i.injEq, and_true, true_and]); (try omega)
theorem rId22 {v x y : Int} (h : (1 ≤ v ∧ v ≤ 5) ∧ 0 ≤ x ∧ x < 2 ∧ 0 ≤ y ∧ y < v) : Cc 38 [.i 2, .i v, .i x, .i y, .i 2] [.i (4 * (y * 2 + x) + 2)] := by
  refine q38 rfl ?_; unfold p38
  repeat (first | simp (disch := omega) only [↓qxs, ↓qxc, ↓qxa, ↓qxb])
  (try simp only [List.cons.injEq, Lf.i.injEq, and_true, true_and]); (try omega)
theorem shId23 {v x y : Int} (h : (1 ≤ v ∧ v ≤ 5) ∧ 0 ≤ x ∧ x < 2 ∧ 0 ≤ y ∧ y < v) : Cc 36 [.i 2, .i v, .i x, .i y, .i 3] [.i (4 * (y * 2 + x) + 3), .i 0] := by
  refine q36 rfl ?_; unfold p36
  repeat (first | simp (disch := omega) only [↓qxs, ↓qxc, ↓qxa, ↓qxb] | refine p_call (shCheck_ok (by omega)) ?_ | refine p_call (cellCheck_ok (by omega)) ?_)
  (try simp only [List.cons.injEq, Lf.i.injEq, and_true, true_and]); (try omega)
theorem rId23 {v x y : Int} (h : (1 ≤ v ∧ v ≤ 5) ∧ 0 ≤ x ∧ x < 2 ∧ 0 ≤ y ∧ y < v) : Cc 38 [.i 2, .i v, .i x, .i y, .i 3] [.i (4 * (y * 2 + x) + 3)] := by
  refine q38 rfl ?_; unfold p38
  repeat (first | simp (disch := omega) only [↓qxs, ↓qxc, ↓qxa, ↓qxb])
  (try simp only [List.cons.injEq, Lf.i.injEq, and_true, true_and]); (try omega)
theorem shId30 {v x y : Int} (h : (1 ≤ v ∧ v ≤ 5) ∧ 0 ≤ x ∧ x < 3 ∧ 0 ≤ y ∧ y < v) : Cc 36 [.i 3, .i v, .i x, .i y, .i 0] [.i (4 * (y * 3 + x) + 0), .i 0] := by
  refine q36 rfl ?_; unfold p36
  repeat (first | simp (disch := omega) only [↓qxs, ↓qxc, ↓qxa, ↓qxb] | refine p_call (shCheck_ok (by omega)) ?_ | refine p_call (cellCheck_ok (by omega)) ?_)
  (try simp only [List.cons.injEq, Lf.i.injEq, and_true, true_and]); (try omega)
theorem rId30 {v x y : Int} (h : (1 ≤ v ∧ v ≤ 5) ∧ 0 ≤ x ∧ x < 3 ∧ 0 ≤ y ∧ y < v) : Cc 38 [.i 3, .i v, .i x, .i y, .i 0] [.i (4 * (y * 3 + x) + 0)] := by
  refine q38 rfl ?_; unfold p38
  repeat (first | simp (disch := omega) only [↓qxs, ↓qxc, ↓qxa, ↓qxb])
  (try simp only [List.cons.injEq, Lf.i.injEq, and_true, true_and]); (try omega)
theorem shId31 {v x y : Int} (h : (1 ≤ v ∧ v ≤ 5) ∧ 0 ≤ x ∧ x < 3 ∧ 0 ≤ y ∧ y < v) : Cc 36 [.i 3, .i v, .i x, .i y, .i 1] [.i (4 * (y * 3 + x) + 1), .i 0] := by
  refine q36 rfl ?_; unfold p36
  repeat (first | simp (disch := omega) only [↓qxs, ↓qxc, ↓qxa, ↓qxb] | refine p_call (shCheck_ok (by omega)) ?_ | refine p_call (cellCheck_ok (by omega)) ?_)
  (try simp only [List.cons.injEq, Lf.i.injEq, and_true, true_and]); (try omega)
theorem rId31 {v x y : Int} (h : (1 ≤ v ∧ v ≤ 5) ∧ 0 ≤ x ∧ x < 3 ∧ 0 ≤ y ∧ y < v) : Cc 38 [.i 3, .i v, .i x, .i y, .i 1] [.i (4 * (y * 3 + x) + 1)] := by
  refine q38 rfl ?_; unfold p38
  repeat (first | simp (disch := omega) only [↓qxs, ↓qxc, ↓qxa, ↓qxb])
  (try simp only [List.cons.injEq, Lf.i.injEq, and_true, true_and]); (try omega)
theorem shId32 {v x y : Int} (h : (1 ≤ v ∧ v ≤ 5) ∧ 0 ≤ x ∧ x < 3 ∧ 0 ≤ y ∧ y < v) : Cc 36 [.i 3, .i v, .i x, .i y, .i 2] [.i (4 * (y * 3 + x) + 2), .i 0] := by
  refine q36 rfl ?_; unfold p36
  repeat (first | simp (disch := omega) only [↓qxs, ↓qxc, ↓qxa, ↓qxb] | refine p_call (shCheck_ok (by omega)) ?_ | refine p_call (cellCheck_ok (by omega)) ?_)
  (try simp only [List.cons.injEq, Lf.i.injEq, and_true, true_and]); (try omega)
theorem rId32 {v x y : Int} (h : (1 ≤ v ∧ v ≤ 5) ∧ 0 ≤ x ∧ x < 3 ∧ 0 ≤ y ∧ y < v) : Cc 38 [.i 3, .i v, .i x, .i y, .i 2] [.i (4 * (y * 3 + x) + 2)] := by
  refine q38 rfl ?_; unfold p38
  repeat (first | simp (disch := omega) only [↓qxs, ↓qxc, ↓qxa, ↓qxb])
  (try simp only [List.cons.injEq, Lf.i.injEq, and_true, true_and]); (try omega)
theorem shId33 {v x y : Int} (h : (1 ≤ v ∧ v ≤ 5) ∧ 0 ≤ x ∧ x < 3 ∧ 0 ≤ y ∧ y < v) : Cc 36 [.i 3, .i v, .i x, .i y, .i 3] [.i (4 * (y * 3 + x) + 3), .i 0] := by
  refine q36 rfl ?_; unfold p36
  repeat (first | simp (disch := omega) only [↓qxs, ↓qxc, ↓qxa, ↓qxb] | refine p_call (shCheck_ok (by omega)) ?_ | refine p_call (cellCheck_ok (by omega)) ?_)
  (try simp only [List.cons.injEq, Lf.i.injEq, and_true, true_and]); (try omega)
theorem rId33 {v x y : Int} (h : (1 ≤ v ∧ v ≤ 5) ∧ 0 ≤ x ∧ x < 3 ∧ 0 ≤ y ∧ y < v) : Cc 38 [.i 3, .i v, .i x, .i y, .i 3] [.i (4 * (y * 3 + x) + 3)] := by
  refine q38 rfl ?_; unfold p38
  repeat (first | simp (disch := omega) only [↓qxs, ↓qxc, ↓qxa, ↓qxb])
  (try simp only [List.cons.injEq, Lf.i.injEq, and_true, true_and]); (try omega)
theorem shId40 {v x y : Int} (h : (1 ≤ v ∧ v ≤ 5) ∧ 0 ≤ x ∧ x < 4 ∧ 0 ≤ y ∧ y < v) : Cc 36 [.i 4, .i v, .i x, .i y, .i 0] [.i (4 * (y * 4 + x) + 0), .i 0] := by
  refine q36 rfl ?_; unfold p36
  repeat (first | simp (disch := omega) only [↓qxs, ↓qxc, ↓qxa, ↓qxb] | refine p_call (shCheck_ok (by omega)) ?_ | refine p_call (cellCheck_ok (by omega)) ?_)
  (try simp only [List.cons.injEq, Lf.i.injEq, and_true, true_and]); (try omega)
theorem rId40 {v x y : Int} (h : (1 ≤ v ∧ v ≤ 5) ∧ 0 ≤ x ∧ x < 4 ∧ 0 ≤ y ∧ y < v) : Cc 38 [.i 4, .i v, .i x, .i y, .i 0] [.i (4 * (y * 4 + x) + 0)] := by
  refine q38 rfl ?_; unfold p38
  repeat (first | simp (disch := omega) only [↓qxs, ↓qxc, ↓qxa, ↓qxb])
  (try simp only [List.cons.injEq, Lf.i.injEq, and_true, true_and]); (try omega)
theorem shId41 {v x y : Int} (h : (1 ≤ v ∧ v ≤ 5) ∧ 0 ≤ x ∧ x < 4 ∧ 0 ≤ y ∧ y < v) : Cc 36 [.i 4, .i v, .i x, .i y, .i 1] [.i (4 * (y * 4 + x) + 1), .i 0] := by
  refine q36 rfl ?_; unfold p36
  repeat (first | simp (disch := omega) only [↓qxs, ↓qxc, ↓qxa, ↓qxb] | refine p_call (shCheck_ok (by omega)) ?_ | refine p_call (cellCheck_ok (by omega)) ?_)
  (try simp only [List.cons.injEq, Lf.i.injEq, and_true, true_and]); (try omega)
theorem rId41 {v x y : Int} (h : (1 ≤ v ∧ v ≤ 5) ∧ 0 ≤ x ∧ x < 4 ∧ 0 ≤ y ∧ y < v) : Cc 38 [.i 4, .i v, .i x, .i y, .i 1] [.i (4 * (y * 4 + x) + 1)] := by
  refine q38 rfl ?_; unfold p38
  repeat (first | simp (disch := omega) only [↓qxs, ↓qxc, ↓qxa, ↓qxb])
  (try simp only [List.cons.injEq, Lf.i.injEq, and_true, true_and]); (try omega)
theorem shId42 {v x y : Int} (h : (1 ≤ v ∧ v ≤ 5) ∧ 0 ≤ x ∧ x < 4 ∧ 0 ≤ y ∧ y < v) : Cc 36 [.i 4, .i v, .i x, .i y, .i 2] [.i (4 * (y * 4 + x) + 2), .i 0] := by
  refine q36 rfl ?_; unfold p36
  repeat (first | simp (disch := omega) only [↓qxs, ↓qxc, ↓qxa, ↓qxb] | refine p_call (shCheck_ok (by omega)) ?_ | refine p_call (cellCheck_ok (by omega)) ?_)
  (try simp only [List.cons.injEq, Lf.i.injEq, and_true, true_and]); (try omega)
theorem rId42 {v x y : Int} (h : (1 ≤ v ∧ v ≤ 5) ∧ 0 ≤ x ∧ x < 4 ∧ 0 ≤ y ∧ y < v) : Cc 38 [.i 4, .i v, .i x, .i y, .i 2] [.i (4 * (y * 4 + x) + 2)] := by
  refine q38 rfl ?_; unfold p38
  repeat (first | simp (disch := omega) only [↓qxs, ↓qxc, ↓qxa, ↓qxb])
  (try simp only [List.cons.injEq, Lf.i.injEq, and_true, true_and]); (try omega)
theorem shId43 {v x y : Int} (h : (1 ≤ v ∧ v ≤ 5) ∧ 0 ≤ x ∧ x < 4 ∧ 0 ≤ y ∧ y < v) : Cc 36 [.i 4, .i v, .i x, .i y, .i 3] [.i (4 * (y * 4 + x) + 3), .i 0] := by
  refine q36 rfl ?_; unfold p36
  repeat (first | simp (disch := omega) only [↓qxs, ↓qxc, ↓qxa, ↓qxb] | refine p_call (shCheck_ok (by omega)) ?_ | refine p_call (cellCheck_ok (by omega)) ?_)
  (try simp only [List.cons.injEq, Lf.i.injEq, and_true, true_and]); (try omega)
theorem rId43 {v x y : Int} (h : (1 ≤ v ∧ v ≤ 5) ∧ 0 ≤ x ∧ x < 4 ∧ 0 ≤ y ∧ y < v) : Cc 38 [.i 4, .i v, .i x, .i y, .i 3] [.i (4 * (y * 4 + x) + 3)] := by
  refine q38 rfl ?_; unfold p38
  repeat (first | simp (disch := omega) only [↓qxs, ↓qxc, ↓qxa, ↓qxb])
  (try simp only [List.cons.injEq, Lf.i.injEq, and_true, true_and]); (try omega)
theorem shId50 {v x y : Int} (h : (1 ≤ v ∧ v ≤ 5) ∧ 0 ≤ x ∧ x < 5 ∧ 0 ≤ y ∧ y < v) : Cc 36 [.i 5, .i v, .i x, .i y, .i 0] [.i (4 * (y * 5 + x) + 0), .i 0] := by
  refine q36 rfl ?_; unfold p36
  repeat (first | simp (disch := omega) only [↓qxs, ↓qxc, ↓qxa, ↓qxb] | refine p_call (shCheck_ok (by omega)) ?_ | refine p_call (cellCheck_ok (by omega)) ?_)
  (try simp only [List.cons.injEq, Lf.i.injEq, and_true, true_and]); (try omega)
theorem rId50 {v x y : Int} (h : (1 ≤ v ∧ v ≤ 5) ∧ 0 ≤ x ∧ x < 5 ∧ 0 ≤ y ∧ y < v) : Cc 38 [.i 5, .i v, .i x, .i y, .i 0] [.i (4 * (y * 5 + x) + 0)] := by
  refine q38 rfl ?_; unfold p38
  repeat (first | simp (disch := omega) only [↓qxs, ↓qxc, ↓qxa, ↓qxb])
  (try simp only [List.cons.injEq, Lf.i.injEq, and_true, true_and]); (try omega)
theorem shId51 {v x y : Int} (h : (1 ≤ v ∧ v ≤ 5) ∧ 0 ≤ x ∧ x < 5 ∧ 0 ≤ y ∧ y < v) : Cc 36 [.i 5, .i v, .i x, .i y, .i 1] [.i (4 * (y * 5 + x) + 1), .i 0] := by
  refine q36 rfl ?_; unfold p36
  repeat (first | simp (disch := omega) only [↓qxs, ↓qxc, ↓qxa, ↓qxb] | refine p_call (shCheck_ok (by omega)) ?_ | refine p_call (cellCheck_ok (by omega)) ?_)
  (try simp only [List.cons.injEq, Lf.i.injEq, and_true, true_and]); (try omega)
theorem rId51 {v x y : Int} (h : (1 ≤ v ∧ v ≤ 5) ∧ 0 ≤ x ∧ x < 5 ∧ 0 ≤ y ∧ y < v) : Cc 38 [.i 5, .i v, .i x, .i y, .i 1] [.i (4 * (y * 5 + x) + 1)] := by
  refine q38 rfl ?_; unfold p38
  repeat (first | simp (disch := omega) only [↓qxs, ↓qxc, ↓qxa, ↓qxb])
  (try simp only [List.cons.injEq, Lf.i.injEq, and_true, true_and]); (try omega)
theorem shId52 {v x y : Int} (h : (1 ≤ v ∧ v ≤ 5) ∧ 0 ≤ x ∧ x < 5 ∧ 0 ≤ y ∧ y < v) : Cc 36 [.i 5, .i v, .i x, .i y, .i 2] [.i (4 * (y * 5 + x) + 2), .i 0] := by
  refine q36 rfl ?_; unfold p36
  repeat (first | simp (disch := omega) only [↓qxs, ↓qxc, ↓qxa, ↓qxb] | refine p_call (shCheck_ok (by omega)) ?_ | refine p_call (cellCheck_ok (by omega)) ?_)
  (try simp only [List.cons.injEq, Lf.i.injEq, and_true, true_and]); (try omega)
theorem rId52 {v x y : Int} (h : (1 ≤ v ∧ v ≤ 5) ∧ 0 ≤ x ∧ x < 5 ∧ 0 ≤ y ∧ y < v) : Cc 38 [.i 5, .i v, .i x, .i y, .i 2] [.i (4 * (y * 5 + x) + 2)] := by
  refine q38 rfl ?_; unfold p38
  repeat (first | simp (disch := omega) only [↓qxs, ↓qxc, ↓qxa, ↓qxb])
  (try simp only [List.cons.injEq, Lf.i.injEq, and_true, true_and]); (try omega)
theorem shId53 {v x y : Int} (h : (1 ≤ v ∧ v ≤ 5) ∧ 0 ≤ x ∧ x < 5 ∧ 0 ≤ y ∧ y < v) : Cc 36 [.i 5, .i v, .i x, .i y, .i 3] [.i (4 * (y * 5 + x) + 3), .i 0] := by
  refine q36 rfl ?_; unfold p36
  repeat (first | simp (disch := omega) only [↓qxs, ↓qxc, ↓qxa, ↓qxb] | refine p_call (shCheck_ok (by omega)) ?_ | refine p_call (cellCheck_ok (by omega)) ?_)
  (try simp only [List.cons.injEq, Lf.i.injEq, and_true, true_and]); (try omega)
theorem rId53 {v x y : Int} (h : (1 ≤ v ∧ v ≤ 5) ∧ 0 ≤ x ∧ x < 5 ∧ 0 ≤ y ∧ y < v) : Cc 38 [.i 5, .i v, .i x, .i y, .i 3] [.i (4 * (y * 5 + x) + 3)] := by
  refine q38 rfl ?_; unfold p38
  repeat (first | simp (disch := omega) only [↓qxs, ↓qxc, ↓qxa, ↓qxb])
  (try simp only [List.cons.injEq, Lf.i.injEq, and_true, true_and]); (try omega)
theorem shIdo {w v x y q : Int} (h : (1 ≤ w ∧ w ≤ 5 ∧ 1 ≤ v ∧ v ≤ 5) ∧ ¬ (0 ≤ x ∧ x < w ∧ 0 ≤ y ∧ y < v ∧ q ≤ 3)) : Cc 36 [.i w, .i v, .i x, .i y, .i q] [.i 0, .i 7] := by
  refine q36 rfl ?_; unfold p36
  by_cases hv : -4096 ≤ x ∧ x ≤ 4096 ∧ -4096 ≤ y ∧ y ≤ 4096 ∧ q ≤ 3
  · by_cases h1 : x < 0
    · repeat (first | simp (disch := omega) only [↓qxs, ↓qxc, ↓qxa, ↓qxb] | refine p_call (shCheck_ok (by omega)) ?_ | refine p_call (cellCheck_ok (by omega)) ?_); (try simp only [List.cons.injEq, Lf.i.injEq, and_true, true_and]); (try omega)
    by_cases h2 : w ≤ x
    · repeat (first | simp (disch := omega) only [↓qxs, ↓qxc, ↓qxa, ↓qxb] | refine p_call (shCheck_ok (by omega)) ?_ | refine p_call (cellCheck_ok (by omega)) ?_); (try simp only [List.cons.injEq, Lf.i.injEq, and_true, true_and]); (try omega)
    by_cases h3 : y < 0
    · repeat (first | simp (disch := omega) only [↓qxs, ↓qxc, ↓qxa, ↓qxb] | refine p_call (shCheck_ok (by omega)) ?_ | refine p_call (cellCheck_ok (by omega)) ?_); (try simp only [List.cons.injEq, Lf.i.injEq, and_true, true_and]); (try omega)
    repeat (first | simp (disch := omega) only [↓qxs, ↓qxc, ↓qxa, ↓qxb] | refine p_call (shCheck_ok (by omega)) ?_ | refine p_call (cellCheck_ok (by omega)) ?_); (try simp only [List.cons.injEq, Lf.i.injEq, and_true, true_and]); (try omega)
  repeat (first | simp (disch := omega) only [↓qxs, ↓qxc, ↓qxa, ↓qxb] | refine p_call (shCheck_ok (by omega)) ?_ | refine p_call (cellCheck_no (by omega)) ?_); (try simp only [List.cons.injEq, Lf.i.injEq, and_true, true_and]); (try omega)
theorem rIdo {w v x y q : Int} (h : (1 ≤ w ∧ w ≤ 5 ∧ 1 ≤ v ∧ v ≤ 5) ∧ ¬ (0 ≤ x ∧ x < w ∧ 0 ≤ y ∧ y < v ∧ q ≤ 3)) : Cc 38 [.i w, .i v, .i x, .i y, .i q] [.i (-1)] := by
  refine q38 rfl ?_; unfold p38
  by_cases h0 : x < 0
  · simp (disch := omega) only [↓qxs, ↓qxc, ↓qxa]
  by_cases h1 : y < 0
  · simp (disch := omega) only [↓qxs, ↓qxc, ↓qxa]
  by_cases h2 : w ≤ x
  · simp (disch := omega) only [↓qxs, ↓qxc, ↓qxa]
  by_cases h3 : v ≤ y
  · simp (disch := omega) only [↓qxs, ↓qxc, ↓qxa]
  simp (disch := omega) only [↓qxs, ↓qxc, ↓qxa]
theorem nbi100 {v i : Int} (h : (1 ≤ v ∧ v ≤ 5) ∧ (0 ≤ i ∧ i < 4 * 1 * v) ∧ i % 4 = 0 ∧ 4 ≤ i) : Cc 18 [.i 1, .i v, .i i, .i 0] [.i (i - 2), .i 0] := by
  refine q18 rfl ?_; unfold p18
  have hq : i % 4 = 0 := by omega
  repeat (first | simp (disch := omega) only [↓qxs, ↓qxc, ↓qxa, ↓qxb, hq] | refine p_call (shCell_ok (by omega)) ?_ | refine p_call (cnb00 (by omega)) ?_ | refine p_call (shId12 (by omega)) ?_); (try simp only [List.cons.injEq, Lf.i.injEq, and_true, true_and]); (try omega)
theorem nmi100 {v i : Int} (h : (1 ≤ v ∧ v ≤ 5) ∧ (0 ≤ i ∧ i < 4 * 1 * v) ∧ i % 4 = 0 ∧ 4 ≤ i) : Cc 19 [.i 1, .i v, .i i, .i 0] [.i (i - 2), .i 0, .i 0] := by
  refine q19 rfl ?_; unfold p19
  have hq : i % 4 = 0 := by omega
  repeat (first | simp (disch := omega) only [↓qxs, ↓qxc, ↓qxa, ↓qxb] | refine p_call (nbi100 (by omega)) ?_); (try simp only [List.cons.injEq, Lf.i.injEq, and_true, true_and]); (try omega)
theorem rfi100 {v i : Int} (h : (1 ≤ v ∧ v ≤ 5) ∧ (0 ≤ i ∧ i < 4 * 1 * v) ∧ i % 4 = 0 ∧ 4 ≤ i) : Cc 20 [.i 1, .i v, .i i, .i 0] [.i (i - 2)] := by
  refine q20 rfl ?_; unfold p20
  have hq : i % 4 = 0 := by omega
  repeat (first | simp (disch := omega) only [↓qxs, ↓qxc, ↓qxa, ↓qxb, hq] | refine p_call (rnb00 (by omega)) ?_ | refine p_call (rId12 (by omega)) ?_); (try simp only [List.cons.injEq, Lf.i.injEq, and_true, true_and]); (try omega)
theorem nbo100 {v i : Int} (h : (1 ≤ v ∧ v ≤ 5) ∧ (0 ≤ i ∧ i < 4 * 1 * v) ∧ i % 4 = 0 ∧ ¬ (4 ≤ i)) : Cc 18 [.i 1, .i v, .i i, .i 0] [.i 0, .i 7] := by
  refine q18 rfl ?_; unfold p18
  have hq : i % 4 = 0 := by omega
  repeat (first | simp (disch := omega) only [↓qxs, ↓qxc, ↓qxa, ↓qxb, hq] | refine p_call (shCell_ok (by omega)) ?_ | refine p_call (cnb00 (by omega)) ?_ | refine p_call (shIdo (by omega)) ?_); (try simp only [List.cons.injEq, Lf.i.injEq, and_true, true_and]); (try omega)
theorem nmo100 {v i : Int} (h : (1 ≤ v ∧ v ≤ 5) ∧ (0 ≤ i ∧ i < 4 * 1 * v) ∧ i % 4 = 0 ∧ ¬ (4 ≤ i)) : Cc 19 [.i 1, .i v, .i i, .i 0] [.i 0, .i 0, .i 7] := by
  refine q19 rfl ?_; unfold p19
  have hq : i % 4 = 0 := by omega
  repeat (first | simp (disch := omega) only [↓qxs, ↓qxc, ↓qxa, ↓qxb] | refine p_call (nbo100 (by omega)) ?_); (try simp only [List.cons.injEq, Lf.i.injEq, and_true, true_and]); (try omega)
theorem rfo100 {v i : Int} (h : (1 ≤ v ∧ v ≤ 5) ∧ (0 ≤ i ∧ i < 4 * 1 * v) ∧ i % 4 = 0 ∧ ¬ (4 ≤ i)) : Cc 20 [.i 1, .i v, .i i, .i 0] [.i (-1)] := by
  refine q20 rfl ?_; unfold p20
  have hq : i % 4 = 0 := by omega
  repeat (first | simp (disch := omega) only [↓qxs, ↓qxc, ↓qxa, ↓qxb, hq] | refine p_call (rnb00 (by omega)) ?_ | refine p_call (rIdo (by omega)) ?_); (try simp only [List.cons.injEq, Lf.i.injEq, and_true, true_and]); (try omega)
theorem nbi101 {v i : Int} (h : (1 ≤ v ∧ v ≤ 5) ∧ (0 ≤ i ∧ i < 4 * 1 * v) ∧ i % 4 = 0) : Cc 18 [.i 1, .i v, .i i, .i 1] [.i (i + 1), .i 0] := by
  refine q18 rfl ?_; unfold p18
  have hq : i % 4 = 0 := by omega
  repeat (first | simp (disch := omega) only [↓qxs, ↓qxc, ↓qxa, ↓qxb, hq] | refine p_call (shCell_ok (by omega)) ?_ | refine p_call (cnb01 (by omega)) ?_ | refine p_call (shId11 (by omega)) ?_); (try simp only [List.cons.injEq, Lf.i.injEq, and_true, true_and]); (try omega)
theorem nmi101 {v i : Int} (h : (1 ≤ v ∧ v ≤ 5) ∧ (0 ≤ i ∧ i < 4 * 1 * v) ∧ i % 4 = 0) : Cc 19 [.i 1, .i v, .i i, .i 1] [.i i, .i 1, .i 0] := by
  refine q19 rfl ?_; unfold p19
  have hq : i % 4 = 0 := by omega
  repeat (first | simp (disch := omega) only [↓qxs, ↓qxc, ↓qxa, ↓qxb] | refine p_call (nbi101 (by omega)) ?_); (try simp only [List.cons.injEq, Lf.i.injEq, and_true, true_and]); (try omega)
theorem rfi101 {v i : Int} (h : (1 ≤ v ∧ v ≤ 5) ∧ (0 ≤ i ∧ i < 4 * 1 * v) ∧ i % 4 = 0) : Cc 20 [.i 1, .i v, .i i, .i 1] [.i (i + 1)] := by
  refine q20 rfl ?_; unfold p20
  have hq : i % 4 = 0 := by omega
  repeat (first | simp (disch := omega) only [↓qxs, ↓qxc, ↓qxa, ↓qxb, hq] | refine p_call (rnb01 (by omega)) ?_ | refine p_call (rId11 (by omega)) ?_); (try simp only [List.cons.injEq, Lf.i.injEq, and_true, true_and]); (try omega)
theorem nbi102 {v i : Int} (h : (1 ≤ v ∧ v ≤ 5) ∧ (0 ≤ i ∧ i < 4 * 1 * v) ∧ i % 4 = 0) : Cc 18 [.i 1, .i v, .i i, .i 2] [.i (i + 3), .i 0] := by
  refine q18 rfl ?_; unfold p18
  have hq : i % 4 = 0 := by omega
  repeat (first | simp (disch := omega) only [↓qxs, ↓qxc, ↓qxa, ↓qxb, hq] | refine p_call (shCell_ok (by omega)) ?_ | refine p_call (cnb02 (by omega)) ?_ | refine p_call (shId13 (by omega)) ?_); (try simp only [List.cons.injEq, Lf.i.injEq, and_true, true_and]); (try omega)
theorem nmi102 {v i : Int} (h : (1 ≤ v ∧ v ≤ 5) ∧ (0 ≤ i ∧ i < 4 * 1 * v) ∧ i % 4 = 0) : Cc 19 [.i 1, .i v, .i i, .i 2] [.i i, .i 2, .i 0] := by
  refine q19 rfl ?_; unfold p19
  have hq : i % 4 = 0 := by omega
  repeat (first | simp (disch := omega) only [↓qxs, ↓qxc, ↓qxa, ↓qxb] | refine p_call (nbi102 (by omega)) ?_); (try simp only [List.cons.injEq, Lf.i.injEq, and_true, true_and]); (try omega)
theorem rfi102 {v i : Int} (h : (1 ≤ v ∧ v ≤ 5) ∧ (0 ≤ i ∧ i < 4 * 1 * v) ∧ i % 4 = 0) : Cc 20 [.i 1, .i v, .i i, .i 2] [.i (i + 3)] := by
  refine q20 rfl ?_; unfold p20
  have hq : i % 4 = 0 := by omega
  repeat (first | simp (disch := omega) only [↓qxs, ↓qxc, ↓qxa, ↓qxb, hq] | refine p_call (rnb02 (by omega)) ?_ | refine p_call (rId13 (by omega)) ?_); (try simp only [List.cons.injEq, Lf.i.injEq, and_true, true_and]); (try omega)
theorem nbi110 {v i : Int} (h : (1 ≤ v ∧ v ≤ 5) ∧ (0 ≤ i ∧ i < 4 * 1 * v) ∧ i % 4 = 1 ∧ i / 4 % 1 + 1 < 1) : Cc 18 [.i 1, .i v, .i i, .i 0] [.i (i + 6), .i 0] := by
  refine q18 rfl ?_; unfold p18
  have hq : i % 4 = 1 := by omega
  repeat (first | simp (disch := omega) only [↓qxs, ↓qxc, ↓qxa, ↓qxb, hq] | refine p_call (shCell_ok (by omega)) ?_ | refine p_call (cnb10 (by omega)) ?_ | refine p_call (shId13 (by omega)) ?_); (try simp only [List.cons.injEq, Lf.i.injEq, and_true, true_and]); (try omega)
theorem nmi110 {v i : Int} (h : (1 ≤ v ∧ v ≤ 5) ∧ (0 ≤ i ∧ i < 4 * 1 * v) ∧ i % 4 = 1 ∧ i / 4 % 1 + 1 < 1) : Cc 19 [.i 1, .i v, .i i, .i 0] [.i i, .i 0, .i 0] := by
  refine q19 rfl ?_; unfold p19
  have hq : i % 4 = 1 := by omega
  repeat (first | simp (disch := omega) only [↓qxs, ↓qxc, ↓qxa, ↓qxb] | refine p_call (nbi110 (by omega)) ?_); (try simp only [List.cons.injEq, Lf.i.injEq, and_true, true_and]); (try omega)
theorem rfi110 {v i : Int} (h : (1 ≤ v ∧ v ≤ 5) ∧ (0 ≤ i ∧ i < 4 * 1 * v) ∧ i % 4 = 1 ∧ i / 4 % 1 + 1 < 1) : Cc 20 [.i 1, .i v, .i i, .i 0] [.i (i + 6)] := by
  refine q20 rfl ?_; unfold p20
  have hq : i % 4 = 1 := by omega
  repeat (first | simp (disch := omega) only [↓qxs, ↓qxc, ↓qxa, ↓qxb, hq] | refine p_call (rnb10 (by omega)) ?_ | refine p_call (rId13 (by omega)) ?_); (try simp only [List.cons.injEq, Lf.i.injEq, and_true, true_and]); (try omega)
theorem nbo110 {v i : Int} (h : (1 ≤ v ∧ v ≤ 5) ∧ (0 ≤ i ∧ i < 4 * 1 * v) ∧ i % 4 = 1 ∧ ¬ (i / 4 % 1 + 1 < 1)) : Cc 18 [.i 1, .i v, .i i, .i 0] [.i 0, .i 7] := by
  refine q18 rfl ?_; unfold p18
  have hq : i % 4 = 1 := by omega
  repeat (first | simp (disch := omega) only [↓qxs, ↓qxc, ↓qxa, ↓qxb, hq] | refine p_call (shCell_ok (by omega)) ?_ | refine p_call (cnb10 (by omega)) ?_ | refine p_call (shIdo (by omega)) ?_); (try simp only [List.cons.injEq, Lf.i.injEq, and_true, true_and]); (try omega)
theorem nmo110 {v i : Int} (h : (1 ≤ v ∧ v ≤ 5) ∧ (0 ≤ i ∧ i < 4 * 1 * v) ∧ i % 4 = 1 ∧ ¬ (i / 4 % 1 + 1 < 1)) : Cc 19 [.i 1, .i v, .i i, .i 0] [.i 0, .i 0, .i 7] := by
  refine q19 rfl ?_; unfold p19
  have hq : i % 4 = 1 := by omega
  repeat (first | simp (disch := omega) only [↓qxs, ↓qxc, ↓qxa, ↓qxb] | refine p_call (nbo110 (by omega)) ?_); (try simp only [List.cons.injEq, Lf.i.injEq, and_true, true_and]); (try omega)
theorem rfo110 {v i : Int} (h : (1 ≤ v ∧ v ≤ 5) ∧ (0 ≤ i ∧ i < 4 * 1 * v) ∧ i % 4 = 1 ∧ ¬ (i / 4 % 1 + 1 < 1)) : Cc 20 [.i 1, .i v, .i i, .i 0] [.i (-1)] := by
  refine q20 rfl ?_; unfold p20
  have hq : i % 4 = 1 := by omega
  repeat (first | simp (disch := omega) only [↓qxs, ↓qxc, ↓qxa, ↓qxb, hq] | refine p_call (rnb10 (by omega)) ?_ | refine p_call (rIdo (by omega)) ?_); (try simp only [List.cons.injEq, Lf.i.injEq, and_true, true_and]); (try omega)
theorem nbi111 {v i : Int} (h : (1 ≤ v ∧ v ≤ 5) ∧ (0 ≤ i ∧ i < 4 * 1 * v) ∧ i % 4 = 1) : Cc 18 [.i 1, .i v, .i i, .i 1] [.i (i - 1), .i 0] := by
  refine q18 rfl ?_; unfold p18
  have hq : i % 4 = 1 := by omega
  repeat (first | simp (disch := omega) only [↓qxs, ↓qxc, ↓qxa, ↓qxb, hq] | refine p_call (shCell_ok (by omega)) ?_ | refine p_call (cnb11 (by omega)) ?_ | refine p_call (shId10 (by omega)) ?_); (try simp only [List.cons.injEq, Lf.i.injEq, and_true, true_and]); (try omega)
theorem nmi111 {v i : Int} (h : (1 ≤ v ∧ v ≤ 5) ∧ (0 ≤ i ∧ i < 4 * 1 * v) ∧ i % 4 = 1) : Cc 19 [.i 1, .i v, .i i, .i 1] [.i (i - 1), .i 1, .i 0] := by
  refine q19 rfl ?_; unfold p19
  have hq : i % 4 = 1 := by omega
  repeat (first | simp (disch := omega) only [↓qxs, ↓qxc, ↓qxa, ↓qxb] | refine p_call (nbi111 (by omega)) ?_); (try simp only [List.cons.injEq, Lf.i.injEq, and_true, true_and]); (try omega)
theorem rfi111 {v i : Int} (h : (1 ≤ v ∧ v ≤ 5) ∧ (0 ≤ i ∧ i < 4 * 1 * v) ∧ i % 4 = 1) : Cc 20 [.i 1, .i v, .i i, .i 1] [.i (i - 1)] := by
  refine q20 rfl ?_; unfold p20
  have hq : i % 4 = 1 := by omega
  repeat (first | simp (disch := omega) only [↓qxs, ↓qxc, ↓qxa, ↓qxb, hq] | refine p_call (rnb11 (by omega)) ?_ | refine p_call (rId10 (by omega)) ?_); (try simp only [List.cons.injEq, Lf.i.injEq, and_true, true_and]); (try omega)
theorem nbi112 {v i : Int} (h : (1 ≤ v ∧ v ≤ 5) ∧ (0 ≤ i ∧ i < 4 * 1 * v) ∧ i % 4 = 1) : Cc 18 [.i 1, .i v, .i i, .i 2] [.i (i + 1), .i 0] := by
  refine q18 rfl ?_; unfold p18
  have hq : i % 4 = 1 := by omega
  repeat (first | simp (disch := omega) only [↓qxs, ↓qxc, ↓qxa, ↓qxb, hq] | refine p_call (shCell_ok (by omega)) ?_ | refine p_call (cnb12 (by omega)) ?_ | refine p_call (shId12 (by omega)) ?_); (try simp only [List.cons.injEq, Lf.i.injEq, and_true, true_and]); (try omega)
theorem nmi112 {v i : Int} (h : (1 ≤ v ∧ v ≤ 5) ∧ (0 ≤ i ∧ i < 4 * 1 * v) ∧ i % 4 = 1) : Cc 19 [.i 1, .i v, .i i, .i 2] [.i i, .i 2, .i 0] := by
  refine q19 rfl ?_; unfold p19
  have hq : i % 4 = 1 := by omega
  repeat (first | simp (disch := omega) only [↓qxs, ↓qxc, ↓qxa, ↓qxb] | refine p_call (nbi112 (by omega)) ?_); (try simp only [List.cons.injEq, Lf.i.injEq, and_true, true_and]); (try omega)
theorem rfi112 {v i : Int} (h : (1 ≤ v ∧ v ≤ 5) ∧ (0 ≤ i ∧ i < 4 * 1 * v) ∧ i % 4 = 1) : Cc 20 [.i 1, .i v, .i i, .i 2] [.i (i + 1)] := by
  refine q20 rfl ?_; unfold p20
  have hq : i % 4 = 1 := by omega
  repeat (first | simp (disch := omega) only [↓qxs, ↓qxc, ↓qxa, ↓qxb, hq] | refine p_call (rnb12 (by omega)) ?_ | refine p_call (rId12 (by omega)) ?_); (try simp only [List.cons.injEq, Lf.i.injEq, and_true, true_and]); (try omega)
theorem nbi120 {v i : Int} (h : (1 ≤ v ∧ v ≤ 5) ∧ (0 ≤ i ∧ i < 4 * 1 * v) ∧ i % 4 = 2 ∧ i / 4 / 1 + 1 < v) : Cc 18 [.i 1, .i v, .i i, .i 0] [.i (i + 2), .i 0] := by
  refine q18 rfl ?_; unfold p18
  have hq : i % 4 = 2 := by omega
  repeat (first | simp (disch := omega) only [↓qxs, ↓qxc, ↓qxa, ↓qxb, hq] | refine p_call (shCell_ok (by omega)) ?_ | refine p_call (cnb20 (by omega)) ?_ | refine p_call (shId10 (by omega)) ?_); (try simp only [List.cons.injEq, Lf.i.injEq, and_true, true_and]); (try omega)
theorem nmi120 {v i : Int} (h : (1 ≤ v ∧ v ≤ 5) ∧ (0 ≤ i ∧ i < 4 * 1 * v) ∧ i % 4 = 2 ∧ i / 4 / 1 + 1 < v) : Cc 19 [.i 1, .i v, .i i, .i 0] [.i i, .i 0, .i 0] := by
  refine q19 rfl ?_; unfold p19
  have hq : i % 4 = 2 := by omega
  repeat (first | simp (disch := omega) only [↓qxs, ↓qxc, ↓qxa, ↓qxb] | refine p_call (nbi120 (by omega)) ?_); (try simp only [List.cons.injEq, Lf.i.injEq, and_true, true_and]); (try omega)
theorem rfi120 {v i : Int} (h : (1 ≤ v ∧ v ≤ 5) ∧ (0 ≤ i ∧ i < 4 * 1 * v) ∧ i % 4 = 2 ∧ i / 4 / 1 + 1 < v) : Cc 20 [.i 1, .i v, .i i, .i 0] [.i (i + 2)] := by
  refine q20 rfl ?_; unfold p20
  have hq : i % 4 = 2 := by omega
  repeat (first | simp (disch := omega) only [↓qxs, ↓qxc, ↓qxa, ↓qxb, hq] | refine p_call (rnb20 (by omega)) ?_ | refine p_call (rId10 (by omega)) ?_); (try simp only [List.cons.injEq, Lf.i.injEq, and_true, true_and]); (try omega)
theorem nbo120 {v i : Int} (h : (1 ≤ v ∧ v ≤ 5) ∧ (0 ≤ i ∧ i < 4 * 1 * v) ∧ i % 4 = 2 ∧ ¬ (i / 4 / 1 + 1 < v)) : Cc 18 [.i 1, .i v, .i i, .i 0] [.i 0, .i 7] := by
  refine q18 rfl ?_; unfold p18
  have hq : i % 4 = 2 := by omega
  repeat (first | simp (disch := omega) only [↓qxs, ↓qxc, ↓qxa, ↓qxb, hq] | refine p_call (shCell_ok (by omega)) ?_ | refine p_call (cnb20 (by omega)) ?_ | refine p_call (shIdo (by omega)) ?_); (try simp only [List.cons.injEq, Lf.i.injEq, and_true, true_and]); (try omega)
theorem nmo120 {v i : Int} (h : (1 ≤ v ∧ v ≤ 5) ∧ (0 ≤ i ∧ i < 4 * 1 * v) ∧ i % 4 = 2 ∧ ¬ (i / 4 / 1 + 1 < v)) : Cc 19 [.i 1, .i v, .i i, .i 0] [.i 0, .i 0, .i 7] := by
  refine q19 rfl ?_; unfold p19
  have hq : i % 4 = 2 := by omega
  repeat (first | simp (disch := omega) only [↓qxs, ↓qxc, ↓qxa, ↓qxb] | refine p_call (nbo120 (by omega)) ?_); (try simp only [List.cons.injEq, Lf.i.injEq, and_true, true_and]); (try omega)
theorem rfo120 {v i : Int} (h : (1 ≤ v ∧ v ≤ 5) ∧ (0 ≤ i ∧ i < 4 * 1 * v) ∧ i % 4 = 2 ∧ ¬ (i / 4 / 1 + 1 < v)) : Cc 20 [.i 1, .i v, .i i, .i 0] [.i (-1)] := by
  refine q20 rfl ?_; unfold p20
  have hq : i % 4 = 2 := by omega
  repeat (first | simp (disch := omega) only [↓qxs, ↓qxc, ↓qxa, ↓qxb, hq] | refine p_call (rnb20 (by omega)) ?_ | refine p_call (rIdo (by omega)) ?_); (try simp only [List.cons.injEq, Lf.i.injEq, and_true, true_and]); (try omega)
theorem nbi121 {v i : Int} (h : (1 ≤ v ∧ v ≤ 5) ∧ (0 ≤ i ∧ i < 4 * 1 * v) ∧ i % 4 = 2) : Cc 18 [.i 1, .i v, .i i, .i 1] [.i (i + 1), .i 0] := by
  refine q18 rfl ?_; unfold p18
  have hq : i % 4 = 2 := by omega
  repeat (first | simp (disch := omega) only [↓qxs, ↓qxc, ↓qxa, ↓qxb, hq] | refine p_call (shCell_ok (by omega)) ?_ | refine p_call (cnb21 (by omega)) ?_ | refine p_call (shId13 (by omega)) ?_); (try simp only [List.cons.injEq, Lf.i.injEq, and_true, true_and]); (try omega)
theorem nmi121 {v i : Int} (h : (1 ≤ v ∧ v ≤ 5) ∧ (0 ≤ i ∧ i < 4 * 1 * v) ∧ i % 4 = 2) : Cc 19 [.i 1, .i v, .i i, .i 1] [.i i, .i 1, .i 0] := by
  refine q19 rfl ?_; unfold p19
  have hq : i % 4 = 2 := by omega
  repeat (first | simp (disch := omega) only [↓qxs, ↓qxc, ↓qxa, ↓qxb] | refine p_call (nbi121 (by omega)) ?_); (try simp only [List.cons.injEq, Lf.i.injEq, and_true, true_and]); (try omega)
theorem rfi121 {v i : Int} (h : (1 ≤ v ∧ v ≤ 5) ∧ (0 ≤ i ∧ i < 4 * 1 * v) ∧ i % 4 = 2) : Cc 20 [.i 1, .i v, .i i, .i 1] [.i (i + 1)] := by
  refine q20 rfl ?_; unfold p20
  have hq : i % 4 = 2 := by omega
  repeat (first | simp (disch := omega) only [↓qxs, ↓qxc, ↓qxa, ↓qxb, hq] | refine p_call (rnb21 (by omega)) ?_ | refine p_call (rId13 (by omega)) ?_); (try simp only [List.cons.injEq, Lf.i.injEq, and_true, true_and]); (try omega)
theorem nbi122 {v i : Int} (h : (1 ≤ v ∧ v ≤ 5) ∧ (0 ≤ i ∧ i < 4 * 1 * v) ∧ i % 4 = 2) : Cc 18 [.i 1, .i v, .i i, .i 2] [.i (i - 1), .i 0] := by
  refine q18 rfl ?_; unfold p18
  have hq : i % 4 = 2 := by omega
  repeat (first | simp (disch := omega) only [↓qxs, ↓qxc, ↓qxa, ↓qxb, hq] | refine p_call (shCell_ok (by omega)) ?_ | refine p_call (cnb22 (by omega)) ?_ | refine p_call (shId11 (by omega)) ?_); (try simp only [List.cons.injEq, Lf.i.injEq, and_true, true_and]); (try omega)
theorem nmi122 {v i : Int} (h : (1 ≤ v ∧ v ≤ 5) ∧ (0 ≤ i ∧ i < 4 * 1 * v) ∧ i % 4 = 2) : Cc 19 [.i 1, .i v, .i i, .i 2] [.i (i - 1), .i 2, .i 0] := by
  refine q19 rfl ?_; unfold p19
  have hq : i % 4 = 2 := by omega
  repeat (first | simp (disch := omega) only [↓qxs, ↓qxc, ↓qxa, ↓qxb] | refine p_call (nbi122 (by omega)) ?_); (try simp only [List.cons.injEq, Lf.i.injEq, and_true, true_and]); (try omega)
theorem rfi122 {v i : Int} (h : (1 ≤ v ∧ v ≤ 5) ∧ (0 ≤ i ∧ i < 4 * 1 * v) ∧ i % 4 = 2) : Cc 20 [.i 1, .i v, .i i, .i 2] [.i (i - 1)] := by
  refine q20 rfl ?_; unfold p20
  have hq : i % 4 = 2 := by omega
  repeat (first | simp (disch := omega) only [↓qxs, ↓qxc, ↓qxa, ↓qxb, hq] | refine p_call (rnb22 (by omega)) ?_ | refine p_call (rId11 (by omega)) ?_); (try simp only [List.cons.injEq, Lf.i.injEq, and_true, true_and]); (try omega)
theorem nbi130 {v i : Int} (h : (1 ≤ v ∧ v ≤ 5) ∧ (0 ≤ i ∧ i < 4 * 1 * v) ∧ i % 4 = 3 ∧ 1 ≤ i / 4 % 1) : Cc 18 [.i 1, .i v, .i i, .i 0] [.i (i - 6), .i 0] := by
  refine q18 rfl ?_; unfold p18
  have hq : i % 4 = 3 := by omega
  repeat (first | simp (disch := omega) only [↓qxs, ↓qxc, ↓qxa, ↓qxb, hq] | refine p_call (shCell_ok (by omega)) ?_ | refine p_call (cnb30 (by omega)) ?_ | refine p_call (shId11 (by omega)) ?_); (try simp only [List.cons.injEq, Lf.i.injEq, and_true, true_and]); (try omega)
theorem nmi130 {v i : Int} (h : (1 ≤ v ∧ v ≤ 5) ∧ (0 ≤ i ∧ i < 4 * 1 * v) ∧ i % 4 = 3 ∧ 1 ≤ i / 4 % 1) : Cc 19 [.i 1, .i v, .i i, .i 0] [.i (i - 6), .i 0, .i 0] := by
  refine q19 rfl ?_; unfold p19
  have hq : i % 4 = 3 := by omega
  repeat (first | simp (disch := omega) only [↓qxs, ↓qxc, ↓qxa, ↓qxb] | refine p_call (nbi130 (by omega)) ?_); (try simp only [List.cons.injEq, Lf.i.injEq, and_true, true_and]); (try omega)
theorem rfi130 {v i : Int} (h : (1 ≤ v ∧ v ≤ 5) ∧ (0 ≤ i ∧ i < 4 * 1 * v) ∧ i % 4 = 3 ∧ 1 ≤ i / 4 % 1) : Cc 20 [.i 1, .i v, .i i, .i 0] [.i (i - 6)] := by
  refine q20 rfl ?_; unfold p20
  have hq : i % 4 = 3 := by omega
  repeat (first | simp (disch := omega) only [↓qxs, ↓qxc, ↓qxa, ↓qxb, hq] | refine p_call (rnb30 (by omega)) ?_ | refine p_call (rId11 (by omega)) ?_); (try simp only [List.cons.injEq, Lf.i.injEq, and_true, true_and]); (try omega)
theorem nbo130 {v i : Int} (h : (1 ≤ v ∧ v ≤ 5) ∧ (0 ≤ i ∧ i < 4 * 1 * v) ∧ i % 4 = 3 ∧ ¬ (1 ≤ i / 4 % 1)) : Cc 18 [.i 1, .i v, .i i, .i 0] [.i 0, .i 7] := by
  refine q18 rfl ?_; unfold p18
  have hq : i % 4 = 3 := by omega
  repeat (first | simp (disch := omega) only [↓qxs, ↓qxc, ↓qxa, ↓qxb, hq] | refine p_call (shCell_ok (by omega)) ?_ | refine p_call (cnb30 (by omega)) ?_ | refine p_call (shIdo (by omega)) ?_); (try simp only [List.cons.injEq, Lf.i.injEq, and_true, true_and]); (try omega)
theorem nmo130 {v i : Int} (h : (1 ≤ v ∧ v ≤ 5) ∧ (0 ≤ i ∧ i < 4 * 1 * v) ∧ i % 4 = 3 ∧ ¬ (1 ≤ i / 4 % 1)) : Cc 19 [.i 1, .i v, .i i, .i 0] [.i 0, .i 0, .i 7] := by
  refine q19 rfl ?_; unfold p19
  have hq : i % 4 = 3 := by omega
  repeat (first | simp (disch := omega) only [↓qxs, ↓qxc, ↓qxa, ↓qxb] | refine p_call (nbo130 (by omega)) ?_); (try simp only [List.cons.injEq, Lf.i.injEq, and_true, true_and]); (try omega)
theorem rfo130 {v i : Int} (h : (1 ≤ v ∧ v ≤ 5) ∧ (0 ≤ i ∧ i < 4 * 1 * v) ∧ i % 4 = 3 ∧ ¬ (1 ≤ i / 4 % 1)) : Cc 20 [.i 1, .i v, .i i, .i 0] [.i (-1)] := by
  refine q20 rfl ?_; unfold p20
  have hq : i % 4 = 3 := by omega
  repeat (first | simp (disch := omega) only [↓qxs, ↓qxc, ↓qxa, ↓qxb, hq] | refine p_call (rnb30 (by omega)) ?_ | refine p_call (rIdo (by omega)) ?_); (try simp only [List.cons.injEq, Lf.i.injEq, and_true, true_and]); (try omega)
theorem nbi131 {v i : Int} (h : (1 ≤ v ∧ v ≤ 5) ∧ (0 ≤ i ∧ i < 4 * 1 * v) ∧ i % 4 = 3) : Cc 18 [.i 1, .i v, .i i, .i 1] [.i (i - 1), .i 0] := by
  refine q18 rfl ?_; unfold p18
  have hq : i % 4 = 3 := by omega
  repeat (first | simp (disch := omega) only [↓qxs, ↓qxc, ↓qxa, ↓qxb, hq] | refine p_call (shCell_ok (by omega)) ?_ | refine p_call (cnb31 (by omega)) ?_ | refine p_call (shId12 (by omega)) ?_); (try simp only [List.cons.injEq, Lf.i.injEq, and_true, true_and]); (try omega)
theorem nmi131 {v i : Int} (h : (1 ≤ v ∧ v ≤ 5) ∧ (0 ≤ i ∧ i < 4 * 1 * v) ∧ i % 4 = 3) : Cc 19 [.i 1, .i v, .i i, .i 1] [.i (i - 1), .i 1, .i 0] := by
  refine q19 rfl ?_; unfold p19
  have hq : i % 4 = 3 := by omega
  repeat (first | simp (disch := omega) only [↓qxs, ↓qxc, ↓qxa, ↓qxb] | refine p_call (nbi131 (by omega)) ?_); (try simp only [List.cons.injEq, Lf.i.injEq, and_true, true_and]); (try omega)
theorem rfi131 {v i : Int} (h : (1 ≤ v ∧ v ≤ 5) ∧ (0 ≤ i ∧ i < 4 * 1 * v) ∧ i % 4 = 3) : Cc 20 [.i 1, .i v, .i i, .i 1] [.i (i - 1)] := by
  refine q20 rfl ?_; unfold p20
  have hq : i % 4 = 3 := by omega
  repeat (first | simp (disch := omega) only [↓qxs, ↓qxc, ↓qxa, ↓qxb, hq] | refine p_call (rnb31 (by omega)) ?_ | refine p_call (rId12 (by omega)) ?_); (try simp only [List.cons.injEq, Lf.i.injEq, and_true, true_and]); (try omega)
theorem nbi132 {v i : Int} (h : (1 ≤ v ∧ v ≤ 5) ∧ (0 ≤ i ∧ i < 4 * 1 * v) ∧ i % 4 = 3) : Cc 18 [.i 1, .i v, .i i, .i 2] [.i (i - 3), .i 0] := by
  refine q18 rfl ?_; unfold p18
  have hq : i % 4 = 3 := by omega
  repeat (first | simp (disch := omega) only [↓qxs, ↓qxc, ↓qxa, ↓qxb, hq] | refine p_call (shCell_ok (by omega)) ?_ | refine p_call (cnb32 (by omega)) ?_ | refine p_call (shId10 (by omega)) ?_); (try simp only [List.cons.injEq, Lf.i.injEq, and_true, true_and]); (try omega)
theorem nmi132 {v i : Int} (h : (1 ≤ v ∧ v ≤ 5) ∧ (0 ≤ i ∧ i < 4 * 1 * v) ∧ i % 4 = 3) : Cc 19 [.i 1, .i v, .i i, .i 2] [.i (i - 3), .i 2, .i 0] := by
  refine q19 rfl ?_; unfold p19
  have hq : i % 4 = 3 := by omega
  repeat (first | simp (disch := omega) only [↓qxs, ↓qxc, ↓qxa, ↓qxb] | refine p_call (nbi132 (by omega)) ?_); (try simp only [List.cons.injEq, Lf.i.injEq, and_true, true_and]); (try omega)
theorem rfi132 {v i : Int} (h : (1 ≤ v ∧ v ≤ 5) ∧ (0 ≤ i ∧ i < 4 * 1 * v) ∧ i % 4 = 3) : Cc 20 [.i 1, .i v, .i i, .i 2] [.i (i - 3)] := by
  refine q20 rfl ?_; unfold p20
  have hq : i % 4 = 3 := by omega
  repeat (first | simp (disch := omega) only [↓qxs, ↓qxc, ↓qxa, ↓qxb, hq] | refine p_call (rnb32 (by omega)) ?_ | refine p_call (rId10 (by omega)) ?_); (try simp only [List.cons.injEq, Lf.i.injEq, and_true, true_and]); (try omega)
theorem nbi200 {v i : Int} (h : (1 ≤ v ∧ v ≤ 5) ∧ (0 ≤ i ∧ i < 4 * 2 * v) ∧ i % 4 = 0 ∧ 8 ≤ i) : Cc 18 [.i 2, .i v, .i i, .i 0] [.i (i - 6), .i 0] := by
  refine q18 rfl ?_; unfold p18
  have hq : i % 4 = 0 := by omega
  repeat (first | simp (disch := omega) only [↓qxs, ↓qxc, ↓qxa, ↓qxb, hq] | refine p_call (shCell_ok (by omega)) ?_ | refine p_call (cnb00 (by omega)) ?_ | refine p_call (shId22 (by omega)) ?_); (try simp only [List.cons.injEq, Lf.i.injEq, and_true, true_and]); (try omega)
theorem nmi200 {v i : Int} (h : (1 ≤ v ∧ v ≤ 5) ∧ (0 ≤ i ∧ i < 4 * 2 * v) ∧ i % 4 = 0 ∧ 8 ≤ i) : Cc 19 [.i 2, .i v, .i i, .i 0] [.i (i - 6), .i 0, .i 0] := by
  refine q19 rfl ?_; unfold p19
  have hq : i % 4 = 0 := by omega
  repeat (first | simp (disch := omega) only [↓qxs, ↓qxc, ↓qxa, ↓qxb] | refine p_call (nbi200 (by omega)) ?_); (try simp only [List.cons.injEq, Lf.i.injEq, and_true, true_and]); (try omega)
theorem rfi200 {v i : Int} (h : (1 ≤ v ∧ v ≤ 5) ∧ (0 ≤ i ∧ i < 4 * 2 * v) ∧ i % 4 = 0 ∧ 8 ≤ i) : Cc 20 [.i 2, .i v, .i i, .i 0] [.i (i - 6)] := by
  refine q20 rfl ?_; unfold p20
  have hq : i % 4 = 0 := by omega
  repeat (first | simp (disch := omega) only [↓qxs, ↓qxc, ↓qxa, ↓qxb, hq] | refine p_call (rnb00 (by omega)) ?_ | refine p_call (rId22 (by omega)) ?_); (try simp only [List.cons.injEq, Lf.i.injEq, and_true, true_and]); (try omega)
theorem nbo200 {v i : Int} (h : (1 ≤ v ∧ v ≤ 5) ∧ (0 ≤ i ∧ i < 4 * 2 * v) ∧ i % 4 = 0 ∧ ¬ (8 ≤ i)) : Cc 18 [.i 2, .i v, .i i, .i 0] [.i 0, .i 7] := by
  refine q18 rfl ?_; unfold p18
  have hq : i % 4 = 0 := by omega
  repeat (first | simp (disch := omega) only [↓qxs, ↓qxc, ↓qxa, ↓qxb, hq] | refine p_call (shCell_ok (by omega)) ?_ | refine p_call (cnb00 (by omega)) ?_ | refine p_call (shIdo (by omega)) ?_); (try simp only [List.cons.injEq, Lf.i.injEq, and_true, true_and]); (try omega)
theorem nmo200 {v i : Int} (h : (1 ≤ v ∧ v ≤ 5) ∧ (0 ≤ i ∧ i < 4 * 2 * v) ∧ i % 4 = 0 ∧ ¬ (8 ≤ i)) : Cc 19 [.i 2, .i v, .i i, .i 0] [.i 0, .i 0, .i 7] := by
  refine q19 rfl ?_; unfold p19
  have hq : i % 4 = 0 := by omega
  repeat (first | simp (disch := omega) only [↓qxs, ↓qxc, ↓qxa, ↓qxb] | refine p_call (nbo200 (by omega)) ?_); (try simp only [List.cons.injEq, Lf.i.injEq, and_true, true_and]); (try omega)
theorem rfo200 {v i : Int} (h : (1 ≤ v ∧ v ≤ 5) ∧ (0 ≤ i ∧ i < 4 * 2 * v) ∧ i % 4 = 0 ∧ ¬ (8 ≤ i)) : Cc 20 [.i 2, .i v, .i i, .i 0] [.i (-1)] := by
  refine q20 rfl ?_; unfold p20
  have hq : i % 4 = 0 := by omega
  repeat (first | simp (disch := omega) only [↓qxs, ↓qxc, ↓qxa, ↓qxb, hq] | refine p_call (rnb00 (by omega)) ?_ | refine p_call (rIdo (by omega)) ?_); (try simp only [List.cons.injEq, Lf.i.injEq, and_true, true_and]); (try omega)
theorem nbi201 {v i : Int} (h : (1 ≤ v ∧ v ≤ 5) ∧ (0 ≤ i ∧ i < 4 * 2 * v) ∧ i % 4 = 0) : Cc 18 [.i 2, .i v, .i i, .i 1] [.i (i + 1), .i 0] := by
  refine q18 rfl ?_; unfold p18
  have hq : i % 4 = 0 := by omega
  repeat (first | simp (disch := omega) only [↓qxs, ↓qxc, ↓qxa, ↓qxb, hq] | refine p_call (shCell_ok (by omega)) ?_ | refine p_call (cnb01 (by omega)) ?_ | refine p_call (shId21 (by omega)) ?_); (try simp only [List.cons.injEq, Lf.i.injEq, and_true, true_and]); (try omega)
theorem nmi201 {v i : Int} (h : (1 ≤ v ∧ v ≤ 5) ∧ (0 ≤ i ∧ i < 4 * 2 * v) ∧ i % 4 = 0) : Cc 19 [.i 2, .i v, .i i, .i 1] [.i i, .i 1, .i 0] := by
  refine q19 rfl ?_; unfold p19
  have hq : i % 4 = 0 := by omega
  repeat (first | simp (disch := omega) only [↓qxs, ↓qxc, ↓qxa, ↓qxb] | refine p_call (nbi201 (by omega)) ?_); (try simp only [List.cons.injEq, Lf.i.injEq, and_true, true_and]); (try omega)
theorem rfi201 {v i : Int} (h : (1 ≤ v ∧ v ≤ 5) ∧ (0 ≤ i ∧ i < 4 * 2 * v) ∧ i % 4 = 0) : Cc 20 [.i 2, .i v, .i i, .i 1] [.i (i + 1)] := by
  refine q20 rfl ?_; unfold p20
  have hq : i % 4 = 0 := by omega
  repeat (first | simp (disch := omega) only [↓qxs, ↓qxc, ↓qxa, ↓qxb, hq] | refine p_call (rnb01 (by omega)) ?_ | refine p_call (rId21 (by omega)) ?_); (try simp only [List.cons.injEq, Lf.i.injEq, and_true, true_and]); (try omega)
theorem nbi202 {v i : Int} (h : (1 ≤ v ∧ v ≤ 5) ∧ (0 ≤ i ∧ i < 4 * 2 * v) ∧ i % 4 = 0) : Cc 18 [.i 2, .i v, .i i, .i 2] [.i (i + 3), .i 0] := by
  refine q18 rfl ?_; unfold p18
  have hq : i % 4 = 0 := by omega
  repeat (first | simp (disch := omega) only [↓qxs, ↓qxc, ↓qxa, ↓qxb, hq] | refine p_call (shCell_ok (by omega)) ?_ | refine p_call (cnb02 (by omega)) ?_ | refine p_call (shId23 (by omega)) ?_); (try simp only [List.cons.injEq, Lf.i.injEq, and_true, true_and]); (try omega)
theorem nmi202 {v i : Int} (h : (1 ≤ v ∧ v ≤ 5) ∧ (0 ≤ i ∧ i < 4 * 2 * v) ∧ i % 4 = 0) : Cc 19 [.i 2, .i v, .i i, .i 2] [.i i, .i 2, .i 0] := by
  refine q19 rfl ?_; unfold p19
  have hq : i % 4 = 0 := by omega
  repeat (first | simp (disch := omega) only [↓qxs, ↓qxc, ↓qxa, ↓qxb] | refine p_call (nbi202 (by omega)) ?_); (try simp only [List.cons.injEq, Lf.i.injEq, and_true, true_and]); (try omega)
theorem rfi202 {v i : Int} (h : (1 ≤ v ∧ v ≤ 5) ∧ (0 ≤ i ∧ i < 4 * 2 * v) ∧ i % 4 = 0) : Cc 20 [.i 2, .i v, .i i, .i 2] [.i (i + 3)] := by
  refine q20 rfl ?_; unfold p20
  have hq : i % 4 = 0 := by omega
  repeat (first | simp (disch := omega) only [↓qxs, ↓qxc, ↓qxa, ↓qxb, hq] | refine p_call (rnb02 (by omega)) ?_ | refine p_call (rId23 (by omega)) ?_); (try simp only [List.cons.injEq, Lf.i.injEq, and_true, true_and]); (try omega)
theorem nbi210 {v i : Int} (h : (1 ≤ v ∧ v ≤ 5) ∧ (0 ≤ i ∧ i < 4 * 2 * v) ∧ i % 4 = 1 ∧ i / 4 % 2 + 1 < 2) : Cc 18 [.i 2, .i v, .i i, .i 0] [.i (i + 6), .i 0] := by
  refine q18 rfl ?_; unfold p18
  have hq : i % 4 = 1 := by omega
  repeat (first | simp (disch := omega) only [↓qxs, ↓qxc, ↓qxa, ↓qxb, hq] | refine p_call (shCell_ok (by omega)) ?_ | refine p_call (cnb10 (by omega)) ?_ | refine p_call (shId23 (by omega)) ?_); (try simp only [List.cons.injEq, Lf.i.injEq, and_true, true_and]); (try omega)
theorem nmi210 {v i : Int} (h : (1 ≤ v ∧ v ≤ 5) ∧ (0 ≤ i ∧ i < 4 * 2 * v) ∧ i % 4 = 1 ∧ i / 4 % 2 + 1 < 2) : Cc 19 [.i 2, .i v, .i i, .i 0] [.i i, .i 0, .i 0] := by
  refine q19 rfl ?_; unfold p19
  have hq : i % 4 = 1 := by omega
  repeat (first | simp (disch := omega) only [↓qxs, ↓qxc, ↓qxa, ↓qxb] | refine p_call (nbi210 (by omega)) ?_); (try simp only [List.cons.injEq, Lf.i.injEq, and_true, true_and]); (try omega)
theorem rfi210 {v i : Int} (h : (1 ≤ v ∧ v ≤ 5) ∧ (0 ≤ i ∧ i < 4 * 2 * v) ∧ i % 4 = 1 ∧ i / 4 % 2 + 1 < 2) : Cc 20 [.i 2, .i v, .i i, .i 0] [.i (i + 6)] := by
  refine q20 rfl ?_; unfold p20
  have hq : i % 4 = 1 := by omega
  repeat (first | simp (disch := omega) only [↓qxs, ↓qxc, ↓qxa, ↓qxb, hq] | refine p_call (rnb10 (by omega)) ?_ | refine p_call (rId23 (by omega)) ?_); (try simp only [List.cons.injEq, Lf.i.injEq, and_true, true_and]); (try omega)
theorem nbo210 {v i : Int} (h : (1 ≤ v ∧ v ≤ 5) ∧ (0 ≤ i ∧ i < 4 * 2 * v) ∧ i % 4 = 1 ∧ ¬ (i / 4 % 2 + 1 < 2)) : Cc 18 [.i 2, .i v, .i i, .i 0] [.i 0, .i 7] := by
  refine q18 rfl ?_; unfold p18
  have hq : i % 4 = 1 := by omega
  repeat (first | simp (disch := omega) only [↓qxs, ↓qxc, ↓qxa, ↓qxb, hq] | refine p_call (shCell_ok (by omega)) ?_ | refine p_call (cnb10 (by omega)) ?_ | refine p_call (shIdo (by omega)) ?_); (try simp only [List.cons.injEq, Lf.i.injEq, and_true, true_and]); (try omega)
theorem nmo210 {v i : Int} (h : (1 ≤ v ∧ v ≤ 5) ∧ (0 ≤ i ∧ i < 4 * 2 * v) ∧ i % 4 = 1 ∧ ¬ (i / 4 % 2 + 1 < 2)) : Cc 19 [.i 2, .i v, .i i, .i 0] [.i 0, .i 0, .i 7] := by
  refine q19 rfl ?_; unfold p19
  have hq : i % 4 = 1 := by omega
  repeat (first | simp (disch := omega) only [↓qxs, ↓qxc, ↓qxa, ↓qxb] | refine p_call (nbo210 (by omega)) ?_); (try simp only [List.cons.injEq, Lf.i.injEq, and_true, true_and]); (try omega)
theorem rfo210 {v i : Int} (h : (1 ≤ v ∧ v ≤ 5) ∧ (0 ≤ i ∧ i < 4 * 2 * v) ∧ i % 4 = 1 ∧ ¬ (i / 4 % 2 + 1 < 2)) : Cc 20 [.i 2, .i v, .i i, .i 0] [.i (-1)] := by
  refine q20 rfl ?_; unfold p20
  have hq : i % 4 = 1 := by omega
  repeat (first | simp (disch := omega) only [↓qxs, ↓qxc, ↓qxa, ↓qxb, hq] | refine p_call (rnb10 (by omega)) ?_ | refine p_call (rIdo (by omega)) ?_); (try simp only [List.cons.injEq, Lf.i.injEq, and_true, true_and]); (try omega)
theorem nbi211 {v i : Int} (h : (1 ≤ v ∧ v ≤ 5) ∧ (0 ≤ i ∧ i < 4 * 2 * v) ∧ i % 4 = 1) : Cc 18 [.i 2, .i v, .i i, .i 1] [.i (i - 1), .i 0] := by
  refine q18 rfl ?_; unfold p18
  have hq : i % 4 = 1 := by omega
  repeat (first | simp (disch := omega) only [↓qxs, ↓qxc, ↓qxa, ↓qxb, hq] | refine p_call (shCell_ok (by omega)) ?_ | refine p_call (cnb11 (by omega)) ?_ | refine p_call (shId20 (by omega)) ?_); (try simp only [List.cons.injEq, Lf.i.injEq, and_true, true_and]); (try omega)
theorem nmi211 {v i : Int} (h : (1 ≤ v ∧ v ≤ 5) ∧ (0 ≤ i ∧ i < 4 * 2 * v) ∧ i % 4 = 1) : Cc 19 [.i 2, .i v, .i i, .i 1] [.i (i - 1), .i 1, .i 0] := by
  refine q19 rfl ?_; unfold p19
  have hq : i % 4 = 1 := by omega
  repeat (first | simp (disch := omega) only [↓qxs, ↓qxc, ↓qxa, ↓qxb] | refine p_call (nbi211 (by omega)) ?_); (try simp only [List.cons.injEq, Lf.i.injEq, and_true, true_and]); (try omega)
theorem rfi211 {v i : Int} (h : (1 ≤ v ∧ v ≤ 5) ∧ (0 ≤ i ∧ i < 4 * 2 * v) ∧ i % 4 = 1) : Cc 20 [.i 2, .i v, .i i, .i 1] [.i (i - 1)] := by
  refine q20 rfl ?_; unfold p20
  have hq : i % 4 = 1 := by omega
  repeat (first | simp (disch := omega) only [↓qxs, ↓qxc, ↓qxa, ↓qxb, hq] | refine p_call (rnb11 (by omega)) ?_ | refine p_call (rId20 (by omega)) ?_); (try simp only [List.cons.injEq, Lf.i.injEq, and_true, true_and]); (try omega)
theorem nbi212 {v i : Int} (h : (1 ≤ v ∧ v ≤ 5) ∧ (0 ≤ i ∧ i < 4 * 2 * v) ∧ i % 4 = 1) : Cc 18 [.i 2, .i v, .i i, .i 2] [.i (i + 1), .i 0] := by
  refine q18 rfl ?_; unfold p18
  have hq : i % 4 = 1 := by omega
  repeat (first | simp (disch := omega) only [↓qxs, ↓qxc, ↓qxa, ↓qxb, hq] | refine p_call (shCell_ok (by omega)) ?_ | refine p_call (cnb12 (by omega)) ?_ | refine p_call (shId22 (by omega)) ?_); (try simp only [List.cons.injEq, Lf.i.injEq, and_true, true_and]); (try omega)
theorem nmi212 {v i : Int} (h : (1 ≤ v ∧ v ≤ 5) ∧ (0 ≤ i ∧ i < 4 * 2 * v) ∧ i % 4 = 1) : Cc 19 [.i 2, .i v, .i i, .i 2] [.i i, .i 2, .i 0] := by
  refine q19 rfl ?_; unfold p19
  have hq : i % 4 = 1 := by omega
  repeat (first | simp (disch := omega) only [↓qxs, ↓qxc, ↓qxa, ↓qxb] | refine p_call (nbi212 (by omega)) ?_); (try simp only [List.cons.injEq, Lf.i.injEq, and_true, true_and]); (try omega)
theorem rfi212 {v i : Int} (h : (1 ≤ v ∧ v ≤ 5) ∧ (0 ≤ i ∧ i < 4 * 2 * v) ∧ i % 4 = 1) : Cc 20 [.i 2, .i v, .i i, .i 2] [.i (i + 1)] := by
  refine q20 rfl ?_; unfold p20
  have hq : i % 4 = 1 := by omega
  repeat (first | simp (disch := omega) only [↓qxs, ↓qxc, ↓qxa, ↓qxb, hq] | refine p_call (rnb12 (by omega)) ?_ | refine p_call (rId22 (by omega)) ?_); (try simp only [List.cons.injEq, Lf.i.injEq, and_true, true_and]); (try omega)
theorem nbi220 {v i : Int} (h : (1 ≤ v ∧ v ≤ 5) ∧ (0 ≤ i ∧ i < 4 * 2 * v) ∧ i % 4 = 2 ∧ i / 4 / 2 + 1 < v) : Cc 18 [.i 2, .i v, .i i, .i 0] [.i (i + 6), .i 0] := by
  refine q18 rfl ?_; unfold p18
  have hq : i % 4 = 2 := by omega
  repeat (first | simp (disch := omega) only [↓qxs, ↓qxc, ↓qxa, ↓qxb, hq] | refine p_call (shCell_ok (by omega)) ?_ | refine p_call (cnb20 (by omega)) ?_ | refine p_call (shId20 (by omega)) ?_); (try simp only [List.cons.injEq, Lf.i.injEq, and_true, true_and]); (try omega)
theorem nmi220 {v i : Int} (h : (1 ≤ v ∧ v ≤ 5) ∧ (0 ≤ i ∧ i < 4 * 2 * v) ∧ i % 4 = 2 ∧ i / 4 / 2 + 1 < v) : Cc 19 [.i 2, .i v, .i i, .i 0] [.i i, .i 0, .i 0] := by
  refine q19 rfl ?_; unfold p19
  have hq : i % 4 = 2 := by omega
  repeat (first | simp (disch := omega) only [↓qxs, ↓qxc, ↓qxa, ↓qxb] | refine p_call (nbi220 (by omega)) ?_); (try simp only [List.cons.injEq, Lf.i.injEq, and_true, true_and]); (try omega)
theorem rfi220 {v i : Int} (h : (1 ≤ v ∧ v ≤ 5) ∧ (0 ≤ i ∧ i < 4 * 2 * v) ∧ i % 4 = 2 ∧ i / 4 / 2 + 1 < v) : Cc 20 [.i 2, .i v, .i i, .i 0] [.i (i + 6)] := by
  refine q20 rfl ?_; unfold p20
  have hq : i % 4 = 2 := by omega
  repeat (first | simp (disch := omega) only [↓qxs, ↓qxc, ↓qxa, ↓qxb, hq] | refine p_call (rnb20 (by omega)) ?_ | refine p_call (rId20 (by omega)) ?_); (try simp only [List.cons.injEq, Lf.i.injEq, and_true, true_and]); (try omega)
theorem nbo220 {v i : Int} (h : (1 ≤ v ∧ v ≤ 5) ∧ (0 ≤ i ∧ i < 4 * 2 * v) ∧ i % 4 = 2 ∧ ¬ (i / 4 / 2 + 1 < v)) : Cc 18 [.i 2, .i v, .i i, .i 0] [.i 0, .i 7] := by
  refine q18 rfl ?_; unfold p18
  have hq : i % 4 = 2 := by omega
  repeat (first | simp (disch := omega) only [↓qxs, ↓qxc, ↓qxa, ↓qxb, hq] | refine p_call (shCell_ok (by omega)) ?_ | refine p_call (cnb20 (by omega)) ?_ | refine p_call (shIdo (by omega)) ?_); (try simp only [List.cons.injEq, Lf.i.injEq, and_true, true_and]); (try omega)
theorem nmo220 {v i : Int} (h : (1 ≤ v ∧ v ≤ 5) ∧ (0 ≤ i ∧ i < 4 * 2 * v) ∧ i % 4 = 2 ∧ ¬ (i / 4 / 2 + 1 < v)) : Cc 19 [.i 2, .i v, .i i, .i 0] [.i 0, .i 0, .i 7] := by
  refine q19 rfl ?_; unfold p19
  have hq : i % 4 = 2 := by omega
  repeat (first | simp (disch := omega) only [↓qxs, ↓qxc, ↓qxa, ↓qxb] | refine p_call (nbo220 (by omega)) ?_); (try simp only [List.cons.injEq, Lf.i.injEq, and_true, true_and]); (try omega)
theorem rfo220 {v i : Int} (h : (1 ≤ v ∧ v ≤ 5) ∧ (0 ≤ i ∧ i < 4 * 2 * v) ∧ i % 4 = 2 ∧ ¬ (i / 4 / 2 + 1 < v)) : Cc 20 [.i 2, .i v, .i i, .i 0] [.i (-1)] := by
  refine q20 rfl ?_; unfold p20
  have hq : i % 4 = 2 := by omega
  repeat (first | simp (disch := omega) only [↓qxs, ↓qxc, ↓qxa, ↓qxb, hq] | refine p_call (rnb20 (by omega)) ?_ | refine p_call (rIdo (by omega)) ?_); (try simp only [List.cons.injEq, Lf.i.injEq, and_true, true_and]); (try omega)
theorem nbi221 {v i : Int} (h : (1 ≤ v ∧ v ≤ 5) ∧ (0 ≤ i ∧ i < 4 * 2 * v) ∧ i % 4 = 2) : Cc 18 [.i 2, .i v, .i i, .i 1] [.i (i + 1), .i 0] := by
  refine q18 rfl ?_; unfold p18
  have hq : i % 4 = 2 := by omega
  repeat (first | simp (disch := omega) only [↓qxs, ↓qxc, ↓qxa, ↓qxb, hq] | refine p_call (shCell_ok (by omega)) ?_ | refine p_call (cnb21 (by omega)) ?_ | refine p_call (shId23 (by omega)) ?_); (try simp only [List.cons.injEq, Lf.i.injEq, and_true, true_and]); (try omega)
theorem nmi221 {v i : Int} (h : (1 ≤ v ∧ v ≤ 5) ∧ (0 ≤ i ∧ i < 4 * 2 * v) ∧ i % 4 = 2) : Cc 19 [.i 2, .i v, .i i, .i 1] [.i i, .i 1, .i 0] := by
  refine q19 rfl ?_; unfold p19
  have hq : i % 4 = 2 := by omega
  repeat (first | simp (disch := omega) only [↓qxs, ↓qxc, ↓qxa, ↓qxb] | refine p_call (nbi221 (by omega)) ?_); (try simp only [List.cons.injEq, Lf.i.injEq, and_true, true_and]); (try omega)
theorem rfi221 {v i : Int} (h : (1 ≤ v ∧ v ≤ 5) ∧ (0 ≤ i ∧ i < 4 * 2 * v) ∧ i % 4 = 2) : Cc 20 [.i 2, .i v, .i i, .i 1] [.i (i + 1)] := by
  refine q20 rfl ?_; unfold p20
  have hq : i % 4 = 2 := by omega
  repeat (first | simp (disch := omega) only [↓qxs, ↓qxc, ↓qxa, ↓qxb, hq] | refine p_call (rnb21 (by omega)) ?_ | refine p_call (rId23 (by omega)) ?_); (try simp only [List.cons.injEq, Lf.i.injEq, and_true, true_and]); (try omega)
theorem nbi222 {v i : Int} (h : (1 ≤ v ∧ v ≤ 5) ∧ (0 ≤ i ∧ i < 4 * 2 * v) ∧ i % 4 = 2) : Cc 18 [.i 2, .i v, .i i, .i 2] [.i (i - 1), .i 0] := by
  refine q18 rfl ?_; unfold p18
  have hq : i % 4 = 2 := by omega
  repeat (first | simp (disch := omega) only [↓qxs, ↓qxc, ↓qxa, ↓qxb, hq] | refine p_call (shCell_ok (by omega)) ?_ | refine p_call (cnb22 (by omega)) ?_ | refine p_call (shId21 (by omega)) ?_); (try simp only [List.cons.injEq, Lf.i.injEq, and_true, true_and]); (try omega)
theorem nmi222 {v i : Int} (h : (1 ≤ v ∧ v ≤ 5) ∧ (0 ≤ i ∧ i < 4 * 2 * v) ∧ i % 4 = 2) : Cc 19 [.i 2, .i v, .i i, .i 2] [.i (i - 1), .i 2, .i 0] := by
  refine q19 rfl ?_; unfold p19
  have hq : i % 4 = 2 := by omega
  repeat (first | simp (disch := omega) only [↓qxs, ↓qxc, ↓qxa, ↓qxb] | refine p_call (nbi222 (by omega)) ?_); (try simp only [List.cons.injEq, Lf.i.injEq, and_true, true_and]); (try omega)
theorem rfi222 {v i : Int} (h : (1 ≤ v ∧ v ≤ 5) ∧ (0 ≤ i ∧ i < 4 * 2 * v) ∧ i % 4 = 2) : Cc 20 [.i 2, .i v, .i i, .i 2] [.i (i - 1)] := by
  refine q20 rfl ?_; unfold p20
  have hq : i % 4 = 2 := by omega
  repeat (first | simp (disch := omega) only [↓qxs, ↓qxc, ↓qxa, ↓qxb, hq] | refine p_call (rnb22 (by omega)) ?_ | refine p_call (rId21 (by omega)) ?_); (try simp only [List.cons.injEq, Lf.i.injEq, and_true, true_and]); (try omega)
theorem nbi230 {v i : Int} (h : (1 ≤ v ∧ v ≤ 5) ∧ (0 ≤ i ∧ i < 4 * 2 * v) ∧ i % 4 = 3 ∧ 1 ≤ i / 4 % 2) : Cc 18 [.i 2, .i v, .i i, .i 0] [.i (i - 6), .i 0] := by
  refine q18 rfl ?_; unfold p18
  have hq : i % 4 = 3 := by omega
  repeat (first | simp (disch := omega) only [↓qxs, ↓qxc, ↓qxa, ↓qxb, hq] | refine p_call (shCell_ok (by omega)) ?_ | refine p_call (cnb30 (by omega)) ?_ | refine p_call (shId21 (by omega)) ?_); (try simp only [List.cons.injEq, Lf.i.injEq, and_true, true_and]); (try omega)
theorem nmi230 {v i : Int} (h : (1 ≤ v ∧ v ≤ 5) ∧ (0 ≤ i ∧ i < 4 * 2 * v) ∧ i % 4 = 3 ∧ 1 ≤ i / 4 % 2) : Cc 19 [.i 2, .i v, .i i, .i 0] [.i (i - 6), .i 0, .i 0] := by
  refine q19 rfl ?_; unfold p19
  have hq : i % 4 = 3 := by omega
  repeat (first | simp (disch := omega) only [↓qxs, ↓qxc, ↓qxa, ↓qxb] | refine p_call (nbi230 (by omega)) ?_); (try simp only [List.cons.injEq, Lf.i.injEq, and_true, true_and]); (try omega)
theorem rfi230 {v i : Int} (h : (1 ≤ v ∧ v ≤ 5) ∧ (0 ≤ i ∧ i < 4 * 2 * v) ∧ i % 4 = 3 ∧ 1 ≤ i / 4 % 2) : Cc 20 [.i 2, .i v, .i i, .i 0] [.i (i - 6)] := by
  refine q20 rfl ?_; unfold p20
  have hq : i % 4 = 3 := by omega
  repeat (first | simp (disch := omega) only [↓qxs, ↓qxc, ↓qxa, ↓qxb, hq] | refine p_call (rnb30 (by omega)) ?_ | refine p_call (rId21 (by omega)) ?_); (try simp only [List.cons.injEq, Lf.i.injEq, and_true, true_and]); (try omega)
theorem nbo230 {v i : Int} (h : (1 ≤ v ∧ v ≤ 5) ∧ (0 ≤ i ∧ i < 4 * 2 * v) ∧ i % 4 = 3 ∧ ¬ (1 ≤ i / 4 % 2)) : Cc 18 [.i 2, .i v, .i i, .i 0] [.i 0, .i 7] := by
  refine q18 rfl ?_; unfold p18
  have hq : i % 4 = 3 := by omega
  repeat (first | simp (disch := omega) only [↓qxs, ↓qxc, ↓qxa, ↓qxb, hq] | refine p_call (shCell_ok (by omega)) ?_ | refine p_call (cnb30 (by omega)) ?_ | refine p_call (shIdo (by omega)) ?_); (try simp only [List.cons.injEq, Lf.i.injEq, and_true, true_and]); (try omega)
theorem nmo230 {v i : Int} (h : (1 ≤ v ∧ v ≤ 5) ∧ (0 ≤ i ∧ i < 4 * 2 * v) ∧ i % 4 = 3 ∧ ¬ (1 ≤ i / 4 % 2)) : Cc 19 [.i 2, .i v, .i i, .i 0] [.i 0, .i 0, .i 7] := by
  refine q19 rfl ?_; unfold p19
  have hq : i % 4 = 3 := by omega
  repeat (first | simp (disch := omega) only [↓qxs, ↓qxc, ↓qxa, ↓qxb] | refine p_call (nbo230 (by omega)) ?_); (try simp only [List.cons.injEq, Lf.i.injEq, and_true, true_and]); (try omega)
theorem rfo230 {v i : Int} (h : (1 ≤ v ∧ v ≤ 5) ∧ (0 ≤ i ∧ i < 4 * 2 * v) ∧ i % 4 = 3 ∧ ¬ (1 ≤ i / 4 % 2)) : Cc 20 [.i 2, .i v, .i i, .i 0] [.i (-1)] := by
  refine q20 rfl ?_; unfold p20
  have hq : i % 4 = 3 := by omega
  repeat (first | simp (disch := omega) only [↓qxs, ↓qxc, ↓qxa, ↓qxb, hq] | refine p_call (rnb30 (by omega)) ?_ | refine p_call (rIdo (by omega)) ?_); (try simp only [List.cons.injEq, Lf.i.injEq, and_true, true_and]); (try omega)
theorem nbi231 {v i : Int} (h : (1 ≤ v ∧ v ≤ 5) ∧ (0 ≤ i ∧ i < 4 * 2 * v) ∧ i % 4 = 3) : Cc 18 [.i 2, .i v, .i i, .i 1] [.i (i - 1), .i 0] := by
  refine q18 rfl ?_; unfold p18
  have hq : i % 4 = 3 := by omega
  repeat (first | simp (disch := omega) only [↓qxs, ↓qxc, ↓qxa, ↓qxb, hq] | refine p_call (shCell_ok (by omega)) ?_ | refine p_call (cnb31 (by omega)) ?_ | refine p_call (shId22 (by omega)) ?_); (try simp only [List.cons.injEq, Lf.i.injEq, and_true, true_and]); (try omega)
theorem nmi231 {v i : Int} (h : (1 ≤ v ∧ v ≤ 5) ∧ (0 ≤ i ∧ i < 4 * 2 * v) ∧ i % 4 = 3) : Cc 19 [.i 2, .i v, .i i, .i 1] [.i (i - 1), .i 1, .i 0] := by
  refine q19 rfl ?_; unfold p19
  have hq : i % 4 = 3 := by omega
  repeat (first | simp (disch := omega) only [↓qxs, ↓qxc, ↓qxa, ↓qxb] | refine p_call (nbi231 (by omega)) ?_); (try simp only [List.cons.injEq, Lf.i.injEq, and_true, true_and]); (try omega)
theorem rfi231 {v i : Int} (h : (1 ≤ v ∧ v ≤ 5) ∧ (0 ≤ i ∧ i < 4 * 2 * v) ∧ i % 4 = 3) : Cc 20 [.i 2, .i v, .i i, .i 1] [.i (i - 1)] := by
  refine q20 rfl ?_; unfold p20
  have hq : i % 4 = 3 := by omega
  repeat (first | simp (disch := omega) only [↓qxs, ↓qxc, ↓qxa, ↓qxb, hq] | refine p_call (rnb31 (by omega)) ?_ | refine p_call (rId22 (by omega)) ?_); (try simp only [List.cons.injEq, Lf.i.injEq, and_true, true_and]); (try omega)
theorem nbi232 {v i : Int} (h : (1 ≤ v ∧ v ≤ 5) ∧ (0 ≤ i ∧ i < 4 * 2 * v) ∧ i % 4 = 3) : Cc 18 [.i 2, .i v, .i i, .i 2] [.i (i - 3), .i 0] := by
  refine q18 rfl ?_; unfold p18
  have hq : i % 4 = 3 := by omega
  repeat (first | simp (disch := omega) only [↓qxs, ↓qxc, ↓qxa, ↓qxb, hq] | refine p_call (shCell_ok (by omega)) ?_ | refine p_call (cnb32 (by omega)) ?_ | refine p_call (shId20 (by omega)) ?_); (try simp only [List.cons.injEq, Lf.i.injEq, and_true, true_and]); (try omega)
theorem nmi232 {v i : Int} (h : (1 ≤ v ∧ v ≤ 5) ∧ (0 ≤ i ∧ i < 4 * 2 * v) ∧ i % 4 = 3) : Cc 19 [.i 2, .i v, .i i, .i 2] [.i (i - 3), .i 2, .i 0] := by
  refine q19 rfl ?_; unfold p19
  have hq : i % 4 = 3 := by omega
  repeat (first | simp (disch := omega) only [↓qxs, ↓qxc, ↓qxa, ↓qxb] | refine p_call (nbi232 (by omega)) ?_); (try simp only [List.cons.injEq, Lf.i.injEq, and_true, true_and]); (try omega)
theorem rfi232 {v i : Int} (h : (1 ≤ v ∧ v ≤ 5) ∧ (0 ≤ i ∧ i < 4 * 2 * v) ∧ i % 4 = 3) : Cc 20 [.i 2, .i v, .i i, .i 2] [.i (i - 3)] := by
  refine q20 rfl ?_; unfold p20
  have hq : i % 4 = 3 := by omega
  repeat (first | simp (disch := omega) only [↓qxs, ↓qxc, ↓qxa, ↓qxb, hq] | refine p_call (rnb32 (by omega)) ?_ | refine p_call (rId20 (by omega)) ?_); (try simp only [List.cons.injEq, Lf.i.injEq, and_true, true_and]); (try omega)
theorem nbi300 {v i : Int} (h : (1 ≤ v ∧ v ≤ 5) ∧ (0 ≤ i ∧ i < 4 * 3 * v) ∧ i % 4 = 0 ∧ 12 ≤ i) : Cc 18 [.i 3, .i v, .i i, .i 0] [.i (i - 10), .i 0] := by
  refine q18 rfl ?_; unfold p18
  have hq : i % 4 = 0 := by omega
  repeat (first | simp (disch := omega) only [↓qxs, ↓qxc, ↓qxa, ↓qxb, hq] | refine p_call (shCell_ok (by omega)) ?_ | refine p_call (cnb00 (by omega)) ?_ | refine p_call (shId32 (by omega)) ?_); (try simp only [List.cons.injEq, Lf.i.injEq, and_true, true_and]); (try omega)
theorem nmi300 {v i : Int} (h : (1 ≤ v ∧ v ≤ 5) ∧ (0 ≤ i ∧ i < 4 * 3 * v) ∧ i % 4 = 0 ∧ 12 ≤ i) : Cc 19 [.i 3, .i v, .i i, .i 0] [.i (i - 10), .i 0, .i 0] := by
  refine q19 rfl ?_; unfold p19
  have hq : i % 4 = 0 := by omega
  repeat (first | simp (disch := omega) only [↓qxs, ↓qxc, ↓qxa, ↓qxb] | refine p_call (nbi300 (by omega)) ?_); (try simp only [List.cons.injEq, Lf.i.injEq, and_true, true_and]); (try omega)
theorem rfi300 {v i : Int} (h : (1 ≤ v ∧ v ≤ 5) ∧ (0 ≤ i ∧ i < 4 * 3 * v) ∧ i % 4 = 0 ∧ 12 ≤ i) : Cc 20 [.i 3, .i v, .i i, .i 0] [.i (i - 10)] := by
  refine q20 rfl ?_; unfold p20
  have hq : i % 4 = 0 := by omega
  repeat (first | simp (disch := omega) only [↓qxs, ↓qxc, ↓qxa, ↓qxb, hq] | refine p_call (rnb00 (by omega)) ?_ | refine p_call (rId32 (by omega)) ?_); (try simp only [List.cons.injEq, Lf.i.injEq, and_true, true_and]); (try omega)
theorem nbo300 {v i : Int} (h : (1 ≤ v ∧ v ≤ 5) ∧ (0 ≤ i ∧ i < 4 * 3 * v) ∧ i % 4 = 0 ∧ ¬ (12 ≤ i)) : Cc 18 [.i 3, .i v, .i i, .i 0] [.i 0, .i 7] := by
  refine q18 rfl ?_; unfold p18
  have hq : i % 4 = 0 := by omega
  repeat (first | simp (disch := omega) only [↓qxs, ↓qxc, ↓qxa, ↓qxb, hq] | refine p_call (shCell_ok (by omega)) ?_ | refine p_call (cnb00 (by omega)) ?_ | refine p_call (shIdo (by omega)) ?_); (try simp only [List.cons.injEq, Lf.i.injEq, and_true, true_and]); (try omega)
theorem nmo300 {v i : Int} (h : (1 ≤ v ∧ v ≤ 5) ∧ (0 ≤ i ∧ i < 4 * 3 * v) ∧ i % 4 = 0 ∧ ¬ (12 ≤ i)) : Cc 19 [.i 3, .i v, .i i, .i 0] [.i 0, .i 0, .i 7] := by
  refine q19 rfl ?_; unfold p19
  have hq : i % 4 = 0 := by omega
  repeat (first | simp (disch := omega) only [↓qxs, ↓qxc, ↓qxa, ↓qxb] | refine p_call (nbo300 (by omega)) ?_); (try simp only [List.cons.injEq, Lf.i.injEq, and_true, true_and]); (try omega)
theorem rfo300 {v i : Int} (h : (1 ≤ v ∧ v ≤ 5) ∧ (0 ≤ i ∧ i < 4 * 3 * v) ∧ i % 4 = 0 ∧ ¬ (12 ≤ i)) : Cc 20 [.i 3, .i v, .i i, .i 0] [.i (-1)] := by
  refine q20 rfl ?_; unfold p20
  have hq : i % 4 = 0 := by omega
  repeat (first | simp (disch := omega) only [↓qxs, ↓qxc, ↓qxa, ↓qxb, hq] | refine p_call (rnb00 (by omega)) ?_ | refine p_call (rIdo (by omega)) ?_); (try simp only [List.cons.injEq, Lf.i.injEq, and_true, true_and]); (try omega)
theorem nbi301 {v i : Int} (h : (1 ≤ v ∧ v ≤ 5) ∧ (0 ≤ i ∧ i < 4 * 3 * v) ∧ i % 4 = 0) : Cc 18 [.i 3, .i v, .i i, .i 1] [.i (i + 1), .i 0] := by
  refine q18 rfl ?_; unfold p18
  have hq : i % 4 = 0 := by omega
  repeat (first | simp (disch := omega) only [↓qxs, ↓qxc, ↓qxa, ↓qxb, hq] | refine p_call (shCell_ok (by omega)) ?_ | refine p_call (cnb01 (by omega)) ?_ | refine p_call (shId31 (by omega)) ?_); (try simp only [List.cons.injEq, Lf.i.injEq, and_true, true_and]); (try omega)
theorem nmi301 {v i : Int} (h : (1 ≤ v ∧ v ≤ 5) ∧ (0 ≤ i ∧ i < 4 * 3 * v) ∧ i % 4 = 0) : Cc 19 [.i 3, .i v, .i i, .i 1] [.i i, .i 1, .i 0] := by
  refine q19 rfl ?_; unfold p19
  have hq : i % 4 = 0 := by omega
  repeat (first | simp (disch := omega) only [↓qxs, ↓qxc, ↓qxa, ↓qxb] | refine p_call (nbi301 (by omega)) ?_); (try simp only [List.cons.injEq, Lf.i.injEq, and_true, true_and]); (try omega)
theorem rfi301 {v i : Int} (h : (1 ≤ v ∧ v ≤ 5) ∧ (0 ≤ i ∧ i < 4 * 3 * v) ∧ i % 4 = 0) : Cc 20 [.i 3, .i v, .i i, .i 1] [.i (i + 1)] := by
  refine q20 rfl ?_; unfold p20
  have hq : i % 4 = 0 := by omega
  repeat (first | simp (disch := omega) only [↓qxs, ↓qxc, ↓qxa, ↓qxb, hq] | refine p_call (rnb01 (by omega)) ?_ | refine p_call (rId31 (by omega)) ?_); (try simp only [List.cons.injEq, Lf.i.injEq, and_true, true_and]); (try omega)
theorem nbi302 {v i : Int} (h : (1 ≤ v ∧ v ≤ 5) ∧ (0 ≤ i ∧ i < 4 * 3 * v) ∧ i % 4 = 0) : Cc 18 [.i 3, .i v, .i i, .i 2] [.i (i + 3), .i 0] := by
  refine q18 rfl ?_; unfold p18
  have hq : i % 4 = 0 := by omega
  repeat (first | simp (disch := omega) only [↓qxs, ↓qxc, ↓qxa, ↓qxb, hq] | refine p_call (shCell_ok (by omega)) ?_ | refine p_call (cnb02 (by omega)) ?_ | refine p_call (shId33 (by omega)) ?_); (try simp only [List.cons.injEq, Lf.i.injEq, and_true, true_and]); (try omega)
theorem nmi302 {v i : Int} (h : (1 ≤ v ∧ v ≤ 5) ∧ (0 ≤ i ∧ i < 4 * 3 * v) ∧ i % 4 = 0) : Cc 19 [.i 3, .i v, .i i, .i 2] [.i i, .i 2, .i 0] := by
  refine q19 rfl ?_; unfold p19
  have hq : i % 4 = 0 := by omega
  repeat (first | simp (disch := omega) only [↓qxs, ↓qxc, ↓qxa, ↓qxb] | refine p_call (nbi302 (by omega)) ?_); (try simp only [List.cons.injEq, Lf.i.injEq, and_true, true_and]); (try omega)
theorem rfi302 {v i : Int} (h : (1 ≤ v ∧ v ≤ 5) ∧ (0 ≤ i ∧ i < 4 * 3 * v) ∧ i % 4 = 0) : Cc 20 [.i 3, .i v, .i i, .i 2] [.i (i + 3)] := by
  refine q20 rfl ?_; unfold p20
  have hq : i % 4 = 0 := by omega
  repeat (first | simp (disch := omega) only [↓qxs, ↓qxc, ↓qxa, ↓qxb, hq] | refine p_call (rnb02 (by omega)) ?_ | refine p_call (rId33 (by omega)) ?_); (try simp only [List.cons.injEq, Lf.i.injEq, and_true, true_and]); (try omega)
theorem nbi310 {v i : Int} (h : (1 ≤ v ∧ v ≤ 5) ∧ (0 ≤ i ∧ i < 4 * 3 * v) ∧ i % 4 = 1 ∧ i / 4 % 3 + 1 < 3) : Cc 18 [.i 3, .i v, .i i, .i 0] [.i (i + 6), .i 0] := by
  refine q18 rfl ?_; unfold p18
  have hq : i % 4 = 1 := by omega
  repeat (first | simp (disch := omega) only [↓qxs, ↓qxc, ↓qxa, ↓qxb, hq] | refine p_call (shCell_ok (by omega)) ?_ | refine p_call (cnb10 (by omega)) ?_ | refine p_call (shId33 (by omega)) ?_); (try simp only [List.cons.injEq, Lf.i.injEq, and_true, true_and]); (try omega)
theorem nmi310 {v i : Int} (h : (1 ≤ v ∧ v ≤ 5) ∧ (0 ≤ i ∧ i < 4 * 3 * v) ∧ i % 4 = 1 ∧ i / 4 % 3 + 1 < 3) : Cc 19 [.i 3, .i v, .i i, .i 0] [.i i, .i 0, .i 0] := by
  refine q19 rfl ?_; unfold p19
  have hq : i % 4 = 1 := by omega
  repeat (first | simp (disch := omega) only [↓qxs, ↓qxc, ↓qxa, ↓qxb] | refine p_call (nbi310 (by omega)) ?_); (try simp only [List.cons.injEq, Lf.i.injEq, and_true, true_and]); (try omega)
theorem rfi310 {v i : Int} (h : (1 ≤ v ∧ v ≤ 5) ∧ (0 ≤ i ∧ i < 4 * 3 * v) ∧ i % 4 = 1 ∧ i / 4 % 3 + 1 < 3) : Cc 20 [.i 3, .i v, .i i, .i 0] [.i (i + 6)] := by
  refine q20 rfl ?_; unfold p20
  have hq : i % 4 = 1 := by omega
  repeat (first | simp (disch := omega) only [↓qxs, ↓qxc, ↓qxa, ↓qxb, hq] | refine p_call (rnb10 (by omega)) ?_ | refine p_call (rId33 (by omega)) ?_); (try simp only [List.cons.injEq, Lf.i.injEq, and_true, true_and]); (try omega)
theorem nbo310 {v i : Int} (h : (1 ≤ v ∧ v ≤ 5) ∧ (0 ≤ i ∧ i < 4 * 3 * v) ∧ i % 4 = 1 ∧ ¬ (i / 4 % 3 + 1 < 3)) : Cc 18 [.i 3, .i v, .i i, .i 0] [.i 0, .i 7] := by
  refine q18 rfl ?_; unfold p18
  have hq : i % 4 = 1 := by omega
  repeat (first | simp (disch := omega) only [↓qxs, ↓qxc, ↓qxa, ↓qxb, hq] | refine p_call (shCell_ok (by omega)) ?_ | refine p_call (cnb10 (by omega)) ?_ | refine p_call (shIdo (by omega)) ?_); (try simp only [List.cons.injEq, Lf.i.injEq, and_true, true_and]); (try omega)
theorem nmo310 {v i : Int} (h : (1 ≤ v ∧ v ≤ 5) ∧ (0 ≤ i ∧ i < 4 * 3 * v) ∧ i % 4 = 1 ∧ ¬ (i / 4 % 3 + 1 < 3)) : Cc 19 [.i 3, .i v, .i i, .i 0] [.i 0, .i 0, .i 7] := by
  refine q19 rfl ?_; unfold p19
  have hq : i % 4 = 1 := by omega
  repeat (first | simp (disch := omega) only [↓qxs, ↓qxc, ↓qxa, ↓qxb] | refine p_call (nbo310 (by omega)) ?_); (try simp only [List.cons.injEq, Lf.i.injEq, and_true, true_and]); (try omega)
theorem rfo310 {v i : Int} (h : (1 ≤ v ∧ v ≤ 5) ∧ (0 ≤ i ∧ i < 4 * 3 * v) ∧ i % 4 = 1 ∧ ¬ (i / 4 % 3 + 1 < 3)) : Cc 20 [.i 3, .i v, .i i, .i 0] [.i (-1)] := by
  refine q20 rfl ?_; unfold p20
  have hq : i % 4 = 1 := by omega
  repeat (first | simp (disch := omega) only [↓qxs, ↓qxc, ↓qxa, ↓qxb, hq] | refine p_call (rnb10 (by omega)) ?_ | refine p_call (rIdo (by omega)) ?_); (try simp only [List.cons.injEq, Lf.i.injEq, and_true, true_and]); (try omega)
theorem nbi311 {v i : Int} (h : (1 ≤ v ∧ v ≤ 5) ∧ (0 ≤ i ∧ i < 4 * 3 * v) ∧ i % 4 = 1) : Cc 18 [.i 3, .i v, .i i, .i 1] [.i (i - 1), .i 0] := by
  refine q18 rfl ?_; unfold p18
  have hq : i % 4 = 1 := by omega
  repeat (first | simp (disch := omega) only [↓qxs, ↓qxc, ↓qxa, ↓qxb, hq] | refine p_call (shCell_ok (by omega)) ?_ | refine p_call (cnb11 (by omega)) ?_ | refine p_call (shId30 (by omega)) ?_); (try simp only [List.cons.injEq, Lf.i.injEq, and_true, true_and]); (try omega)
theorem nmi311 {v i : Int} (h : (1 ≤ v ∧ v ≤ 5) ∧ (0 ≤ i ∧ i < 4 * 3 * v) ∧ i % 4 = 1) : Cc 19 [.i 3, .i v, .i i, .i 1] [.i (i - 1), .i 1, .i 0] := by
  refine q19 rfl ?_; unfold p19
  have hq : i % 4 = 1 := by omega
  repeat (first | simp (disch := omega) only [↓qxs, ↓qxc, ↓qxa, ↓qxb] | refine p_call (nbi311 (by omega)) ?_); (try simp only [List.cons.injEq, Lf.i.injEq, and_true, true_and]); (try omega)
theorem rfi311 {v i : Int} (h : (1 ≤ v ∧ v ≤ 5) ∧ (0 ≤ i ∧ i < 4 * 3 * v) ∧ i % 4 = 1) : Cc 20 [.i 3, .i v, .i i, .i 1] [.i (i - 1)] := by
  refine q20 rfl ?_; unfold p20
  have hq : i % 4 = 1 := by omega
  repeat (first | simp (disch := omega) only [↓qxs, ↓qxc, ↓qxa, ↓qxb, hq] | refine p_call (rnb11 (by omega)) ?_ | refine p_call (rId30 (by omega)) ?_); (try simp only [List.cons.injEq, Lf.i.injEq, and_true, true_and]); (try omega)
theorem nbi312 {v i : Int} (h : (1 ≤ v ∧ v ≤ 5) ∧ (0 ≤ i ∧ i < 4 * 3 * v) ∧ i % 4 = 1) : Cc 18 [.i 3, .i v, .i i, .i 2] [.i (i + 1), .i 0] := by
  refine q18 rfl ?_; unfold p18
  have hq : i % 4 = 1 := by omega
  repeat (first | simp (disch := omega) only [↓qxs, ↓qxc, ↓qxa, ↓qxb, hq] | refine p_call (shCell_ok (by omega)) ?_ | refine p_call (cnb12 (by omega)) ?_ | refine p_call (shId32 (by omega)) ?_); (try simp only [List.cons.injEq, Lf.i.injEq, and_true, true_and]); (try omega)
theorem nmi312 {v i : Int} (h : (1 ≤ v ∧ v ≤ 5) ∧ (0 ≤ i ∧ i < 4 * 3 * v) ∧ i % 4 = 1) : Cc 19 [.i 3, .i v, .i i, .i 2] [.i i, .i 2, .i 0] := by
  refine q19 rfl ?_; unfold p19
  have hq : i % 4 = 1 := by omega
  repeat (first | simp (disch := omega) only [↓qxs, ↓qxc, ↓qxa, ↓qxb] | refine p_call (nbi312 (by omega)) ?_); (try simp only [List.cons.injEq, Lf.i.injEq, and_true, true_and]); (try omega)
theorem rfi312 {v i : Int} (h : (1 ≤ v ∧ v ≤ 5) ∧ (0 ≤ i ∧ i < 4 * 3 * v) ∧ i % 4 = 1) : Cc 20 [.i 3, .i v, .i i, .i 2] [.i (i + 1)] := by
  refine q20 rfl ?_; unfold p20
  have hq : i % 4 = 1 := by omega
  repeat (first | simp (disch := omega) only [↓qxs, ↓qxc, ↓qxa, ↓qxb, hq] | refine p_call (rnb12 (by omega)) ?_ | refine p_call (rId32 (by omega)) ?_); (try simp only [List.cons.injEq, Lf.i.injEq, and_true, true_and]); (try omega)
theorem nbi320 {v i : Int} (h : (1 ≤ v ∧ v ≤ 5) ∧ (0 ≤ i ∧ i < 4 * 3 * v) ∧ i % 4 = 2 ∧ i / 4 / 3 + 1 < v) : Cc 18 [.i 3, .i v, .i i, .i 0] [.i (i + 10), .i 0] := by
  refine q18 rfl ?_; unfold p18
  have hq : i % 4 = 2 := by omega
  repeat (first | simp (disch := omega) only [↓qxs, ↓qxc, ↓qxa, ↓qxb, hq] | refine p_call (shCell_ok (by omega)) ?_ | refine p_call (cnb20 (by omega)) ?_ | refine p_call (shId30 (by omega)) ?_); (try simp only [List.cons.injEq, Lf.i.injEq, and_true, true_and]); (try omega)
theorem nmi320 {v i : Int} (h : (1 ≤ v ∧ v ≤ 5) ∧ (0 ≤ i ∧ i < 4 * 3 * v) ∧ i % 4 = 2 ∧ i / 4 / 3 + 1 < v) : Cc 19 [.i 3, .i v, .i i, .i 0] [.i i, .i 0, .i 0] := by
  refine q19 rfl ?_; unfold p19
  have hq : i % 4 = 2 := by omega
  repeat (first | simp (disch := omega) only [↓qxs, ↓qxc, ↓qxa, ↓qxb] | refine p_call (nbi320 (by omega)) ?_); (try simp only [List.cons.injEq, Lf.i.injEq, and_true, true_and]); (try omega)
theorem rfi320 {v i : Int} (h : (1 ≤ v ∧ v ≤ 5) ∧ (0 ≤ i ∧ i < 4 * 3 * v) ∧ i % 4 = 2 ∧ i / 4 / 3 + 1 < v) : Cc 20 [.i 3, .i v, .i i, .i 0] [.i (i + 10)] := by
  refine q20 rfl ?_; unfold p20
  have hq : i % 4 = 2 := by omega
  repeat (first | simp (disch := omega) only [↓qxs, ↓qxc, ↓qxa, ↓qxb, hq] | refine p_call (rnb20 (by omega)) ?_ | refine p_call (rId30 (by omega)) ?_); (try simp only [List.cons.injEq, Lf.i.injEq, and_true, true_and]); (try omega)
theorem nbo320 {v i : Int} (h : (1 ≤ v ∧ v ≤ 5) ∧ (0 ≤ i ∧ i < 4 * 3 * v) ∧ i % 4 = 2 ∧ ¬ (i / 4 / 3 + 1 < v)) : Cc 18 [.i 3, .i v, .i i, .i 0] [.i 0, .i 7] := by
  refine q18 rfl ?_; unfold p18
  have hq : i % 4 = 2 := by omega
  repeat (first | simp (disch := omega) only [↓qxs, ↓qxc, ↓qxa, ↓qxb, hq] | refine p_call (shCell_ok (by omega)) ?_ | refine p_call (cnb20 (by omega)) ?_ | refine p_call (shIdo (by omega)) ?_); (try simp only [List.cons.injEq, Lf.i.injEq, and_true, true_and]); (try omega)
theorem nmo320 {v i : Int} (h : (1 ≤ v ∧ v ≤ 5) ∧ (0 ≤ i ∧ i < 4 * 3 * v) ∧ i % 4 = 2 ∧ ¬ (i / 4 / 3 + 1 < v)) : Cc 19 [.i 3, .i v, .i i, .i 0] [.i 0, .i 0, .i 7] := by
  refine q19 rfl ?_; unfold p19
  have hq : i % 4 = 2 := by omega
  repeat (first | simp (disch := omega) only [↓qxs, ↓qxc, ↓qxa, ↓qxb] | refine p_call (nbo320 (by omega)) ?_); (try simp only [List.cons.injEq, Lf.i.injEq, and_true, true_and]); (try omega)
theorem rfo320 {v i : Int} (h : (1 ≤ v ∧ v ≤ 5) ∧ (0 ≤ i ∧ i < 4 * 3 * v) ∧ i % 4 = 2 ∧ ¬ (i / 4 / 3 + 1 < v)) : Cc 20 [.i 3, .i v, .i i, .i 0] [.i (-1)] := by
  refine q20 rfl ?_; unfold p20
  have hq : i % 4 = 2 := by omega
  repeat (first | simp (disch := omega) only [↓qxs, ↓qxc, ↓qxa, ↓qxb, hq] | refine p_call (rnb20 (by omega)) ?_ | refine p_call (rIdo (by omega)) ?_); (try simp only [List.cons.injEq, Lf.i.injEq, and_true, true_and]); (try omega)
theorem nbi321 {v i : Int} (h : (1 ≤ v ∧ v ≤ 5) ∧ (0 ≤ i ∧ i < 4 * 3 * v) ∧ i % 4 = 2) : Cc 18 [.i 3, .i v, .i i, .i 1] [.i (i + 1), .i 0] := by
  refine q18 rfl ?_; unfold p18
  have hq : i % 4 = 2 := by omega
  repeat (first | simp (disch := omega) only [↓qxs, ↓qxc, ↓qxa, ↓qxb, hq] | refine p_call (shCell_ok (by omega)) ?_ | refine p_call (cnb21 (by omega)) ?_ | refine p_call (shId33 (by omega)) ?_); (try simp only [List.cons.injEq, Lf.i.injEq, and_true, true_and]); (try omega)
theorem nmi321 {v i : Int} (h : (1 ≤ v ∧ v ≤ 5) ∧ (0 ≤ i ∧ i < 4 * 3 * v) ∧ i % 4 = 2) : Cc 19 [.i 3, .i v, .i i, .i 1] [.i i, .i 1, .i 0] := by
  refine q19 rfl ?_; unfold p19
  have hq : i % 4 = 2 := by omega
  repeat (first | simp (disch := omega) only [↓qxs, ↓qxc, ↓qxa, ↓qxb] | refine p_call (nbi321 (by omega)) ?_); (try simp only [List.cons.injEq, Lf.i.injEq, and_true, true_and]); (try omega)
theorem rfi321 {v i : Int} (h : (1 ≤ v ∧ v ≤ 5) ∧ (0 ≤ i ∧ i < 4 * 3 * v) ∧ i % 4 = 2) : Cc 20 [.i 3, .i v, .i i, .i 1] [.i (i + 1)] := by
  refine q20 rfl ?_; unfold p20
  have hq : i % 4 = 2 := by omega
  repeat (first | simp (disch := omega) only [↓qxs, ↓qxc, ↓qxa, ↓qxb, hq] | refine p_call (rnb21 (by omega)) ?_ | refine p_call (rId33 (by omega)) ?_); (try simp only [List.cons.injEq, Lf.i.injEq, and_true, true_and]); (try omega)
theorem nbi322 {v i : Int} (h : (1 ≤ v ∧ v ≤ 5) ∧ (0 ≤ i ∧ i < 4 * 3 * v) ∧ i % 4 = 2) : Cc 18 [.i 3, .i v, .i i, .i 2] [.i (i - 1), .i 0] := by
  refine q18 rfl ?_; unfold p18
  have hq : i % 4 = 2 := by omega
  repeat (first | simp (disch := omega) only [↓qxs, ↓qxc, ↓qxa, ↓qxb, hq] | refine p_call (shCell_ok (by omega)) ?_ | refine p_call (cnb22 (by omega)) ?_ | refine p_call (shId31 (by omega)) ?_); (try simp only [List.cons.injEq, Lf.i.injEq, and_true, true_and]); (try omega)
theorem nmi322 {v i : Int} (h : (1 ≤ v ∧ v ≤ 5) ∧ (0 ≤ i ∧ i < 4 * 3 * v) ∧ i % 4 = 2) : Cc 19 [.i 3, .i v, .i i, .i 2] [.i (i - 1), .i 2, .i 0] := by
  refine q19 rfl ?_; unfold p19
  have hq : i % 4 = 2 := by omega
  repeat (first | simp (disch := omega) only [↓qxs, ↓qxc, ↓qxa, ↓qxb] | refine p_call (nbi322 (by omega)) ?_); (try simp only [List.cons.injEq, Lf.i.injEq, and_true, true_and]); (try omega)
theorem rfi322 {v i : Int} (h : (1 ≤ v ∧ v ≤ 5) ∧ (0 ≤ i ∧ i < 4 * 3 * v) ∧ i % 4 = 2) : Cc 20 [.i 3, .i v, .i i, .i 2] [.i (i - 1)] := by
  refine q20 rfl ?_; unfold p20
  have hq : i % 4 = 2 := by omega
  repeat (first | simp (disch := omega) only [↓qxs, ↓qxc, ↓qxa, ↓qxb, hq] | refine p_call (rnb22 (by omega)) ?_ | refine p_call (rId31 (by omega)) ?_); (try simp only [List.cons.injEq, Lf.i.injEq, and_true, true_and]); (try omega)
theorem nbi330 {v i : Int} (h : (1 ≤ v ∧ v ≤ 5) ∧ (0 ≤ i ∧ i < 4 * 3 * v) ∧ i % 4 = 3 ∧ 1 ≤ i / 4 % 3) : Cc 18 [.i 3, .i v, .i i, .i 0] [.i (i - 6), .i 0] := by
  refine q18 rfl ?_; unfold p18
  have hq : i % 4 = 3 := by omega
  repeat (first | simp (disch := omega) only [↓qxs, ↓qxc, ↓qxa, ↓qxb, hq] | refine p_call (shCell_ok (by omega)) ?_ | refine p_call (cnb30 (by omega)) ?_ | refine p_call (shId31 (by omega)) ?_); (try simp only [List.cons.injEq, Lf.i.injEq, and_true, true_and]); (try omega)
theorem nmi330 {v i : Int} (h : (1 ≤ v ∧ v ≤ 5) ∧ (0 ≤ i ∧ i < 4 * 3 * v) ∧ i % 4 = 3 ∧ 1 ≤ i / 4 % 3) : Cc 19 [.i 3, .i v, .i i, .i 0] [.i (i - 6), .i 0, .i 0] := by
  refine q19 rfl ?_; unfold p19
  have hq : i % 4 = 3 := by omega
  repeat (first | simp (disch := omega) only [↓qxs, ↓qxc, ↓qxa, ↓qxb] | refine p_call (nbi330 (by omega)) ?_); (try simp only [List.cons.injEq, Lf.i.injEq, and_true, true_and]); (try omega)
theorem rfi330 {v i : Int} (h : (1 ≤ v ∧ v ≤ 5) ∧ (0 ≤ i ∧ i < 4 * 3 * v) ∧ i % 4 = 3 ∧ 1 ≤ i / 4 % 3) : Cc 20 [.i 3, .i v, .i i, .i 0] [.i (i - 6)] := by
  refine q20 rfl ?_; unfold p20
  have hq : i % 4 = 3 := by omega
  repeat (first | simp (disch := omega) only [↓qxs, ↓qxc, ↓qxa, ↓qxb, hq] | refine p_call (rnb30 (by omega)) ?_ | refine p_call (rId31 (by omega)) ?_); (try simp only [List.cons.injEq, Lf.i.injEq, and_true, true_and]); (try omega)
theorem nbo330 {v i : Int} (h : (1 ≤ v ∧ v ≤ 5) ∧ (0 ≤ i ∧ i < 4 * 3 * v) ∧ i % 4 = 3 ∧ ¬ (1 ≤ i / 4 % 3)) : Cc 18 [.i 3, .i v, .i i, .i 0] [.i 0, .i 7] := by
  refine q18 rfl ?_; unfold p18
  have hq : i % 4 = 3 := by omega
  repeat (first | simp (disch := omega) only [↓qxs, ↓qxc, ↓qxa, ↓qxb, hq] | refine p_call (shCell_ok (by omega)) ?_ | refine p_call (cnb30 (by omega)) ?_ | refine p_call (shIdo (by omega)) ?_); (try simp only [List.cons.injEq, Lf.i.injEq, and_true, true_and]); (try omega)
theorem nmo330 {v i : Int} (h : (1 ≤ v ∧ v ≤ 5) ∧ (0 ≤ i ∧ i < 4 * 3 * v) ∧ i % 4 = 3 ∧ ¬ (1 ≤ i / 4 % 3)) : Cc 19 [.i 3, .i v, .i i, .i 0] [.i 0, .i 0, .i 7] := by
  refine q19 rfl ?_; unfold p19
  have hq : i % 4 = 3 := by omega
  repeat (first | simp (disch := omega) only [↓qxs, ↓qxc, ↓qxa, ↓qxb] | refine p_call (nbo330 (by omega)) ?_); (try simp only [List.cons.injEq, Lf.i.injEq, and_true, true_and]); (try omega)
theorem rfo330 {v i : Int} (h : (1 ≤ v ∧ v ≤ 5) ∧ (0 ≤ i ∧ i < 4 * 3 * v) ∧ i % 4 = 3 ∧ ¬ (1 ≤ i / 4 % 3)) : Cc 20 [.i 3, .i v, .i i, .i 0] [.i (-1)] := by
  refine q20 rfl ?_; unfold p20
  have hq : i % 4 = 3 := by omega
  repeat (first | simp (disch := omega) only [↓qxs, ↓qxc, ↓qxa, ↓qxb, hq] | refine p_call (rnb30 (by omega)) ?_ | refine p_call (rIdo (by omega)) ?_); (try simp only [List.cons.injEq, Lf.i.injEq, and_true, true_and]); (try omega)
theorem nbi331 {v i : Int} (h : (1 ≤ v ∧ v ≤ 5) ∧ (0 ≤ i ∧ i < 4 * 3 * v) ∧ i % 4 = 3) : Cc 18 [.i 3, .i v, .i i, .i 1] [.i (i - 1), .i 0] := by
  refine q18 rfl ?_; unfold p18
  have hq : i % 4 = 3 := by omega
  repeat (first | simp (disch := omega) only [↓qxs, ↓qxc, ↓qxa, ↓qxb, hq] | refine p_call (shCell_ok (by omega)) ?_ | refine p_call (cnb31 (by omega)) ?_ | refine p_call (shId32 (by omega)) ?_); (try simp only [List.cons.injEq, Lf.i.injEq, and_true, true_and]); (try omega)
theorem nmi331 {v i : Int} (h : (1 ≤ v ∧ v ≤ 5) ∧ (0 ≤ i ∧ i < 4 * 3 * v) ∧ i % 4 = 3) : Cc 19 [.i 3, .i v, .i i, .i 1] [.i (i - 1), .i 1, .i 0] := by
  refine q19 rfl ?_; unfold p19
  have hq : i % 4 = 3 := by omega
  repeat (first | simp (disch := omega) only [↓qxs, ↓qxc, ↓qxa, ↓qxb] | refine p_call (nbi331 (by omega)) ?_); (try simp only [List.cons.injEq, Lf.i.injEq, and_true, true_and]); (try omega)
theorem rfi331 {v i : Int} (h : (1 ≤ v ∧ v ≤ 5) ∧ (0 ≤ i ∧ i < 4 * 3 * v) ∧ i % 4 = 3) : Cc 20 [.i 3, .i v, .i i, .i 1] [.i (i - 1)] := by
  refine q20 rfl ?_; unfold p20
  have hq : i % 4 = 3 := by omega
  repeat (first | simp (disch := omega) only [↓qxs, ↓qxc, ↓qxa, ↓qxb, hq] | refine p_call (rnb31 (by omega)) ?_ | refine p_call (rId32 (by omega)) ?_); (try simp only [List.cons.injEq, Lf.i.injEq, and_true, true_and]); (try omega)
theorem nbi332 {v i : Int} (h : (1 ≤ v ∧ v ≤ 5) ∧ (0 ≤ i ∧ i < 4 * 3 * v) ∧ i % 4 = 3) : Cc 18 [.i 3, .i v, .i i, .i 2] [.i (i - 3), .i 0] := by
  refine q18 rfl ?_; unfold p18
  have hq : i % 4 = 3 := by omega
  repeat (first | simp (disch := omega) only [↓qxs, ↓qxc, ↓qxa, ↓qxb, hq] | refine p_call (shCell_ok (by omega)) ?_ | refine p_call (cnb32 (by omega)) ?_ | refine p_call (shId30 (by omega)) ?_); (try simp only [List.cons.injEq, Lf.i.injEq, and_true, true_and]); (try omega)
theorem nmi332 {v i : Int} (h : (1 ≤ v ∧ v ≤ 5) ∧ (0 ≤ i ∧ i < 4 * 3 * v) ∧ i % 4 = 3) : Cc 19 [.i 3, .i v, .i i, .i 2] [.i (i - 3), .i 2, .i 0] := by
  refine q19 rfl ?_; unfold p19
  have hq : i % 4 = 3 := by omega
  repeat (first | simp (disch := omega) only [↓qxs, ↓qxc, ↓qxa, ↓qxb] | refine p_call (nbi332 (by omega)) ?_); (try simp only [List.cons.injEq, Lf.i.injEq, and_true, true_and]); (try omega)
theorem rfi332 {v i : Int} (h : (1 ≤ v ∧ v ≤ 5) ∧ (0 ≤ i ∧ i < 4 * 3 * v) ∧ i % 4 = 3) : Cc 20 [.i 3, .i v, .i i, .i 2] [.i (i - 3)] := by
  refine q20 rfl ?_; unfold p20
  have hq : i % 4 = 3 := by omega
  repeat (first | simp (disch := omega) only [↓qxs, ↓qxc, ↓qxa, ↓qxb, hq] | refine p_call (rnb32 (by omega)) ?_ | refine p_call (rId30 (by omega)) ?_); (try simp only [List.cons.injEq, Lf.i.injEq, and_true, true_and]); (try omega)
theorem nbi400 {v i : Int} (h : (1 ≤ v ∧ v ≤ 5) ∧ (0 ≤ i ∧ i < 4 * 4 * v) ∧ i % 4 = 0 ∧ 16 ≤ i) : Cc 18 [.i 4, .i v, .i i, .i 0] [.i (i - 14), .i 0] := by
  refine q18 rfl ?_; unfold p18
  have hq : i % 4 = 0 := by omega
  repeat (first | simp (disch := omega) only [↓qxs, ↓qxc, ↓qxa, ↓qxb, hq] | refine p_call (shCell_ok (by omega)) ?_ | refine p_call (cnb00 (by omega)) ?_ | refine p_call (shId42 (by omega)) ?_); (try simp only [List.cons.injEq, Lf.i.injEq, and_true, true_and]); (try omega)
theorem nmi400 {v i : Int} (h : (1 ≤ v ∧ v ≤ 5) ∧ (0 ≤ i ∧ i < 4 * 4 * v) ∧ i % 4 = 0 ∧ 16 ≤ i) : Cc 19 [.i 4, .i v, .i i, .i 0] [.i (i - 14), .i 0, .i 0] := by
  refine q19 rfl ?_; unfold p19
  have hq : i % 4 = 0 := by omega
  repeat (first | simp (disch := omega) only [↓qxs, ↓qxc, ↓qxa, ↓qxb] | refine p_call (nbi400 (by omega)) ?_); (try simp only [List.cons.injEq, Lf.i.injEq, and_true, true_and]); (try omega)
theorem rfi400 {v i : Int} (h : (1 ≤ v ∧ v ≤ 5) ∧ (0 ≤ i ∧ i < 4 * 4 * v) ∧ i % 4 = 0 ∧ 16 ≤ i) : Cc 20 [.i 4, .i v, .i i, .i 0] [.i (i - 14)] := by
  refine q20 rfl ?_; unfold p20
  have hq : i % 4 = 0 := by omega
  repeat (first | simp (disch := omega) only [↓qxs, ↓qxc, ↓qxa, ↓qxb, hq] | refine p_call (rnb00 (by omega)) ?_ | refine p_call (rId42 (by omega)) ?_); (try simp only [List.cons.injEq, Lf.i.injEq, and_true, true_and]); (try omega)
theorem nbo400 {v i : Int} (h : (1 ≤ v ∧ v ≤ 5) ∧ (0 ≤ i ∧ i < 4 * 4 * v) ∧ i % 4 = 0 ∧ ¬ (16 ≤ i)) : Cc 18 [.i 4, .i v, .i i, .i 0] [.i 0, .i 7] := by
  refine q18 rfl ?_; unfold p18
  have hq : i % 4 = 0 := by omega
  repeat (first | simp (disch := omega) only [↓qxs, ↓qxc, ↓qxa, ↓qxb, hq] | refine p_call (shCell_ok (by omega)) ?_ | refine p_call (cnb00 (by omega)) ?_ | refine p_call (shIdo (by omega)) ?_); (try simp only [List.cons.injEq, Lf.i.injEq, and_true, true_and]); (try omega)
theorem nmo400 {v i : Int} (h : (1 ≤ v ∧ v ≤ 5) ∧ (0 ≤ i ∧ i < 4 * 4 * v) ∧ i % 4 = 0 ∧ ¬ (16 ≤ i)) : Cc 19 [.i 4, .i v, .i i, .i 0] [.i 0, .i 0, .i 7] := by
  refine q19 rfl ?_; unfold p19
  have hq : i % 4 = 0 := by omega
  repeat (first | simp (disch := omega) only [↓qxs, ↓qxc, ↓qxa, ↓qxb] | refine p_call (nbo400 (by omega)) ?_); (try simp only [List.cons.injEq, Lf.i.injEq, and_true, true_and]); (try omega)
theorem rfo400 {v i : Int} (h : (1 ≤ v ∧ v ≤ 5) ∧ (0 ≤ i ∧ i < 4 * 4 * v) ∧ i % 4 = 0 ∧ ¬ (16 ≤ i)) : Cc 20 [.i 4, .i v, .i i, .i 0] [.i (-1)] := by
  refine q20 rfl ?_; unfold p20
  have hq : i % 4 = 0 := by omega
  repeat (first | simp (disch := omega) only [↓qxs, ↓qxc, ↓qxa, ↓qxb, hq] | refine p_call (rnb00 (by omega)) ?_ | refine p_call (rIdo (by omega)) ?_); (try simp only [List.cons.injEq, Lf.i.injEq, and_true, true_and]); (try omega)
theorem nbi401 {v i : Int} (h : (1 ≤ v ∧ v ≤ 5) ∧ (0 ≤ i ∧ i < 4 * 4 * v) ∧ i % 4 = 0) : Cc 18 [.i 4, .i v, .i i, .i 1] [.i (i + 1), .i 0] := by
  refine q18 rfl ?_; unfold p18
  have hq : i % 4 = 0 := by omega
  repeat (first | simp (disch := omega) only [↓qxs, ↓qxc, ↓qxa, ↓qxb, hq] | refine p_call (shCell_ok (by omega)) ?_ | refine p_call (cnb01 (by omega)) ?_ | refine p_call (shId41 (by omega)) ?_); (try simp only [List.cons.injEq, Lf.i.injEq, and_true, true_and]); (try omega)
theorem nmi401 {v i : Int} (h : (1 ≤ v ∧ v ≤ 5) ∧ (0 ≤ i ∧ i < 4 * 4 * v) ∧ i % 4 = 0) : Cc 19 [.i 4, .i v, .i i, .i 1] [.i i, .i 1, .i 0] := by
  refine q19 rfl ?_; unfold p19
  have hq : i % 4 = 0 := by omega
  repeat (first | simp (disch := omega) only [↓qxs, ↓qxc, ↓qxa, ↓qxb] | refine p_call (nbi401 (by omega)) ?_); (try simp only [List.cons.injEq, Lf.i.injEq, and_true, true_and]); (try omega)
theorem rfi401 {v i : Int} (h : (1 ≤ v ∧ v ≤ 5) ∧ (0 ≤ i ∧ i < 4 * 4 * v) ∧ i % 4 = 0) : Cc 20 [.i 4, .i v, .i i, .i 1] [.i (i + 1)] := by
  refine q20 rfl ?_; unfold p20
  have hq : i % 4 = 0 := by omega
  repeat (first | simp (disch := omega) only [↓qxs, ↓qxc, ↓qxa, ↓qxb, hq] | refine p_call (rnb01 (by omega)) ?_ | refine p_call (rId41 (by omega)) ?_); (try simp only [List.cons.injEq, Lf.i.injEq, and_true, true_and]); (try omega)
theorem nbi402 {v i : Int} (h : (1 ≤ v ∧ v ≤ 5) ∧ (0 ≤ i ∧ i < 4 * 4 * v) ∧ i % 4 = 0) : Cc 18 [.i 4, .i v, .i i, .i 2] [.i (i + 3), .i 0] := by
  refine q18 rfl ?_; unfold p18
  have hq : i % 4 = 0 := by omega
  repeat (first | simp (disch := omega) only [↓qxs, ↓qxc, ↓qxa, ↓qxb, hq] | refine p_call (shCell_ok (by omega)) ?_ | refine p_call (cnb02 (by omega)) ?_ | refine p_call (shId43 (by omega)) ?_); (try simp only [List.cons.injEq, Lf.i.injEq, and_true, true_and]); (try omega)
theorem nmi402 {v i : Int} (h : (1 ≤ v ∧ v ≤ 5) ∧ (0 ≤ i ∧ i < 4 * 4 * v) ∧ i % 4 = 0) : Cc 19 [.i 4, .i v, .i i, .i 2] [.i i, .i 2, .i 0] := by
  refine q19 rfl ?_; unfold p19
  have hq : i % 4 = 0 := by omega
  repeat (first | simp (disch := omega) only [↓qxs, ↓qxc, ↓qxa, ↓qxb] | refine p_call (nbi402 (by omega)) ?_); (try simp only [List.cons.injEq, Lf.i.injEq, and_true, true_and]); (try omega)
theorem rfi402 {v i : Int} (h : (1 ≤ v ∧ v ≤ 5) ∧ (0 ≤ i ∧ i < 4 * 4 * v) ∧ i % 4 = 0) : Cc 20 [.i 4, .i v, .i i, .i 2] [.i (i + 3)] := by
  refine q20 rfl ?_; unfold p20
  have hq : i % 4 = 0 := by omega
  repeat (first | simp (disch := omega) only [↓qxs, ↓qxc, ↓qxa, ↓qxb, hq] | refine p_call (rnb02 (by omega)) ?_ | refine p_call (rId43 (by omega)) ?_); (try simp only [List.cons.injEq, Lf.i.injEq, and_true, true_and]); (try omega)
theorem nbi410 {v i : Int} (h : (1 ≤ v ∧ v ≤ 5) ∧ (0 ≤ i ∧ i < 4 * 4 * v) ∧ i % 4 = 1 ∧ i / 4 % 4 + 1 < 4) : Cc 18 [.i 4, .i v, .i i, .i 0] [.i (i + 6), .i 0] := by
  refine q18 rfl ?_; unfold p18
  have hq : i % 4 = 1 := by omega
  repeat (first | simp (disch := omega) only [↓qxs, ↓qxc, ↓qxa, ↓qxb, hq] | refine p_call (shCell_ok (by omega)) ?_ | refine p_call (cnb10 (by omega)) ?_ | refine p_call (shId43 (by omega)) ?_); (try simp only [List.cons.injEq, Lf.i.injEq, and_true, true_and]); (try omega)
theorem nmi410 {v i : Int} (h : (1 ≤ v ∧ v ≤ 5) ∧ (0 ≤ i ∧ i < 4 * 4 * v) ∧ i % 4 = 1 ∧ i / 4 % 4 + 1 < 4) : Cc 19 [.i 4, .i v, .i i, .i 0] [.i i, .i 0, .i 0] := by
  refine q19 rfl ?_; unfold p19
  have hq : i % 4 = 1 := by omega
  repeat (first | simp (disch := omega) only [↓qxs, ↓qxc, ↓qxa, ↓qxb] | refine p_call (nbi410 (by omega)) ?_); (try simp only [List.cons.injEq, Lf.i.injEq, and_true, true_and]); (try omega)
theorem rfi410 {v i : Int} (h : (1 ≤ v ∧ v ≤ 5) ∧ (0 ≤ i ∧ i < 4 * 4 * v) ∧ i % 4 = 1 ∧ i / 4 % 4 + 1 < 4) : Cc 20 [.i 4, .i v, .i i, .i 0] [.i (i + 6)] := by
  refine q20 rfl ?_; unfold p20
  have hq : i % 4 = 1 := by omega
  repeat (first | simp (disch := omega) only [↓qxs, ↓qxc, ↓qxa, ↓qxb, hq] | refine p_call (rnb10 (by omega)) ?_ | refine p_call (rId43 (by omega)) ?_); (try simp only [List.cons.injEq, Lf.i.injEq, and_true, true_and]); (try omega)
theorem nbo410 {v i : Int} (h : (1 ≤ v ∧ v ≤ 5) ∧ (0 ≤ i ∧ i < 4 * 4 * v) ∧ i % 4 = 1 ∧ ¬ (i / 4 % 4 + 1 < 4)) : Cc 18 [.i 4, .i v, .i i, .i 0] [.i 0, .i 7] := by
  refine q18 rfl ?_; unfold p18
  have hq : i % 4 = 1 := by omega
  repeat (first | simp (disch := omega) only [↓qxs, ↓qxc, ↓qxa, ↓qxb, hq] | refine p_call (shCell_ok (by omega)) ?_ | refine p_call (cnb10 (by omega)) ?_ | refine p_call (shIdo (by omega)) ?_); (try simp only [List.cons.injEq, Lf.i.injEq, and_true, true_and]); (try omega)
theorem nmo410 {v i : Int} (h : (1 ≤ v ∧ v ≤ 5) ∧ (0 ≤ i ∧ i < 4 * 4 * v) ∧ i % 4 = 1 ∧ ¬ (i / 4 % 4 + 1 < 4)) : Cc 19 [.i 4, .i v, .i i, .i 0] [.i 0, .i 0, .i 7] := by
  refine q19 rfl ?_; unfold p19
  have hq : i % 4 = 1 := by omega
  repeat (first | simp (disch := omega) only [↓qxs, ↓qxc, ↓qxa, ↓qxb] | refine p_call (nbo410 (by omega)) ?_); (try simp only [List.cons.injEq, Lf.i.injEq, and_true, true_and]); (try omega)
theorem rfo410 {v i : Int} (h : (1 ≤ v ∧ v ≤ 5) ∧ (0 ≤ i ∧ i < 4 * 4 * v) ∧ i % 4 = 1 ∧ ¬ (i / 4 % 4 + 1 < 4)) : Cc 20 [.i 4, .i v, .i i, .i 0] [.i (-1)] := by
  refine q20 rfl ?_; unfold p20
  have hq : i % 4 = 1 := by omega
  repeat (first | simp (disch := omega) only [↓qxs, ↓qxc, ↓qxa, ↓qxb, hq] | refine p_call (rnb10 (by omega)) ?_ | refine p_call (rIdo (by omega)) ?_); (try simp only [List.cons.injEq, Lf.i.injEq, and_true, true_and]); (try omega)
theorem nbi411 {v i : Int} (h : (1 ≤ v ∧ v ≤ 5) ∧ (0 ≤ i ∧ i < 4 * 4 * v) ∧ i % 4 = 1) : Cc 18 [.i 4, .i v, .i i, .i 1] [.i (i - 1), .i 0] := by
  refine q18 rfl ?_; unfold p18
  have hq : i % 4 = 1 := by omega
  repeat (first | simp (disch := omega) only [↓qxs, ↓qxc, ↓qxa, ↓qxb, hq] | refine p_call (shCell_ok (by omega)) ?_ | refine p_call (cnb11 (by omega)) ?_ | refine p_call (shId40 (by omega)) ?_); (try simp only [List.cons.injEq, Lf.i.injEq, and_true, true_and]); (try omega)
theorem nmi411 {v i : Int} (h : (1 ≤ v ∧ v ≤ 5) ∧ (0 ≤ i ∧ i < 4 * 4 * v) ∧ i % 4 = 1) : Cc 19 [.i 4, .i v, .i i, .i 1] [.i (i - 1), .i 1, .i 0] := by
  refine q19 rfl ?_; unfold p19
  have hq : i % 4 = 1 := by omega
  repeat (first | simp (disch := omega) only [↓qxs, ↓qxc, ↓qxa, ↓qxb] | refine p_call (nbi411 (by omega)) ?_); (try simp only [List.cons.injEq, Lf.i.injEq, and_true, true_and]); (try omega)
theorem rfi411 {v i : Int} (h : (1 ≤ v ∧ v ≤ 5) ∧ (0 ≤ i ∧ i < 4 * 4 * v) ∧ i % 4 = 1) : Cc 20 [.i 4, .i v, .i i, .i 1] [.i (i - 1)] := by
  refine q20 rfl ?_; unfold p20
  have hq : i % 4 = 1 := by omega
  repeat (first | simp (disch := omega) only [↓qxs, ↓qxc, ↓qxa, ↓qxb, hq] | refine p_call (rnb11 (by omega)) ?_ | refine p_call (rId40 (by omega)) ?_); (try simp only [List.cons.injEq, Lf.i.injEq, and_true, true_and]); (try omega)
theorem nbi412 {v i : Int} (h : (1 ≤ v ∧ v ≤ 5) ∧ (0 ≤ i ∧ i < 4 * 4 * v) ∧ i % 4 = 1) : Cc 18 [.i 4, .i v, .i i, .i 2] [.i (i + 1), .i 0] := by
  refine q18 rfl ?_; unfold p18
  have hq : i % 4 = 1 := by omega
  repeat (first | simp (disch := omega) only [↓qxs, ↓qxc, ↓qxa, ↓qxb, hq] | refine p_call (shCell_ok (by omega)) ?_ | refine p_call (cnb12 (by omega)) ?_ | refine p_call (shId42 (by omega)) ?_); (try simp only [List.cons.injEq, Lf.i.injEq, and_true, true_and]); (try omega)
theorem nmi412 {v i : Int} (h : (1 ≤ v ∧ v ≤ 5) ∧ (0 ≤ i ∧ i < 4 * 4 * v) ∧ i % 4 = 1) : Cc 19 [.i 4, .i v, .i i, .i 2] [.i i, .i 2, .i 0] := by
  refine q19 rfl ?_; unfold p19
  have hq : i % 4 = 1 := by omega
  repeat (first | simp (disch := omega) only [↓qxs, ↓qxc, ↓qxa, ↓qxb] | refine p_call (nbi412 (by omega)) ?_); (try simp only [List.cons.injEq, Lf.i.injEq, and_true, true_and]); (try omega)
theorem rfi412 {v i : Int} (h : (1 ≤ v ∧ v ≤ 5) ∧ (0 ≤ i ∧ i < 4 * 4 * v) ∧ i % 4 = 1) : Cc 20 [.i 4, .i v, .i i, .i 2] [.i (i + 1)] := by
  refine q20 rfl ?_; unfold p20
  have hq : i % 4 = 1 := by omega
  repeat (first | simp (disch := omega) only [↓qxs, ↓qxc, ↓qxa, ↓qxb, hq] | refine p_call (rnb12 (by omega)) ?_ | refine p_call (rId42 (by omega)) ?_); (try simp only [List.cons.injEq, Lf.i.injEq, and_true, true_and]); (try omega)
theorem nbi420 {v i : Int} (h : (1 ≤ v ∧ v ≤ 5) ∧ (0 ≤ i ∧ i < 4 * 4 * v) ∧ i % 4 = 2 ∧ i / 4 / 4 + 1 < v) : Cc 18 [.i 4, .i v, .i i, .i 0] [.i (i + 14), .i 0] := by
  refine q18 rfl ?_; unfold p18
  have hq : i % 4 = 2 := by omega
  repeat (first | simp (disch := omega) only [↓qxs, ↓qxc, ↓qxa, ↓qxb, hq] | refine p_call (shCell_ok (by omega)) ?_ | refine p_call (cnb20 (by omega)) ?_ | refine p_call (shId40 (by omega)) ?_); (try simp only [List.cons.injEq, Lf.i.injEq, and_true, true_and]); (try omega)
theorem nmi420 {v i : Int} (h : (1 ≤ v ∧ v ≤ 5) ∧ (0 ≤ i ∧ i < 4 * 4 * v) ∧ i % 4 = 2 ∧ i / 4 / 4 + 1 < v) : Cc 19 [.i 4, .i v, .i i, .i 0] [.i i, .i 0, .i 0] := by
  refine q19 rfl ?_; unfold p19
  have hq : i % 4 = 2 := by omega
  repeat (first | simp (disch := omega) only [↓qxs, ↓qxc, ↓qxa, ↓qxb] | refine p_call (nbi420 (by omega)) ?_); (try simp only [List.cons.injEq, Lf.i.injEq, and_true, true_and]); (try omega)
theorem rfi420 {v i : Int} (h : (1 ≤ v ∧ v ≤ 5) ∧ (0 ≤ i ∧ i < 4 * 4 * v) ∧ i % 4 = 2 ∧ i / 4 / 4 + 1 < v) : Cc 20 [.i 4, .i v, .i i, .i 0] [.i (i + 14)] := by
  refine q20 rfl ?_; unfold p20
  have hq : i % 4 = 2 := by omega
  repeat (first | simp (disch := omega) only [↓qxs, ↓qxc, ↓qxa, ↓qxb, hq] | refine p_call (rnb20 (by omega)) ?_ | refine p_call (rId40 (by omega)) ?_); (try simp only [List.cons.injEq, Lf.i.injEq, and_true, true_and]); (try omega)
theorem nbo420 {v i : Int} (h : (1 ≤ v ∧ v ≤ 5) ∧ (0 ≤ i ∧ i < 4 * 4 * v) ∧ i % 4 = 2 ∧ ¬ (i / 4 / 4 + 1 < v)) : Cc 18 [.i 4, .i v, .i i, .i 0] [.i 0, .i 7] := by
  refine q18 rfl ?_; unfold p18
  have hq : i % 4 = 2 := by omega
  repeat (first | simp (disch := omega) only [↓qxs, ↓qxc, ↓qxa, ↓qxb, hq] | refine p_call (shCell_ok (by omega)) ?_ | refine p_call (cnb20 (by omega)) ?_ | refine p_call (shIdo (by omega)) ?_); (try simp only [List.cons.injEq, Lf.i.injEq, and_true, true_and]); (try omega)
theorem nmo420 {v i : Int} (h : (1 ≤ v ∧ v ≤ 5) ∧ (0 ≤ i ∧ i < 4 * 4 * v) ∧ i % 4 = 2 ∧ ¬ (i / 4 / 4 + 1 < v)) : Cc 19 [.i 4, .i v, .i i, .i 0] [.i 0, .i 0, .i 7] := by
  refine q19 rfl ?_; unfold p19
  have hq : i % 4 = 2 := by omega
  repeat (first | simp (disch := omega) only [↓qxs, ↓qxc, ↓qxa, ↓qxb] | refine p_call (nbo420 (by omega)) ?_); (try simp only [List.cons.injEq, Lf.i.injEq, and_true, true_and]); (try omega)
theorem rfo420 {v i : Int} (h : (1 ≤ v ∧ v ≤ 5) ∧ (0 ≤ i ∧ i < 4 * 4 * v) ∧ i % 4 = 2 ∧ ¬ (i / 4 / 4 + 1 < v)) : Cc 20 [.i 4, .i v, .i i, .i 0] [.i (-1)] := by
  refine q20 rfl ?_; unfold p20
  have hq : i % 4 = 2 := by omega
  repeat (first | simp (disch := omega) only [↓qxs, ↓qxc, ↓qxa, ↓qxb, hq] | refine p_call (rnb20 (by omega)) ?_ | refine p_call (rIdo (by omega)) ?_); (try simp only [List.cons.injEq, Lf.i.injEq, and_true, true_and]); (try omega)
theorem nbi421 {v i : Int} (h : (1 ≤ v ∧ v ≤ 5) ∧ (0 ≤ i ∧ i < 4 * 4 * v) ∧ i % 4 = 2) : Cc 18 [.i 4, .i v, .i i, .i 1] [.i (i + 1), .i 0] := by
  refine q18 rfl ?_; unfold p18
  have hq : i % 4 = 2 := by omega
  repeat (first | simp (disch := omega) only [↓qxs, ↓qxc, ↓qxa, ↓qxb, hq] | refine p_call (shCell_ok (by omega)) ?_ | refine p_call (cnb21 (by omega)) ?_ | refine p_call (shId43 (by omega)) ?_); (try simp only [List.cons.injEq, Lf.i.injEq, and_true, true_and]); (try omega)
theorem nmi421 {v i : Int} (h : (1 ≤ v ∧ v ≤ 5) ∧ (0 ≤ i ∧ i < 4 * 4 * v) ∧ i % 4 = 2) : Cc 19 [.i 4, .i v, .i i, .i 1] [.i i, .i 1, .i 0] := by
  refine q19 rfl ?_; unfold p19
  have hq : i % 4 = 2 := by omega
  repeat (first | simp (disch := omega) only [↓qxs, ↓qxc, ↓qxa, ↓qxb] | refine p_call (nbi421 (by omega)) ?_); (try simp only [List.cons.injEq, Lf.i.injEq, and_true, true_and]); (try omega)
theorem rfi421 {v i : Int} (h : (1 ≤ v ∧ v ≤ 5) ∧ (0 ≤ i ∧ i < 4 * 4 * v) ∧ i % 4 = 2) : Cc 20 [.i 4, .i v, .i i, .i 1] [.i (i + 1)] := by
  refine q20 rfl ?_; unfold p20
  have hq : i % 4 = 2 := by omega
  repeat (first | simp (disch := omega) only [↓qxs, ↓qxc, ↓qxa, ↓qxb, hq] | refine p_call (rnb21 (by omega)) ?_ | refine p_call (rId43 (by omega)) ?_); (try simp only [List.cons.injEq, Lf.i.injEq, and_true, true_and]); (try omega)
theorem nbi422 {v i : Int} (h : (1 ≤ v ∧ v ≤ 5) ∧ (0 ≤ i ∧ i < 4 * 4 * v) ∧ i % 4 = 2) : Cc 18 [.i 4, .i v, .i i, .i 2] [.i (i - 1), .i 0] := by
  refine q18 rfl ?_; unfold p18
  have hq : i % 4 = 2 := by omega
  repeat (first | simp (disch := omega) only [↓qxs, ↓qxc, ↓qxa, ↓qxb, hq] | refine p_call (shCell_ok (by omega)) ?_ | refine p_call (cnb22 (by omega)) ?_ | refine p_call (shId41 (by omega)) ?_); (try simp only [List.cons.injEq, Lf.i.injEq, and_true, true_and]); (try omega)
theorem nmi422 {v i : Int} (h : (1 ≤ v ∧ v ≤ 5) ∧ (0 ≤ i ∧ i < 4 * 4 * v) ∧ i % 4 = 2) : Cc 19 [.i 4, .i v, .i i, .i 2] [.i (i - 1), .i 2, .i 0] := by
  refine q19 rfl ?_; unfold p19
  have hq : i % 4 = 2 := by omega
  repeat (first | simp (disch := omega) only [↓qxs, ↓qxc, ↓qxa, ↓qxb] | refine p_call (nbi422 (by omega)) ?_); (try simp only [List.cons.injEq, Lf.i.injEq, and_true, true_and]); (try omega)
theorem rfi422 {v i : Int} (h : (1 ≤ v ∧ v ≤ 5) ∧ (0 ≤ i ∧ i < 4 * 4 * v) ∧ i % 4 = 2) : Cc 20 [.i 4, .i v, .i i, .i 2] [.i (i - 1)] := by
  refine q20 rfl ?_; unfold p20
  have hq : i % 4 = 2 := by omega
  repeat (first | simp (disch := omega) only [↓qxs, ↓qxc, ↓qxa, ↓qxb, hq] | refine p_call (rnb22 (by omega)) ?_ | refine p_call (rId41 (by omega)) ?_); (try simp only [List.cons.injEq, Lf.i.injEq, and_true, true_and]); (try omega)
theorem nbi430 {v i : Int} (h : (1 ≤ v ∧ v ≤ 5) ∧ (0 ≤ i ∧ i < 4 * 4 * v) ∧ i % 4 = 3 ∧ 1 ≤ i / 4 % 4) : Cc 18 [.i 4, .i v, .i i, .i 0] [.i (i - 6), .i 0] := by
  refine q18 rfl ?_; unfold p18
  have hq : i % 4 = 3 := by omega
  repeat (first | simp (disch := omega) only [↓qxs, ↓qxc, ↓qxa, ↓qxb, hq] | refine p_call (shCell_ok (by omega)) ?_ | refine p_call (cnb30 (by omega)) ?_ | refine p_call (shId41 (by omega)) ?_); (try simp only [List.cons.injEq, Lf.i.injEq, and_true, true_and]); (try omega)
theorem nmi430 {v i : Int} (h : (1 ≤ v ∧ v ≤ 5) ∧ (0 ≤ i ∧ i < 4 * 4 * v) ∧ i % 4 = 3 ∧ 1 ≤ i / 4 % 4) : Cc 19 [.i 4, .i v, .i i, .i 0] [.i (i - 6), .i 0, .i 0] := by
  refine q19 rfl ?_; unfold p19
  have hq : i % 4 = 3 := by omega
  repeat (first | simp (disch := omega) only [↓qxs, ↓qxc, ↓qxa, ↓qxb] | refine p_call (nbi430 (by omega)) ?_); (try simp only [List.cons.injEq, Lf.i.injEq, and_true, true_and]); (try omega)
theorem rfi430 {v i : Int} (h : (1 ≤ v ∧ v ≤ 5) ∧ (0 ≤ i ∧ i < 4 * 4 * v) ∧ i % 4 = 3 ∧ 1 ≤ i / 4 % 4) : Cc 20 [.i 4, .i v, .i i, .i 0] [.i (i - 6)] := by
  refine q20 rfl ?_; unfold p20
  have hq : i % 4 = 3 := by omega
  repeat (first | simp (disch := omega) only [↓qxs, ↓qxc, ↓qxa, ↓qxb, hq] | refine p_call (rnb30 (by omega)) ?_ | refine p_call (rId41 (by omega)) ?_); (try simp only [List.cons.injEq, Lf.i.injEq, and_true, true_and]); (try omega)
theorem nbo430 {v i : Int} (h : (1 ≤ v ∧ v ≤ 5) ∧ (0 ≤ i ∧ i < 4 * 4 * v) ∧ i % 4 = 3 ∧ ¬ (1 ≤ i / 4 % 4)) : Cc 18 [.i 4, .i v, .i i, .i 0] [.i 0, .i 7] := by
  refine q18 rfl ?_; unfold p18
  have hq : i % 4 = 3 := by omega
  repeat (first | simp (disch := omega) only [↓qxs, ↓qxc, ↓qxa, ↓qxb, hq] | refine p_call (shCell_ok (by omega)) ?_ | refine p_call (cnb30 (by omega)) ?_ | refine p_call (shIdo (by omega)) ?_); (try simp only [List.cons.injEq, Lf.i.injEq, and_true, true_and]); (try omega)
theorem nmo430 {v i : Int} (h : (1 ≤ v ∧ v ≤ 5) ∧ (0 ≤ i ∧ i < 4 * 4 * v) ∧ i % 4 = 3 ∧ ¬ (1 ≤ i / 4 % 4)) : Cc 19 [.i 4, .i v, .i i, .i 0] [.i 0, .i 0, .i 7] := by
  refine q19 rfl ?_; unfold p19
  have hq : i % 4 = 3 := by omega
  repeat (first | simp (disch := omega) only [↓qxs, ↓qxc, ↓qxa, ↓qxb] | refine p_call (nbo430 (by omega)) ?_); (try simp only [List.cons.injEq, Lf.i.injEq, and_true, true_and]); (try omega)
theorem rfo430 {v i : Int} (h : (1 ≤ v ∧ v ≤ 5) ∧ (0 ≤ i ∧ i < 4 * 4 * v) ∧ i % 4 = 3 ∧ ¬ (1 ≤ i / 4 % 4)) : Cc 20 [.i 4, .i v, .i i, .i 0] [.i (-1)] := by
  refine q20 rfl ?_; unfold p20
  have hq : i % 4 = 3 := by omega
  repeat (first | simp (disch := omega) only [↓qxs, ↓qxc, ↓qxa, ↓qxb, hq] | refine p_call (rnb30 (by omega)) ?_ | refine p_call (rIdo (by omega)) ?_); (try simp only [List.cons.injEq, Lf.i.injEq, and_true, true_and]); (try omega)
theorem nbi431 {v i : Int} (h : (1 ≤ v ∧ v ≤ 5) ∧ (0 ≤ i ∧ i < 4 * 4 * v) ∧ i % 4 = 3) : Cc 18 [.i 4, .i v, .i i, .i 1] [.i (i - 1), .i 0] := by
  refine q18 rfl ?_; unfold p18
  have hq : i % 4 = 3 := by omega
  repeat (first | simp (disch := omega) only [↓qxs, ↓qxc, ↓qxa, ↓qxb, hq] | refine p_call (shCell_ok (by omega)) ?_ | refine p_call (cnb31 (by omega)) ?_ | refine p_call (shId42 (by omega)) ?_); (try simp only [List.cons.injEq, Lf.i.injEq, and_true, true_and]); (try omega)
theorem nmi431 {v i : Int} (h : (1 ≤ v ∧ v ≤ 5) ∧ (0 ≤ i ∧ i < 4 * 4 * v) ∧ i % 4 = 3) : Cc 19 [.i 4, .i v, .i i, .i 1] [.i (i - 1), .i 1, .i 0] := by
  refine q19 rfl ?_; unfold p19
  have hq : i % 4 = 3 := by omega
  repeat (first | simp (disch := omega) only [↓qxs, ↓qxc, ↓qxa, ↓qxb] | refine p_call (nbi431 (by omega)) ?_); (try simp only [List.cons.injEq, Lf.i.injEq, and_true, true_and]); (try omega)
theorem rfi431 {v i : Int} (h : (1 ≤ v ∧ v ≤ 5) ∧ (0 ≤ i ∧ i < 4 * 4 * v) ∧ i % 4 = 3) : Cc 20 [.i 4, .i v, .i i, .i 1] [.i (i - 1)] := by
  refine q20 rfl ?_; unfold p20
  have hq : i % 4 = 3 := by omega
  repeat (first | simp (disch := omega) only [↓qxs, ↓qxc, ↓qxa, ↓qxb, hq] | refine p_call (rnb31 (by omega)) ?_ | refine p_call (rId42 (by omega)) ?_); (try simp only [List.cons.injEq, Lf.i.injEq, and_true, true_and]); (try omega)
theorem nbi432 {v i : Int} (h : (1 ≤ v ∧ v ≤ 5) ∧ (0 ≤ i ∧ i < 4 * 4 * v) ∧ i % 4 = 3) : Cc 18 [.i 4, .i v, .i i, .i 2] [.i (i - 3), .i 0] := by
  refine q18 rfl ?_; unfold p18
  have hq : i % 4 = 3 := by omega
  repeat (first | simp (disch := omega) only [↓qxs, ↓qxc, ↓qxa, ↓qxb, hq] | refine p_call (shCell_ok (by omega)) ?_ | refine p_call (cnb32 (by omega)) ?_ | refine p_call (shId40 (by omega)) ?_); (try simp only [List.cons.injEq, Lf.i.injEq, and_true, true_and]); (try omega)
theorem nmi432 {v i : Int} (h : (1 ≤ v ∧ v ≤ 5) ∧ (0 ≤ i ∧ i < 4 * 4 * v) ∧ i % 4 = 3) : Cc 19 [.i 4, .i v, .i i, .i 2] [.i (i - 3), .i 2, .i 0] := by
  refine q19 rfl ?_; unfold p19
  have hq : i % 4 = 3 := by omega
  repeat (first | simp (disch := omega) only [↓qxs, ↓qxc, ↓qxa, ↓qxb] | refine p_call (nbi432 (by omega)) ?_); (try simp only [List.cons.injEq, Lf.i.injEq, and_true, true_and]); (try omega)
theorem rfi432 {v i : Int} (h : (1 ≤ v ∧ v ≤ 5) ∧ (0 ≤ i ∧ i < 4 * 4 * v) ∧ i % 4 = 3) : Cc 20 [.i 4, .i v, .i i, .i 2] [.i (i - 3)] := by
  refine q20 rfl ?_; unfold p20
  have hq : i % 4 = 3 := by omega
  repeat (first | simp (disch := omega) only [↓qxs, ↓qxc, ↓qxa, ↓qxb, hq] | refine p_call (rnb32 (by omega)) ?_ | refine p_call (rId40 (by omega)) ?_); (try simp only [List.cons.injEq, Lf.i.injEq, and_true, true_and]); (try omega)
theorem nbi500 {v i : Int} (h : (1 ≤ v ∧ v ≤ 5) ∧ (0 ≤ i ∧ i < 4 * 5 * v) ∧ i % 4 = 0 ∧ 20 ≤ i) : Cc 18 [.i 5, .i v, .i i, .i 0] [.i (i - 18), .i 0] := by
  refine q18 rfl ?_; unfold p18
  have hq : i % 4 = 0 := by omega
  repeat (first | simp (disch := omega) only [↓qxs, ↓qxc, ↓qxa, ↓qxb, hq] | refine p_call (shCell_ok (by omega)) ?_ | refine p_call (cnb00 (by omega)) ?_ | refine p_call (shId52 (by omega)) ?_); (try simp only [List.cons.injEq, Lf.i.injEq, and_true, true_and]); (try omega)
theorem nmi500 {v i : Int} (h : (1 ≤ v ∧ v ≤ 5) ∧ (0 ≤ i ∧ i < 4 * 5 * v) ∧ i % 4 = 0 ∧ 20 ≤ i) : Cc 19 [.i 5, .i v, .i i, .i 0] [.i (i - 18), .i 0, .i 0] := by
  refine q19 rfl ?_; unfold p19
  have hq : i % 4 = 0 := by omega
  repeat (first | simp (disch := omega) only [↓qxs, ↓qxc, ↓qxa, ↓qxb] | refine p_call (nbi500 (by omega)) ?_); (try simp only [List.cons.injEq, Lf.i.injEq, and_true, true_and]); (try omega)
theorem rfi500 {v i : Int} (h : (1 ≤ v ∧ v ≤ 5) ∧ (0 ≤ i ∧ i < 4 * 5 * v) ∧ i % 4 = 0 ∧ 20 ≤ i) : Cc 20 [.i 5, .i v, .i i, .i 0] [.i (i - 18)] := by
  refine q20 rfl ?_; unfold p20
  have hq : i % 4 = 0 := by omega
  repeat (first | simp (disch := omega) only [↓qxs, ↓qxc, ↓qxa, ↓qxb, hq] | refine p_call (rnb00 (by omega)) ?_ | refine p_call (rId52 (by omega)) ?_); (try simp only [List.cons.injEq, Lf.i.injEq, and_true, true_and]); (try omega)
theorem nbo500 {v i : Int} (h : (1 ≤ v ∧ v ≤ 5) ∧ (0 ≤ i ∧ i < 4 * 5 * v) ∧ i % 4 = 0 ∧ ¬ (20 ≤ i)) : Cc 18 [.i 5, .i v, .i i, .i 0] [.i 0, .i 7] := by
  refine q18 rfl ?_; unfold p18
  have hq : i % 4 = 0 := by omega
  repeat (first | simp (disch := omega) only [↓qxs, ↓qxc, ↓qxa, ↓qxb, hq] | refine p_call (shCell_ok (by omega)) ?_ | refine p_call (cnb00 (by omega)) ?_ | refine p_call (shIdo (by omega)) ?_); (try simp only [List.cons.injEq, Lf.i.injEq, and_true, true_and]); (try omega)
theorem nmo500 {v i : Int} (h : (1 ≤ v ∧ v ≤ 5) ∧ (0 ≤ i ∧ i < 4 * 5 * v) ∧ i % 4 = 0 ∧ ¬ (20 ≤ i)) : Cc 19 [.i 5, .i v, .i i, .i 0] [.i 0, .i 0, .i 7] := by
  refine q19 rfl ?_; unfold p19
  have hq : i % 4 = 0 := by omega
  repeat (first | simp (disch := omega) only [↓qxs, ↓qxc, ↓qxa, ↓qxb] | refine p_call (nbo500 (by omega)) ?_); (try simp only [List.cons.injEq, Lf.i.injEq, and_true, true_and]); (try omega)
theorem rfo500 {v i : Int} (h : (1 ≤ v ∧ v ≤ 5) ∧ (0 ≤ i ∧ i < 4 * 5 * v) ∧ i % 4 = 0 ∧ ¬ (20 ≤ i)) : Cc 20 [.i 5, .i v, .i i, .i 0] [.i (-1)] := by
  refine q20 rfl ?_; unfold p20
  have hq : i % 4 = 0 := by omega
  repeat (first | simp (disch := omega) only [↓qxs, ↓qxc, ↓qxa, ↓qxb, hq] | refine p_call (rnb00 (by omega)) ?_ | refine p_call (rIdo (by omega)) ?_); (try simp only [List.cons.injEq, Lf.i.injEq, and_true, true_and]); (try omega)
theorem nbi501 {v i : Int} (h : (1 ≤ v ∧ v ≤ 5) ∧ (0 ≤ i ∧ i < 4 * 5 * v) ∧ i % 4 = 0) : Cc 18 [.i 5, .i v, .i i, .i 1] [.i (i + 1), .i 0] := by
  refine q18 rfl ?_; unfold p18
  have hq : i % 4 = 0 := by omega
  repeat (first | simp (disch := omega) only [↓qxs, ↓qxc, ↓qxa, ↓qxb, hq] | refine p_call (shCell_ok (by omega)) ?_ | refine p_call (cnb01 (by omega)) ?_ | refine p_call (shId51 (by omega)) ?_); (try simp only [List.cons.injEq, Lf.i.injEq, and_true, true_and]); (try omega)
theorem nmi501 {v i : Int} (h : (1 ≤ v ∧ v ≤ 5) ∧ (0 ≤ i ∧ i < 4 * 5 * v) ∧ i % 4 = 0) : Cc 19 [.i 5, .i v, .i i, .i 1] [.i i, .i 1, .i 0] := by
  refine q19 rfl ?_; unfold p19
  have hq : i % 4 = 0 := by omega
  repeat (first | simp (disch := omega) only [↓qxs, ↓qxc, ↓qxa, ↓qxb] | refine p_call (nbi501 (by omega)) ?_); (try simp only [List.cons.injEq, Lf.i.injEq, and_true, true_and]); (try omega)
theorem rfi501 {v i : Int} (h : (1 ≤ v ∧ v ≤ 5) ∧ (0 ≤ i ∧ i < 4 * 5 * v) ∧ i % 4 = 0) : Cc 20 [.i 5, .i v, .i i, .i 1] [.i (i + 1)] := by
  refine q20 rfl ?_; unfold p20
  have hq : i % 4 = 0 := by omega
  repeat (first | simp (disch := omega) only [↓qxs, ↓qxc, ↓qxa, ↓qxb, hq] | refine p_call (rnb01 (by omega)) ?_ | refine p_call (rId51 (by omega)) ?_); (try simp only [List.cons.injEq, Lf.i.injEq, and_true, true_and]); (try omega)
theorem nbi502 {v i : Int} (h : (1 ≤ v ∧ v ≤ 5) ∧ (0 ≤ i ∧ i < 4 * 5 * v) ∧ i % 4 = 0) : Cc 18 [.i 5, .i v, .i i, .i 2] [.i (i + 3), .i 0] := by
  refine q18 rfl ?_; unfold p18
  have hq : i % 4 = 0 := by omega
  repeat (first | simp (disch := omega) only [↓qxs, ↓qxc, ↓qxa, ↓qxb, hq] | refine p_call (shCell_ok (by omega)) ?_ | refine p_call (cnb02 (by omega)) ?_ | refine p_call (shId53 (by omega)) ?_); (try simp only [List.cons.injEq, Lf.i.injEq, and_true, true_and]); (try omega)
theorem nmi502 {v i : Int} (h : (1 ≤ v ∧ v ≤ 5) ∧ (0 ≤ i ∧ i < 4 * 5 * v) ∧ i % 4 = 0) : Cc 19 [.i 5, .i v, .i i, .i 2] [.i i, .i 2, .i 0] := by
  refine q19 rfl ?_; unfold p19
  have hq : i % 4 = 0 := by omega
  repeat (first | simp (disch := omega) only [↓qxs, ↓qxc, ↓qxa, ↓qxb] | refine p_call (nbi502 (by omega)) ?_); (try simp only [List.cons.injEq, Lf.i.injEq, and_true, true_and]); (try omega)
theorem rfi502 {v i : Int} (h : (1 ≤ v ∧ v ≤ 5) ∧ (0 ≤ i ∧ i < 4 * 5 * v) ∧ i % 4 = 0) : Cc 20 [.i 5, .i v, .i i, .i 2] [.i (i + 3)] := by
  refine q20 rfl ?_; unfold p20
  have hq : i % 4 = 0 := by omega
  repeat (first | simp (disch := omega) only [↓qxs, ↓qxc, ↓qxa, ↓qxb, hq] | refine p_call (rnb02 (by omega)) ?_ | refine p_call (rId53 (by omega)) ?_); (try simp only [List.cons.injEq, Lf.i.injEq, and_true, true_and]); (try omega)
theorem nbi510 {v i : Int} (h : (1 ≤ v ∧ v ≤ 5) ∧ (0 ≤ i ∧ i < 4 * 5 * v) ∧ i % 4 = 1 ∧ i / 4 % 5 + 1 < 5) : Cc 18 [.i 5, .i v, .i i, .i 0] [.i (i + 6), .i 0] := by
  refine q18 rfl ?_; unfold p18
  have hq : i % 4 = 1 := by omega
  repeat (first | simp (disch := omega) only [↓qxs, ↓qxc, ↓qxa, ↓qxb, hq] | refine p_call (shCell_ok (by omega)) ?_ | refine p_call (cnb10 (by omega)) ?_ | refine p_call (shId53 (by omega)) ?_); (try simp only [List.cons.injEq, Lf.i.injEq, and_true, true_and]); (try omega)
theorem nmi510 {v i : Int} (h : (1 ≤ v ∧ v ≤ 5) ∧ (0 ≤ i ∧ i < 4 * 5 * v) ∧ i % 4 = 1 ∧ i / 4 % 5 + 1 < 5) : Cc 19 [.i 5, .i v, .i i, .i 0] [.i i, .i 0, .i 0] := by
  refine q19 rfl ?_; unfold p19
  have hq : i % 4 = 1 := by omega
  repeat (first | simp (disch := omega) only [↓qxs, ↓qxc, ↓qxa, ↓qxb] | refine p_call (nbi510 (by omega)) ?_); (try simp only [List.cons.injEq, Lf.i.injEq, and_true, true_and]); (try omega)
theorem rfi510 {v i : Int} (h : (1 ≤ v ∧ v ≤ 5) ∧ (0 ≤ i ∧ i < 4 * 5 * v) ∧ i % 4 = 1 ∧ i / 4 % 5 + 1 < 5) : Cc 20 [.i 5, .i v, .i i, .i 0] [.i (i + 6)] := by
  refine q20 rfl ?_; unfold p20
  have hq : i % 4 = 1 := by omega
  repeat (first | simp (disch := omega) only [↓qxs, ↓qxc, ↓qxa, ↓qxb, hq] | refine p_call (rnb10 (by omega)) ?_ | refine p_call (rId53 (by omega)) ?_); (try simp only [List.cons.injEq, Lf.i.injEq, and_true, true_and]); (try omega)
theorem nbo510 {v i : Int} (h : (1 ≤ v ∧ v ≤ 5) ∧ (0 ≤ i ∧ i < 4 * 5 * v) ∧ i % 4 = 1 ∧ ¬ (i / 4 % 5 + 1 < 5)) : Cc 18 [.i 5, .i v, .i i, .i 0] [.i 0, .i 7] := by
  refine q18 rfl ?_; unfold p18
  have hq : i % 4 = 1 := by omega
  repeat (first | simp (disch := omega) only [↓qxs, ↓qxc, ↓qxa, ↓qxb, hq] | refine p_call (shCell_ok (by omega)) ?_ | refine p_call (cnb10 (by omega)) ?_ | refine p_call (shIdo (by omega)) ?_); (try simp only [List.cons.injEq, Lf.i.injEq, and_true, true_and]); (try omega)
theorem nmo510 {v i : Int} (h : (1 ≤ v ∧ v ≤ 5) ∧ (0 ≤ i ∧ i < 4 * 5 * v) ∧ i % 4 = 1 ∧ ¬ (i / 4 % 5 + 1 < 5)) : Cc 19 [.i 5, .i v, .i i, .i 0] [.i 0, .i 0, .i 7] := by
  refine q19 rfl ?_; unfold p19
  have hq : i % 4 = 1 := by omega
  repeat (first | simp (disch := omega) only [↓qxs, ↓qxc, ↓qxa, ↓qxb] | refine p_call (nbo510 (by omega)) ?_); (try simp only [List.cons.injEq, Lf.i.injEq, and_true, true_and]); (try omega)
theorem rfo510 {v i : Int} (h : (1 ≤ v ∧ v ≤ 5) ∧ (0 ≤ i ∧ i < 4 * 5 * v) ∧ i % 4 = 1 ∧ ¬ (i / 4 % 5 + 1 < 5)) : Cc 20 [.i 5, .i v, .i i, .i 0] [.i (-1)] := by
  refine q20 rfl ?_; unfold p20
  have hq : i % 4 = 1 := by omega
  repeat (first | simp (disch := omega) only [↓qxs, ↓qxc, ↓qxa, ↓qxb, hq] | refine p_call (rnb10 (by omega)) ?_ | refine p_call (rIdo (by omega)) ?_); (try simp only [List.cons.injEq, Lf.i.injEq, and_true, true_and]); (try omega)
theorem nbi511 {v i : Int} (h : (1 ≤ v ∧ v ≤ 5) ∧ (0 ≤ i ∧ i < 4 * 5 * v) ∧ i % 4 = 1) : Cc 18 [.i 5, .i v, .i i, .i 1] [.i (i - 1), .i 0] := by
  refine q18 rfl ?_; unfold p18
  have hq : i % 4 = 1 := by omega
  repeat (first | simp (disch := omega) only [↓qxs, ↓qxc, ↓qxa, ↓qxb, hq] | refine p_call (shCell_ok (by omega)) ?_ | refine p_call (cnb11 (by omega)) ?_ | refine p_call (shId50 (by omega)) ?_); (try simp only [List.cons.injEq, Lf.i.injEq, and_true, true_and]); (try omega)
theorem nmi511 {v i : Int} (h : (1 ≤ v ∧ v ≤ 5) ∧ (0 ≤ i ∧ i < 4 * 5 * v) ∧ i % 4 = 1) : Cc 19 [.i 5, .i v, .i i, .i 1] [.i (i - 1), .i 1, .i 0] := by
  refine q19 rfl ?_; unfold p19
  have hq : i % 4 = 1 := by omega
  repeat (first | simp (disch := omega) only [↓qxs, ↓qxc, ↓qxa, ↓qxb] | refine p_call (nbi511 (by omega)) ?_); (try simp only [List.cons.injEq, Lf.i.injEq, and_true, true_and]); (try omega)
theorem rfi511 {v i : Int} (h : (1 ≤ v ∧ v ≤ 5) ∧ (0 ≤ i ∧ i < 4 * 5 * v) ∧ i % 4 = 1) : Cc 20 [.i 5, .i v, .i i, .i 1] [.i (i - 1)] := by
  refine q20 rfl ?_; unfold p20
  have hq : i % 4 = 1 := by omega
  repeat (first | simp (disch := omega) only [↓qxs, ↓qxc, ↓qxa, ↓qxb, hq] | refine p_call (rnb11 (by omega)) ?_ | refine p_call (rId50 (by omega)) ?_); (try simp only [List.cons.injEq, Lf.i.injEq, and_true, true_and]); (try omega)
theorem nbi512 {v i : Int} (h : (1 ≤ v ∧ v ≤ 5) ∧ (0 ≤ i ∧ i < 4 * 5 * v) ∧ i % 4 = 1) : Cc 18 [.i 5, .i v, .i i, .i 2] [.i (i + 1), .i 0] := by
  refine q18 rfl ?_; unfold p18
  have hq : i % 4 = 1 := by omega
  repeat (first | simp (disch := omega) only [↓qxs, ↓qxc, ↓qxa, ↓qxb, hq] | refine p_call (shCell_ok (by omega)) ?_ | refine p_call (cnb12 (by omega)) ?_ | refine p_call (shId52 (by omega)) ?_); (try simp only [List.cons.injEq, Lf.i.injEq, and_true, true_and]); (try omega)
theorem nmi512 {v i : Int} (h : (1 ≤ v ∧ v ≤ 5) ∧ (0 ≤ i ∧ i < 4 * 5 * v) ∧ i % 4 = 1) : Cc 19 [.i 5, .i v, .i i, .i 2] [.i i, .i 2, .i 0] := by
  refine q19 rfl ?_; unfold p19
  have hq : i % 4 = 1 := by omega
  repeat (first | simp (disch := omega) only [↓qxs, ↓qxc, ↓qxa, ↓qxb] | refine p_call (nbi512 (by omega)) ?_); (try simp only [List.cons.injEq, Lf.i.injEq, and_true, true_and]); (try omega)
theorem rfi512 {v i : Int} (h : (1 ≤ v ∧ v ≤ 5) ∧ (0 ≤ i ∧ i < 4 * 5 * v) ∧ i % 4 = 1) : Cc 20 [.i 5, .i v, .i i, .i 2] [.i (i + 1)] := by
  refine q20 rfl ?_; unfold p20
  have hq : i % 4 = 1 := by omega
  repeat (first | simp (disch := omega) only [↓qxs, ↓qxc, ↓qxa, ↓qxb, hq] | refine p_call (rnb12 (by omega)) ?_ | refine p_call (rId52 (by omega)) ?_); (try simp only [List.cons.injEq, Lf.i.injEq, and_true, true_and]); (try omega)
theorem nbi520 {v i : Int} (h : (1 ≤ v ∧ v ≤ 5) ∧ (0 ≤ i ∧ i < 4 * 5 * v) ∧ i % 4 = 2 ∧ i / 4 / 5 + 1 < v) : Cc 18 [.i 5, .i v, .i i, .i 0] [.i (i + 18), .i 0] := by
  refine q18 rfl ?_; unfold p18
  have hq : i % 4 = 2 := by omega
  repeat (first | simp (disch := omega) only [↓qxs, ↓qxc, ↓qxa, ↓qxb, hq] | refine p_call (shCell_ok (by omega)) ?_ | refine p_call (cnb20 (by omega)) ?_ | refine p_call (shId50 (by omega)) ?_); (try simp only [List.cons.injEq, Lf.i.injEq, and_true, true_and]); (try omega)
theorem nmi520 {v i : Int} (h : (1 ≤ v ∧ v ≤ 5) ∧ (0 ≤ i ∧ i < 4 * 5 * v) ∧ i % 4 = 2 ∧ i / 4 / 5 + 1 < v) : Cc 19 [.i 5, .i v, .i i, .i 0] [.i i, .i 0, .i 0] := by
  refine q19 rfl ?_; unfold p19
  have hq : i % 4 = 2 := by omega
  repeat (first | simp (disch := omega) only [↓qxs, ↓qxc, ↓qxa, ↓qxb] | refine p_call (nbi520 (by omega)) ?_); (try simp only [List.cons.injEq, Lf.i.injEq, and_true, true_and]); (try omega)
theorem rfi520 {v i : Int} (h : (1 ≤ v ∧ v ≤ 5) ∧ (0 ≤ i ∧ i < 4 * 5 * v) ∧ i % 4 = 2 ∧ i / 4 / 5 + 1 < v) : Cc 20 [.i 5, .i v, .i i, .i 0] [.i (i + 18)] := by
  refine q20 rfl ?_; unfold p20
  have hq : i % 4 = 2 := by omega
  repeat (first | simp (disch := omega) only [↓qxs, ↓qxc, ↓qxa, ↓qxb, hq] | refine p_call (rnb20 (by omega)) ?_ | refine p_call (rId50 (by omega)) ?_); (try simp only [List.cons.injEq, Lf.i.injEq, and_true, true_and]); (try omega)
theorem nbo520 {v i : Int} (h : (1 ≤ v ∧ v ≤ 5) ∧ (0 ≤ i ∧ i < 4 * 5 * v) ∧ i % 4 = 2 ∧ ¬ (i / 4 / 5 + 1 < v)) : Cc 18 [.i 5, .i v, .i i, .i 0] [.i 0, .i 7] := by
  refine q18 rfl ?_; unfold p18
  have hq : i % 4 = 2 := by omega
  repeat (first | simp (disch := omega) only [↓qxs, ↓qxc, ↓qxa, ↓qxb, hq] | refine p_call (shCell_ok (by omega)) ?_ | refine p_call (cnb20 (by omega)) ?_ | refine p_call (shIdo (by omega)) ?_); (try simp only [List.cons.injEq, Lf.i.injEq, and_true, true_and]); (try omega)
theorem nmo520 {v i : Int} (h : (1 ≤ v ∧ v ≤ 5) ∧ (0 ≤ i ∧ i < 4 * 5 * v) ∧ i % 4 = 2 ∧ ¬ (i / 4 / 5 + 1 < v)) : Cc 19 [.i 5, .i v, .i i, .i 0] [.i 0, .i 0, .i 7] := by
  refine q19 rfl ?_; unfold p19
  have hq : i % 4 = 2 := by omega
  repeat (first | simp (disch := omega) only [↓qxs, ↓qxc, ↓qxa, ↓qxb] | refine p_call (nbo520 (by omega)) ?_); (try simp only [List.cons.injEq, Lf.i.injEq, and_true, true_and]); (try omega)
theorem rfo520 {v i : Int} (h : (1 ≤ v ∧ v ≤ 5) ∧ (0 ≤ i ∧ i < 4 * 5 * v) ∧ i % 4 = 2 ∧ ¬ (i / 4 / 5 + 1 < v)) : Cc 20 [.i 5, .i v, .i i, .i 0] [.i (-1)] := by
  refine q20 rfl ?_; unfold p20
  have hq : i % 4 = 2 := by omega
  repeat (first | simp (disch := omega) only [↓qxs, ↓qxc, ↓qxa, ↓qxb, hq] | refine p_call (rnb20 (by omega)) ?_ | refine p_call (rIdo (by omega)) ?_); (try simp only [List.cons.injEq, Lf.i.injEq, and_true, true_and]); (try omega)
theorem nbi521 {v i : Int} (h : (1 ≤ v ∧ v ≤ 5) ∧ (0 ≤ i ∧ i < 4 * 5 * v) ∧ i % 4 = 2) : Cc 18 [.i 5, .i v, .i i, .i 1] [.i (i + 1), .i 0] := by
  refine q18 rfl ?_; unfold p18
  have hq : i % 4 = 2 := by omega
  repeat (first | simp (disch := omega) only [↓qxs, ↓qxc, ↓qxa, ↓qxb, hq] | refine p_call (shCell_ok (by omega)) ?_ | refine p_call (cnb21 (by omega)) ?_ | refine p_call (shId53 (by omega)) ?_); (try simp only [List.cons.injEq, Lf.i.injEq, and_true, true_and]); (try omega)
theorem nmi521 {v i : Int} (h : (1 ≤ v ∧ v ≤ 5) ∧ (0 ≤ i ∧ i < 4 * 5 * v) ∧ i % 4 = 2) : Cc 19 [.i 5, .i v, .i i, .i 1] [.i i, .i 1, .i 0] := by
  refine q19 rfl ?_; unfold p19
  have hq : i % 4 = 2 := by omega
  repeat (first | simp (disch := omega) only [↓qxs, ↓qxc, ↓qxa, ↓qxb] | refine p_call (nbi521 (by omega)) ?_); (try simp only [List.cons.injEq, Lf.i.injEq, and_true, true_and]); (try omega)
theorem rfi521 {v i : Int} (h : (1 ≤ v ∧ v ≤ 5) ∧ (0 ≤ i ∧ i < 4 * 5 * v) ∧ i % 4 = 2) : Cc 20 [.i 5, .i v, .i i, .i 1] [.i (i + 1)] := by
  refine q20 rfl ?_; unfold p20
  have hq : i % 4 = 2 := by omega
  repeat (first | simp (disch := omega) only [↓qxs, ↓qxc, ↓qxa, ↓qxb, hq] | refine p_call (rnb21 (by omega)) ?_ | refine p_call (rId53 (by omega)) ?_); (try simp only [List.cons.injEq, Lf.i.injEq, and_true, true_and]); (try omega)
theorem nbi522 {v i : Int} (h : (1 ≤ v ∧ v ≤ 5) ∧ (0 ≤ i ∧ i < 4 * 5 * v) ∧ i % 4 = 2) : Cc 18 [.i 5, .i v, .i i, .i 2] [.i (i - 1), .i 0] := by
  refine q18 rfl ?_; unfold p18
  have hq : i % 4 = 2 := by omega
  repeat (first | simp (disch := omega) only [↓qxs, ↓qxc, ↓qxa, ↓qxb, hq] | refine p_call (shCell_ok (by omega)) ?_ | refine p_call (cnb22 (by omega)) ?_ | refine p_call (shId51 (by omega)) ?_); (try simp only [List.cons.injEq, Lf.i.injEq, and_true, true_and]); (try omega)
theorem nmi522 {v i : Int} (h : (1 ≤ v ∧ v ≤ 5) ∧ (0 ≤ i ∧ i < 4 * 5 * v) ∧ i % 4 = 2) : Cc 19 [.i 5, .i v, .i i, .i 2] [.i (i - 1), .i 2, .i 0] := by
  refine q19 rfl ?_; unfold p19
  have hq : i % 4 = 2 := by omega
  repeat (first | simp (disch := omega) only [↓qxs, ↓qxc, ↓qxa, ↓qxb] | refine p_call (nbi522 (by omega)) ?_); (try simp only [List.cons.injEq, Lf.i.injEq, and_true, true_and]); (try omega)
theorem rfi522 {v i : Int} (h : (1 ≤ v ∧ v ≤ 5) ∧ (0 ≤ i ∧ i < 4 * 5 * v) ∧ i % 4 = 2) : Cc 20 [.i 5, .i v, .i i, .i 2] [.i (i - 1)] := by
  refine q20 rfl ?_; unfold p20
  have hq : i % 4 = 2 := by omega
  repeat (first | simp (disch := omega) only [↓qxs, ↓qxc, ↓qxa, ↓qxb, hq] | refine p_call (rnb22 (by omega)) ?_ | refine p_call (rId51 (by omega)) ?_); (try simp only [List.cons.injEq, Lf.i.injEq, and_true, true_and]); (try omega)
theorem nbi530 {v i : Int} (h : (1 ≤ v ∧ v ≤ 5) ∧ (0 ≤ i ∧ i < 4 * 5 * v) ∧ i % 4 = 3 ∧ 1 ≤ i / 4 % 5) : Cc 18 [.i 5, .i v, .i i, .i 0] [.i (i - 6), .i 0] := by
  refine q18 rfl ?_; unfold p18
  have hq : i % 4 = 3 := by omega
  repeat (first | simp (disch := omega) only [↓qxs, ↓qxc, ↓qxa, ↓qxb, hq] | refine p_call (shCell_ok (by omega)) ?_ | refine p_call (cnb30 (by omega)) ?_ | refine p_call (shId51 (by omega)) ?_); (try simp only [List.cons.injEq, Lf.i.injEq, and_true, true_and]); (try omega)
theorem nmi530 {v i : Int} (h : (1 ≤ v ∧ v ≤ 5) ∧ (0 ≤ i ∧ i < 4 * 5 * v) ∧ i % 4 = 3 ∧ 1 ≤ i / 4 % 5) : Cc 19 [.i 5, .i v, .i i, .i 0] [.i (i - 6), .i 0, .i 0] := by
  refine q19 rfl ?_; unfold p19
  have hq : i % 4 = 3 := by omega
  repeat (first | simp (disch := omega) only [↓qxs, ↓qxc, ↓qxa, ↓qxb] | refine p_call (nbi530 (by omega)) ?_); (try simp only [List.cons.injEq, Lf.i.injEq, and_true, true_and]); (try omega)
theorem rfi530 {v i : Int} (h : (1 ≤ v ∧ v ≤ 5) ∧ (0 ≤ i ∧ i < 4 * 5 * v) ∧ i % 4 = 3 ∧ 1 ≤ i / 4 % 5) : Cc 20 [.i 5, .i v, .i i, .i 0] [.i (i - 6)] := by
  refine q20 rfl ?_; unfold p20
  have hq : i % 4 = 3 := by omega
  repeat (first | simp (disch := omega) only [↓qxs, ↓qxc, ↓qxa, ↓qxb, hq] | refine p_call (rnb30 (by omega)) ?_ | refine p_call (rId51 (by omega)) ?_); (try simp only [List.cons.injEq, Lf.i.injEq, and_true, true_and]); (try omega)
theorem nbo530 {v i : Int} (h : (1 ≤ v ∧ v ≤ 5) ∧ (0 ≤ i ∧ i < 4 * 5 * v) ∧ i % 4 = 3 ∧ ¬ (1 ≤ i / 4 % 5)) : Cc 18 [.i 5, .i v, .i i, .i 0] [.i 0, .i 7] := by
  refine q18 rfl ?_; unfold p18
  have hq : i % 4 = 3 := by omega
  repeat (first | simp (disch := omega) only [↓qxs, ↓qxc, ↓qxa, ↓qxb, hq] | refine p_call (shCell_ok (by omega)) ?_ | refine p_call (cnb30 (by omega)) ?_ | refine p_call (shIdo (by omega)) ?_); (try simp only [List.cons.injEq, Lf.i.injEq, and_true, true_and]); (try omega)
theorem nmo530 {v i : Int} (h : (1 ≤ v ∧ v ≤ 5) ∧ (0 ≤ i ∧ i < 4 * 5 * v) ∧ i % 4 = 3 ∧ ¬ (1 ≤ i / 4 % 5)) : Cc 19 [.i 5, .i v, .i i, .i 0] [.i 0, .i 0, .i 7] := by
  refine q19 rfl ?_; unfold p19
  have hq : i % 4 = 3 := by omega
  repeat (first | simp (disch := omega) only [↓qxs, ↓qxc, ↓qxa, ↓qxb] | refine p_call (nbo530 (by omega)) ?_); (try simp only [List.cons.injEq, Lf.i.injEq, and_true, true_and]); (try omega)
theorem rfo530 {v i : Int} (h : (1 ≤ v ∧ v ≤ 5) ∧ (0 ≤ i ∧ i < 4 * 5 * v) ∧ i % 4 = 3 ∧ ¬ (1 ≤ i / 4 % 5)) : Cc 20 [.i 5, .i v, .i i, .i 0] [.i (-1)] := by
  refine q20 rfl ?_; unfold p20
  have hq : i % 4 = 3 := by omega
  repeat (first | simp (disch := omega) only [↓qxs, ↓qxc, ↓qxa, ↓qxb, hq] | refine p_call (rnb30 (by omega)) ?_ | refine p_call (rIdo (by omega)) ?_); (try simp only [List.cons.injEq, Lf.i.injEq, and_true, true_and]); (try omega)
theorem nbi531 {v i : Int} (h : (1 ≤ v ∧ v ≤ 5) ∧ (0 ≤ i ∧ i < 4 * 5 * v) ∧ i % 4 = 3) : Cc 18 [.i 5, .i v, .i i, .i 1] [.i (i - 1), .i 0] := by
  refine q18 rfl ?_; unfold p18
  have hq : i % 4 = 3 := by omega
  repeat (first | simp (disch := omega) only [↓qxs, ↓qxc, ↓qxa, ↓qxb, hq] | refine p_call (shCell_ok (by omega)) ?_ | refine p_call (cnb31 (by omega)) ?_ | refine p_call (shId52 (by omega)) ?_); (try simp only [List.cons.injEq, Lf.i.injEq, and_true, true_and]); (try omega)
theorem nmi531 {v i : Int} (h : (1 ≤ v ∧ v ≤ 5) ∧ (0 ≤ i ∧ i < 4 * 5 * v) ∧ i % 4 = 3) : Cc 19 [.i 5, .i v, .i i, .i 1] [.i (i - 1), .i 1, .i 0] := by
  refine q19 rfl ?_; unfold p19
  have hq : i % 4 = 3 := by omega
  repeat (first | simp (disch := omega) only [↓qxs, ↓qxc, ↓qxa, ↓qxb] | refine p_call (nbi531 (by omega)) ?_); (try simp only [List.cons.injEq, Lf.i.injEq, and_true, true_and]); (try omega)
theorem rfi531 {v i : Int} (h : (1 ≤ v ∧ v ≤ 5) ∧ (0 ≤ i ∧ i < 4 * 5 * v) ∧ i % 4 = 3) : Cc 20 [.i 5, .i v, .i i, .i 1] [.i (i - 1)] := by
  refine q20 rfl ?_; unfold p20
  have hq : i % 4 = 3 := by omega
  repeat (first | simp (disch := omega) only [↓qxs, ↓qxc, ↓qxa, ↓qxb, hq] | refine p_call (rnb31 (by omega)) ?_ | refine p_call (rId52 (by omega)) ?_); (try simp only [List.cons.injEq, Lf.i.injEq, and_true, true_and]); (try omega)
theorem nbi532 {v i : Int} (h : (1 ≤ v ∧ v ≤ 5) ∧ (0 ≤ i ∧ i < 4 * 5 * v) ∧ i % 4 = 3) : Cc 18 [.i 5, .i v, .i i, .i 2] [.i (i - 3), .i 0] := by
  refine q18 rfl ?_; unfold p18
  have hq : i % 4 = 3 := by omega
  repeat (first | simp (disch := omega) only [↓qxs, ↓qxc, ↓qxa, ↓qxb, hq] | refine p_call (shCell_ok (by omega)) ?_ | refine p_call (cnb32 (by omega)) ?_ | refine p_call (shId50 (by omega)) ?_); (try simp only [List.cons.injEq, Lf.i.injEq, and_true, true_and]); (try omega)
theorem nmi532 {v i : Int} (h : (1 ≤ v ∧ v ≤ 5) ∧ (0 ≤ i ∧ i < 4 * 5 * v) ∧ i % 4 = 3) : Cc 19 [.i 5, .i v, .i i, .i 2] [.i (i - 3), .i 2, .i 0] := by
  refine q19 rfl ?_; unfold p19
  have hq : i % 4 = 3 := by omega
  repeat (first | simp (disch := omega) only [↓qxs, ↓qxc, ↓qxa, ↓qxb] | refine p_call (nbi532 (by omega)) ?_); (try simp only [List.cons.injEq, Lf.i.injEq, and_true, true_and]); (try omega)
theorem rfi532 {v i : Int} (h : (1 ≤ v ∧ v ≤ 5) ∧ (0 ≤ i ∧ i < 4 * 5 * v) ∧ i % 4 = 3) : Cc 20 [.i 5, .i v, .i i, .i 2] [.i (i - 3)] := by
  refine q20 rfl ?_; unfold p20
  have hq : i % 4 = 3 := by omega
  repeat (first | simp (disch := omega) only [↓qxs, ↓qxc, ↓qxa, ↓qxb, hq] | refine p_call (rnb32 (by omega)) ?_ | refine p_call (rId50 (by omega)) ?_); (try simp only [List.cons.injEq, Lf.i.injEq, and_true, true_and]); (try omega)
end Go.Am

/-
  CLOSED FUNCTIONS THAT THE KERNEL RUNS: their contracts.
-/
set_option maxRecDepth 100000
namespace Go.Am
open Sx Go.Proofs

/-- A closed function that a run shows to say true. -/
theorem ran {g : FuncId} {n : Nat} (hs : sgTab g = some ⟨[], [lb]⟩) (h : runR [] n (.f g) [] [] isT = true) : Cc g [] [.b true] := by
  obtain ⟨H', h1⟩ := closed_true (run_ok [] (fun _ h => by cases h) n) hs h
  intro H
  refine ⟨⟨[], [lb]⟩, [], [.leaf (.b true)], hs, ⟨rfl, rfl, fun _ h => by cases h⟩, ⟨rfl, rfl, fun x hx => ?_⟩, ⟨0, fun H => frame_ok gl_flat (uCallC_ok mixed h1) rfl rfl H, rfl⟩⟩
  simp only [List.mem_singleton] at hx
  subst hx
  intro y hy
  simp only [S0.cells, List.mem_singleton] at hy
  subst hy; trivial
end Go.Am

/-
  The examples of chapter 5.
-/
set_option maxRecDepth 100000
namespace Go.Am
open Sx Go.Proofs
theorem lives5 : Cc 21 [] [.b true] := ran (n := 60) rfl (by kernel_rfl)
end Go.Am

/-
  ARGUMENTS WITHOUT ADDRESSES, as the row reads them.
-/
namespace Go.Am
namespace Sx
open Go.ChangeShapes Go.WideShapes Go.ChangeAt Go.WideMaps Go.WideElems Go.RowKit

/-- The cells are of these kinds, in their ranges. -/
def FitC : List LK → List Value → Prop
  | [], [] => True
  | .i k :: ks, v :: vs => (∃ n, v = .int k n ∧ (Lit.int k n).wf = true) ∧ FitC ks vs
  | .b :: ks, v :: vs => (∃ t, v = .bool t) ∧ FitC ks vs
  | _, _ => False
/-- The leaves are of these kinds, in their ranges. -/
def FitL : List LK → List Lf → Prop
  | [], [] => True
  | .i k :: ks, .i n :: ls => (Lit.int k n).wf = true ∧ FitL ks ls
  | .b :: ks, .b _ :: ls => FitL ks ls
  | _, _ => False

theorem FitC.len : ∀ {ks : List LK} {vs : List Value}, FitC ks vs → vs.length = ks.length
  | [], [], _ => rfl
  | .i k :: ks, v :: vs, h => by simp [FitC.len h.2]
  | .b :: ks, v :: vs, h => by simp [FitC.len h.2]
  | .v :: _, _, h => by cases h
  | [], _ :: _, h => by cases h
  | .i _ :: _, [], h => by cases h
  | .b :: _, [], h => by cases h
theorem FitC.app : ∀ {ks ks' : List LK} {vs vs' : List Value}, FitC ks vs → FitC ks' vs' → FitC (ks ++ ks') (vs ++ vs')
  | [], _, [], _, _, h => h
  | .i k :: ks, _, v :: vs, _, h, h' => ⟨h.1, FitC.app h.2 h'⟩
  | .b :: ks, _, v :: vs, _, h, h' => ⟨h.1, FitC.app h.2 h'⟩
  | .v :: _, _, _, _, h, _ => by cases h
  | [], _, _ :: _, _, h, _ => by cases h
  | .i _ :: _, _, [], _, h, _ => by cases h
  | .b :: _, _, [], _, h, _ => by cases h
theorem FitL.app : ∀ {ks ks' : List LK} {vs vs' : List Lf}, FitL ks vs → FitL ks' vs' → FitL (ks ++ ks') (vs ++ vs')
  | [], _, [], _, _, h => h
  | .i k :: ks, _, .i v :: vs, _, h, h' => ⟨h.1, FitL.app h.2 h'⟩
  | .b :: ks, _, .b v :: vs, _, h, h' => FitL.app (ks := ks) h h'
  | .v :: _, _, _, _, h, _ => by cases h
  | [], _, _ :: _, _, h, _ => by cases h
  | .i _ :: _, _, [], _, h, _ => by cases h
  | .b :: _, _, [], _, h, _ => by cases h
  | .i _ :: _, _, .b _ :: _, _, h, _ => by cases h
  | .i _ :: _, _, .v _ :: _, _, h, _ => by cases h
  | .b :: _, _, .i _ :: _, _, h, _ => by cases h
  | .b :: _, _, .v _ :: _, _, h, _ => by cases h
/-- Cells as leaves. -/
theorem FitC.sl : ∀ {ks : List LK} {vs : List Value}, FitC ks vs → ∃ xs : List SL, xs.map SL.val = vs ∧ allIs xs ks = true ∧ (∀ x ∈ xs, x.good) ∧ FitL ks (xs.map SL.lf)
  | [], [], _ => ⟨[], rfl, rfl, fun _ h => (by cases h), trivial⟩
  | .i k :: ks, v :: vs, h => by
    obtain ⟨⟨n, rfl, hw⟩, h2⟩ := h
    obtain ⟨xs, a, b, c, d⟩ := FitC.sl h2
    exact ⟨.i k n :: xs, by simp [a, SL.val], by simp [allIs, b, SL.is, kSame_self], fun x hx => by
      rcases List.mem_cons.1 hx with rfl | hx
      · trivial
      · exact c x hx, hw, d⟩
  | .b :: ks, v :: vs, h => by
    obtain ⟨⟨n, rfl⟩, h2⟩ := h
    obtain ⟨xs, a, b, c, d⟩ := FitC.sl h2
    exact ⟨.b n :: xs, by simp [a, SL.val], by simp [allIs, b, SL.is], fun x hx => by
      rcases List.mem_cons.1 hx with rfl | hx
      · trivial
      · exact c x hx, d⟩
  | .v :: _, _, h => by cases h
  | [], _ :: _, h => by cases h
  | .i _ :: _, [], h => by cases h
  | .b :: _, [], h => by cases h

/-- The kinds of the cells of a type of numbers, truth values and structs. -/
def flatF (F : TypeId → Option (List LK)) : List Field → Nat → Option (List LK)
  | [], _ => some []
  | f :: fs, off => match Nat.beq f.offset off, F f.type with
    | true, some ks => (flatF F fs (off + ks.length)).map (ks ++ ·)
    | _, _ => none
def flatT (P : Program) : Nat → TypeId → Option (List LK)
  | 0, _ => none
  | d + 1, t => match P.underlying t with
    | some (.int k) => some [.i k]
    | some .bool => some [.b]
    | some (.struct fs) => match flatF (flatT P d) fs.toList 0 with
      | some ks => match Nat.beq ks.length (P.cellsOf t) with
        | true => some ks
        | false => none
      | none => none
    | _ => none
def skT (P : Program) (t : TypeId) : Option SK :=
  match P.underlying t with
  | some (.int k) => some (.leaf (.i k))
  | some .bool => some (.leaf .b)
  | some (.struct _) => (flatT P 20 t).map .agg
  | _ => none

section
variable {H : Type} {enc : TypeId × Value → H} {P : Program}

theorem take_take_len {α : Type} (l : List α) (c : Nat) : l.take (l.take c).length = l.take c := by
  rw [List.length_take]
  rcases Nat.le_total c l.length with h | h
  · rw [Nat.min_eq_left h]
  · rw [Nat.min_eq_right h, List.take_of_length_le h, List.take_of_length_le (Nat.le_refl _)]

theorem flatF_ok {F : TypeId → Option (List LK)} {w : World} {base : Nat} {sp : Nat → Bool} {held : Bool} {fuel : Nat}
    (hF : ∀ t ks, F t = some ks → ∀ cs (x : DataW H × List MemPlace), DataW.trod enc P w base sp held fuel t cs = some x → x.2 = [] ∧ FitC ks cs ∧ ∀ w' b' s' h', DataW.trod enc P w' b' s' h' fuel t cs = some x) (cs : List Value) :
    ∀ (fs : List Field) (off : Nat) (ks : List LK) (xs : List (DataW H × List MemPlace)), flatF F fs off = some ks → fs.mapM (fun f => DataW.trod enc P w base sp held fuel f.type ((cs.drop f.offset).take (P.cellsOf f.type))) = some xs →
      xs.flatMap (·.2) = [] ∧ FitC ks ((cs.drop off).take ks.length) ∧ ∀ w' b' s' h', fs.mapM (fun f => DataW.trod enc P w' b' s' h' fuel f.type ((cs.drop f.offset).take (P.cellsOf f.type))) = some xs
  | [], off, ks, xs, h1, h2 => by
    simp only [flatF, Option.some.injEq] at h1
    subst h1
    simp only [List.mapM_nil, Option.pure_def, Option.some.injEq] at h2
    subst h2
    refine ⟨rfl, by simp [FitC], fun _ _ _ _ => by simp⟩
  | f :: fs, off, ks, xs, h1, h2 => by
    simp only [flatF] at h1
    split at h1
    · rename_i k1 e1 e2
      obtain ⟨k2, e3, rfl⟩ := Option.map_eq_some_iff.1 h1
      have e1 := Nat.eq_of_beq_eq_true e1
      rw [List.mapM_cons] at h2
      obtain ⟨x, h3, h2⟩ := Option.bind_eq_some_iff.1 h2
      obtain ⟨ys, h4, h2⟩ := Option.bind_eq_some_iff.1 h2
      cases h2
      obtain ⟨a1, a2, a3⟩ := hF _ _ e2 _ _ h3
      obtain ⟨b1, b2, b3⟩ := flatF_ok hF cs fs _ k2 ys e3 h4
      refine ⟨by simp [a1, b1], ?_, fun w' b' s' h' => ?_⟩
      · rw [List.length_append, List.take_add]
        refine FitC.app ?_ (by rw [List.drop_drop]; exact b2)
        have hl := FitC.len a2
        rw [e1] at a2 hl
        rw [← hl, take_take_len]
        exact a2
      · rw [List.mapM_cons, a3 w' b' s' h', b3 w' b' s' h']
        rfl
    · cases h1

theorem flatT_ok : ∀ (d : Nat) (t : TypeId) (ks : List LK), flatT P d t = some ks → ∀ (w : World) (base : Nat) (sp : Nat → Bool) (held : Bool) (fuel : Nat) (cs : List Value) (x : DataW H × List MemPlace), DataW.trod enc P w base sp held fuel t cs = some x →
    x.2 = [] ∧ FitC ks cs ∧ ∀ w' b' s' h', DataW.trod enc P w' b' s' h' fuel t cs = some x
  | 0, _, _, h => by cases h
  | d + 1, t, ks, h => by
    intro w base sp held fuel cs x hx
    simp only [flatT] at h
    split at h
    · rename_i k e
      cases h
      obtain ⟨n, rfl, rfl, hw⟩ := DataW.trod_int e hx
      refine ⟨rfl, ⟨⟨n, rfl, hw⟩, trivial⟩, fun w' b' s' h' => ?_⟩
      cases fuel with
      | zero => simp [DataW.trod] at hx
      | succ m => simp [DataW.trod, e, hw]
    · rename_i e
      cases h
      obtain ⟨n, rfl, rfl⟩ := DataW.trod_bool e hx
      refine ⟨rfl, ⟨⟨n, rfl⟩, trivial⟩, fun w' b' s' h' => ?_⟩
      cases fuel with
      | zero => simp [DataW.trod] at hx
      | succ m => simp [DataW.trod, e]
    · rename_i fs e
      split at h
      · rename_i k2 e2
        split at h
        · rename_i e3
          cases h
          have e3 := Nat.eq_of_beq_eq_true e3
          cases fuel with
          | zero => simp [DataW.trod] at hx
          | succ m =>
            simp only [DataW.trod, e] at hx
            split at hx
            · rename_i hl
              obtain ⟨xs, h5, rfl⟩ := Option.map_eq_some_iff.1 hx
              obtain ⟨a1, a2, a3⟩ := flatF_ok (fun t ks h cs x hx => flatT_ok d t ks h w base sp held m cs x hx) cs fs.toList 0 ks xs e2 h5
              rw [List.drop_zero, List.take_of_length_le (by omega)] at a2
              refine ⟨a1, a2, fun w' b' s' h' => ?_⟩
              simp only [DataW.trod, e, hl, if_true]
              rw [a3 w' b' s' h']
              rfl
            · cases hx
        · cases h
      · cases h
    · cases h

theorem open_flat {w : World} {r : Reach} {b0 base : Nat} {sp : Nat → Bool} {held : Bool} {t : TypeId} {sk : SK} {v : Value} {d : DataW H} {ps : List MemPlace} (h : skT P t = some sk) (hval : Value.okWide P w r b0 t v) (hd : DataW.Trod enc P w base sp held t v d ps) :
    ∃ x : S0, v = x.val ∧ x.is sk = true ∧ x.good ∧ FitL (skKs sk) (x.cells.map SL.lf) ∧ ps = [] ∧ ∀ w' b' s' h', DataW.Trod enc P w' b' s' h' t v d [] := by
  unfold skT at h
  split at h
  · rename_i k e
    cases h
    obtain ⟨n, rfl, rfl, rfl, hw⟩ := open_int e hval hd
    refine ⟨.leaf (.i k n), rfl, by simp [S0.is, SL.is, kSame_self], fun x hx => ?_, ⟨hw, trivial⟩, rfl, fun w' b' s' h' => shut_int e hw⟩
    simp only [S0.cells, List.mem_singleton] at hx
    subst hx; trivial
  · rename_i e
    cases h
    obtain ⟨n, rfl, rfl, rfl⟩ := open_bool e hval hd
    refine ⟨.leaf (.b n), rfl, rfl, fun x hx => ?_, trivial, rfl, fun w' b' s' h' => shut_bool e n⟩
    simp only [S0.cells, List.mem_singleton] at hx
    subst hx; trivial
  · rename_i fs e
    obtain ⟨ks, e2, rfl⟩ := Option.map_eq_some_iff.1 h
    obtain ⟨cs, rfl, hc⟩ := okWide_struct e hval
    obtain ⟨fuel, hf⟩ := hd
    obtain ⟨a1, a2, a3⟩ := flatT_ok 20 t ks e2 w base sp held fuel _ _ hf
    obtain ⟨xs, b1, b2, b3, b4⟩ := FitC.sl a2
    have a1 : ps = [] := a1
    subst a1
    refine ⟨.agg xs, ?_, b2, b3, b4, rfl, fun w' b' s' h' => ⟨fuel, a3 w' b' s' h'⟩⟩
    show Value.agg cs = .agg ⟨xs.map SL.val⟩
    rw [b1]
    rfl
  · cases h

def skTs (P : Program) : List TypeId → Option (List SK)
  | [] => some []
  | t :: ts => match skT P t, skTs P ts with
    | some k, some ks => some (k :: ks)
    | _, _ => none

theorem open_args {w : World} {b0 base : Nat} {r : Reach} {sp : Nat → Bool} {held : Bool} : ∀ (ts : List TypeId) (sks : List SK) (vs : List Value) (ds : List (DataW H)) (ps : List MemPlace), skTs P ts = some sks →
    (∀ (j : Nat) t v, ts[j]? = some t → vs[j]? = some v → Value.okWide P w r b0 t v) → DataW.TrodAll enc P w base sp held ts vs ds ps →
    ∃ xs : List S0, vs = valsOf xs ∧ areIs xs sks = true ∧ (∀ x ∈ xs, x.good) ∧ FitL (sks.flatMap skKs) (lfsOf xs) ∧ ps = [] ∧ ∀ w' b' s' h', DataW.TrodAll enc P w' b' s' h' ts vs ds []
  | [], sks, [], [], ps, h, _, ht => by
    cases h
    have ht : ps = [] := ht
    exact ⟨[], rfl, rfl, fun _ h => (by cases h), trivial, ht, fun _ _ _ _ => rfl⟩
  | t :: ts, sks, v :: vs, d :: ds, ps, h, hv, ht => by
    simp only [skTs] at h
    split at h
    · rename_i k ks e1 e2
      cases h
      obtain ⟨p, q, h1, h2, rfl⟩ := ht
      obtain ⟨x, a1, a2, a3, a4, rfl, a6⟩ := open_flat e1 (hv 0 t v rfl rfl) h1
      obtain ⟨xs, b1, b2, b3, b4, rfl, b6⟩ := open_args ts ks vs ds q e2 (fun j t v h1 h2 => hv (j + 1) t v h1 h2) h2
      refine ⟨x :: xs, by rw [a1, b1]; rfl, by simp [areIs, a2, b2], fun y hy => ?_, ?_, rfl, fun w' b' s' h' => ⟨[], [], a6 w' b' s' h', b6 w' b' s' h', rfl⟩⟩
      · rcases List.mem_cons.1 hy with rfl | hy
        · exact a3
        · exact b3 y hy
      · exact FitL.app a4 b4
    · cases h
  | [], _, _ :: _, _, _, _, _, ht => by cases ht
  | [], _, [], _ :: _, _, _, _, ht => by cases ht
  | _ :: _, _, [], _, _, _, _, ht => by cases ht
  | _ :: _, _, _ :: _, [], _, _, _, ht => by cases ht
end

section
variable [Val]
/-- A contract, as a call. -/
theorem callok_of_ct {C : Cfg} {Sg : FuncId → Option Sig} (hm : C.P.follows .mixedOrders = true) {g : FuncId} {sg : Sig} (hs : Sg g = some sg) {ls rs : List Lf} (hc : Ct C Sg g ls rs) {xs ys : List S0} (h1 : areIs xs sg.ps = true) (h2 : lfsOf xs = ls) (h3 : areIs ys sg.rs = true) (h4 : lfsOf ys = rs) (H : List HObj) :
    CallOk C g (valsOf xs) H (packA (valsOf ys)) H := by
  let _ : Kno := KnoC C
  obtain ⟨sg', xs', ys', c1, c2, c3, c4⟩ := hc H
  rw [hs] at c1
  cases c1
  obtain ⟨w1, _⟩ := areIs_val c2.1 h1 (c2.2.1.trans h2.symm)
  obtain ⟨w2, _⟩ := areIs_val c3.1 h3 (c3.2.1.trans h4.symm)
  rw [w1, w2] at c4
  exact uCallC_ok hm c4
end
end Sx
end Go.Am
namespace Go.Am
namespace Sx
theorem FitL.i {k : IntKind} {ks : List LK} {ls : List Lf} (h : FitL (.i k :: ks) ls) : ∃ n r, ls = .i n :: r ∧ (Lit.int k n).wf = true ∧ FitL ks r := by
  match ls, h with
  | .i n :: r, h => exact ⟨n, r, rfl, h.1, h.2⟩
theorem FitL.b {ks : List LK} {ls : List Lf} (h : FitL (.b :: ks) ls) : ∃ n r, ls = .b n :: r ∧ FitL ks r := by
  match ls, h with
  | .b n :: r, h => exact ⟨n, r, rfl, h⟩
theorem FitL.nil {ls : List Lf} (h : FitL [] ls) : ls = [] := by
  match ls, h with
  | [], _ => rfl
theorem wf_i64 {n : Int} (h : (Lit.int .i64 n).wf = true) : -9223372036854775808 ≤ n ∧ n ≤ 9223372036854775807 := by
  simp only [Lit.wf, Bool.and_eq_true, decide_eq_true_eq] at h
  exact h
theorem wf_u8 {n : Int} (h : (Lit.int .u8 n).wf = true) : 0 ≤ n ∧ n ≤ 255 := by
  simp only [Lit.wf, Bool.and_eq_true, decide_eq_true_eq] at h
  exact h
theorem wf_i8 {n : Int} (h : (Lit.int .i8 n).wf = true) : -128 ≤ n ∧ n ≤ 127 := by
  simp only [Lit.wf, Bool.and_eq_true, decide_eq_true_eq] at h
  exact h
theorem trodAll_len {H : Type} {enc : TypeId × Value → H} {P : Program} {w : World} {base : Nat} {sp : Nat → Bool} {held : Bool} : ∀ {ts : List TypeId} {vs : List Value} {ds : List (DataW H)} {ps : List MemPlace}, DataW.TrodAll enc P w base sp held ts vs ds ps → ds.length = ts.length
  | [], [], [], _, _ => rfl
  | _ :: _, _ :: _, _ :: _, _, h => by
    obtain ⟨p, q, _, h2, _⟩ := h
    simp [trodAll_len h2]
  | [], _ :: _, _, _, h => by cases h
  | [], [], _ :: _, _, h => by cases h
  | _ :: _, [], _, _, h => by cases h
  | _ :: _, _ :: _, [], _, h => by cases h
end Sx
end Go.Am

/-
  PARTS OF FUNCTIONS, BY PROGRAM: what a run of them shows, holds.
-/
set_option maxRecDepth 100000
namespace Go.Am
open Sx Go.Proofs
section
variable {R HT : Type} (A : Alg R HT)

noncomputable def ft3 (n10 : Int) (n12 : Int) (l14 : List Lf) (h15 : HT) (K : List Lf → HT → R) : R := A.unI l14 (fun n16 l17 => A.unI l17 (fun n18 l19 => A.un0 l19 ( A.call 18 [(.i n16), (.i n18), (.i n10), (.i n12)] h15 (fun l20 h21 => A.unI l20 (fun n22 l23 => A.unI l23 (fun n24 l25 => A.un0 l25 ( A.call 19 [(.i n16), (.i n18), (.i n10), (.i n12)] h21 (fun l26 h27 => A.unI l26 (fun n28 l29 => A.unI l29 (fun n30 l31 => A.unI l31 (fun n32 l33 => A.un0 l33 ( A.cmp .lss n10 (.ofNat 0) (fun t34 => A.cond t34 ( A.cmp .neq n24 (.ofNat 7) (fun t35 => A.cond t35 ( K [(.b false)] h27) ( A.cmp .neq n32 (.ofNat 7) (fun t36 => A.cond t36 ( K [(.b false)] h27) ( A.cmp .neq (.ofNat 7) (.ofNat 0) (fun t37 => A.cond t37 ( A.join (fun l38 h39 => A.unB l38 (fun t40 l41 => A.un0 l41 ( K [(.b t40)] h39))) (fun j42 => A.cmp .eql n22 (.ofNat 0) (fun t43 => A.cond t43 ( A.eqs [((.i n28), (.i (.ofNat 0))), ((.i n30), (.i (.ofNat 0)))] (fun t44 => A.cond t44 ( A.call 21 [] h27 (fun l45 h46 => A.unB l45 (fun t47 l48 => A.un0 l48 ( j42 [(.b t47)] h46)))) ( j42 [(.b false)] h27))) ( j42 [(.b false)] h27)))) ( A.call 18 [(.i n16), (.i n18), (.i n22), (.i n12)] h27 (fun l49 h50 => A.unI l49 (fun n51 l52 => A.unI l52 (fun n53 l54 => A.un0 l54 ( A.call 19 [(.i n16), (.i n18), (.i n22), (.i n12)] h50 (fun l55 h56 => A.unI l55 (fun n57 l58 => A.unI l58 (fun n59 l60 => A.unI l60 (fun n61 l62 => A.un0 l62 ( A.join (fun l63 h64 => A.unB l63 (fun t65 l66 => A.un0 l66 ( K [(.b t65)] h64))) (fun j67 => A.conv .i64 n12 (fun n68 => A.call 20 [(.i n16), (.i n18), (.i n10), (.i n68)] h56 (fun l69 h70 => A.unI l69 (fun n71 l72 => A.un0 l72 ( A.cmp .eql n22 n71 (fun t73 => A.cond t73 ( A.cmp .eql n53 (.ofNat 0) (fun t74 => A.cond t74 ( A.cmp .eql n51 n10 (fun t75 => A.cond t75 ( A.cmp .lss n22 n10 (fun t76 => A.sel t76 n22 n10 (fun n77 => A.call 22 [(.i n77), (.i n12)] h70 (fun l78 h79 => A.unI l78 (fun n80 l81 => A.unI l81 (fun n82 l83 => A.un0 l83 ( A.eqs [((.i n28), (.i n80)), ((.i n30), (.i n82))] (fun t84 => A.cond t84 ( A.cmp .eql n61 (.ofNat 0) (fun t85 => A.cond t85 ( A.eqs [((.i n57), (.i n28)), ((.i n59), (.i n30))] (fun t86 => A.cond t86 ( A.call 21 [] h79 (fun l87 h88 => A.unB l87 (fun t89 l90 => A.un0 l90 ( j67 [(.b t89)] h88)))) ( j67 [(.b false)] h79))) ( j67 [(.b false)] h79))) ( j67 [(.b false)] h79))))))))) ( j67 [(.b false)] h70))) ( j67 [(.b false)] h70))) ( j67 [(.b false)] h70))))))))))))))))))))))) ( A.ari .mul .i64 (.ofNat 4) n16 (fun n91 => A.ari .mul .i64 n91 n18 (fun n92 => A.cmp .geq n10 n92 (fun t93 => A.join (fun l94 h95 => A.unI l94 (fun n96 l97 => A.un0 l97 ( A.cmp .neq n24 n96 (fun t98 => A.cond t98 ( K [(.b false)] h95) ( A.cmp .neq n32 n96 (fun t99 => A.cond t99 ( K [(.b false)] h95) ( A.cmp .neq n96 (.ofNat 0) (fun t100 => A.cond t100 ( A.join (fun l101 h102 => A.unB l101 (fun t103 l104 => A.un0 l104 ( K [(.b t103)] h102))) (fun j105 => A.cmp .eql n22 (.ofNat 0) (fun t106 => A.cond t106 ( A.eqs [((.i n28), (.i (.ofNat 0))), ((.i n30), (.i (.ofNat 0)))] (fun t107 => A.cond t107 ( A.call 21 [] h95 (fun l108 h109 => A.unB l108 (fun t110 l111 => A.un0 l111 ( j105 [(.b t110)] h109)))) ( j105 [(.b false)] h95))) ( j105 [(.b false)] h95)))) ( A.call 18 [(.i n16), (.i n18), (.i n22), (.i n12)] h95 (fun l112 h113 => A.unI l112 (fun n114 l115 => A.unI l115 (fun n116 l117 => A.un0 l117 ( A.call 19 [(.i n16), (.i n18), (.i n22), (.i n12)] h113 (fun l118 h119 => A.unI l118 (fun n120 l121 => A.unI l121 (fun n122 l123 => A.unI l123 (fun n124 l125 => A.un0 l125 ( A.join (fun l126 h127 => A.unB l126 (fun t128 l129 => A.un0 l129 ( K [(.b t128)] h127))) (fun j130 => A.conv .i64 n12 (fun n131 => A.call 20 [(.i n16), (.i n18), (.i n10), (.i n131)] h119 (fun l132 h133 => A.unI l132 (fun n134 l135 => A.un0 l135 ( A.cmp .eql n22 n134 (fun t136 => A.cond t136 ( A.cmp .eql n116 (.ofNat 0) (fun t137 => A.cond t137 ( A.cmp .eql n114 n10 (fun t138 => A.cond t138 ( A.cmp .lss n22 n10 (fun t139 => A.sel t139 n22 n10 (fun n140 => A.call 22 [(.i n140), (.i n12)] h133 (fun l141 h142 => A.unI l141 (fun n143 l144 => A.unI l144 (fun n145 l146 => A.un0 l146 ( A.eqs [((.i n28), (.i n143)), ((.i n30), (.i n145))] (fun t147 => A.cond t147 ( A.cmp .eql n124 (.ofNat 0) (fun t148 => A.cond t148 ( A.eqs [((.i n120), (.i n28)), ((.i n122), (.i n30))] (fun t149 => A.cond t149 ( A.call 21 [] h142 (fun l150 h151 => A.unB l150 (fun t152 l153 => A.un0 l153 ( j130 [(.b t152)] h151)))) ( j130 [(.b false)] h142))) ( j130 [(.b false)] h142))) ( j130 [(.b false)] h142))))))))) ( j130 [(.b false)] h133))) ( j130 [(.b false)] h133))) ( j130 [(.b false)] h133))))))))))))))))))))))))) (fun j154 => A.cond t93 ( j154 [(.i (.ofNat 7))] h27) ( A.cmp .gtr n12 (.ofNat 2) (fun t155 => A.join (fun l156 h157 => A.unI l156 (fun n158 l159 => A.un0 l159 ( j154 [(.i n158)] h157))) (fun j160 => A.cond t155 ( j160 [(.i (.ofNat 1))] h27) ( A.conv .i64 n12 (fun n161 => A.call 20 [(.i n16), (.i n18), (.i n10), (.i n161)] h27 (fun l162 h163 => A.unI l162 (fun n164 l165 => A.un0 l165 ( A.cmp .lss n164 (.ofNat 0) (fun t166 => A.join (fun l167 h168 => A.unI l167 (fun n169 l170 => A.un0 l170 ( j160 [(.i n169)] h168))) (fun j171 => A.cond t166 ( j171 [(.i (.ofNat 7))] h163) ( j171 [(.i (.ofNat 0))] h163)))))))))))))))))))))))))))))

noncomputable def ft4 (l10 : List Lf) (h11 : HT) (K : List Lf → HT → R) : R := A.unI l10 (fun n12 l13 => A.unI l13 (fun n14 l15 => A.un0 l15 ( A.call 23 [(.i n12), (.i n14)] h11 (fun l16 h17 => A.unV l16 (fun x18 l19 => A.unI l19 (fun n20 l21 => A.un0 l21 ( A.call 24 [(.i n12), (.i n14)] h17 (fun l22 h23 => A.unV l22 (fun x24 l25 => A.un0 l25 ( A.cmp .neq n20 (.ofNat 0) (fun t26 => A.cond t26 ( K [(.b false)] h23) ( A.opt (lenS x18) (fun x27 => A.opt (lenS x24) (fun x28 => A.cmp .neq x27 x28 (fun t29 => A.cond t29 ( K [(.b false)] h23) ( A.opt (capS x18) (fun x30 => A.opt (lenS x18) (fun x31 => A.cmp .neq x30 x31 (fun t32 => A.cond t32 ( K [(.b false)] h23) ( A.opt (lenS x18) (fun x33 => A.ari .mul .i64 (.ofNat 6) n12 (fun n34 => A.ari .mul .i64 n34 n14 (fun n35 => A.ari .sub .i64 n35 n12 (fun n36 => A.ari .sub .i64 n36 n14 (fun n37 => A.cmp .neq x33 n37 (fun t38 => A.cond t38 ( K [(.b false)] h23) ( A.new (.map [] 0) h23 (fun m39 h40 => A.loop (fun s41 l42 h43 => A.unI l42 (fun n44 l45 => A.un0 l45 ( A.opt (lenS x18) (fun x46 => A.cmp .lss n44 x46 (fun t47 => A.cond t47 ( A.opt (idS 2 x18 n44) (fun x48 => A.peek (ldP 2 x48) h43 (fun l49 => A.ucI .i64 l49 (fun n50 l51 => A.ucI .u8 l51 (fun n52 l53 => A.uc0 l53 ( A.call 25 [(.i n12), (.i n14), (.i n50), (.i n52)] h43 (fun l54 h55 => A.unI l54 (fun n56 l57 => A.unI l57 (fun n58 l59 => A.unI l59 (fun n60 l61 => A.unI l61 (fun n62 l63 => A.unI l63 (fun n64 l65 => A.un0 l65 ( A.opt (idS 2 x18 n44) (fun x66 => A.peek (ldP 2 x66) h55 (fun l67 => A.ucI .i64 l67 (fun n68 l69 => A.ucI .u8 l69 (fun n70 l71 => A.uc0 l71 ( A.call 26 [(.i n12), (.i n14), (.i n68), (.i n70)] h55 (fun l72 h73 => A.unI l72 (fun n74 l75 => A.unI l75 (fun n76 l77 => A.unI l77 (fun n78 l79 => A.un0 l79 ( A.opt (idS 2 x18 n44) (fun x80 => A.peek (ldP 2 x80) h73 (fun l81 => A.ucI .i64 l81 (fun n82 l83 => A.ucI .u8 l83 (fun n84 l85 => A.uc0 l85 ( A.opt (idS 2 x24 n44) (fun x86 => A.peek (ldP 2 x86) h73 (fun l87 => A.ucI .i64 l87 (fun n88 l89 => A.ucI .u8 l89 (fun n90 l91 => A.uc0 l91 ( A.eqs [((.i n82), (.i n88)), ((.i n84), (.i n90))] (fun t92 => A.cond (!t92) ( K [(.b false)] h73) ( A.cmp .neq n64 (.ofNat 0) (fun t93 => A.cond t93 ( K [(.b false)] h73) ( A.cmp .neq n78 (.ofNat 0) (fun t94 => A.cond t94 ( K [(.b false)] h73) ( A.opt (idS 2 x18 n44) (fun x95 => A.peek (ldP 2 x95) h73 (fun l96 => A.ucI .i64 l96 (fun n97 l98 => A.ucI .u8 l98 (fun n99 l100 => A.uc0 l100 ( A.call 27 [(.i n12), (.i n14), (.i n97), (.i n99)] h73 (fun l101 h102 => A.unI l101 (fun n103 l104 => A.unI l104 (fun n105 l106 => A.unI l106 (fun n107 l108 => A.unI l108 (fun n109 l110 => A.un0 l110 ( A.eqs [((.i n56), (.i n103)), ((.i n58), (.i n105)), ((.i n60), (.i n107)), ((.i n62), (.i n109))] (fun t111 => A.cond (!t111) ( K [(.b false)] h102) ( A.call 28 [(.i n74), (.i n76), (.i n56), (.i n58)] h102 (fun l112 h113 => A.unI l112 (fun n114 l115 => A.un0 l115 ( A.cmp .neq n114 (.ofNat 0) (fun t116 => A.cond t116 ( K [(.b false)] h113) ( A.call 28 [(.i n74), (.i n76), (.i n60), (.i n62)] h113 (fun l117 h118 => A.unI l117 (fun n119 l120 => A.un0 l120 ( A.cmp .neq n119 (.ofNat 0) (fun t121 => A.cond t121 ( K [(.b false)] h118) ( A.peek (luG cc 44 false (.int .i64 (.ofNat 0)) (.map (some m39)) (.agg ⟨[(.int .i64 n56), (.int .i64 n58)]⟩) false) h118 (fun l122 => A.ucI .i64 l122 (fun n123 l124 => A.uc0 l124 ( A.ari .add .i64 n123 (.ofNat 1) (fun n125 => A.heap (meG cc 44 false (.int .i64 (.ofNat 0)) (.map (some m39)) (.agg ⟨[(.int .i64 n56), (.int .i64 n58)]⟩)) h118 (fun l126 h127 => A.ucI .i64 l126 (fun n128 l129 => A.ucI .i64 l129 (fun n130 l131 => A.uc0 l131 ( A.heap (esG (.map (some m39)) n130 (.int .i64 n125)) h127 (fun l132 h133 => A.peek (luG cc 44 false (.int .i64 (.ofNat 0)) (.map (some m39)) (.agg ⟨[(.int .i64 n60), (.int .i64 n62)]⟩) false) h133 (fun l134 => A.ucI .i64 l134 (fun n135 l136 => A.uc0 l136 ( A.ari .add .i64 n135 (.ofNat 1) (fun n137 => A.heap (meG cc 44 false (.int .i64 (.ofNat 0)) (.map (some m39)) (.agg ⟨[(.int .i64 n60), (.int .i64 n62)]⟩)) h133 (fun l138 h139 => A.ucI .i64 l138 (fun n140 l141 => A.ucI .i64 l141 (fun n142 l143 => A.uc0 l143 ( A.heap (esG (.map (some m39)) n142 (.int .i64 n137)) h139 (fun l144 h145 => A.ari .add .i64 n44 (.ofNat 1) (fun n146 => s41 [(.i n146)] h145))))))))))))))))))))))))))))))))))))))))))))))))))))))))))))))))))))))))))))))))) ( A.call 29 [(.i n12), (.i n14)] h43 (fun l147 h148 => A.unV l147 (fun x149 l150 => A.unI l150 (fun n151 l152 => A.un0 l152 ( A.loop (fun s153 l154 h155 => A.unI l154 (fun n156 l157 => A.unI l157 (fun n158 l159 => A.un0 l159 ( A.ari .mul .i64 (.ofNat 2) n14 (fun n160 => A.cmp .leq n158 n160 (fun t161 => A.cond t161 ( A.loop (fun s162 l163 h164 => A.unI l163 (fun n165 l166 => A.unI l166 (fun n167 l168 => A.un0 l168 ( A.ari .mul .i64 (.ofNat 2) n12 (fun n169 => A.cmp .leq n167 n169 (fun t170 => A.cond t170 ( A.join (fun l171 h172 => A.unI l171 (fun n173 l174 => A.un0 l174 ( A.ari .add .i64 n167 (.ofNat 1) (fun n175 => s162 [(.i n173), (.i n175)] h172)))) (fun j176 => A.join (fun l177 h178 => A.unB l177 (fun t179 l180 => A.un0 l180 ( A.cond (!t179) ( j176 [(.i n165)] h178) ( A.ari .rem .i64 n167 (.ofNat 2) (fun n181 => A.cmp .eql n181 (.ofNat 1) (fun t182 => A.join (fun l183 h184 => A.unI l183 (fun n185 l186 => A.un0 l186 ( A.opt (lenS x149) (fun x187 => A.cmp .geq n165 x187 (fun t188 => A.cond t188 ( K [(.b false)] h184) ( A.opt (idS 2 x149 n165) (fun x189 => A.peek (ldP 2 x189) h184 (fun l190 => A.ucI .i64 l190 (fun n191 l192 => A.ucI .i64 l192 (fun n193 l194 => A.uc0 l194 ( A.eqs [((.i n191), (.i n167)), ((.i n193), (.i n158))] (fun t195 => A.cond (!t195) ( K [(.b false)] h184) ( A.opt (idS 2 x149 n165) (fun x196 => A.peek (ldP 2 x196) h184 (fun l197 => A.ucI .i64 l197 (fun n198 l199 => A.ucI .i64 l199 (fun n200 l201 => A.uc0 l201 ( A.peek (luG cc 44 false (.int .i64 (.ofNat 0)) (.map (some m39)) (.agg ⟨[(.int .i64 n198), (.int .i64 n200)]⟩) false) h184 (fun l202 => A.ucI .i64 l202 (fun n203 l204 => A.uc0 l204 ( A.cmp .neq n203 n185 (fun t205 => A.cond t205 ( K [(.b false)] h184) ( A.ari .add .i64 n165 (.ofNat 1) (fun n206 => j176 [(.i n206)] h184)))))))))))))))))))))))) (fun j207 => A.cond t182 ( j207 [(.i (.ofNat 4))] h178) ( j207 [(.i (.ofNat 8))] h178)))))))) (fun j208 => A.cmp .gtr n167 (.ofNat 0) (fun t209 => A.cond t209 ( A.cmp .gtr n158 (.ofNat 0) (fun t210 => A.cond t210 ( A.ari .mul .i64 (.ofNat 2) n12 (fun n211 => A.cmp .lss n167 n211 (fun t212 => A.cond t212 ( A.ari .mul .i64 (.ofNat 2) n14 (fun n213 => A.cmp .lss n158 n213 (fun t214 => A.cond t214 ( A.ari .add .i64 n167 n158 (fun n215 => A.ari .rem .i64 n215 (.ofNat 2) (fun n216 => A.cmp .eql n216 (.ofNat 0) (fun t217 => j208 [(.b t217)] h164)))) ( j208 [(.b false)] h164)))) ( j208 [(.b false)] h164)))) ( j208 [(.b false)] h164))) ( j208 [(.b false)] h164))))) ( A.ari .add .i64 n158 (.ofNat 1) (fun n218 => s153 [(.i n165), (.i n218)] h164)))))))) [(.i n156), (.i (.ofNat 0))] h155) ( A.join (fun l219 h220 => A.unB l219 (fun t221 l222 => A.un0 l222 ( K [(.b t221)] h220))) (fun j223 => A.cmp .eql n151 (.ofNat 0) (fun t224 => A.cond t224 ( A.opt (lenS x149) (fun x225 => A.cmp .eql n156 x225 (fun t226 => A.cond t226 ( A.opt (capS x149) (fun x227 => A.cmp .eql x227 n156 (fun t228 => A.cond t228 ( A.call 21 [] h155 (fun l229 h230 => A.unB l229 (fun t231 l232 => A.un0 l232 ( j223 [(.b t231)] h230)))) ( j223 [(.b false)] h155)))) ( j223 [(.b false)] h155)))) ( j223 [(.b false)] h155)))))))))) [(.i (.ofNat 0)), (.i (.ofNat 0))] h148)))))))))) [(.i (.ofNat 0))] h40))))))))))))))))))))))))))))

noncomputable def ft5 (l14 : List Lf) (h15 : HT) (E : Int → Int → Value → HT → R) (K : List Lf → HT → R) : R := A.unI l14 (fun n16 l17 => A.unI l17 (fun n18 l19 => A.un0 l19 ( A.call 24 [(.i n16), (.i n18)] h15 (fun l20 h21 => A.unV l20 (fun x22 l23 => A.un0 l23 ( E n16 n18 x22 h21))))))

noncomputable def ft5e (n10 : Int) (n12 : Int) (n16 : Int) (n18 : Int) (x22 : Value) (h21 : HT) (K : List Lf → HT → R) : R := A.loop (fun s24 l25 h26 => A.unB l25 (fun t27 l28 => A.unI l28 (fun n29 l30 => A.un0 l30 ( A.opt (lenS x22) (fun x31 => A.cmp .lss n29 x31 (fun t32 => A.cond t32 ( A.join (fun l33 h34 => A.unB l33 (fun t35 l36 => A.un0 l36 ( A.ari .add .i64 n29 (.ofNat 1) (fun n37 => s24 [(.b t35), (.i n37)] h34)))) (fun j38 => A.cond t27 ( j38 [(.b true)] h26) ( A.opt (idS 2 x22 n29) (fun x39 => A.peek (ldP 2 x39) h26 (fun l40 => A.ucI .i64 l40 (fun n41 l42 => A.ucI .u8 l42 (fun n43 l44 => A.uc0 l44 ( A.eqs [((.i n41), (.i n10)), ((.i n43), (.i n12))] (fun t45 => j38 [(.b t45)] h26))))))))) ( A.call 26 [(.i n16), (.i n18), (.i n10), (.i n12)] h26 (fun l46 h47 => A.unI l46 (fun n48 l49 => A.unI l49 (fun n50 l51 => A.unI l51 (fun n52 l53 => A.un0 l53 ( A.call 25 [(.i n16), (.i n18), (.i n10), (.i n12)] h47 (fun l54 h55 => A.unI l54 (fun n56 l57 => A.unI l57 (fun n58 l59 => A.unI l59 (fun n60 l61 => A.unI l61 (fun n62 l63 => A.unI l63 (fun n64 l65 => A.un0 l65 ( A.cond (!t27) ( A.join (fun l66 h67 => A.unB l66 (fun t68 l69 => A.un0 l69 ( K [(.b t68)] h67))) (fun j70 => A.cmp .eql n52 (.ofNat 7) (fun t71 => A.cond t71 ( A.cmp .eql n64 (.ofNat 7) (fun t72 => A.cond t72 ( A.eqs [((.i n48), (.i (.ofNat 0))), ((.i n50), (.i (.ofNat 0)))] (fun t73 => A.cond t73 ( A.eqs [((.i n56), (.i (.ofNat 0))), ((.i n58), (.i (.ofNat 0))), ((.i n60), (.i (.ofNat 0))), ((.i n62), (.i (.ofNat 0)))] (fun t74 => A.cond t74 ( A.call 21 [] h55 (fun l75 h76 => A.unB l75 (fun t77 l78 => A.un0 l78 ( j70 [(.b t77)] h76)))) ( j70 [(.b false)] h55))) ( j70 [(.b false)] h55))) ( j70 [(.b false)] h55))) ( j70 [(.b false)] h55)))) ( A.call 30 [(.i n16), (.i n18)] h55 (fun l79 h80 => A.unV l79 (fun x81 l82 => A.un0 l82 ( A.opt (idS 3 x81 n10) (fun x83 => A.peek (ldP 3 x83) h80 (fun l84 => A.ucI .i64 l84 (fun n85 l86 => A.ucI .i64 l86 (fun n87 l88 => A.ucI .u8 l88 (fun n89 l90 => A.uc0 l90 ( A.join (fun l91 h92 => A.unB l91 (fun t93 l94 => A.un0 l94 ( K [(.b t93)] h92))) (fun j95 => A.cmp .eql n52 (.ofNat 0) (fun t96 => A.cond t96 ( A.cmp .eql n64 (.ofNat 0) (fun t97 => A.cond t97 ( A.conv .i64 n12 (fun n98 => A.call 31 [(.i n85), (.i n87), (.i n89), (.i n98)] h80 (fun l99 h100 => A.unI l99 (fun n101 l102 => A.unI l102 (fun n103 l104 => A.un0 l104 ( A.eqs [((.i n48), (.i n101)), ((.i n50), (.i n103))] (fun t105 => A.cond t105 ( A.call 21 [] h100 (fun l106 h107 => A.unB l106 (fun t108 l109 => A.un0 l109 ( j95 [(.b t108)] h107)))) ( j95 [(.b false)] h100)))))))) ( j95 [(.b false)] h80))) ( j95 [(.b false)] h80)))))))))))))))))))))))))))))))) [(.b false), (.i (.ofNat 0))] h21

noncomputable def ft7 (l18 : List Lf) (h19 : HT) (E : Int → Int → Value → HT → R) (K : List Lf → HT → R) : R := A.unI l18 (fun n20 l21 => A.unI l21 (fun n22 l23 => A.un0 l23 ( A.call 37 [(.i n20), (.i n22)] h19 (fun l24 h25 => A.unV l24 (fun x26 l27 => A.unI l27 (fun n28 l29 => A.un0 l29 ( A.call 30 [(.i n20), (.i n22)] h25 (fun l30 h31 => A.unV l30 (fun x32 l33 => A.un0 l33 ( A.cmp .neq n28 (.ofNat 0) (fun t34 => A.cond t34 ( K [(.b false)] h31) ( A.opt (lenS x26) (fun x35 => A.opt (lenS x32) (fun x36 => A.cmp .neq x35 x36 (fun t37 => A.cond t37 ( K [(.b false)] h31) ( A.opt (capS x26) (fun x38 => A.opt (lenS x26) (fun x39 => A.cmp .neq x38 x39 (fun t40 => A.cond t40 ( K [(.b false)] h31) ( A.loop (fun s41 l42 h43 => A.unI l42 (fun n44 l45 => A.un0 l45 ( A.opt (lenS x32) (fun x46 => A.cmp .lss n44 x46 (fun t47 => A.cond t47 ( A.call 35 [(.i n20), (.i n22), (.i n44)] h43 (fun l48 h49 => A.unI l48 (fun n50 l51 => A.unI l51 (fun n52 l53 => A.unI l53 (fun n54 l55 => A.unI l55 (fun n56 l57 => A.un0 l57 ( A.opt (idS 3 x32 n44) (fun x58 => A.peek (ldP 3 x58) h49 (fun l59 => A.ucI .i64 l59 (fun n60 l61 => A.ucI .i64 l61 (fun n62 l63 => A.ucI .u8 l63 (fun n64 l65 => A.uc0 l65 ( A.call 36 [(.i n20), (.i n22), (.i n60), (.i n62), (.i n64)] h49 (fun l66 h67 => A.unI l66 (fun n68 l69 => A.unI l69 (fun n70 l71 => A.un0 l71 ( A.opt (idS 3 x26 n44) (fun x72 => A.peek (ldP 3 x72) h67 (fun l73 => A.ucI .i64 l73 (fun n74 l75 => A.ucI .i64 l75 (fun n76 l77 => A.ucI .u8 l77 (fun n78 l79 => A.uc0 l79 ( A.opt (idS 3 x32 n44) (fun x80 => A.peek (ldP 3 x80) h67 (fun l81 => A.ucI .i64 l81 (fun n82 l83 => A.ucI .i64 l83 (fun n84 l85 => A.ucI .u8 l85 (fun n86 l87 => A.uc0 l87 ( A.eqs [((.i n74), (.i n82)), ((.i n76), (.i n84)), ((.i n78), (.i n86))] (fun t88 => A.cond (!t88) ( K [(.b false)] h67) ( A.cmp .neq n56 (.ofNat 0) (fun t89 => A.cond t89 ( K [(.b false)] h67) ( A.opt (idS 3 x32 n44) (fun x90 => A.peek (ldP 3 x90) h67 (fun l91 => A.ucI .i64 l91 (fun n92 l93 => A.ucI .i64 l93 (fun n94 l95 => A.ucI .u8 l95 (fun n96 l97 => A.uc0 l97 ( A.eqs [((.i n50), (.i n92)), ((.i n52), (.i n94)), ((.i n54), (.i n96))] (fun t98 => A.cond (!t98) ( K [(.b false)] h67) ( A.cmp .neq n70 (.ofNat 0) (fun t99 => A.cond t99 ( K [(.b false)] h67) ( A.cmp .neq n68 n44 (fun t100 => A.cond t100 ( K [(.b false)] h67) ( A.ari .add .i64 n44 (.ofNat 1) (fun n101 => s41 [(.i n101)] h67)))))))))))))))))))))))))))))))))))))))))))))) ( E n20 n22 x32 h43)))))) [(.i (.ofNat 0))] h31))))))))))))))))))))

noncomputable def ft7e (n10 : Int) (n12 : Int) (n14 : Int) (n16 : Int) (n20 : Int) (n22 : Int) (x32 : Value) (h43 : HT) (K : List Lf → HT → R) : R := A.call 35 [(.i n20), (.i n22), (.i n10)] h43 (fun l102 h103 => A.unI l102 (fun n104 l105 => A.unI l105 (fun n106 l107 => A.unI l107 (fun n108 l109 => A.unI l109 (fun n110 l111 => A.un0 l111 ( A.cmp .lss n10 (.ofNat 0) (fun t112 => A.cond t112 ( A.cmp .neq n110 (.ofNat 7) (fun t113 => A.cond t113 ( K [(.b false)] h103) ( A.eqs [((.i n104), (.i (.ofNat 0))), ((.i n106), (.i (.ofNat 0))), ((.i n108), (.i (.ofNat 0)))] (fun t114 => A.cond (!t114) ( K [(.b false)] h103) ( A.call 36 [(.i n20), (.i n22), (.i n12), (.i n14), (.i n16)] h103 (fun l115 h116 => A.unI l115 (fun n117 l118 => A.unI l118 (fun n119 l120 => A.un0 l120 ( A.call 38 [(.i n20), (.i n22), (.i n12), (.i n14), (.i n16)] h116 (fun l121 h122 => A.unI l121 (fun n123 l124 => A.un0 l124 ( A.cmp .lss n123 (.ofNat 0) (fun t125 => A.cond t125 ( A.join (fun l126 h127 => A.unB l126 (fun t128 l129 => A.un0 l129 ( K [(.b t128)] h127))) (fun j130 => A.cmp .eql n119 (.ofNat 7) (fun t131 => A.cond t131 ( A.cmp .eql n117 (.ofNat 0) (fun t132 => A.cond t132 ( A.call 21 [] h122 (fun l133 h134 => A.unB l133 (fun t135 l136 => A.un0 l136 ( j130 [(.b t135)] h134)))) ( j130 [(.b false)] h122))) ( j130 [(.b false)] h122)))) ( A.join (fun l137 h138 => A.unB l137 (fun t139 l140 => A.un0 l140 ( K [(.b t139)] h138))) (fun j141 => A.cmp .eql n119 (.ofNat 0) (fun t142 => A.cond t142 ( A.cmp .eql n117 n123 (fun t143 => A.cond t143 ( A.call 21 [] h122 (fun l144 h145 => A.unB l144 (fun t146 l147 => A.un0 l147 ( j141 [(.b t146)] h145)))) ( j141 [(.b false)] h122))) ( j141 [(.b false)] h122))))))))))))))))) ( A.opt (lenS x32) (fun x148 => A.cmp .geq n10 x148 (fun t149 => A.join (fun l150 h151 => A.un0 l150 ( A.call 36 [(.i n20), (.i n22), (.i n12), (.i n14), (.i n16)] h151 (fun l152 h153 => A.unI l152 (fun n154 l155 => A.unI l155 (fun n156 l157 => A.un0 l157 ( A.call 38 [(.i n20), (.i n22), (.i n12), (.i n14), (.i n16)] h153 (fun l158 h159 => A.unI l158 (fun n160 l161 => A.un0 l161 ( A.cmp .lss n160 (.ofNat 0) (fun t162 => A.cond t162 ( A.join (fun l163 h164 => A.unB l163 (fun t165 l166 => A.un0 l166 ( K [(.b t165)] h164))) (fun j167 => A.cmp .eql n156 (.ofNat 7) (fun t168 => A.cond t168 ( A.cmp .eql n154 (.ofNat 0) (fun t169 => A.cond t169 ( A.call 21 [] h159 (fun l170 h171 => A.unB l170 (fun t172 l173 => A.un0 l173 ( j167 [(.b t172)] h171)))) ( j167 [(.b false)] h159))) ( j167 [(.b false)] h159)))) ( A.join (fun l174 h175 => A.unB l174 (fun t176 l177 => A.un0 l177 ( K [(.b t176)] h175))) (fun j178 => A.cmp .eql n156 (.ofNat 0) (fun t179 => A.cond t179 ( A.cmp .eql n154 n160 (fun t180 => A.cond t180 ( A.call 21 [] h159 (fun l181 h182 => A.unB l181 (fun t183 l184 => A.un0 l184 ( j178 [(.b t183)] h182)))) ( j178 [(.b false)] h159))) ( j178 [(.b false)] h159)))))))))))))) (fun j185 => A.cond t149 ( A.cmp .neq n110 (.ofNat 7) (fun t186 => A.cond t186 ( K [(.b false)] h103) ( A.eqs [((.i n104), (.i (.ofNat 0))), ((.i n106), (.i (.ofNat 0))), ((.i n108), (.i (.ofNat 0)))] (fun t187 => A.cond (!t187) ( K [(.b false)] h103) ( j185 [] h103))))) ( j185 [] h103))))))))))))

end

def pt3 (A : Alg Prop HL) (n10 : Int) (n12 : Int) (l14 : List Lf) (h15 : HL) (K : List Lf → HL → Prop) : Prop := A.unI l14 (@hid _ ⟨fun n16 l17 => A.unI l17 (@hid _ ⟨fun n18 l19 => A.un0 l19 (@hid _ ⟨A.call 18 [(.i n16), (.i n18), (.i n10), (.i n12)] h15 (@hid _ ⟨fun l20 h21 => A.unI l20 (@hid _ ⟨fun n22 l23 => A.unI l23 (@hid _ ⟨fun n24 l25 => A.un0 l25 (@hid _ ⟨A.call 19 [(.i n16), (.i n18), (.i n10), (.i n12)] h21 (@hid _ ⟨fun l26 h27 => A.unI l26 (@hid _ ⟨fun n28 l29 => A.unI l29 (@hid _ ⟨fun n30 l31 => A.unI l31 (@hid _ ⟨fun n32 l33 => A.un0 l33 (@hid _ ⟨A.cmp .lss n10 0 (@hid _ ⟨fun t34 => A.cond t34 (@hid _ ⟨A.cmp .neq n24 7 (@hid _ ⟨fun t35 => A.cond t35 (@hid _ ⟨K [(.b false)] h27⟩) (@hid _ ⟨A.cmp .neq n32 7 (@hid _ ⟨fun t36 => A.cond t36 (@hid _ ⟨K [(.b false)] h27⟩) (@hid _ ⟨A.cmp .neq 7 0 (@hid _ ⟨fun t37 => A.cond t37 (@hid _ ⟨A.join (@hid _ ⟨fun l38 h39 => A.unB l38 (@hid _ ⟨fun t40 l41 => A.un0 l41 (@hid _ ⟨K [(.b t40)] h39⟩)⟩)⟩) (@hid _ ⟨fun j42 => A.cmp .eql n22 0 (@hid _ ⟨fun t43 => A.cond t43 (@hid _ ⟨A.eqs [((.i n28), (.i 0)), ((.i n30), (.i 0))] (@hid _ ⟨fun t44 => A.cond t44 (@hid _ ⟨A.call 21 [] h27 (@hid _ ⟨fun l45 h46 => A.unB l45 (@hid _ ⟨fun t47 l48 => A.un0 l48 (@hid _ ⟨j42 [(.b t47)] h46⟩)⟩)⟩)⟩) (@hid _ ⟨j42 [(.b false)] h27⟩)⟩)⟩) (@hid _ ⟨j42 [(.b false)] h27⟩)⟩)⟩)⟩) (@hid _ ⟨A.call 18 [(.i n16), (.i n18), (.i n22), (.i n12)] h27 (@hid _ ⟨fun l49 h50 => A.unI l49 (@hid _ ⟨fun n51 l52 => A.unI l52 (@hid _ ⟨fun n53 l54 => A.un0 l54 (@hid _ ⟨A.call 19 [(.i n16), (.i n18), (.i n22), (.i n12)] h50 (@hid _ ⟨fun l55 h56 => A.unI l55 (@hid _ ⟨fun n57 l58 => A.unI l58 (@hid _ ⟨fun n59 l60 => A.unI l60 (@hid _ ⟨fun n61 l62 => A.un0 l62 (@hid _ ⟨A.join (@hid _ ⟨fun l63 h64 => A.unB l63 (@hid _ ⟨fun t65 l66 => A.un0 l66 (@hid _ ⟨K [(.b t65)] h64⟩)⟩)⟩) (@hid _ ⟨fun j67 => A.conv .i64 n12 (@hid _ ⟨fun n68 => A.call 20 [(.i n16), (.i n18), (.i n10), (.i n68)] h56 (@hid _ ⟨fun l69 h70 => A.unI l69 (@hid _ ⟨fun n71 l72 => A.un0 l72 (@hid _ ⟨A.cmp .eql n22 n71 (@hid _ ⟨fun t73 => A.cond t73 (@hid _ ⟨A.cmp .eql n53 0 (@hid _ ⟨fun t74 => A.cond t74 (@hid _ ⟨A.cmp .eql n51 n10 (@hid _ ⟨fun t75 => A.cond t75 (@hid _ ⟨A.cmp .lss n22 n10 (@hid _ ⟨fun t76 => A.sel t76 n22 n10 (@hid _ ⟨fun n77 => A.call 22 [(.i n77), (.i n12)] h70 (@hid _ ⟨fun l78 h79 => A.unI l78 (@hid _ ⟨fun n80 l81 => A.unI l81 (@hid _ ⟨fun n82 l83 => A.un0 l83 (@hid _ ⟨A.eqs [((.i n28), (.i n80)), ((.i n30), (.i n82))] (@hid _ ⟨fun t84 => A.cond t84 (@hid _ ⟨A.cmp .eql n61 0 (@hid _ ⟨fun t85 => A.cond t85 (@hid _ ⟨A.eqs [((.i n57), (.i n28)), ((.i n59), (.i n30))] (@hid _ ⟨fun t86 => A.cond t86 (@hid _ ⟨A.call 21 [] h79 (@hid _ ⟨fun l87 h88 => A.unB l87 (@hid _ ⟨fun t89 l90 => A.un0 l90 (@hid _ ⟨j67 [(.b t89)] h88⟩)⟩)⟩)⟩) (@hid _ ⟨j67 [(.b false)] h79⟩)⟩)⟩) (@hid _ ⟨j67 [(.b false)] h79⟩)⟩)⟩) (@hid _ ⟨j67 [(.b false)] h79⟩)⟩)⟩)⟩)⟩)⟩)⟩)⟩)⟩) (@hid _ ⟨j67 [(.b false)] h70⟩)⟩)⟩) (@hid _ ⟨j67 [(.b false)] h70⟩)⟩)⟩) (@hid _ ⟨j67 [(.b false)] h70⟩)⟩)⟩)⟩)⟩)⟩)⟩)⟩)⟩)⟩)⟩)⟩)⟩)⟩)⟩)⟩)⟩)⟩)⟩)⟩)⟩)⟩)⟩) (@hid _ ⟨A.ari .mul .i64 4 n16 (@hid _ ⟨fun n91 => A.ari .mul .i64 n91 n18 (@hid _ ⟨fun n92 => A.cmp .geq n10 n92 (@hid _ ⟨fun t93 => A.join (@hid _ ⟨fun l94 h95 => A.unI l94 (@hid _ ⟨fun n96 l97 => A.un0 l97 (@hid _ ⟨A.cmp .neq n24 n96 (@hid _ ⟨fun t98 => A.cond t98 (@hid _ ⟨K [(.b false)] h95⟩) (@hid _ ⟨A.cmp .neq n32 n96 (@hid _ ⟨fun t99 => A.cond t99 (@hid _ ⟨K [(.b false)] h95⟩) (@hid _ ⟨A.cmp .neq n96 0 (@hid _ ⟨fun t100 => A.cond t100 (@hid _ ⟨A.join (@hid _ ⟨fun l101 h102 => A.unB l101 (@hid _ ⟨fun t103 l104 => A.un0 l104 (@hid _ ⟨K [(.b t103)] h102⟩)⟩)⟩) (@hid _ ⟨fun j105 => A.cmp .eql n22 0 (@hid _ ⟨fun t106 => A.cond t106 (@hid _ ⟨A.eqs [((.i n28), (.i 0)), ((.i n30), (.i 0))] (@hid _ ⟨fun t107 => A.cond t107 (@hid _ ⟨A.call 21 [] h95 (@hid _ ⟨fun l108 h109 => A.unB l108 (@hid _ ⟨fun t110 l111 => A.un0 l111 (@hid _ ⟨j105 [(.b t110)] h109⟩)⟩)⟩)⟩) (@hid _ ⟨j105 [(.b false)] h95⟩)⟩)⟩) (@hid _ ⟨j105 [(.b false)] h95⟩)⟩)⟩)⟩) (@hid _ ⟨A.call 18 [(.i n16), (.i n18), (.i n22), (.i n12)] h95 (@hid _ ⟨fun l112 h113 => A.unI l112 (@hid _ ⟨fun n114 l115 => A.unI l115 (@hid _ ⟨fun n116 l117 => A.un0 l117 (@hid _ ⟨A.call 19 [(.i n16), (.i n18), (.i n22), (.i n12)] h113 (@hid _ ⟨fun l118 h119 => A.unI l118 (@hid _ ⟨fun n120 l121 => A.unI l121 (@hid _ ⟨fun n122 l123 => A.unI l123 (@hid _ ⟨fun n124 l125 => A.un0 l125 (@hid _ ⟨A.join (@hid _ ⟨fun l126 h127 => A.unB l126 (@hid _ ⟨fun t128 l129 => A.un0 l129 (@hid _ ⟨K [(.b t128)] h127⟩)⟩)⟩) (@hid _ ⟨fun j130 => A.conv .i64 n12 (@hid _ ⟨fun n131 => A.call 20 [(.i n16), (.i n18), (.i n10), (.i n131)] h119 (@hid _ ⟨fun l132 h133 => A.unI l132 (@hid _ ⟨fun n134 l135 => A.un0 l135 (@hid _ ⟨A.cmp .eql n22 n134 (@hid _ ⟨fun t136 => A.cond t136 (@hid _ ⟨A.cmp .eql n116 0 (@hid _ ⟨fun t137 => A.cond t137 (@hid _ ⟨A.cmp .eql n114 n10 (@hid _ ⟨fun t138 => A.cond t138 (@hid _ ⟨A.cmp .lss n22 n10 (@hid _ ⟨fun t139 => A.sel t139 n22 n10 (@hid _ ⟨fun n140 => A.call 22 [(.i n140), (.i n12)] h133 (@hid _ ⟨fun l141 h142 => A.unI l141 (@hid _ ⟨fun n143 l144 => A.unI l144 (@hid _ ⟨fun n145 l146 => A.un0 l146 (@hid _ ⟨A.eqs [((.i n28), (.i n143)), ((.i n30), (.i n145))] (@hid _ ⟨fun t147 => A.cond t147 (@hid _ ⟨A.cmp .eql n124 0 (@hid _ ⟨fun t148 => A.cond t148 (@hid _ ⟨A.eqs [((.i n120), (.i n28)), ((.i n122), (.i n30))] (@hid _ ⟨fun t149 => A.cond t149 (@hid _ ⟨A.call 21 [] h142 (@hid _ ⟨fun l150 h151 => A.unB l150 (@hid _ ⟨fun t152 l153 => A.un0 l153 (@hid _ ⟨j130 [(.b t152)] h151⟩)⟩)⟩)⟩) (@hid _ ⟨j130 [(.b false)] h142⟩)⟩)⟩) (@hid _ ⟨j130 [(.b false)] h142⟩)⟩)⟩) (@hid _ ⟨j130 [(.b false)] h142⟩)⟩)⟩)⟩)⟩)⟩)⟩)⟩)⟩) (@hid _ ⟨j130 [(.b false)] h133⟩)⟩)⟩) (@hid _ ⟨j130 [(.b false)] h133⟩)⟩)⟩) (@hid _ ⟨j130 [(.b false)] h133⟩)⟩)⟩)⟩)⟩)⟩)⟩)⟩)⟩)⟩)⟩)⟩)⟩)⟩)⟩)⟩)⟩)⟩)⟩)⟩)⟩)⟩)⟩)⟩)⟩) (@hid _ ⟨fun j154 => A.cond t93 (@hid _ ⟨j154 [(.i 7)] h27⟩) (@hid _ ⟨A.cmp .gtr n12 2 (@hid _ ⟨fun t155 => A.join (@hid _ ⟨fun l156 h157 => A.unI l156 (@hid _ ⟨fun n158 l159 => A.un0 l159 (@hid _ ⟨j154 [(.i n158)] h157⟩)⟩)⟩) (@hid _ ⟨fun j160 => A.cond t155 (@hid _ ⟨j160 [(.i 1)] h27⟩) (@hid _ ⟨A.conv .i64 n12 (@hid _ ⟨fun n161 => A.call 20 [(.i n16), (.i n18), (.i n10), (.i n161)] h27 (@hid _ ⟨fun l162 h163 => A.unI l162 (@hid _ ⟨fun n164 l165 => A.un0 l165 (@hid _ ⟨A.cmp .lss n164 0 (@hid _ ⟨fun t166 => A.join (@hid _ ⟨fun l167 h168 => A.unI l167 (@hid _ ⟨fun n169 l170 => A.un0 l170 (@hid _ ⟨j160 [(.i n169)] h168⟩)⟩)⟩) (@hid _ ⟨fun j171 => A.cond t166 (@hid _ ⟨j171 [(.i 7)] h163⟩) (@hid _ ⟨j171 [(.i 0)] h163⟩)⟩)⟩)⟩)⟩)⟩)⟩)⟩)⟩)⟩)⟩)⟩)⟩)⟩)⟩)⟩)⟩)⟩)⟩)⟩)⟩)⟩)⟩)⟩)⟩)⟩)⟩)⟩)⟩)
theorem gt3 : (fun A : Alg Prop HL => pt3 A) = fun A => ft3 A := by kernel_rfl
theorem st3 {call : CallB} (hc : CallBOk cc sgTab siteTab call) (n10 : Int) (n12 : Int) (l14 : List Lf) (h15 : HL) {K : List Lf → HL → Bool} {K' : List Lf → HL → Prop} (hK : KLe K K') :
    ft3 (BA sgTab siteTab call) n10 n12 l14 h15 K = true → pt3 P1 n10 n12 l14 h15 K' := by
  have e : pt3 P1 n10 n12 l14 h15 K' = ft3 P1 n10 n12 l14 h15 K' := congrFun (congrFun (congrFun (congrFun (congrFun (congrFun gt3 P1) n10) n12) l14) h15) K'
  rw [e]
  exact s_unI hc (fun n16 l17 => s_unI hc (fun n18 l19 => s_un0 hc (s_call hc (fun l20 h21 => s_unI hc (fun n22 l23 => s_unI hc (fun n24 l25 => s_un0 hc (s_call hc (fun l26 h27 => s_unI hc (fun n28 l29 => s_unI hc (fun n30 l31 => s_unI hc (fun n32 l33 => s_un0 hc (s_cmp hc (fun t34 => s_cond hc (s_cmp hc (fun t35 => s_cond hc (hK _ _) (s_cmp hc (fun t36 => s_cond hc (hK _ _) (s_cmp hc (fun t37 => s_cond hc (s_join hc (fun l38 h39 => s_unB hc (fun t40 l41 => s_un0 hc (hK _ _))) (fun j42 j42p h_j42 => s_cmp hc (fun t43 => s_cond hc (s_eqs hc (fun t44 => s_cond hc (s_call hc (fun l45 h46 => s_unB hc (fun t47 l48 => s_un0 hc (h_j42 _ _)))) (h_j42 _ _))) (h_j42 _ _)))) (s_call hc (fun l49 h50 => s_unI hc (fun n51 l52 => s_unI hc (fun n53 l54 => s_un0 hc (s_call hc (fun l55 h56 => s_unI hc (fun n57 l58 => s_unI hc (fun n59 l60 => s_unI hc (fun n61 l62 => s_un0 hc (s_join hc (fun l63 h64 => s_unB hc (fun t65 l66 => s_un0 hc (hK _ _))) (fun j67 j67p h_j67 => s_conv hc (fun n68 => s_call hc (fun l69 h70 => s_unI hc (fun n71 l72 => s_un0 hc (s_cmp hc (fun t73 => s_cond hc (s_cmp hc (fun t74 => s_cond hc (s_cmp hc (fun t75 => s_cond hc (s_cmp hc (fun t76 => s_sel hc (fun n77 => s_call hc (fun l78 h79 => s_unI hc (fun n80 l81 => s_unI hc (fun n82 l83 => s_un0 hc (s_eqs hc (fun t84 => s_cond hc (s_cmp hc (fun t85 => s_cond hc (s_eqs hc (fun t86 => s_cond hc (s_call hc (fun l87 h88 => s_unB hc (fun t89 l90 => s_un0 hc (h_j67 _ _)))) (h_j67 _ _))) (h_j67 _ _))) (h_j67 _ _))))))))) (h_j67 _ _))) (h_j67 _ _))) (h_j67 _ _))))))))))))))))))))))) (s_ari hc (fun n91 => s_ari hc (fun n92 => s_cmp hc (fun t93 => s_join hc (fun l94 h95 => s_unI hc (fun n96 l97 => s_un0 hc (s_cmp hc (fun t98 => s_cond hc (hK _ _) (s_cmp hc (fun t99 => s_cond hc (hK _ _) (s_cmp hc (fun t100 => s_cond hc (s_join hc (fun l101 h102 => s_unB hc (fun t103 l104 => s_un0 hc (hK _ _))) (fun j105 j105p h_j105 => s_cmp hc (fun t106 => s_cond hc (s_eqs hc (fun t107 => s_cond hc (s_call hc (fun l108 h109 => s_unB hc (fun t110 l111 => s_un0 hc (h_j105 _ _)))) (h_j105 _ _))) (h_j105 _ _)))) (s_call hc (fun l112 h113 => s_unI hc (fun n114 l115 => s_unI hc (fun n116 l117 => s_un0 hc (s_call hc (fun l118 h119 => s_unI hc (fun n120 l121 => s_unI hc (fun n122 l123 => s_unI hc (fun n124 l125 => s_un0 hc (s_join hc (fun l126 h127 => s_unB hc (fun t128 l129 => s_un0 hc (hK _ _))) (fun j130 j130p h_j130 => s_conv hc (fun n131 => s_call hc (fun l132 h133 => s_unI hc (fun n134 l135 => s_un0 hc (s_cmp hc (fun t136 => s_cond hc (s_cmp hc (fun t137 => s_cond hc (s_cmp hc (fun t138 => s_cond hc (s_cmp hc (fun t139 => s_sel hc (fun n140 => s_call hc (fun l141 h142 => s_unI hc (fun n143 l144 => s_unI hc (fun n145 l146 => s_un0 hc (s_eqs hc (fun t147 => s_cond hc (s_cmp hc (fun t148 => s_cond hc (s_eqs hc (fun t149 => s_cond hc (s_call hc (fun l150 h151 => s_unB hc (fun t152 l153 => s_un0 hc (h_j130 _ _)))) (h_j130 _ _))) (h_j130 _ _))) (h_j130 _ _))))))))) (h_j130 _ _))) (h_j130 _ _))) (h_j130 _ _))))))))))))))))))))))))) (fun j154 j154p h_j154 => s_cond hc (h_j154 _ _) (s_cmp hc (fun t155 => s_join hc (fun l156 h157 => s_unI hc (fun n158 l159 => s_un0 hc (h_j154 _ _))) (fun j160 j160p h_j160 => s_cond hc (h_j160 _ _) (s_conv hc (fun n161 => s_call hc (fun l162 h163 => s_unI hc (fun n164 l165 => s_un0 hc (s_cmp hc (fun t166 => s_join hc (fun l167 h168 => s_unI hc (fun n169 l170 => s_un0 hc (h_j160 _ _))) (fun j171 j171p h_j171 => s_cond hc (h_j171 _ _) (h_j171 _ _)))))))))))))))))))))))))))))
def pt4 (A : Alg Prop HL) (l10 : List Lf) (h11 : HL) (K : List Lf → HL → Prop) : Prop := A.unI l10 (@hid _ ⟨fun n12 l13 => A.unI l13 (@hid _ ⟨fun n14 l15 => A.un0 l15 (@hid _ ⟨A.call 23 [(.i n12), (.i n14)] h11 (@hid _ ⟨fun l16 h17 => A.unV l16 (@hid _ ⟨fun x18 l19 => A.unI l19 (@hid _ ⟨fun n20 l21 => A.un0 l21 (@hid _ ⟨A.call 24 [(.i n12), (.i n14)] h17 (@hid _ ⟨fun l22 h23 => A.unV l22 (@hid _ ⟨fun x24 l25 => A.un0 l25 (@hid _ ⟨A.cmp .neq n20 0 (@hid _ ⟨fun t26 => A.cond t26 (@hid _ ⟨K [(.b false)] h23⟩) (@hid _ ⟨A.opt (lenS x18) (@hid _ ⟨fun x27 => A.opt (lenS x24) (@hid _ ⟨fun x28 => A.cmp .neq x27 x28 (@hid _ ⟨fun t29 => A.cond t29 (@hid _ ⟨K [(.b false)] h23⟩) (@hid _ ⟨A.opt (capS x18) (@hid _ ⟨fun x30 => A.opt (lenS x18) (@hid _ ⟨fun x31 => A.cmp .neq x30 x31 (@hid _ ⟨fun t32 => A.cond t32 (@hid _ ⟨K [(.b false)] h23⟩) (@hid _ ⟨A.opt (lenS x18) (@hid _ ⟨fun x33 => A.ari .mul .i64 6 n12 (@hid _ ⟨fun n34 => A.ari .mul .i64 n34 n14 (@hid _ ⟨fun n35 => A.ari .sub .i64 n35 n12 (@hid _ ⟨fun n36 => A.ari .sub .i64 n36 n14 (@hid _ ⟨fun n37 => A.cmp .neq x33 n37 (@hid _ ⟨fun t38 => A.cond t38 (@hid _ ⟨K [(.b false)] h23⟩) (@hid _ ⟨A.new (.map [] 0) h23 (@hid _ ⟨fun m39 h40 => A.loop (@hid _ ⟨fun s41 l42 h43 => A.unI l42 (@hid _ ⟨fun n44 l45 => A.un0 l45 (@hid _ ⟨A.opt (lenS x18) (@hid _ ⟨fun x46 => A.cmp .lss n44 x46 (@hid _ ⟨fun t47 => A.cond t47 (@hid _ ⟨A.opt (idS 2 x18 n44) (@hid _ ⟨fun x48 => A.peek (ldP 2 x48) h43 (@hid _ ⟨fun l49 => A.ucI .i64 l49 (@hid _ ⟨fun n50 l51 => A.ucI .u8 l51 (@hid _ ⟨fun n52 l53 => A.uc0 l53 (@hid _ ⟨A.call 25 [(.i n12), (.i n14), (.i n50), (.i n52)] h43 (@hid _ ⟨fun l54 h55 => A.unI l54 (@hid _ ⟨fun n56 l57 => A.unI l57 (@hid _ ⟨fun n58 l59 => A.unI l59 (@hid _ ⟨fun n60 l61 => A.unI l61 (@hid _ ⟨fun n62 l63 => A.unI l63 (@hid _ ⟨fun n64 l65 => A.un0 l65 (@hid _ ⟨A.opt (idS 2 x18 n44) (@hid _ ⟨fun x66 => A.peek (ldP 2 x66) h55 (@hid _ ⟨fun l67 => A.ucI .i64 l67 (@hid _ ⟨fun n68 l69 => A.ucI .u8 l69 (@hid _ ⟨fun n70 l71 => A.uc0 l71 (@hid _ ⟨A.call 26 [(.i n12), (.i n14), (.i n68), (.i n70)] h55 (@hid _ ⟨fun l72 h73 => A.unI l72 (@hid _ ⟨fun n74 l75 => A.unI l75 (@hid _ ⟨fun n76 l77 => A.unI l77 (@hid _ ⟨fun n78 l79 => A.un0 l79 (@hid _ ⟨A.opt (idS 2 x18 n44) (@hid _ ⟨fun x80 => A.peek (ldP 2 x80) h73 (@hid _ ⟨fun l81 => A.ucI .i64 l81 (@hid _ ⟨fun n82 l83 => A.ucI .u8 l83 (@hid _ ⟨fun n84 l85 => A.uc0 l85 (@hid _ ⟨A.opt (idS 2 x24 n44) (@hid _ ⟨fun x86 => A.peek (ldP 2 x86) h73 (@hid _ ⟨fun l87 => A.ucI .i64 l87 (@hid _ ⟨fun n88 l89 => A.ucI .u8 l89 (@hid _ ⟨fun n90 l91 => A.uc0 l91 (@hid _ ⟨A.eqs [((.i n82), (.i n88)), ((.i n84), (.i n90))] (@hid _ ⟨fun t92 => A.cond (!t92) (@hid _ ⟨K [(.b false)] h73⟩) (@hid _ ⟨A.cmp .neq n64 0 (@hid _ ⟨fun t93 => A.cond t93 (@hid _ ⟨K [(.b false)] h73⟩) (@hid _ ⟨A.cmp .neq n78 0 (@hid _ ⟨fun t94 => A.cond t94 (@hid _ ⟨K [(.b false)] h73⟩) (@hid _ ⟨A.opt (idS 2 x18 n44) (@hid _ ⟨fun x95 => A.peek (ldP 2 x95) h73 (@hid _ ⟨fun l96 => A.ucI .i64 l96 (@hid _ ⟨fun n97 l98 => A.ucI .u8 l98 (@hid _ ⟨fun n99 l100 => A.uc0 l100 (@hid _ ⟨A.call 27 [(.i n12), (.i n14), (.i n97), (.i n99)] h73 (@hid _ ⟨fun l101 h102 => A.unI l101 (@hid _ ⟨fun n103 l104 => A.unI l104 (@hid _ ⟨fun n105 l106 => A.unI l106 (@hid _ ⟨fun n107 l108 => A.unI l108 (@hid _ ⟨fun n109 l110 => A.un0 l110 (@hid _ ⟨A.eqs [((.i n56), (.i n103)), ((.i n58), (.i n105)), ((.i n60), (.i n107)), ((.i n62), (.i n109))] (@hid _ ⟨fun t111 => A.cond (!t111) (@hid _ ⟨K [(.b false)] h102⟩) (@hid _ ⟨A.call 28 [(.i n74), (.i n76), (.i n56), (.i n58)] h102 (@hid _ ⟨fun l112 h113 => A.unI l112 (@hid _ ⟨fun n114 l115 => A.un0 l115 (@hid _ ⟨A.cmp .neq n114 0 (@hid _ ⟨fun t116 => A.cond t116 (@hid _ ⟨K [(.b false)] h113⟩) (@hid _ ⟨A.call 28 [(.i n74), (.i n76), (.i n60), (.i n62)] h113 (@hid _ ⟨fun l117 h118 => A.unI l117 (@hid _ ⟨fun n119 l120 => A.un0 l120 (@hid _ ⟨A.cmp .neq n119 0 (@hid _ ⟨fun t121 => A.cond t121 (@hid _ ⟨K [(.b false)] h118⟩) (@hid _ ⟨A.peek (luG cc 44 false (.int .i64 0) (.map (some m39)) (.agg ⟨[(.int .i64 n56), (.int .i64 n58)]⟩) false) h118 (@hid _ ⟨fun l122 => A.ucI .i64 l122 (@hid _ ⟨fun n123 l124 => A.uc0 l124 (@hid _ ⟨A.ari .add .i64 n123 1 (@hid _ ⟨fun n125 => A.heap (meG cc 44 false (.int .i64 0) (.map (some m39)) (.agg ⟨[(.int .i64 n56), (.int .i64 n58)]⟩)) h118 (@hid _ ⟨fun l126 h127 => A.ucI .i64 l126 (@hid _ ⟨fun n128 l129 => A.ucI .i64 l129 (@hid _ ⟨fun n130 l131 => A.uc0 l131 (@hid _ ⟨A.heap (esG (.map (some m39)) n130 (.int .i64 n125)) h127 (@hid _ ⟨fun l132 h133 => A.peek (luG cc 44 false (.int .i64 0) (.map (some m39)) (.agg ⟨[(.int .i64 n60), (.int .i64 n62)]⟩) false) h133 (@hid _ ⟨fun l134 => A.ucI .i64 l134 (@hid _ ⟨fun n135 l136 => A.uc0 l136 (@hid _ ⟨A.ari .add .i64 n135 1 (@hid _ ⟨fun n137 => A.heap (meG cc 44 false (.int .i64 0) (.map (some m39)) (.agg ⟨[(.int .i64 n60), (.int .i64 n62)]⟩)) h133 (@hid _ ⟨fun l138 h139 => A.ucI .i64 l138 (@hid _ ⟨fun n140 l141 => A.ucI .i64 l141 (@hid _ ⟨fun n142 l143 => A.uc0 l143 (@hid _ ⟨A.heap (esG (.map (some m39)) n142 (.int .i64 n137)) h139 (@hid _ ⟨fun l144 h145 => A.ari .add .i64 n44 1 (@hid _ ⟨fun n146 => s41 [(.i n146)] h145⟩)⟩)⟩)⟩)⟩)⟩)⟩)⟩)⟩)⟩)⟩)⟩)⟩)⟩)⟩)⟩)⟩)⟩)⟩)⟩)⟩)⟩)⟩)⟩)⟩)⟩)⟩)⟩)⟩)⟩)⟩)⟩)⟩)⟩)⟩)⟩)⟩)⟩)⟩)⟩)⟩)⟩)⟩)⟩)⟩)⟩)⟩)⟩)⟩)⟩)⟩)⟩)⟩)⟩)⟩)⟩)⟩)⟩)⟩)⟩)⟩)⟩)⟩)⟩)⟩)⟩)⟩)⟩)⟩)⟩)⟩)⟩)⟩)⟩)⟩)⟩)⟩)⟩)⟩)⟩)⟩) (@hid _ ⟨A.call 29 [(.i n12), (.i n14)] h43 (@hid _ ⟨fun l147 h148 => A.unV l147 (@hid _ ⟨fun x149 l150 => A.unI l150 (@hid _ ⟨fun n151 l152 => A.un0 l152 (@hid _ ⟨A.loop (@hid _ ⟨fun s153 l154 h155 => A.unI l154 (@hid _ ⟨fun n156 l157 => A.unI l157 (@hid _ ⟨fun n158 l159 => A.un0 l159 (@hid _ ⟨A.ari .mul .i64 2 n14 (@hid _ ⟨fun n160 => A.cmp .leq n158 n160 (@hid _ ⟨fun t161 => A.cond t161 (@hid _ ⟨A.loop (@hid _ ⟨fun s162 l163 h164 => A.unI l163 (@hid _ ⟨fun n165 l166 => A.unI l166 (@hid _ ⟨fun n167 l168 => A.un0 l168 (@hid _ ⟨A.ari .mul .i64 2 n12 (@hid _ ⟨fun n169 => A.cmp .leq n167 n169 (@hid _ ⟨fun t170 => A.cond t170 (@hid _ ⟨A.join (@hid _ ⟨fun l171 h172 => A.unI l171 (@hid _ ⟨fun n173 l174 => A.un0 l174 (@hid _ ⟨A.ari .add .i64 n167 1 (@hid _ ⟨fun n175 => s162 [(.i n173), (.i n175)] h172⟩)⟩)⟩)⟩) (@hid _ ⟨fun j176 => A.join (@hid _ ⟨fun l177 h178 => A.unB l177 (@hid _ ⟨fun t179 l180 => A.un0 l180 (@hid _ ⟨A.cond (!t179) (@hid _ ⟨j176 [(.i n165)] h178⟩) (@hid _ ⟨A.ari .rem .i64 n167 2 (@hid _ ⟨fun n181 => A.cmp .eql n181 1 (@hid _ ⟨fun t182 => A.join (@hid _ ⟨fun l183 h184 => A.unI l183 (@hid _ ⟨fun n185 l186 => A.un0 l186 (@hid _ ⟨A.opt (lenS x149) (@hid _ ⟨fun x187 => A.cmp .geq n165 x187 (@hid _ ⟨fun t188 => A.cond t188 (@hid _ ⟨K [(.b false)] h184⟩) (@hid _ ⟨A.opt (idS 2 x149 n165) (@hid _ ⟨fun x189 => A.peek (ldP 2 x189) h184 (@hid _ ⟨fun l190 => A.ucI .i64 l190 (@hid _ ⟨fun n191 l192 => A.ucI .i64 l192 (@hid _ ⟨fun n193 l194 => A.uc0 l194 (@hid _ ⟨A.eqs [((.i n191), (.i n167)), ((.i n193), (.i n158))] (@hid _ ⟨fun t195 => A.cond (!t195) (@hid _ ⟨K [(.b false)] h184⟩) (@hid _ ⟨A.opt (idS 2 x149 n165) (@hid _ ⟨fun x196 => A.peek (ldP 2 x196) h184 (@hid _ ⟨fun l197 => A.ucI .i64 l197 (@hid _ ⟨fun n198 l199 => A.ucI .i64 l199 (@hid _ ⟨fun n200 l201 => A.uc0 l201 (@hid _ ⟨A.peek (luG cc 44 false (.int .i64 0) (.map (some m39)) (.agg ⟨[(.int .i64 n198), (.int .i64 n200)]⟩) false) h184 (@hid _ ⟨fun l202 => A.ucI .i64 l202 (@hid _ ⟨fun n203 l204 => A.uc0 l204 (@hid _ ⟨A.cmp .neq n203 n185 (@hid _ ⟨fun t205 => A.cond t205 (@hid _ ⟨K [(.b false)] h184⟩) (@hid _ ⟨A.ari .add .i64 n165 1 (@hid _ ⟨fun n206 => j176 [(.i n206)] h184⟩)⟩)⟩)⟩)⟩)⟩)⟩)⟩)⟩)⟩)⟩)⟩)⟩)⟩)⟩)⟩)⟩)⟩)⟩)⟩)⟩)⟩)⟩)⟩) (@hid _ ⟨fun j207 => A.cond t182 (@hid _ ⟨j207 [(.i 4)] h178⟩) (@hid _ ⟨j207 [(.i 8)] h178⟩)⟩)⟩)⟩)⟩)⟩)⟩)⟩) (@hid _ ⟨fun j208 => A.cmp .gtr n167 0 (@hid _ ⟨fun t209 => A.cond t209 (@hid _ ⟨A.cmp .gtr n158 0 (@hid _ ⟨fun t210 => A.cond t210 (@hid _ ⟨A.ari .mul .i64 2 n12 (@hid _ ⟨fun n211 => A.cmp .lss n167 n211 (@hid _ ⟨fun t212 => A.cond t212 (@hid _ ⟨A.ari .mul .i64 2 n14 (@hid _ ⟨fun n213 => A.cmp .lss n158 n213 (@hid _ ⟨fun t214 => A.cond t214 (@hid _ ⟨A.ari .add .i64 n167 n158 (@hid _ ⟨fun n215 => A.ari .rem .i64 n215 2 (@hid _ ⟨fun n216 => A.cmp .eql n216 0 (@hid _ ⟨fun t217 => j208 [(.b t217)] h164⟩)⟩)⟩)⟩) (@hid _ ⟨j208 [(.b false)] h164⟩)⟩)⟩)⟩) (@hid _ ⟨j208 [(.b false)] h164⟩)⟩)⟩)⟩) (@hid _ ⟨j208 [(.b false)] h164⟩)⟩)⟩) (@hid _ ⟨j208 [(.b false)] h164⟩)⟩)⟩)⟩)⟩) (@hid _ ⟨A.ari .add .i64 n158 1 (@hid _ ⟨fun n218 => s153 [(.i n165), (.i n218)] h164⟩)⟩)⟩)⟩)⟩)⟩)⟩)⟩) [(.i n156), (.i 0)] h155⟩) (@hid _ ⟨A.join (@hid _ ⟨fun l219 h220 => A.unB l219 (@hid _ ⟨fun t221 l222 => A.un0 l222 (@hid _ ⟨K [(.b t221)] h220⟩)⟩)⟩) (@hid _ ⟨fun j223 => A.cmp .eql n151 0 (@hid _ ⟨fun t224 => A.cond t224 (@hid _ ⟨A.opt (lenS x149) (@hid _ ⟨fun x225 => A.cmp .eql n156 x225 (@hid _ ⟨fun t226 => A.cond t226 (@hid _ ⟨A.opt (capS x149) (@hid _ ⟨fun x227 => A.cmp .eql x227 n156 (@hid _ ⟨fun t228 => A.cond t228 (@hid _ ⟨A.call 21 [] h155 (@hid _ ⟨fun l229 h230 => A.unB l229 (@hid _ ⟨fun t231 l232 => A.un0 l232 (@hid _ ⟨j223 [(.b t231)] h230⟩)⟩)⟩)⟩) (@hid _ ⟨j223 [(.b false)] h155⟩)⟩)⟩)⟩) (@hid _ ⟨j223 [(.b false)] h155⟩)⟩)⟩)⟩) (@hid _ ⟨j223 [(.b false)] h155⟩)⟩)⟩)⟩)⟩)⟩)⟩)⟩)⟩)⟩) [(.i 0), (.i 0)] h148⟩)⟩)⟩)⟩)⟩)⟩)⟩)⟩)⟩)⟩) [(.i 0)] h40⟩)⟩)⟩)⟩)⟩)⟩)⟩)⟩)⟩)⟩)⟩)⟩)⟩)⟩)⟩)⟩)⟩)⟩)⟩)⟩)⟩)⟩)⟩)⟩)⟩)⟩)⟩)⟩)
theorem gt4 : (fun A : Alg Prop HL => pt4 A) = fun A => ft4 A := by kernel_rfl
theorem st4 {call : CallB} (hc : CallBOk cc sgTab siteTab call) (l10 : List Lf) (h11 : HL) {K : List Lf → HL → Bool} {K' : List Lf → HL → Prop} (hK : KLe K K') :
    ft4 (BA sgTab siteTab call) l10 h11 K = true → pt4 P1 l10 h11 K' := by
  have e : pt4 P1 l10 h11 K' = ft4 P1 l10 h11 K' := congrFun (congrFun (congrFun (congrFun gt4 P1) l10) h11) K'
  rw [e]
  exact s_unI hc (fun n12 l13 => s_unI hc (fun n14 l15 => s_un0 hc (s_call hc (fun l16 h17 => s_unV hc (fun x18 l19 => s_unI hc (fun n20 l21 => s_un0 hc (s_call hc (fun l22 h23 => s_unV hc (fun x24 l25 => s_un0 hc (s_cmp hc (fun t26 => s_cond hc (hK _ _) (s_opt hc (fun x27 => s_opt hc (fun x28 => s_cmp hc (fun t29 => s_cond hc (hK _ _) (s_opt hc (fun x30 => s_opt hc (fun x31 => s_cmp hc (fun t32 => s_cond hc (hK _ _) (s_opt hc (fun x33 => s_ari hc (fun n34 => s_ari hc (fun n35 => s_ari hc (fun n36 => s_ari hc (fun n37 => s_cmp hc (fun t38 => s_cond hc (hK _ _) (s_new hc (fun m39 h40 => s_loop hc (fun s41 s41p h_s41 l42 h43 => s_unI hc (fun n44 l45 => s_un0 hc (s_opt hc (fun x46 => s_cmp hc (fun t47 => s_cond hc (s_opt hc (fun x48 => s_peek hc (fun l49 => s_ucI hc (fun n50 l51 => s_ucI hc (fun n52 l53 => s_uc0 hc (s_call hc (fun l54 h55 => s_unI hc (fun n56 l57 => s_unI hc (fun n58 l59 => s_unI hc (fun n60 l61 => s_unI hc (fun n62 l63 => s_unI hc (fun n64 l65 => s_un0 hc (s_opt hc (fun x66 => s_peek hc (fun l67 => s_ucI hc (fun n68 l69 => s_ucI hc (fun n70 l71 => s_uc0 hc (s_call hc (fun l72 h73 => s_unI hc (fun n74 l75 => s_unI hc (fun n76 l77 => s_unI hc (fun n78 l79 => s_un0 hc (s_opt hc (fun x80 => s_peek hc (fun l81 => s_ucI hc (fun n82 l83 => s_ucI hc (fun n84 l85 => s_uc0 hc (s_opt hc (fun x86 => s_peek hc (fun l87 => s_ucI hc (fun n88 l89 => s_ucI hc (fun n90 l91 => s_uc0 hc (s_eqs hc (fun t92 => s_cond hc (hK _ _) (s_cmp hc (fun t93 => s_cond hc (hK _ _) (s_cmp hc (fun t94 => s_cond hc (hK _ _) (s_opt hc (fun x95 => s_peek hc (fun l96 => s_ucI hc (fun n97 l98 => s_ucI hc (fun n99 l100 => s_uc0 hc (s_call hc (fun l101 h102 => s_unI hc (fun n103 l104 => s_unI hc (fun n105 l106 => s_unI hc (fun n107 l108 => s_unI hc (fun n109 l110 => s_un0 hc (s_eqs hc (fun t111 => s_cond hc (hK _ _) (s_call hc (fun l112 h113 => s_unI hc (fun n114 l115 => s_un0 hc (s_cmp hc (fun t116 => s_cond hc (hK _ _) (s_call hc (fun l117 h118 => s_unI hc (fun n119 l120 => s_un0 hc (s_cmp hc (fun t121 => s_cond hc (hK _ _) (s_peek hc (fun l122 => s_ucI hc (fun n123 l124 => s_uc0 hc (s_ari hc (fun n125 => s_heap hc (fun l126 h127 => s_ucI hc (fun n128 l129 => s_ucI hc (fun n130 l131 => s_uc0 hc (s_heap hc (fun l132 h133 => s_peek hc (fun l134 => s_ucI hc (fun n135 l136 => s_uc0 hc (s_ari hc (fun n137 => s_heap hc (fun l138 h139 => s_ucI hc (fun n140 l141 => s_ucI hc (fun n142 l143 => s_uc0 hc (s_heap hc (fun l144 h145 => s_ari hc (fun n146 => h_s41 _ _))))))))))))))))))))))))))))))))))))))))))))))))))))))))))))))))))))))))))))))))) (s_call hc (fun l147 h148 => s_unV hc (fun x149 l150 => s_unI hc (fun n151 l152 => s_un0 hc (s_loop hc (fun s153 s153p h_s153 l154 h155 => s_unI hc (fun n156 l157 => s_unI hc (fun n158 l159 => s_un0 hc (s_ari hc (fun n160 => s_cmp hc (fun t161 => s_cond hc (s_loop hc (fun s162 s162p h_s162 l163 h164 => s_unI hc (fun n165 l166 => s_unI hc (fun n167 l168 => s_un0 hc (s_ari hc (fun n169 => s_cmp hc (fun t170 => s_cond hc (s_join hc (fun l171 h172 => s_unI hc (fun n173 l174 => s_un0 hc (s_ari hc (fun n175 => h_s162 _ _)))) (fun j176 j176p h_j176 => s_join hc (fun l177 h178 => s_unB hc (fun t179 l180 => s_un0 hc (s_cond hc (h_j176 _ _) (s_ari hc (fun n181 => s_cmp hc (fun t182 => s_join hc (fun l183 h184 => s_unI hc (fun n185 l186 => s_un0 hc (s_opt hc (fun x187 => s_cmp hc (fun t188 => s_cond hc (hK _ _) (s_opt hc (fun x189 => s_peek hc (fun l190 => s_ucI hc (fun n191 l192 => s_ucI hc (fun n193 l194 => s_uc0 hc (s_eqs hc (fun t195 => s_cond hc (hK _ _) (s_opt hc (fun x196 => s_peek hc (fun l197 => s_ucI hc (fun n198 l199 => s_ucI hc (fun n200 l201 => s_uc0 hc (s_peek hc (fun l202 => s_ucI hc (fun n203 l204 => s_uc0 hc (s_cmp hc (fun t205 => s_cond hc (hK _ _) (s_ari hc (fun n206 => h_j176 _ _)))))))))))))))))))))))) (fun j207 j207p h_j207 => s_cond hc (h_j207 _ _) (h_j207 _ _)))))))) (fun j208 j208p h_j208 => s_cmp hc (fun t209 => s_cond hc (s_cmp hc (fun t210 => s_cond hc (s_ari hc (fun n211 => s_cmp hc (fun t212 => s_cond hc (s_ari hc (fun n213 => s_cmp hc (fun t214 => s_cond hc (s_ari hc (fun n215 => s_ari hc (fun n216 => s_cmp hc (fun t217 => h_j208 _ _)))) (h_j208 _ _)))) (h_j208 _ _)))) (h_j208 _ _))) (h_j208 _ _))))) (s_ari hc (fun n218 => h_s153 _ _))))))))) (s_join hc (fun l219 h220 => s_unB hc (fun t221 l222 => s_un0 hc (hK _ _))) (fun j223 j223p h_j223 => s_cmp hc (fun t224 => s_cond hc (s_opt hc (fun x225 => s_cmp hc (fun t226 => s_cond hc (s_opt hc (fun x227 => s_cmp hc (fun t228 => s_cond hc (s_call hc (fun l229 h230 => s_unB hc (fun t231 l232 => s_un0 hc (h_j223 _ _)))) (h_j223 _ _)))) (h_j223 _ _)))) (h_j223 _ _))))))))))))))))))))))))))))))))))))))))))))))))
def pt5 (A : Alg Prop HL) (l14 : List Lf) (h15 : HL) (E : Int → Int → Value → HL → Prop) (K : List Lf → HL → Prop) : Prop := A.unI l14 (@hid _ ⟨fun n16 l17 => A.unI l17 (@hid _ ⟨fun n18 l19 => A.un0 l19 (@hid _ ⟨A.call 24 [(.i n16), (.i n18)] h15 (@hid _ ⟨fun l20 h21 => A.unV l20 (@hid _ ⟨fun x22 l23 => A.un0 l23 (@hid _ ⟨E n16 n18 x22 h21⟩)⟩)⟩)⟩)⟩)⟩)
theorem gt5 : (fun A : Alg Prop HL => pt5 A) = fun A => ft5 A := by kernel_rfl
theorem st5 {call : CallB} (hc : CallBOk cc sgTab siteTab call) (l14 : List Lf) (h15 : HL) {E : Int → Int → Value → HL → Bool} {E' : Int → Int → Value → HL → Prop} (hE : ∀ n16 n18 x22 h21, E n16 n18 x22 h21 = true → E' n16 n18 x22 h21) {K : List Lf → HL → Bool} {K' : List Lf → HL → Prop} (hK : KLe K K') :
    ft5 (BA sgTab siteTab call) l14 h15 E K = true → pt5 P1 l14 h15 E' K' := by
  have e : pt5 P1 l14 h15 E' K' = ft5 P1 l14 h15 E' K' := congrFun (congrFun (congrFun (congrFun (congrFun gt5 P1) l14) h15) E') K'
  rw [e]
  exact s_unI hc (fun n16 l17 => s_unI hc (fun n18 l19 => s_un0 hc (s_call hc (fun l20 h21 => s_unV hc (fun x22 l23 => s_un0 hc (hE _ _ _ _))))))
def pt5e (A : Alg Prop HL) (n10 : Int) (n12 : Int) (n16 : Int) (n18 : Int) (x22 : Value) (h21 : HL) (K : List Lf → HL → Prop) : Prop := A.loop (@hid _ ⟨fun s24 l25 h26 => A.unB l25 (@hid _ ⟨fun t27 l28 => A.unI l28 (@hid _ ⟨fun n29 l30 => A.un0 l30 (@hid _ ⟨A.opt (lenS x22) (@hid _ ⟨fun x31 => A.cmp .lss n29 x31 (@hid _ ⟨fun t32 => A.cond t32 (@hid _ ⟨A.join (@hid _ ⟨fun l33 h34 => A.unB l33 (@hid _ ⟨fun t35 l36 => A.un0 l36 (@hid _ ⟨A.ari .add .i64 n29 1 (@hid _ ⟨fun n37 => s24 [(.b t35), (.i n37)] h34⟩)⟩)⟩)⟩) (@hid _ ⟨fun j38 => A.cond t27 (@hid _ ⟨j38 [(.b true)] h26⟩) (@hid _ ⟨A.opt (idS 2 x22 n29) (@hid _ ⟨fun x39 => A.peek (ldP 2 x39) h26 (@hid _ ⟨fun l40 => A.ucI .i64 l40 (@hid _ ⟨fun n41 l42 => A.ucI .u8 l42 (@hid _ ⟨fun n43 l44 => A.uc0 l44 (@hid _ ⟨A.eqs [((.i n41), (.i n10)), ((.i n43), (.i n12))] (@hid _ ⟨fun t45 => j38 [(.b t45)] h26⟩)⟩)⟩)⟩)⟩)⟩)⟩)⟩)⟩) (@hid _ ⟨A.call 26 [(.i n16), (.i n18), (.i n10), (.i n12)] h26 (@hid _ ⟨fun l46 h47 => A.unI l46 (@hid _ ⟨fun n48 l49 => A.unI l49 (@hid _ ⟨fun n50 l51 => A.unI l51 (@hid _ ⟨fun n52 l53 => A.un0 l53 (@hid _ ⟨A.call 25 [(.i n16), (.i n18), (.i n10), (.i n12)] h47 (@hid _ ⟨fun l54 h55 => A.unI l54 (@hid _ ⟨fun n56 l57 => A.unI l57 (@hid _ ⟨fun n58 l59 => A.unI l59 (@hid _ ⟨fun n60 l61 => A.unI l61 (@hid _ ⟨fun n62 l63 => A.unI l63 (@hid _ ⟨fun n64 l65 => A.un0 l65 (@hid _ ⟨A.cond (!t27) (@hid _ ⟨A.join (@hid _ ⟨fun l66 h67 => A.unB l66 (@hid _ ⟨fun t68 l69 => A.un0 l69 (@hid _ ⟨K [(.b t68)] h67⟩)⟩)⟩) (@hid _ ⟨fun j70 => A.cmp .eql n52 7 (@hid _ ⟨fun t71 => A.cond t71 (@hid _ ⟨A.cmp .eql n64 7 (@hid _ ⟨fun t72 => A.cond t72 (@hid _ ⟨A.eqs [((.i n48), (.i 0)), ((.i n50), (.i 0))] (@hid _ ⟨fun t73 => A.cond t73 (@hid _ ⟨A.eqs [((.i n56), (.i 0)), ((.i n58), (.i 0)), ((.i n60), (.i 0)), ((.i n62), (.i 0))] (@hid _ ⟨fun t74 => A.cond t74 (@hid _ ⟨A.call 21 [] h55 (@hid _ ⟨fun l75 h76 => A.unB l75 (@hid _ ⟨fun t77 l78 => A.un0 l78 (@hid _ ⟨j70 [(.b t77)] h76⟩)⟩)⟩)⟩) (@hid _ ⟨j70 [(.b false)] h55⟩)⟩)⟩) (@hid _ ⟨j70 [(.b false)] h55⟩)⟩)⟩) (@hid _ ⟨j70 [(.b false)] h55⟩)⟩)⟩) (@hid _ ⟨j70 [(.b false)] h55⟩)⟩)⟩)⟩) (@hid _ ⟨A.call 30 [(.i n16), (.i n18)] h55 (@hid _ ⟨fun l79 h80 => A.unV l79 (@hid _ ⟨fun x81 l82 => A.un0 l82 (@hid _ ⟨A.opt (idS 3 x81 n10) (@hid _ ⟨fun x83 => A.peek (ldP 3 x83) h80 (@hid _ ⟨fun l84 => A.ucI .i64 l84 (@hid _ ⟨fun n85 l86 => A.ucI .i64 l86 (@hid _ ⟨fun n87 l88 => A.ucI .u8 l88 (@hid _ ⟨fun n89 l90 => A.uc0 l90 (@hid _ ⟨A.join (@hid _ ⟨fun l91 h92 => A.unB l91 (@hid _ ⟨fun t93 l94 => A.un0 l94 (@hid _ ⟨K [(.b t93)] h92⟩)⟩)⟩) (@hid _ ⟨fun j95 => A.cmp .eql n52 0 (@hid _ ⟨fun t96 => A.cond t96 (@hid _ ⟨A.cmp .eql n64 0 (@hid _ ⟨fun t97 => A.cond t97 (@hid _ ⟨A.conv .i64 n12 (@hid _ ⟨fun n98 => A.call 31 [(.i n85), (.i n87), (.i n89), (.i n98)] h80 (@hid _ ⟨fun l99 h100 => A.unI l99 (@hid _ ⟨fun n101 l102 => A.unI l102 (@hid _ ⟨fun n103 l104 => A.un0 l104 (@hid _ ⟨A.eqs [((.i n48), (.i n101)), ((.i n50), (.i n103))] (@hid _ ⟨fun t105 => A.cond t105 (@hid _ ⟨A.call 21 [] h100 (@hid _ ⟨fun l106 h107 => A.unB l106 (@hid _ ⟨fun t108 l109 => A.un0 l109 (@hid _ ⟨j95 [(.b t108)] h107⟩)⟩)⟩)⟩) (@hid _ ⟨j95 [(.b false)] h100⟩)⟩)⟩)⟩)⟩)⟩)⟩)⟩) (@hid _ ⟨j95 [(.b false)] h80⟩)⟩)⟩) (@hid _ ⟨j95 [(.b false)] h80⟩)⟩)⟩)⟩)⟩)⟩)⟩)⟩)⟩)⟩)⟩)⟩)⟩)⟩)⟩)⟩)⟩)⟩)⟩)⟩)⟩)⟩)⟩)⟩)⟩)⟩)⟩)⟩)⟩)⟩)⟩)⟩) [(.b false), (.i 0)] h21
theorem gt5e : (fun A : Alg Prop HL => pt5e A) = fun A => ft5e A := by kernel_rfl
theorem st5e {call : CallB} (hc : CallBOk cc sgTab siteTab call) (n10 : Int) (n12 : Int) (n16 : Int) (n18 : Int) (x22 : Value) (h21 : HL) {K : List Lf → HL → Bool} {K' : List Lf → HL → Prop} (hK : KLe K K') :
    ft5e (BA sgTab siteTab call) n10 n12 n16 n18 x22 h21 K = true → pt5e P1 n10 n12 n16 n18 x22 h21 K' := by
  have e : pt5e P1 n10 n12 n16 n18 x22 h21 K' = ft5e P1 n10 n12 n16 n18 x22 h21 K' := congrFun (congrFun (congrFun (congrFun (congrFun (congrFun (congrFun (congrFun gt5e P1) n10) n12) n16) n18) x22) h21) K'
  rw [e]
  exact s_loop hc (fun s24 s24p h_s24 l25 h26 => s_unB hc (fun t27 l28 => s_unI hc (fun n29 l30 => s_un0 hc (s_opt hc (fun x31 => s_cmp hc (fun t32 => s_cond hc (s_join hc (fun l33 h34 => s_unB hc (fun t35 l36 => s_un0 hc (s_ari hc (fun n37 => h_s24 _ _)))) (fun j38 j38p h_j38 => s_cond hc (h_j38 _ _) (s_opt hc (fun x39 => s_peek hc (fun l40 => s_ucI hc (fun n41 l42 => s_ucI hc (fun n43 l44 => s_uc0 hc (s_eqs hc (fun t45 => h_j38 _ _))))))))) (s_call hc (fun l46 h47 => s_unI hc (fun n48 l49 => s_unI hc (fun n50 l51 => s_unI hc (fun n52 l53 => s_un0 hc (s_call hc (fun l54 h55 => s_unI hc (fun n56 l57 => s_unI hc (fun n58 l59 => s_unI hc (fun n60 l61 => s_unI hc (fun n62 l63 => s_unI hc (fun n64 l65 => s_un0 hc (s_cond hc (s_join hc (fun l66 h67 => s_unB hc (fun t68 l69 => s_un0 hc (hK _ _))) (fun j70 j70p h_j70 => s_cmp hc (fun t71 => s_cond hc (s_cmp hc (fun t72 => s_cond hc (s_eqs hc (fun t73 => s_cond hc (s_eqs hc (fun t74 => s_cond hc (s_call hc (fun l75 h76 => s_unB hc (fun t77 l78 => s_un0 hc (h_j70 _ _)))) (h_j70 _ _))) (h_j70 _ _))) (h_j70 _ _))) (h_j70 _ _)))) (s_call hc (fun l79 h80 => s_unV hc (fun x81 l82 => s_un0 hc (s_opt hc (fun x83 => s_peek hc (fun l84 => s_ucI hc (fun n85 l86 => s_ucI hc (fun n87 l88 => s_ucI hc (fun n89 l90 => s_uc0 hc (s_join hc (fun l91 h92 => s_unB hc (fun t93 l94 => s_un0 hc (hK _ _))) (fun j95 j95p h_j95 => s_cmp hc (fun t96 => s_cond hc (s_cmp hc (fun t97 => s_cond hc (s_conv hc (fun n98 => s_call hc (fun l99 h100 => s_unI hc (fun n101 l102 => s_unI hc (fun n103 l104 => s_un0 hc (s_eqs hc (fun t105 => s_cond hc (s_call hc (fun l106 h107 => s_unB hc (fun t108 l109 => s_un0 hc (h_j95 _ _)))) (h_j95 _ _)))))))) (h_j95 _ _))) (h_j95 _ _))))))))))))))))))))))))))))))))
def pt7 (A : Alg Prop HL) (l18 : List Lf) (h19 : HL) (E : Int → Int → Value → HL → Prop) (K : List Lf → HL → Prop) : Prop := A.unI l18 (@hid _ ⟨fun n20 l21 => A.unI l21 (@hid _ ⟨fun n22 l23 => A.un0 l23 (@hid _ ⟨A.call 37 [(.i n20), (.i n22)] h19 (@hid _ ⟨fun l24 h25 => A.unV l24 (@hid _ ⟨fun x26 l27 => A.unI l27 (@hid _ ⟨fun n28 l29 => A.un0 l29 (@hid _ ⟨A.call 30 [(.i n20), (.i n22)] h25 (@hid _ ⟨fun l30 h31 => A.unV l30 (@hid _ ⟨fun x32 l33 => A.un0 l33 (@hid _ ⟨A.cmp .neq n28 0 (@hid _ ⟨fun t34 => A.cond t34 (@hid _ ⟨K [(.b false)] h31⟩) (@hid _ ⟨A.opt (lenS x26) (@hid _ ⟨fun x35 => A.opt (lenS x32) (@hid _ ⟨fun x36 => A.cmp .neq x35 x36 (@hid _ ⟨fun t37 => A.cond t37 (@hid _ ⟨K [(.b false)] h31⟩) (@hid _ ⟨A.opt (capS x26) (@hid _ ⟨fun x38 => A.opt (lenS x26) (@hid _ ⟨fun x39 => A.cmp .neq x38 x39 (@hid _ ⟨fun t40 => A.cond t40 (@hid _ ⟨K [(.b false)] h31⟩) (@hid _ ⟨A.loop (@hid _ ⟨fun s41 l42 h43 => A.unI l42 (@hid _ ⟨fun n44 l45 => A.un0 l45 (@hid _ ⟨A.opt (lenS x32) (@hid _ ⟨fun x46 => A.cmp .lss n44 x46 (@hid _ ⟨fun t47 => A.cond t47 (@hid _ ⟨A.call 35 [(.i n20), (.i n22), (.i n44)] h43 (@hid _ ⟨fun l48 h49 => A.unI l48 (@hid _ ⟨fun n50 l51 => A.unI l51 (@hid _ ⟨fun n52 l53 => A.unI l53 (@hid _ ⟨fun n54 l55 => A.unI l55 (@hid _ ⟨fun n56 l57 => A.un0 l57 (@hid _ ⟨A.opt (idS 3 x32 n44) (@hid _ ⟨fun x58 => A.peek (ldP 3 x58) h49 (@hid _ ⟨fun l59 => A.ucI .i64 l59 (@hid _ ⟨fun n60 l61 => A.ucI .i64 l61 (@hid _ ⟨fun n62 l63 => A.ucI .u8 l63 (@hid _ ⟨fun n64 l65 => A.uc0 l65 (@hid _ ⟨A.call 36 [(.i n20), (.i n22), (.i n60), (.i n62), (.i n64)] h49 (@hid _ ⟨fun l66 h67 => A.unI l66 (@hid _ ⟨fun n68 l69 => A.unI l69 (@hid _ ⟨fun n70 l71 => A.un0 l71 (@hid _ ⟨A.opt (idS 3 x26 n44) (@hid _ ⟨fun x72 => A.peek (ldP 3 x72) h67 (@hid _ ⟨fun l73 => A.ucI .i64 l73 (@hid _ ⟨fun n74 l75 => A.ucI .i64 l75 (@hid _ ⟨fun n76 l77 => A.ucI .u8 l77 (@hid _ ⟨fun n78 l79 => A.uc0 l79 (@hid _ ⟨A.opt (idS 3 x32 n44) (@hid _ ⟨fun x80 => A.peek (ldP 3 x80) h67 (@hid _ ⟨fun l81 => A.ucI .i64 l81 (@hid _ ⟨fun n82 l83 => A.ucI .i64 l83 (@hid _ ⟨fun n84 l85 => A.ucI .u8 l85 (@hid _ ⟨fun n86 l87 => A.uc0 l87 (@hid _ ⟨A.eqs [((.i n74), (.i n82)), ((.i n76), (.i n84)), ((.i n78), (.i n86))] (@hid _ ⟨fun t88 => A.cond (!t88) (@hid _ ⟨K [(.b false)] h67⟩) (@hid _ ⟨A.cmp .neq n56 0 (@hid _ ⟨fun t89 => A.cond t89 (@hid _ ⟨K [(.b false)] h67⟩) (@hid _ ⟨A.opt (idS 3 x32 n44) (@hid _ ⟨fun x90 => A.peek (ldP 3 x90) h67 (@hid _ ⟨fun l91 => A.ucI .i64 l91 (@hid _ ⟨fun n92 l93 => A.ucI .i64 l93 (@hid _ ⟨fun n94 l95 => A.ucI .u8 l95 (@hid _ ⟨fun n96 l97 => A.uc0 l97 (@hid _ ⟨A.eqs [((.i n50), (.i n92)), ((.i n52), (.i n94)), ((.i n54), (.i n96))] (@hid _ ⟨fun t98 => A.cond (!t98) (@hid _ ⟨K [(.b false)] h67⟩) (@hid _ ⟨A.cmp .neq n70 0 (@hid _ ⟨fun t99 => A.cond t99 (@hid _ ⟨K [(.b false)] h67⟩) (@hid _ ⟨A.cmp .neq n68 n44 (@hid _ ⟨fun t100 => A.cond t100 (@hid _ ⟨K [(.b false)] h67⟩) (@hid _ ⟨A.ari .add .i64 n44 1 (@hid _ ⟨fun n101 => s41 [(.i n101)] h67⟩)⟩)⟩)⟩)⟩)⟩)⟩)⟩)⟩)⟩)⟩)⟩)⟩)⟩)⟩)⟩)⟩)⟩)⟩)⟩)⟩)⟩)⟩)⟩)⟩)⟩)⟩)⟩)⟩)⟩)⟩)⟩)⟩)⟩)⟩)⟩)⟩)⟩)⟩)⟩)⟩)⟩)⟩)⟩)⟩)⟩) (@hid _ ⟨E n20 n22 x32 h43⟩)⟩)⟩)⟩)⟩)⟩) [(.i 0)] h31⟩)⟩)⟩)⟩)⟩)⟩)⟩)⟩)⟩)⟩)⟩)⟩)⟩)⟩)⟩)⟩)⟩)⟩)⟩)⟩)
theorem gt7 : (fun A : Alg Prop HL => pt7 A) = fun A => ft7 A := by kernel_rfl
theorem st7 {call : CallB} (hc : CallBOk cc sgTab siteTab call) (l18 : List Lf) (h19 : HL) {E : Int → Int → Value → HL → Bool} {E' : Int → Int → Value → HL → Prop} (hE : ∀ n20 n22 x32 h43, E n20 n22 x32 h43 = true → E' n20 n22 x32 h43) {K : List Lf → HL → Bool} {K' : List Lf → HL → Prop} (hK : KLe K K') :
    ft7 (BA sgTab siteTab call) l18 h19 E K = true → pt7 P1 l18 h19 E' K' := by
  have e : pt7 P1 l18 h19 E' K' = ft7 P1 l18 h19 E' K' := congrFun (congrFun (congrFun (congrFun (congrFun gt7 P1) l18) h19) E') K'
  rw [e]
  exact s_unI hc (fun n20 l21 => s_unI hc (fun n22 l23 => s_un0 hc (s_call hc (fun l24 h25 => s_unV hc (fun x26 l27 => s_unI hc (fun n28 l29 => s_un0 hc (s_call hc (fun l30 h31 => s_unV hc (fun x32 l33 => s_un0 hc (s_cmp hc (fun t34 => s_cond hc (hK _ _) (s_opt hc (fun x35 => s_opt hc (fun x36 => s_cmp hc (fun t37 => s_cond hc (hK _ _) (s_opt hc (fun x38 => s_opt hc (fun x39 => s_cmp hc (fun t40 => s_cond hc (hK _ _) (s_loop hc (fun s41 s41p h_s41 l42 h43 => s_unI hc (fun n44 l45 => s_un0 hc (s_opt hc (fun x46 => s_cmp hc (fun t47 => s_cond hc (s_call hc (fun l48 h49 => s_unI hc (fun n50 l51 => s_unI hc (fun n52 l53 => s_unI hc (fun n54 l55 => s_unI hc (fun n56 l57 => s_un0 hc (s_opt hc (fun x58 => s_peek hc (fun l59 => s_ucI hc (fun n60 l61 => s_ucI hc (fun n62 l63 => s_ucI hc (fun n64 l65 => s_uc0 hc (s_call hc (fun l66 h67 => s_unI hc (fun n68 l69 => s_unI hc (fun n70 l71 => s_un0 hc (s_opt hc (fun x72 => s_peek hc (fun l73 => s_ucI hc (fun n74 l75 => s_ucI hc (fun n76 l77 => s_ucI hc (fun n78 l79 => s_uc0 hc (s_opt hc (fun x80 => s_peek hc (fun l81 => s_ucI hc (fun n82 l83 => s_ucI hc (fun n84 l85 => s_ucI hc (fun n86 l87 => s_uc0 hc (s_eqs hc (fun t88 => s_cond hc (hK _ _) (s_cmp hc (fun t89 => s_cond hc (hK _ _) (s_opt hc (fun x90 => s_peek hc (fun l91 => s_ucI hc (fun n92 l93 => s_ucI hc (fun n94 l95 => s_ucI hc (fun n96 l97 => s_uc0 hc (s_eqs hc (fun t98 => s_cond hc (hK _ _) (s_cmp hc (fun t99 => s_cond hc (hK _ _) (s_cmp hc (fun t100 => s_cond hc (hK _ _) (s_ari hc (fun n101 => h_s41 _ _)))))))))))))))))))))))))))))))))))))))))))))) (hE _ _ _ _))))))))))))))))))))))))))
def pt7e (A : Alg Prop HL) (n10 : Int) (n12 : Int) (n14 : Int) (n16 : Int) (n20 : Int) (n22 : Int) (x32 : Value) (h43 : HL) (K : List Lf → HL → Prop) : Prop := A.call 35 [(.i n20), (.i n22), (.i n10)] h43 (@hid _ ⟨fun l102 h103 => A.unI l102 (@hid _ ⟨fun n104 l105 => A.unI l105 (@hid _ ⟨fun n106 l107 => A.unI l107 (@hid _ ⟨fun n108 l109 => A.unI l109 (@hid _ ⟨fun n110 l111 => A.un0 l111 (@hid _ ⟨A.cmp .lss n10 0 (@hid _ ⟨fun t112 => A.cond t112 (@hid _ ⟨A.cmp .neq n110 7 (@hid _ ⟨fun t113 => A.cond t113 (@hid _ ⟨K [(.b false)] h103⟩) (@hid _ ⟨A.eqs [((.i n104), (.i 0)), ((.i n106), (.i 0)), ((.i n108), (.i 0))] (@hid _ ⟨fun t114 => A.cond (!t114) (@hid _ ⟨K [(.b false)] h103⟩) (@hid _ ⟨A.call 36 [(.i n20), (.i n22), (.i n12), (.i n14), (.i n16)] h103 (@hid _ ⟨fun l115 h116 => A.unI l115 (@hid _ ⟨fun n117 l118 => A.unI l118 (@hid _ ⟨fun n119 l120 => A.un0 l120 (@hid _ ⟨A.call 38 [(.i n20), (.i n22), (.i n12), (.i n14), (.i n16)] h116 (@hid _ ⟨fun l121 h122 => A.unI l121 (@hid _ ⟨fun n123 l124 => A.un0 l124 (@hid _ ⟨A.cmp .lss n123 0 (@hid _ ⟨fun t125 => A.cond t125 (@hid _ ⟨A.join (@hid _ ⟨fun l126 h127 => A.unB l126 (@hid _ ⟨fun t128 l129 => A.un0 l129 (@hid _ ⟨K [(.b t128)] h127⟩)⟩)⟩) (@hid _ ⟨fun j130 => A.cmp .eql n119 7 (@hid _ ⟨fun t131 => A.cond t131 (@hid _ ⟨A.cmp .eql n117 0 (@hid _ ⟨fun t132 => A.cond t132 (@hid _ ⟨A.call 21 [] h122 (@hid _ ⟨fun l133 h134 => A.unB l133 (@hid _ ⟨fun t135 l136 => A.un0 l136 (@hid _ ⟨j130 [(.b t135)] h134⟩)⟩)⟩)⟩) (@hid _ ⟨j130 [(.b false)] h122⟩)⟩)⟩) (@hid _ ⟨j130 [(.b false)] h122⟩)⟩)⟩)⟩) (@hid _ ⟨A.join (@hid _ ⟨fun l137 h138 => A.unB l137 (@hid _ ⟨fun t139 l140 => A.un0 l140 (@hid _ ⟨K [(.b t139)] h138⟩)⟩)⟩) (@hid _ ⟨fun j141 => A.cmp .eql n119 0 (@hid _ ⟨fun t142 => A.cond t142 (@hid _ ⟨A.cmp .eql n117 n123 (@hid _ ⟨fun t143 => A.cond t143 (@hid _ ⟨A.call 21 [] h122 (@hid _ ⟨fun l144 h145 => A.unB l144 (@hid _ ⟨fun t146 l147 => A.un0 l147 (@hid _ ⟨j141 [(.b t146)] h145⟩)⟩)⟩)⟩) (@hid _ ⟨j141 [(.b false)] h122⟩)⟩)⟩) (@hid _ ⟨j141 [(.b false)] h122⟩)⟩)⟩)⟩)⟩)⟩)⟩)⟩)⟩)⟩)⟩)⟩)⟩)⟩)⟩)⟩)⟩) (@hid _ ⟨A.opt (lenS x32) (@hid _ ⟨fun x148 => A.cmp .geq n10 x148 (@hid _ ⟨fun t149 => A.join (@hid _ ⟨fun l150 h151 => A.un0 l150 (@hid _ ⟨A.call 36 [(.i n20), (.i n22), (.i n12), (.i n14), (.i n16)] h151 (@hid _ ⟨fun l152 h153 => A.unI l152 (@hid _ ⟨fun n154 l155 => A.unI l155 (@hid _ ⟨fun n156 l157 => A.un0 l157 (@hid _ ⟨A.call 38 [(.i n20), (.i n22), (.i n12), (.i n14), (.i n16)] h153 (@hid _ ⟨fun l158 h159 => A.unI l158 (@hid _ ⟨fun n160 l161 => A.un0 l161 (@hid _ ⟨A.cmp .lss n160 0 (@hid _ ⟨fun t162 => A.cond t162 (@hid _ ⟨A.join (@hid _ ⟨fun l163 h164 => A.unB l163 (@hid _ ⟨fun t165 l166 => A.un0 l166 (@hid _ ⟨K [(.b t165)] h164⟩)⟩)⟩) (@hid _ ⟨fun j167 => A.cmp .eql n156 7 (@hid _ ⟨fun t168 => A.cond t168 (@hid _ ⟨A.cmp .eql n154 0 (@hid _ ⟨fun t169 => A.cond t169 (@hid _ ⟨A.call 21 [] h159 (@hid _ ⟨fun l170 h171 => A.unB l170 (@hid _ ⟨fun t172 l173 => A.un0 l173 (@hid _ ⟨j167 [(.b t172)] h171⟩)⟩)⟩)⟩) (@hid _ ⟨j167 [(.b false)] h159⟩)⟩)⟩) (@hid _ ⟨j167 [(.b false)] h159⟩)⟩)⟩)⟩) (@hid _ ⟨A.join (@hid _ ⟨fun l174 h175 => A.unB l174 (@hid _ ⟨fun t176 l177 => A.un0 l177 (@hid _ ⟨K [(.b t176)] h175⟩)⟩)⟩) (@hid _ ⟨fun j178 => A.cmp .eql n156 0 (@hid _ ⟨fun t179 => A.cond t179 (@hid _ ⟨A.cmp .eql n154 n160 (@hid _ ⟨fun t180 => A.cond t180 (@hid _ ⟨A.call 21 [] h159 (@hid _ ⟨fun l181 h182 => A.unB l181 (@hid _ ⟨fun t183 l184 => A.un0 l184 (@hid _ ⟨j178 [(.b t183)] h182⟩)⟩)⟩)⟩) (@hid _ ⟨j178 [(.b false)] h159⟩)⟩)⟩) (@hid _ ⟨j178 [(.b false)] h159⟩)⟩)⟩)⟩)⟩)⟩)⟩)⟩)⟩)⟩)⟩)⟩)⟩)⟩) (@hid _ ⟨fun j185 => A.cond t149 (@hid _ ⟨A.cmp .neq n110 7 (@hid _ ⟨fun t186 => A.cond t186 (@hid _ ⟨K [(.b false)] h103⟩) (@hid _ ⟨A.eqs [((.i n104), (.i 0)), ((.i n106), (.i 0)), ((.i n108), (.i 0))] (@hid _ ⟨fun t187 => A.cond (!t187) (@hid _ ⟨K [(.b false)] h103⟩) (@hid _ ⟨j185 [] h103⟩)⟩)⟩)⟩)⟩) (@hid _ ⟨j185 [] h103⟩)⟩)⟩)⟩)⟩)⟩)⟩)⟩)⟩)⟩)⟩)⟩)
theorem gt7e : (fun A : Alg Prop HL => pt7e A) = fun A => ft7e A := by kernel_rfl
theorem st7e {call : CallB} (hc : CallBOk cc sgTab siteTab call) (n10 : Int) (n12 : Int) (n14 : Int) (n16 : Int) (n20 : Int) (n22 : Int) (x32 : Value) (h43 : HL) {K : List Lf → HL → Bool} {K' : List Lf → HL → Prop} (hK : KLe K K') :
    ft7e (BA sgTab siteTab call) n10 n12 n14 n16 n20 n22 x32 h43 K = true → pt7e P1 n10 n12 n14 n16 n20 n22 x32 h43 K' := by
  have e : pt7e P1 n10 n12 n14 n16 n20 n22 x32 h43 K' = ft7e P1 n10 n12 n14 n16 n20 n22 x32 h43 K' := congrFun (congrFun (congrFun (congrFun (congrFun (congrFun (congrFun (congrFun (congrFun (congrFun gt7e P1) n10) n12) n14) n16) n20) n22) x32) h43) K'
  rw [e]
  exact s_call hc (fun l102 h103 => s_unI hc (fun n104 l105 => s_unI hc (fun n106 l107 => s_unI hc (fun n108 l109 => s_unI hc (fun n110 l111 => s_un0 hc (s_cmp hc (fun t112 => s_cond hc (s_cmp hc (fun t113 => s_cond hc (hK _ _) (s_eqs hc (fun t114 => s_cond hc (hK _ _) (s_call hc (fun l115 h116 => s_unI hc (fun n117 l118 => s_unI hc (fun n119 l120 => s_un0 hc (s_call hc (fun l121 h122 => s_unI hc (fun n123 l124 => s_un0 hc (s_cmp hc (fun t125 => s_cond hc (s_join hc (fun l126 h127 => s_unB hc (fun t128 l129 => s_un0 hc (hK _ _))) (fun j130 j130p h_j130 => s_cmp hc (fun t131 => s_cond hc (s_cmp hc (fun t132 => s_cond hc (s_call hc (fun l133 h134 => s_unB hc (fun t135 l136 => s_un0 hc (h_j130 _ _)))) (h_j130 _ _))) (h_j130 _ _)))) (s_join hc (fun l137 h138 => s_unB hc (fun t139 l140 => s_un0 hc (hK _ _))) (fun j141 j141p h_j141 => s_cmp hc (fun t142 => s_cond hc (s_cmp hc (fun t143 => s_cond hc (s_call hc (fun l144 h145 => s_unB hc (fun t146 l147 => s_un0 hc (h_j141 _ _)))) (h_j141 _ _))) (h_j141 _ _))))))))))))))))) (s_opt hc (fun x148 => s_cmp hc (fun t149 => s_join hc (fun l150 h151 => s_un0 hc (s_call hc (fun l152 h153 => s_unI hc (fun n154 l155 => s_unI hc (fun n156 l157 => s_un0 hc (s_call hc (fun l158 h159 => s_unI hc (fun n160 l161 => s_un0 hc (s_cmp hc (fun t162 => s_cond hc (s_join hc (fun l163 h164 => s_unB hc (fun t165 l166 => s_un0 hc (hK _ _))) (fun j167 j167p h_j167 => s_cmp hc (fun t168 => s_cond hc (s_cmp hc (fun t169 => s_cond hc (s_call hc (fun l170 h171 => s_unB hc (fun t172 l173 => s_un0 hc (h_j167 _ _)))) (h_j167 _ _))) (h_j167 _ _)))) (s_join hc (fun l174 h175 => s_unB hc (fun t176 l177 => s_un0 hc (hK _ _))) (fun j178 j178p h_j178 => s_cmp hc (fun t179 => s_cond hc (s_cmp hc (fun t180 => s_cond hc (s_call hc (fun l181 h182 => s_unB hc (fun t183 l184 => s_un0 hc (h_j178 _ _)))) (h_j178 _ _))) (h_j178 _ _)))))))))))))) (fun j185 j185p h_j185 => s_cond hc (s_cmp hc (fun t186 => s_cond hc (hK _ _) (s_eqs hc (fun t187 => s_cond hc (hK _ _) (h_j185 _ _))))) (h_j185 _ _))))))))))))
end Go.Am

/-
  CONTRACTS, BY PROGRAM: runs that take the examples as known.
-/
set_option maxRecDepth 100000
set_option maxHeartbeats 4000000
namespace Go.Am
open Sx Go.Proofs
theorem kn21 (H : List HObj) : CallOk cc 21 [] H (.bool true) H := callok_of_ct mixed (Sg := sgTab) (sg := ⟨[], [lb]⟩) rfl lives5 (xs := []) rfl rfl (ys := [.leaf (.b true)]) rfl rfl H
/-- Runs that take the examples as known. -/
noncomputable abbrev run5 : CallB := runR [(21, true)] 60
theorem hc5 : CallBOk cc sgTab siteTab run5 := run_ok _ (fun p hp => by
  simp only [List.mem_singleton] at hp
  subst hp
  exact ⟨by kernel_rfl, kn21⟩) 60
theorem isT_le : KLe isT (fun rs _ => rs = [.b true]) := by
  intro ls h hk
  match ls, hk with
  | [.b true], _ => rfl
  | [.b false], hk => exact absurd (show false = true from hk) (by decide)
  | .b false :: _ :: _, hk => exact absurd (show false = true from hk) (by decide)
theorem mem_nat {f : Nat → Bool} {n : Nat} (h : (List.range n).all f = true) {i : Int} (h0 : 0 ≤ i) (h1 : i < n) : ∃ k : Nat, i = .ofNat k ∧ f k = true := by
  obtain ⟨k, rfl⟩ := Int.eq_ofNat_of_zero_le h0
  exact ⟨k, rfl, List.all_eq_true.1 h k (List.mem_range.2 (by omega))⟩
end Go.Am

