/-
  PART 6 OF THE PROOF: C4 C5 Gr Lv Lv3 Pb L10a L10b (no conditions).
-/
import Derived.Test.YtdngmncaohgacaaDoorCN5
set_option linter.unusedSectionVars false
set_option linter.unusedSimpArgs false
set_option linter.unusedVariables false
set_option linter.constructorNameAsVariable false
set_option linter.defProp false
/-
  CONTRACTS, BY PROGRAM: cells that touch, the side of a point.
-/
set_option maxRecDepth 100000
namespace Go.Am
open Sx Go.Proofs

theorem touch00 {x y u v : Int} (h : -4096 ≤ x ∧ x ≤ 4096 ∧ -4096 ≤ y ∧ y ≤ 4096 ∧ -4096 ≤ u ∧ u ≤ 4096 ∧ -4096 ≤ v ∧ v ≤ 4096 ∧ u = x ∧ v = y - 1) : Cc 48 [.i x, .i y, .i 0, .i u, .i v, .i 2] [.i 0, .i 0] := by
  refine q48 rfl ?_; unfold p48
  repeat (first | simp (disch := omega) only [↓qxs, ↓qxc, ↓qxa] | refine p_loop 5 ?_ | refine p_call (cellCheck_ok (by omega)) ?_ | refine p_call (cnb00 (by omega)) ?_ | refine p_call (cnb01 (by omega)) ?_ | refine p_call (cnb02 (by omega)) ?_ | refine p_call (cnbl00 (by omega)) ?_)
  (try simp only [List.cons.injEq, Lf.i.injEq, and_true, true_and]); (try omega)
theorem touch01 {x y u v : Int} (h : -4096 ≤ x ∧ x ≤ 4096 ∧ -4096 ≤ y ∧ y ≤ 4096 ∧ -4096 ≤ u ∧ u ≤ 4096 ∧ -4096 ≤ v ∧ v ≤ 4096 ∧ u = x ∧ v = y) : Cc 48 [.i x, .i y, .i 0, .i u, .i v, .i 1] [.i 1, .i 0] := by
  refine q48 rfl ?_; unfold p48
  by_cases hv : -4096 ≤ x ∧ x ≤ 4096 ∧ -4096 ≤ y - 1 ∧ y - 1 ≤ 4096
  · repeat (first | simp (disch := omega) only [↓qxs, ↓qxc, ↓qxa] | refine p_loop 5 ?_ | refine p_call (cellCheck_ok (by omega)) ?_ | refine p_call (cnb00 (by omega)) ?_ | refine p_call (cnb01 (by omega)) ?_ | refine p_call (cnb02 (by omega)) ?_ | refine p_call (cnbl00 (by omega)) ?_); (try simp only [List.cons.injEq, Lf.i.injEq, and_true, true_and]); (try omega)
  · repeat (first | simp (disch := omega) only [↓qxs, ↓qxc, ↓qxa] | refine p_loop 5 ?_ | refine p_call (cellCheck_ok (by omega)) ?_ | refine p_call (cnb00 (by omega)) ?_ | refine p_call (cnb01 (by omega)) ?_ | refine p_call (cnb02 (by omega)) ?_ | refine p_call (cnbl00 (by omega)) ?_); (try simp only [List.cons.injEq, Lf.i.injEq, and_true, true_and]); (try omega)
theorem touch02 {x y u v : Int} (h : -4096 ≤ x ∧ x ≤ 4096 ∧ -4096 ≤ y ∧ y ≤ 4096 ∧ -4096 ≤ u ∧ u ≤ 4096 ∧ -4096 ≤ v ∧ v ≤ 4096 ∧ u = x ∧ v = y) : Cc 48 [.i x, .i y, .i 0, .i u, .i v, .i 3] [.i 2, .i 0] := by
  refine q48 rfl ?_; unfold p48
  by_cases hv : -4096 ≤ x ∧ x ≤ 4096 ∧ -4096 ≤ y - 1 ∧ y - 1 ≤ 4096
  · repeat (first | simp (disch := omega) only [↓qxs, ↓qxc, ↓qxa] | refine p_loop 5 ?_ | refine p_call (cellCheck_ok (by omega)) ?_ | refine p_call (cnb00 (by omega)) ?_ | refine p_call (cnb01 (by omega)) ?_ | refine p_call (cnb02 (by omega)) ?_ | refine p_call (cnbl00 (by omega)) ?_); (try simp only [List.cons.injEq, Lf.i.injEq, and_true, true_and]); (try omega)
  · repeat (first | simp (disch := omega) only [↓qxs, ↓qxc, ↓qxa] | refine p_loop 5 ?_ | refine p_call (cellCheck_ok (by omega)) ?_ | refine p_call (cnb00 (by omega)) ?_ | refine p_call (cnb01 (by omega)) ?_ | refine p_call (cnb02 (by omega)) ?_ | refine p_call (cnbl00 (by omega)) ?_); (try simp only [List.cons.injEq, Lf.i.injEq, and_true, true_and]); (try omega)
theorem touchn0 {x y u v r : Int} (h : -4096 ≤ x ∧ x ≤ 4096 ∧ -4096 ≤ y ∧ y ≤ 4096 ∧ -4096 ≤ u ∧ u ≤ 4096 ∧ -4096 ≤ v ∧ v ≤ 4096 ∧ 0 ≤ r ∧ r ≤ 3 ∧ ¬ (u = x ∧ v = y - 1 ∧ r = 2) ∧ ¬ (u = x ∧ v = y ∧ r = 1) ∧ ¬ (u = x ∧ v = y ∧ r = 3)) : Cc 48 [.i x, .i y, .i 0, .i u, .i v, .i r] [.i 0, .i 7] := by
  refine q48 rfl ?_; unfold p48
  by_cases hv : -4096 ≤ x ∧ x ≤ 4096 ∧ -4096 ≤ y - 1 ∧ y - 1 ≤ 4096
  · repeat (first | simp (disch := omega) only [↓qxs, ↓qxc, ↓qxa] | refine p_loop 5 ?_ | refine p_call (cellCheck_ok (by omega)) ?_ | refine p_call (cnb00 (by omega)) ?_ | refine p_call (cnb01 (by omega)) ?_ | refine p_call (cnb02 (by omega)) ?_ | refine p_call (cnbl00 (by omega)) ?_); (try simp only [List.cons.injEq, Lf.i.injEq, and_true, true_and]); (try omega)
  · repeat (first | simp (disch := omega) only [↓qxs, ↓qxc, ↓qxa] | refine p_loop 5 ?_ | refine p_call (cellCheck_ok (by omega)) ?_ | refine p_call (cnb00 (by omega)) ?_ | refine p_call (cnb01 (by omega)) ?_ | refine p_call (cnb02 (by omega)) ?_ | refine p_call (cnbl00 (by omega)) ?_); (try simp only [List.cons.injEq, Lf.i.injEq, and_true, true_and]); (try omega)
theorem touch10 {x y u v : Int} (h : -4096 ≤ x ∧ x ≤ 4096 ∧ -4096 ≤ y ∧ y ≤ 4096 ∧ -4096 ≤ u ∧ u ≤ 4096 ∧ -4096 ≤ v ∧ v ≤ 4096 ∧ u = x + 1 ∧ v = y) : Cc 48 [.i x, .i y, .i 1, .i u, .i v, .i 3] [.i 0, .i 0] := by
  refine q48 rfl ?_; unfold p48
  repeat (first | simp (disch := omega) only [↓qxs, ↓qxc, ↓qxa] | refine p_loop 5 ?_ | refine p_call (cellCheck_ok (by omega)) ?_ | refine p_call (cnb10 (by omega)) ?_ | refine p_call (cnb11 (by omega)) ?_ | refine p_call (cnb12 (by omega)) ?_ | refine p_call (cnbl10 (by omega)) ?_)
  (try simp only [List.cons.injEq, Lf.i.injEq, and_true, true_and]); (try omega)
theorem touch11 {x y u v : Int} (h : -4096 ≤ x ∧ x ≤ 4096 ∧ -4096 ≤ y ∧ y ≤ 4096 ∧ -4096 ≤ u ∧ u ≤ 4096 ∧ -4096 ≤ v ∧ v ≤ 4096 ∧ u = x ∧ v = y) : Cc 48 [.i x, .i y, .i 1, .i u, .i v, .i 0] [.i 1, .i 0] := by
  refine q48 rfl ?_; unfold p48
  by_cases hv : -4096 ≤ x + 1 ∧ x + 1 ≤ 4096 ∧ -4096 ≤ y ∧ y ≤ 4096
  · repeat (first | simp (disch := omega) only [↓qxs, ↓qxc, ↓qxa] | refine p_loop 5 ?_ | refine p_call (cellCheck_ok (by omega)) ?_ | refine p_call (cnb10 (by omega)) ?_ | refine p_call (cnb11 (by omega)) ?_ | refine p_call (cnb12 (by omega)) ?_ | refine p_call (cnbl10 (by omega)) ?_); (try simp only [List.cons.injEq, Lf.i.injEq, and_true, true_and]); (try omega)
  · repeat (first | simp (disch := omega) only [↓qxs, ↓qxc, ↓qxa] | refine p_loop 5 ?_ | refine p_call (cellCheck_ok (by omega)) ?_ | refine p_call (cnb10 (by omega)) ?_ | refine p_call (cnb11 (by omega)) ?_ | refine p_call (cnb12 (by omega)) ?_ | refine p_call (cnbl10 (by omega)) ?_); (try simp only [List.cons.injEq, Lf.i.injEq, and_true, true_and]); (try omega)
theorem touch12 {x y u v : Int} (h : -4096 ≤ x ∧ x ≤ 4096 ∧ -4096 ≤ y ∧ y ≤ 4096 ∧ -4096 ≤ u ∧ u ≤ 4096 ∧ -4096 ≤ v ∧ v ≤ 4096 ∧ u = x ∧ v = y) : Cc 48 [.i x, .i y, .i 1, .i u, .i v, .i 2] [.i 2, .i 0] := by
  refine q48 rfl ?_; unfold p48
  by_cases hv : -4096 ≤ x + 1 ∧ x + 1 ≤ 4096 ∧ -4096 ≤ y ∧ y ≤ 4096
  · repeat (first | simp (disch := omega) only [↓qxs, ↓qxc, ↓qxa] | refine p_loop 5 ?_ | refine p_call (cellCheck_ok (by omega)) ?_ | refine p_call (cnb10 (by omega)) ?_ | refine p_call (cnb11 (by omega)) ?_ | refine p_call (cnb12 (by omega)) ?_ | refine p_call (cnbl10 (by omega)) ?_); (try simp only [List.cons.injEq, Lf.i.injEq, and_true, true_and]); (try omega)
  · repeat (first | simp (disch := omega) only [↓qxs, ↓qxc, ↓qxa] | refine p_loop 5 ?_ | refine p_call (cellCheck_ok (by omega)) ?_ | refine p_call (cnb10 (by omega)) ?_ | refine p_call (cnb11 (by omega)) ?_ | refine p_call (cnb12 (by omega)) ?_ | refine p_call (cnbl10 (by omega)) ?_); (try simp only [List.cons.injEq, Lf.i.injEq, and_true, true_and]); (try omega)
theorem touchn1 {x y u v r : Int} (h : -4096 ≤ x ∧ x ≤ 4096 ∧ -4096 ≤ y ∧ y ≤ 4096 ∧ -4096 ≤ u ∧ u ≤ 4096 ∧ -4096 ≤ v ∧ v ≤ 4096 ∧ 0 ≤ r ∧ r ≤ 3 ∧ ¬ (u = x + 1 ∧ v = y ∧ r = 3) ∧ ¬ (u = x ∧ v = y ∧ r = 0) ∧ ¬ (u = x ∧ v = y ∧ r = 2)) : Cc 48 [.i x, .i y, .i 1, .i u, .i v, .i r] [.i 0, .i 7] := by
  refine q48 rfl ?_; unfold p48
  by_cases hv : -4096 ≤ x + 1 ∧ x + 1 ≤ 4096 ∧ -4096 ≤ y ∧ y ≤ 4096
  · repeat (first | simp (disch := omega) only [↓qxs, ↓qxc, ↓qxa] | refine p_loop 5 ?_ | refine p_call (cellCheck_ok (by omega)) ?_ | refine p_call (cnb10 (by omega)) ?_ | refine p_call (cnb11 (by omega)) ?_ | refine p_call (cnb12 (by omega)) ?_ | refine p_call (cnbl10 (by omega)) ?_); (try simp only [List.cons.injEq, Lf.i.injEq, and_true, true_and]); (try omega)
  · repeat (first | simp (disch := omega) only [↓qxs, ↓qxc, ↓qxa] | refine p_loop 5 ?_ | refine p_call (cellCheck_ok (by omega)) ?_ | refine p_call (cnb10 (by omega)) ?_ | refine p_call (cnb11 (by omega)) ?_ | refine p_call (cnb12 (by omega)) ?_ | refine p_call (cnbl10 (by omega)) ?_); (try simp only [List.cons.injEq, Lf.i.injEq, and_true, true_and]); (try omega)
theorem touch20 {x y u v : Int} (h : -4096 ≤ x ∧ x ≤ 4096 ∧ -4096 ≤ y ∧ y ≤ 4096 ∧ -4096 ≤ u ∧ u ≤ 4096 ∧ -4096 ≤ v ∧ v ≤ 4096 ∧ u = x ∧ v = y + 1) : Cc 48 [.i x, .i y, .i 2, .i u, .i v, .i 0] [.i 0, .i 0] := by
  refine q48 rfl ?_; unfold p48
  repeat (first | simp (disch := omega) only [↓qxs, ↓qxc, ↓qxa] | refine p_loop 5 ?_ | refine p_call (cellCheck_ok (by omega)) ?_ | refine p_call (cnb20 (by omega)) ?_ | refine p_call (cnb21 (by omega)) ?_ | refine p_call (cnb22 (by omega)) ?_ | refine p_call (cnbl20 (by omega)) ?_)
  (try simp only [List.cons.injEq, Lf.i.injEq, and_true, true_and]); (try omega)
theorem touch21 {x y u v : Int} (h : -4096 ≤ x ∧ x ≤ 4096 ∧ -4096 ≤ y ∧ y ≤ 4096 ∧ -4096 ≤ u ∧ u ≤ 4096 ∧ -4096 ≤ v ∧ v ≤ 4096 ∧ u = x ∧ v = y) : Cc 48 [.i x, .i y, .i 2, .i u, .i v, .i 3] [.i 1, .i 0] := by
  refine q48 rfl ?_; unfold p48
  by_cases hv : -4096 ≤ x ∧ x ≤ 4096 ∧ -4096 ≤ y + 1 ∧ y + 1 ≤ 4096
  · repeat (first | simp (disch := omega) only [↓qxs, ↓qxc, ↓qxa] | refine p_loop 5 ?_ | refine p_call (cellCheck_ok (by omega)) ?_ | refine p_call (cnb20 (by omega)) ?_ | refine p_call (cnb21 (by omega)) ?_ | refine p_call (cnb22 (by omega)) ?_ | refine p_call (cnbl20 (by omega)) ?_); (try simp only [List.cons.injEq, Lf.i.injEq, and_true, true_and]); (try omega)
  · repeat (first | simp (disch := omega) only [↓qxs, ↓qxc, ↓qxa] | refine p_loop 5 ?_ | refine p_call (cellCheck_ok (by omega)) ?_ | refine p_call (cnb20 (by omega)) ?_ | refine p_call (cnb21 (by omega)) ?_ | refine p_call (cnb22 (by omega)) ?_ | refine p_call (cnbl20 (by omega)) ?_); (try simp only [List.cons.injEq, Lf.i.injEq, and_true, true_and]); (try omega)
theorem touch22 {x y u v : Int} (h : -4096 ≤ x ∧ x ≤ 4096 ∧ -4096 ≤ y ∧ y ≤ 4096 ∧ -4096 ≤ u ∧ u ≤ 4096 ∧ -4096 ≤ v ∧ v ≤ 4096 ∧ u = x ∧ v = y) : Cc 48 [.i x, .i y, .i 2, .i u, .i v, .i 1] [.i 2, .i 0] := by
  refine q48 rfl ?_; unfold p48
  by_cases hv : -4096 ≤ x ∧ x ≤ 4096 ∧ -4096 ≤ y + 1 ∧ y + 1 ≤ 4096
  · repeat (first | simp (disch := omega) only [↓qxs, ↓qxc, ↓qxa] | refine p_loop 5 ?_ | refine p_call (cellCheck_ok (by omega)) ?_ | refine p_call (cnb20 (by omega)) ?_ | refine p_call (cnb21 (by omega)) ?_ | refine p_call (cnb22 (by omega)) ?_ | refine p_call (cnbl20 (by omega)) ?_); (try simp only [List.cons.injEq, Lf.i.injEq, and_true, true_and]); (try omega)
  · repeat (first | simp (disch := omega) only [↓qxs, ↓qxc, ↓qxa] | refine p_loop 5 ?_ | refine p_call (cellCheck_ok (by omega)) ?_ | refine p_call (cnb20 (by omega)) ?_ | refine p_call (cnb21 (by omega)) ?_ | refine p_call (cnb22 (by omega)) ?_ | refine p_call (cnbl20 (by omega)) ?_); (try simp only [List.cons.injEq, Lf.i.injEq, and_true, true_and]); (try omega)
theorem touchn2 {x y u v r : Int} (h : -4096 ≤ x ∧ x ≤ 4096 ∧ -4096 ≤ y ∧ y ≤ 4096 ∧ -4096 ≤ u ∧ u ≤ 4096 ∧ -4096 ≤ v ∧ v ≤ 4096 ∧ 0 ≤ r ∧ r ≤ 3 ∧ ¬ (u = x ∧ v = y + 1 ∧ r = 0) ∧ ¬ (u = x ∧ v = y ∧ r = 3) ∧ ¬ (u = x ∧ v = y ∧ r = 1)) : Cc 48 [.i x, .i y, .i 2, .i u, .i v, .i r] [.i 0, .i 7] := by
  refine q48 rfl ?_; unfold p48
  by_cases hv : -4096 ≤ x ∧ x ≤ 4096 ∧ -4096 ≤ y + 1 ∧ y + 1 ≤ 4096
  · repeat (first | simp (disch := omega) only [↓qxs, ↓qxc, ↓qxa] | refine p_loop 5 ?_ | refine p_call (cellCheck_ok (by omega)) ?_ | refine p_call (cnb20 (by omega)) ?_ | refine p_call (cnb21 (by omega)) ?_ | refine p_call (cnb22 (by omega)) ?_ | refine p_call (cnbl20 (by omega)) ?_); (try simp only [List.cons.injEq, Lf.i.injEq, and_true, true_and]); (try omega)
  · repeat (first | simp (disch := omega) only [↓qxs, ↓qxc, ↓qxa] | refine p_loop 5 ?_ | refine p_call (cellCheck_ok (by omega)) ?_ | refine p_call (cnb20 (by omega)) ?_ | refine p_call (cnb21 (by omega)) ?_ | refine p_call (cnb22 (by omega)) ?_ | refine p_call (cnbl20 (by omega)) ?_); (try simp only [List.cons.injEq, Lf.i.injEq, and_true, true_and]); (try omega)
theorem touch30 {x y u v : Int} (h : -4096 ≤ x ∧ x ≤ 4096 ∧ -4096 ≤ y ∧ y ≤ 4096 ∧ -4096 ≤ u ∧ u ≤ 4096 ∧ -4096 ≤ v ∧ v ≤ 4096 ∧ u = x - 1 ∧ v = y) : Cc 48 [.i x, .i y, .i 3, .i u, .i v, .i 1] [.i 0, .i 0] := by
  refine q48 rfl ?_; unfold p48
  repeat (first | simp (disch := omega) only [↓qxs, ↓qxc, ↓qxa] | refine p_loop 5 ?_ | refine p_call (cellCheck_ok (by omega)) ?_ | refine p_call (cnb30 (by omega)) ?_ | refine p_call (cnb31 (by omega)) ?_ | refine p_call (cnb32 (by omega)) ?_ | refine p_call (cnbl30 (by omega)) ?_)
  (try simp only [List.cons.injEq, Lf.i.injEq, and_true, true_and]); (try omega)
theorem touch31 {x y u v : Int} (h : -4096 ≤ x ∧ x ≤ 4096 ∧ -4096 ≤ y ∧ y ≤ 4096 ∧ -4096 ≤ u ∧ u ≤ 4096 ∧ -4096 ≤ v ∧ v ≤ 4096 ∧ u = x ∧ v = y) : Cc 48 [.i x, .i y, .i 3, .i u, .i v, .i 2] [.i 1, .i 0] := by
  refine q48 rfl ?_; unfold p48
  by_cases hv : -4096 ≤ x - 1 ∧ x - 1 ≤ 4096 ∧ -4096 ≤ y ∧ y ≤ 4096
  · repeat (first | simp (disch := omega) only [↓qxs, ↓qxc, ↓qxa] | refine p_loop 5 ?_ | refine p_call (cellCheck_ok (by omega)) ?_ | refine p_call (cnb30 (by omega)) ?_ | refine p_call (cnb31 (by omega)) ?_ | refine p_call (cnb32 (by omega)) ?_ | refine p_call (cnbl30 (by omega)) ?_); (try simp only [List.cons.injEq, Lf.i.injEq, and_true, true_and]); (try omega)
  · repeat (first | simp (disch := omega) only [↓qxs, ↓qxc, ↓qxa] | refine p_loop 5 ?_ | refine p_call (cellCheck_ok (by omega)) ?_ | refine p_call (cnb30 (by omega)) ?_ | refine p_call (cnb31 (by omega)) ?_ | refine p_call (cnb32 (by omega)) ?_ | refine p_call (cnbl30 (by omega)) ?_); (try simp only [List.cons.injEq, Lf.i.injEq, and_true, true_and]); (try omega)
theorem touch32 {x y u v : Int} (h : -4096 ≤ x ∧ x ≤ 4096 ∧ -4096 ≤ y ∧ y ≤ 4096 ∧ -4096 ≤ u ∧ u ≤ 4096 ∧ -4096 ≤ v ∧ v ≤ 4096 ∧ u = x ∧ v = y) : Cc 48 [.i x, .i y, .i 3, .i u, .i v, .i 0] [.i 2, .i 0] := by
  refine q48 rfl ?_; unfold p48
  by_cases hv : -4096 ≤ x - 1 ∧ x - 1 ≤ 4096 ∧ -4096 ≤ y ∧ y ≤ 4096
  · repeat (first | simp (disch := omega) only [↓qxs, ↓qxc, ↓qxa] | refine p_loop 5 ?_ | refine p_call (cellCheck_ok (by omega)) ?_ | refine p_call (cnb30 (by omega)) ?_ | refine p_call (cnb31 (by omega)) ?_ | refine p_call (cnb32 (by omega)) ?_ | refine p_call (cnbl30 (by omega)) ?_); (try simp only [List.cons.injEq, Lf.i.injEq, and_true, true_and]); (try omega)
  · repeat (first | simp (disch := omega) only [↓qxs, ↓qxc, ↓qxa] | refine p_loop 5 ?_ | refine p_call (cellCheck_ok (by omega)) ?_ | refine p_call (cnb30 (by omega)) ?_ | refine p_call (cnb31 (by omega)) ?_ | refine p_call (cnb32 (by omega)) ?_ | refine p_call (cnbl30 (by omega)) ?_); (try simp only [List.cons.injEq, Lf.i.injEq, and_true, true_and]); (try omega)
theorem touchn3 {x y u v r : Int} (h : -4096 ≤ x ∧ x ≤ 4096 ∧ -4096 ≤ y ∧ y ≤ 4096 ∧ -4096 ≤ u ∧ u ≤ 4096 ∧ -4096 ≤ v ∧ v ≤ 4096 ∧ 0 ≤ r ∧ r ≤ 3 ∧ ¬ (u = x - 1 ∧ v = y ∧ r = 1) ∧ ¬ (u = x ∧ v = y ∧ r = 2) ∧ ¬ (u = x ∧ v = y ∧ r = 0)) : Cc 48 [.i x, .i y, .i 3, .i u, .i v, .i r] [.i 0, .i 7] := by
  refine q48 rfl ?_; unfold p48
  by_cases hv : -4096 ≤ x - 1 ∧ x - 1 ≤ 4096 ∧ -4096 ≤ y ∧ y ≤ 4096
  · repeat (first | simp (disch := omega) only [↓qxs, ↓qxc, ↓qxa] | refine p_loop 5 ?_ | refine p_call (cellCheck_ok (by omega)) ?_ | refine p_call (cnb30 (by omega)) ?_ | refine p_call (cnb31 (by omega)) ?_ | refine p_call (cnb32 (by omega)) ?_ | refine p_call (cnbl30 (by omega)) ?_); (try simp only [List.cons.injEq, Lf.i.injEq, and_true, true_and]); (try omega)
  · repeat (first | simp (disch := omega) only [↓qxs, ↓qxc, ↓qxa] | refine p_loop 5 ?_ | refine p_call (cellCheck_ok (by omega)) ?_ | refine p_call (cnb30 (by omega)) ?_ | refine p_call (cnb31 (by omega)) ?_ | refine p_call (cnb32 (by omega)) ?_ | refine p_call (cnbl30 (by omega)) ?_); (try simp only [List.cons.injEq, Lf.i.injEq, and_true, true_and]); (try omega)
theorem touch_no1 {x y q u v r : Int} (h : ¬ (-4096 ≤ x ∧ x ≤ 4096 ∧ -4096 ≤ y ∧ y ≤ 4096 ∧ q ≤ 3)) : Cc 48 [.i x, .i y, .i q, .i u, .i v, .i r] [.i 0, .i 1] := by
  refine q48 rfl ?_; unfold p48
  repeat (first | simp (disch := omega) only [↓qxs, ↓qxc, ↓qxa] | refine p_call (cellCheck_no (by omega)) ?_)
  (try simp only [List.cons.injEq, Lf.i.injEq, and_true, true_and]); (try omega)
theorem touch_no2 {x y q u v r : Int} (h : (-4096 ≤ x ∧ x ≤ 4096 ∧ -4096 ≤ y ∧ y ≤ 4096 ∧ q ≤ 3) ∧ ¬ (-4096 ≤ u ∧ u ≤ 4096 ∧ -4096 ≤ v ∧ v ≤ 4096 ∧ r ≤ 3)) : Cc 48 [.i x, .i y, .i q, .i u, .i v, .i r] [.i 0, .i 1] := by
  refine q48 rfl ?_; unfold p48
  repeat (first | simp (disch := omega) only [↓qxs, ↓qxc, ↓qxa] | refine p_call (cellCheck_ok (by omega)) ?_ | refine p_call (cellCheck_no (by omega)) ?_)
  (try simp only [List.cons.injEq, Lf.i.injEq, and_true, true_and]); (try omega)
/-- What rules() answers. -/
def rulesR (m : Nat) : List Lf := [(.v .nilFunc), (.v .nilFunc), (.v .nilFunc), (.v (.func (.func 94) ⟨[]⟩ ⟨[]⟩)), (.v (.func (.func 96) ⟨[]⟩ ⟨[]⟩)), (.v (.func (.func 97) ⟨[]⟩ ⟨[]⟩)), (.v (.func (.func 98) ⟨[]⟩ ⟨[]⟩)), (.v (.func (.func 99) ⟨[]⟩ ⟨[]⟩)), (.v (.func (.func 100) ⟨[]⟩ ⟨[]⟩)), (.v (.func (.func 101) ⟨[]⟩ ⟨[]⟩)), (.v (.func (.func 102) ⟨[]⟩ ⟨[]⟩)), (.v (.func (.func 103) ⟨[]⟩ ⟨[(.pointer (some ⟨m, 0, none⟩))]⟩)), (.v (.func (.func 104) ⟨[]⟩ ⟨[]⟩)), (.v (.func (.func 105) ⟨[]⟩ ⟨[]⟩)), (.v (.func (.func 106) ⟨[]⟩ ⟨[(.pointer (some ⟨m, 0, none⟩))]⟩))]
theorem rules0 : ∃ H', CallL cc sgTab 91 [] [] (rulesR 0) H' := by
  obtain ⟨rs, H', h1, h2⟩ := u91 (ls := []) (H := []) (K := fun rs _ => rs = rulesR 0) rfl (by
    unfold p91
    simp (disch := omega) only [↓qxs, ↓qxc, ↓qxa]
    refine p_heap_r rfl ?_
    refine p_chk_r rfl ?_
    refine p_chk_r rfl ?_
    exact rfl)
  exact ⟨H', h2 ▸ h1⟩
theorem along1 {x y : Int} (h : -1000000 ≤ x ∧ x ≤ 1000000 ∧ -1000000 ≤ y ∧ y ≤ 1000000) : Cc 95 [.i 1, .i x, .i y] [.i x] := by
  refine q95 rfl ?_; unfold p95
  repeat (first | simp (disch := omega) only [↓qxs, ↓qxc, ↓qxa])
  (try simp only [List.cons.injEq, Lf.i.injEq, and_true, true_and]); (try omega)
theorem ral1 {x y : Int} (h : -1000000 ≤ x ∧ x ≤ 1000000 ∧ -1000000 ≤ y ∧ y ≤ 1000000) : Cc 94 [.i x, .i y] [.i x] := by
  refine q94 rfl ?_; unfold p94
  repeat (first | simp (disch := omega) only [↓qxs, ↓qxc, ↓qxa] | refine p_call (along1 (by omega)) ?_)
  (try simp only [List.cons.injEq, Lf.i.injEq, and_true, true_and]); (try omega)
theorem along2 {x y : Int} (h : -1000000 ≤ x ∧ x ≤ 1000000 ∧ -1000000 ≤ y ∧ y ≤ 1000000) : Cc 95 [.i 2, .i x, .i y] [.i y] := by
  refine q95 rfl ?_; unfold p95
  repeat (first | simp (disch := omega) only [↓qxs, ↓qxc, ↓qxa])
  (try simp only [List.cons.injEq, Lf.i.injEq, and_true, true_and]); (try omega)
theorem ral2 {x y : Int} (h : -1000000 ≤ x ∧ x ≤ 1000000 ∧ -1000000 ≤ y ∧ y ≤ 1000000) : Cc 98 [.i x, .i y] [.i y] := by
  refine q98 rfl ?_; unfold p98
  repeat (first | simp (disch := omega) only [↓qxs, ↓qxc, ↓qxa] | refine p_call (along2 (by omega)) ?_)
  (try simp only [List.cons.injEq, Lf.i.injEq, and_true, true_and]); (try omega)
theorem along3 {x y : Int} (h : -1000000 ≤ x ∧ x ≤ 1000000 ∧ -1000000 ≤ y ∧ y ≤ 1000000) : Cc 95 [.i 3, .i x, .i y] [.i (x + y)] := by
  refine q95 rfl ?_; unfold p95
  repeat (first | simp (disch := omega) only [↓qxs, ↓qxc, ↓qxa])
  (try simp only [List.cons.injEq, Lf.i.injEq, and_true, true_and]); (try omega)
theorem ral3 {x y : Int} (h : -1000000 ≤ x ∧ x ≤ 1000000 ∧ -1000000 ≤ y ∧ y ≤ 1000000) : Cc 101 [.i x, .i y] [.i (x + y)] := by
  refine q101 rfl ?_; unfold p101
  repeat (first | simp (disch := omega) only [↓qxs, ↓qxc, ↓qxa] | refine p_call (along3 (by omega)) ?_)
  (try simp only [List.cons.injEq, Lf.i.injEq, and_true, true_and]); (try omega)
theorem along4 {x y : Int} (h : -1000000 ≤ x ∧ x ≤ 1000000 ∧ -1000000 ≤ y ∧ y ≤ 1000000) : Cc 95 [.i 4, .i x, .i y] [.i (y - x)] := by
  refine q95 rfl ?_; unfold p95
  repeat (first | simp (disch := omega) only [↓qxs, ↓qxc, ↓qxa])
  (try simp only [List.cons.injEq, Lf.i.injEq, and_true, true_and]); (try omega)
theorem ral4 {x y : Int} (h : -1000000 ≤ x ∧ x ≤ 1000000 ∧ -1000000 ≤ y ∧ y ≤ 1000000) : Cc 104 [.i x, .i y] [.i (y - x)] := by
  refine q104 rfl ?_; unfold p104
  repeat (first | simp (disch := omega) only [↓qxs, ↓qxc, ↓qxa] | refine p_call (along4 (by omega)) ?_)
  (try simp only [List.cons.injEq, Lf.i.injEq, and_true, true_and]); (try omega)
theorem lsm1 {c x y : Int} (h : (-4096 ≤ c ∧ c ≤ 4096 ∧ -65536 ≤ x ∧ x ≤ 65536 ∧ -65536 ≤ y ∧ y ≤ 65536) ∧ x < 2 * c) : Cc 78 [.i 1, .i c, .i x, .i y] [.i (-1)] := by
  refine q78 rfl ?_; unfold p78
  simp (disch := omega) only [↓qxs, ↓qxc, ↓qxa]
  refine p_call (lineCheck_ok (by omega)) ?_
  simp (disch := omega) only [↓qxs, ↓qxc, ↓qxa]
  refine p_call (pointCheck_ok (by omega)) ?_
  simp (disch := omega) only [↓qxs, ↓qxc, ↓qxa]
  obtain ⟨H', hr⟩ := rules0
  refine p_callH hr ?_
  unfold rulesR
  simp (disch := omega) only [↓qxs, ↓qxc, ↓qxa]
  refine p_opt_r (by simp only [pickL, putL, offX, Int.reduceToNat, Int.reduceAdd, Int.reduceMul, Int.reduceMod, Int.reduceSub, Int.reduceNeg, Int.reduceDiv, Nat.reduceAdd, Nat.reduceMul, Nat.reduceLeDiff, List.length_cons, List.length_nil, ↓reduceIte, List.drop_succ_cons, List.drop_zero, List.take_succ_cons, List.take_zero, List.cons_append, List.nil_append, Nat.zero_add, Int.toNat_zero, Nat.zero_mul, Nat.add_zero, Int.zero_add]; exact rfl) ?_
  simp (disch := omega) only [↓qxs, ↓qxc, ↓qxa]
  refine p_callv (callv_ct (ral1 (x := x) (y := y) (by omega) H') rfl [.agg [.i .i64 x, .i .i64 y]] rfl rfl) ?_
  simp (disch := omega) only [↓qxs, ↓qxc, ↓qxa]
theorem lsz1 {c x y : Int} (h : (-4096 ≤ c ∧ c ≤ 4096 ∧ -65536 ≤ x ∧ x ≤ 65536 ∧ -65536 ≤ y ∧ y ≤ 65536) ∧ x = 2 * c) : Cc 78 [.i 1, .i c, .i x, .i y] [.i 0] := by
  refine q78 rfl ?_; unfold p78
  simp (disch := omega) only [↓qxs, ↓qxc, ↓qxa]
  refine p_call (lineCheck_ok (by omega)) ?_
  simp (disch := omega) only [↓qxs, ↓qxc, ↓qxa]
  refine p_call (pointCheck_ok (by omega)) ?_
  simp (disch := omega) only [↓qxs, ↓qxc, ↓qxa]
  obtain ⟨H', hr⟩ := rules0
  refine p_callH hr ?_
  unfold rulesR
  simp (disch := omega) only [↓qxs, ↓qxc, ↓qxa]
  refine p_opt_r (by simp only [pickL, putL, offX, Int.reduceToNat, Int.reduceAdd, Int.reduceMul, Int.reduceMod, Int.reduceSub, Int.reduceNeg, Int.reduceDiv, Nat.reduceAdd, Nat.reduceMul, Nat.reduceLeDiff, List.length_cons, List.length_nil, ↓reduceIte, List.drop_succ_cons, List.drop_zero, List.take_succ_cons, List.take_zero, List.cons_append, List.nil_append, Nat.zero_add, Int.toNat_zero, Nat.zero_mul, Nat.add_zero, Int.zero_add]; exact rfl) ?_
  simp (disch := omega) only [↓qxs, ↓qxc, ↓qxa]
  refine p_callv (callv_ct (ral1 (x := x) (y := y) (by omega) H') rfl [.agg [.i .i64 x, .i .i64 y]] rfl rfl) ?_
  simp (disch := omega) only [↓qxs, ↓qxc, ↓qxa]
theorem lsp1 {c x y : Int} (h : (-4096 ≤ c ∧ c ≤ 4096 ∧ -65536 ≤ x ∧ x ≤ 65536 ∧ -65536 ≤ y ∧ y ≤ 65536) ∧ 2 * c < x) : Cc 78 [.i 1, .i c, .i x, .i y] [.i 1] := by
  refine q78 rfl ?_; unfold p78
  simp (disch := omega) only [↓qxs, ↓qxc, ↓qxa]
  refine p_call (lineCheck_ok (by omega)) ?_
  simp (disch := omega) only [↓qxs, ↓qxc, ↓qxa]
  refine p_call (pointCheck_ok (by omega)) ?_
  simp (disch := omega) only [↓qxs, ↓qxc, ↓qxa]
  obtain ⟨H', hr⟩ := rules0
  refine p_callH hr ?_
  unfold rulesR
  simp (disch := omega) only [↓qxs, ↓qxc, ↓qxa]
  refine p_opt_r (by simp only [pickL, putL, offX, Int.reduceToNat, Int.reduceAdd, Int.reduceMul, Int.reduceMod, Int.reduceSub, Int.reduceNeg, Int.reduceDiv, Nat.reduceAdd, Nat.reduceMul, Nat.reduceLeDiff, List.length_cons, List.length_nil, ↓reduceIte, List.drop_succ_cons, List.drop_zero, List.take_succ_cons, List.take_zero, List.cons_append, List.nil_append, Nat.zero_add, Int.toNat_zero, Nat.zero_mul, Nat.add_zero, Int.zero_add]; exact rfl) ?_
  simp (disch := omega) only [↓qxs, ↓qxc, ↓qxa]
  refine p_callv (callv_ct (ral1 (x := x) (y := y) (by omega) H') rfl [.agg [.i .i64 x, .i .i64 y]] rfl rfl) ?_
  simp (disch := omega) only [↓qxs, ↓qxc, ↓qxa]
theorem lsn1 {c x y : Int} (h : (-4096 ≤ c ∧ c ≤ 4096 ∧ -65536 ≤ x ∧ x ≤ 65536 ∧ -65536 ≤ y ∧ y ≤ 65536) ∧ x ≤ 2 * c) : ∃ r, r ≤ 0 ∧ Cc 78 [.i 1, .i c, .i x, .i y] [.i r] := by
  by_cases hz : x = 2 * c
  · exact ⟨0, by omega, lsz1 (by omega)⟩
  · exact ⟨-1, by omega, lsm1 (by omega)⟩
theorem lsm2 {c x y : Int} (h : (-4096 ≤ c ∧ c ≤ 4096 ∧ -65536 ≤ x ∧ x ≤ 65536 ∧ -65536 ≤ y ∧ y ≤ 65536) ∧ y < 2 * c) : Cc 78 [.i 2, .i c, .i x, .i y] [.i (-1)] := by
  refine q78 rfl ?_; unfold p78
  simp (disch := omega) only [↓qxs, ↓qxc, ↓qxa]
  refine p_call (lineCheck_ok (by omega)) ?_
  simp (disch := omega) only [↓qxs, ↓qxc, ↓qxa]
  refine p_call (pointCheck_ok (by omega)) ?_
  simp (disch := omega) only [↓qxs, ↓qxc, ↓qxa]
  obtain ⟨H', hr⟩ := rules0
  refine p_callH hr ?_
  unfold rulesR
  simp (disch := omega) only [↓qxs, ↓qxc, ↓qxa]
  refine p_opt_r (by simp only [pickL, putL, offX, Int.reduceToNat, Int.reduceAdd, Int.reduceMul, Int.reduceMod, Int.reduceSub, Int.reduceNeg, Int.reduceDiv, Nat.reduceAdd, Nat.reduceMul, Nat.reduceLeDiff, List.length_cons, List.length_nil, ↓reduceIte, List.drop_succ_cons, List.drop_zero, List.take_succ_cons, List.take_zero, List.cons_append, List.nil_append, Nat.zero_add, Int.toNat_zero, Nat.zero_mul, Nat.add_zero, Int.zero_add]; exact rfl) ?_
  simp (disch := omega) only [↓qxs, ↓qxc, ↓qxa]
  refine p_callv (callv_ct (ral2 (x := x) (y := y) (by omega) H') rfl [.agg [.i .i64 x, .i .i64 y]] rfl rfl) ?_
  simp (disch := omega) only [↓qxs, ↓qxc, ↓qxa]
theorem lsz2 {c x y : Int} (h : (-4096 ≤ c ∧ c ≤ 4096 ∧ -65536 ≤ x ∧ x ≤ 65536 ∧ -65536 ≤ y ∧ y ≤ 65536) ∧ y = 2 * c) : Cc 78 [.i 2, .i c, .i x, .i y] [.i 0] := by
  refine q78 rfl ?_; unfold p78
  simp (disch := omega) only [↓qxs, ↓qxc, ↓qxa]
  refine p_call (lineCheck_ok (by omega)) ?_
  simp (disch := omega) only [↓qxs, ↓qxc, ↓qxa]
  refine p_call (pointCheck_ok (by omega)) ?_
  simp (disch := omega) only [↓qxs, ↓qxc, ↓qxa]
  obtain ⟨H', hr⟩ := rules0
  refine p_callH hr ?_
  unfold rulesR
  simp (disch := omega) only [↓qxs, ↓qxc, ↓qxa]
  refine p_opt_r (by simp only [pickL, putL, offX, Int.reduceToNat, Int.reduceAdd, Int.reduceMul, Int.reduceMod, Int.reduceSub, Int.reduceNeg, Int.reduceDiv, Nat.reduceAdd, Nat.reduceMul, Nat.reduceLeDiff, List.length_cons, List.length_nil, ↓reduceIte, List.drop_succ_cons, List.drop_zero, List.take_succ_cons, List.take_zero, List.cons_append, List.nil_append, Nat.zero_add, Int.toNat_zero, Nat.zero_mul, Nat.add_zero, Int.zero_add]; exact rfl) ?_
  simp (disch := omega) only [↓qxs, ↓qxc, ↓qxa]
  refine p_callv (callv_ct (ral2 (x := x) (y := y) (by omega) H') rfl [.agg [.i .i64 x, .i .i64 y]] rfl rfl) ?_
  simp (disch := omega) only [↓qxs, ↓qxc, ↓qxa]
theorem lsp2 {c x y : Int} (h : (-4096 ≤ c ∧ c ≤ 4096 ∧ -65536 ≤ x ∧ x ≤ 65536 ∧ -65536 ≤ y ∧ y ≤ 65536) ∧ 2 * c < y) : Cc 78 [.i 2, .i c, .i x, .i y] [.i 1] := by
  refine q78 rfl ?_; unfold p78
  simp (disch := omega) only [↓qxs, ↓qxc, ↓qxa]
  refine p_call (lineCheck_ok (by omega)) ?_
  simp (disch := omega) only [↓qxs, ↓qxc, ↓qxa]
  refine p_call (pointCheck_ok (by omega)) ?_
  simp (disch := omega) only [↓qxs, ↓qxc, ↓qxa]
  obtain ⟨H', hr⟩ := rules0
  refine p_callH hr ?_
  unfold rulesR
  simp (disch := omega) only [↓qxs, ↓qxc, ↓qxa]
  refine p_opt_r (by simp only [pickL, putL, offX, Int.reduceToNat, Int.reduceAdd, Int.reduceMul, Int.reduceMod, Int.reduceSub, Int.reduceNeg, Int.reduceDiv, Nat.reduceAdd, Nat.reduceMul, Nat.reduceLeDiff, List.length_cons, List.length_nil, ↓reduceIte, List.drop_succ_cons, List.drop_zero, List.take_succ_cons, List.take_zero, List.cons_append, List.nil_append, Nat.zero_add, Int.toNat_zero, Nat.zero_mul, Nat.add_zero, Int.zero_add]; exact rfl) ?_
  simp (disch := omega) only [↓qxs, ↓qxc, ↓qxa]
  refine p_callv (callv_ct (ral2 (x := x) (y := y) (by omega) H') rfl [.agg [.i .i64 x, .i .i64 y]] rfl rfl) ?_
  simp (disch := omega) only [↓qxs, ↓qxc, ↓qxa]
theorem lsn2 {c x y : Int} (h : (-4096 ≤ c ∧ c ≤ 4096 ∧ -65536 ≤ x ∧ x ≤ 65536 ∧ -65536 ≤ y ∧ y ≤ 65536) ∧ y ≤ 2 * c) : ∃ r, r ≤ 0 ∧ Cc 78 [.i 2, .i c, .i x, .i y] [.i r] := by
  by_cases hz : y = 2 * c
  · exact ⟨0, by omega, lsz2 (by omega)⟩
  · exact ⟨-1, by omega, lsm2 (by omega)⟩
theorem lsm3 {c x y : Int} (h : (-4096 ≤ c ∧ c ≤ 4096 ∧ -65536 ≤ x ∧ x ≤ 65536 ∧ -65536 ≤ y ∧ y ≤ 65536) ∧ x + y < 2 * c) : Cc 78 [.i 3, .i c, .i x, .i y] [.i (-1)] := by
  refine q78 rfl ?_; unfold p78
  simp (disch := omega) only [↓qxs, ↓qxc, ↓qxa]
  refine p_call (lineCheck_ok (by omega)) ?_
  simp (disch := omega) only [↓qxs, ↓qxc, ↓qxa]
  refine p_call (pointCheck_ok (by omega)) ?_
  simp (disch := omega) only [↓qxs, ↓qxc, ↓qxa]
  obtain ⟨H', hr⟩ := rules0
  refine p_callH hr ?_
  unfold rulesR
  simp (disch := omega) only [↓qxs, ↓qxc, ↓qxa]
  refine p_opt_r (by simp only [pickL, putL, offX, Int.reduceToNat, Int.reduceAdd, Int.reduceMul, Int.reduceMod, Int.reduceSub, Int.reduceNeg, Int.reduceDiv, Nat.reduceAdd, Nat.reduceMul, Nat.reduceLeDiff, List.length_cons, List.length_nil, ↓reduceIte, List.drop_succ_cons, List.drop_zero, List.take_succ_cons, List.take_zero, List.cons_append, List.nil_append, Nat.zero_add, Int.toNat_zero, Nat.zero_mul, Nat.add_zero, Int.zero_add]; exact rfl) ?_
  simp (disch := omega) only [↓qxs, ↓qxc, ↓qxa]
  refine p_callv (callv_ct (ral3 (x := x) (y := y) (by omega) H') rfl [.agg [.i .i64 x, .i .i64 y]] rfl rfl) ?_
  simp (disch := omega) only [↓qxs, ↓qxc, ↓qxa]
theorem lsz3 {c x y : Int} (h : (-4096 ≤ c ∧ c ≤ 4096 ∧ -65536 ≤ x ∧ x ≤ 65536 ∧ -65536 ≤ y ∧ y ≤ 65536) ∧ x + y = 2 * c) : Cc 78 [.i 3, .i c, .i x, .i y] [.i 0] := by
  refine q78 rfl ?_; unfold p78
  simp (disch := omega) only [↓qxs, ↓qxc, ↓qxa]
  refine p_call (lineCheck_ok (by omega)) ?_
  simp (disch := omega) only [↓qxs, ↓qxc, ↓qxa]
  refine p_call (pointCheck_ok (by omega)) ?_
  simp (disch := omega) only [↓qxs, ↓qxc, ↓qxa]
  obtain ⟨H', hr⟩ := rules0
  refine p_callH hr ?_
  unfold rulesR
  simp (disch := omega) only [↓qxs, ↓qxc, ↓qxa]
  refine p_opt_r (by simp only [pickL, putL, offX, Int.reduceToNat, Int.reduceAdd, Int.reduceMul, Int.reduceMod, Int.reduceSub, Int.reduceNeg, Int.reduceDiv, Nat.reduceAdd, Nat.reduceMul, Nat.reduceLeDiff, List.length_cons, List.length_nil, ↓reduceIte, List.drop_succ_cons, List.drop_zero, List.take_succ_cons, List.take_zero, List.cons_append, List.nil_append, Nat.zero_add, Int.toNat_zero, Nat.zero_mul, Nat.add_zero, Int.zero_add]; exact rfl) ?_
  simp (disch := omega) only [↓qxs, ↓qxc, ↓qxa]
  refine p_callv (callv_ct (ral3 (x := x) (y := y) (by omega) H') rfl [.agg [.i .i64 x, .i .i64 y]] rfl rfl) ?_
  simp (disch := omega) only [↓qxs, ↓qxc, ↓qxa]
theorem lsp3 {c x y : Int} (h : (-4096 ≤ c ∧ c ≤ 4096 ∧ -65536 ≤ x ∧ x ≤ 65536 ∧ -65536 ≤ y ∧ y ≤ 65536) ∧ 2 * c < x + y) : Cc 78 [.i 3, .i c, .i x, .i y] [.i 1] := by
  refine q78 rfl ?_; unfold p78
  simp (disch := omega) only [↓qxs, ↓qxc, ↓qxa]
  refine p_call (lineCheck_ok (by omega)) ?_
  simp (disch := omega) only [↓qxs, ↓qxc, ↓qxa]
  refine p_call (pointCheck_ok (by omega)) ?_
  simp (disch := omega) only [↓qxs, ↓qxc, ↓qxa]
  obtain ⟨H', hr⟩ := rules0
  refine p_callH hr ?_
  unfold rulesR
  simp (disch := omega) only [↓qxs, ↓qxc, ↓qxa]
  refine p_opt_r (by simp only [pickL, putL, offX, Int.reduceToNat, Int.reduceAdd, Int.reduceMul, Int.reduceMod, Int.reduceSub, Int.reduceNeg, Int.reduceDiv, Nat.reduceAdd, Nat.reduceMul, Nat.reduceLeDiff, List.length_cons, List.length_nil, ↓reduceIte, List.drop_succ_cons, List.drop_zero, List.take_succ_cons, List.take_zero, List.cons_append, List.nil_append, Nat.zero_add, Int.toNat_zero, Nat.zero_mul, Nat.add_zero, Int.zero_add]; exact rfl) ?_
  simp (disch := omega) only [↓qxs, ↓qxc, ↓qxa]
  refine p_callv (callv_ct (ral3 (x := x) (y := y) (by omega) H') rfl [.agg [.i .i64 x, .i .i64 y]] rfl rfl) ?_
  simp (disch := omega) only [↓qxs, ↓qxc, ↓qxa]
theorem lsn3 {c x y : Int} (h : (-4096 ≤ c ∧ c ≤ 4096 ∧ -65536 ≤ x ∧ x ≤ 65536 ∧ -65536 ≤ y ∧ y ≤ 65536) ∧ x + y ≤ 2 * c) : ∃ r, r ≤ 0 ∧ Cc 78 [.i 3, .i c, .i x, .i y] [.i r] := by
  by_cases hz : x + y = 2 * c
  · exact ⟨0, by omega, lsz3 (by omega)⟩
  · exact ⟨-1, by omega, lsm3 (by omega)⟩
theorem lsm4 {c x y : Int} (h : (-4096 ≤ c ∧ c ≤ 4096 ∧ -65536 ≤ x ∧ x ≤ 65536 ∧ -65536 ≤ y ∧ y ≤ 65536) ∧ y - x < 2 * c) : Cc 78 [.i 4, .i c, .i x, .i y] [.i (-1)] := by
  refine q78 rfl ?_; unfold p78
  simp (disch := omega) only [↓qxs, ↓qxc, ↓qxa]
  refine p_call (lineCheck_ok (by omega)) ?_
  simp (disch := omega) only [↓qxs, ↓qxc, ↓qxa]
  refine p_call (pointCheck_ok (by omega)) ?_
  simp (disch := omega) only [↓qxs, ↓qxc, ↓qxa]
  obtain ⟨H', hr⟩ := rules0
  refine p_callH hr ?_
  unfold rulesR
  simp (disch := omega) only [↓qxs, ↓qxc, ↓qxa]
  refine p_opt_r (by simp only [pickL, putL, offX, Int.reduceToNat, Int.reduceAdd, Int.reduceMul, Int.reduceMod, Int.reduceSub, Int.reduceNeg, Int.reduceDiv, Nat.reduceAdd, Nat.reduceMul, Nat.reduceLeDiff, List.length_cons, List.length_nil, ↓reduceIte, List.drop_succ_cons, List.drop_zero, List.take_succ_cons, List.take_zero, List.cons_append, List.nil_append, Nat.zero_add, Int.toNat_zero, Nat.zero_mul, Nat.add_zero, Int.zero_add]; exact rfl) ?_
  simp (disch := omega) only [↓qxs, ↓qxc, ↓qxa]
  refine p_callv (callv_ct (ral4 (x := x) (y := y) (by omega) H') rfl [.agg [.i .i64 x, .i .i64 y]] rfl rfl) ?_
  simp (disch := omega) only [↓qxs, ↓qxc, ↓qxa]
theorem lsz4 {c x y : Int} (h : (-4096 ≤ c ∧ c ≤ 4096 ∧ -65536 ≤ x ∧ x ≤ 65536 ∧ -65536 ≤ y ∧ y ≤ 65536) ∧ y - x = 2 * c) : Cc 78 [.i 4, .i c, .i x, .i y] [.i 0] := by
  refine q78 rfl ?_; unfold p78
  simp (disch := omega) only [↓qxs, ↓qxc, ↓qxa]
  refine p_call (lineCheck_ok (by omega)) ?_
  simp (disch := omega) only [↓qxs, ↓qxc, ↓qxa]
  refine p_call (pointCheck_ok (by omega)) ?_
  simp (disch := omega) only [↓qxs, ↓qxc, ↓qxa]
  obtain ⟨H', hr⟩ := rules0
  refine p_callH hr ?_
  unfold rulesR
  simp (disch := omega) only [↓qxs, ↓qxc, ↓qxa]
  refine p_opt_r (by simp only [pickL, putL, offX, Int.reduceToNat, Int.reduceAdd, Int.reduceMul, Int.reduceMod, Int.reduceSub, Int.reduceNeg, Int.reduceDiv, Nat.reduceAdd, Nat.reduceMul, Nat.reduceLeDiff, List.length_cons, List.length_nil, ↓reduceIte, List.drop_succ_cons, List.drop_zero, List.take_succ_cons, List.take_zero, List.cons_append, List.nil_append, Nat.zero_add, Int.toNat_zero, Nat.zero_mul, Nat.add_zero, Int.zero_add]; exact rfl) ?_
  simp (disch := omega) only [↓qxs, ↓qxc, ↓qxa]
  refine p_callv (callv_ct (ral4 (x := x) (y := y) (by omega) H') rfl [.agg [.i .i64 x, .i .i64 y]] rfl rfl) ?_
  simp (disch := omega) only [↓qxs, ↓qxc, ↓qxa]
theorem lsp4 {c x y : Int} (h : (-4096 ≤ c ∧ c ≤ 4096 ∧ -65536 ≤ x ∧ x ≤ 65536 ∧ -65536 ≤ y ∧ y ≤ 65536) ∧ 2 * c < y - x) : Cc 78 [.i 4, .i c, .i x, .i y] [.i 1] := by
  refine q78 rfl ?_; unfold p78
  simp (disch := omega) only [↓qxs, ↓qxc, ↓qxa]
  refine p_call (lineCheck_ok (by omega)) ?_
  simp (disch := omega) only [↓qxs, ↓qxc, ↓qxa]
  refine p_call (pointCheck_ok (by omega)) ?_
  simp (disch := omega) only [↓qxs, ↓qxc, ↓qxa]
  obtain ⟨H', hr⟩ := rules0
  refine p_callH hr ?_
  unfold rulesR
  simp (disch := omega) only [↓qxs, ↓qxc, ↓qxa]
  refine p_opt_r (by simp only [pickL, putL, offX, Int.reduceToNat, Int.reduceAdd, Int.reduceMul, Int.reduceMod, Int.reduceSub, Int.reduceNeg, Int.reduceDiv, Nat.reduceAdd, Nat.reduceMul, Nat.reduceLeDiff, List.length_cons, List.length_nil, ↓reduceIte, List.drop_succ_cons, List.drop_zero, List.take_succ_cons, List.take_zero, List.cons_append, List.nil_append, Nat.zero_add, Int.toNat_zero, Nat.zero_mul, Nat.add_zero, Int.zero_add]; exact rfl) ?_
  simp (disch := omega) only [↓qxs, ↓qxc, ↓qxa]
  refine p_callv (callv_ct (ral4 (x := x) (y := y) (by omega) H') rfl [.agg [.i .i64 x, .i .i64 y]] rfl rfl) ?_
  simp (disch := omega) only [↓qxs, ↓qxc, ↓qxa]
theorem lsn4 {c x y : Int} (h : (-4096 ≤ c ∧ c ≤ 4096 ∧ -65536 ≤ x ∧ x ≤ 65536 ∧ -65536 ≤ y ∧ y ≤ 65536) ∧ y - x ≤ 2 * c) : ∃ r, r ≤ 0 ∧ Cc 78 [.i 4, .i c, .i x, .i y] [.i r] := by
  by_cases hz : y - x = 2 * c
  · exact ⟨0, by omega, lsz4 (by omega)⟩
  · exact ⟨-1, by omega, lsm4 (by omega)⟩
end Go.Am
/-
  CONTRACTS, BY PROGRAM: sides of cells.
-/
set_option maxRecDepth 100000
namespace Go.Am
open Sx Go.Proofs

theorem csideh11 {x y c : Int} (h : -4096 ≤ x ∧ x ≤ 4096 ∧ -4096 ≤ y ∧ y ≤ 4096 ∧ -4096 ≤ c ∧ c ≤ 4096 ∧ (2 * x + 1 - 2 * c > 0 ∨ 2 * x + 2 - 2 * c > 0 ∨ 2 * x + 2 - 2 * c > 0)) : Cc 50 [.i 1, .i c, .i x, .i y, .i 1] [.i 1, .i 0] := by
  refine q50 rfl ?_; unfold p50
  by_cases h0 : 2 * x + 1 - 2 * c > 0
  · repeat (first | simp (disch := omega) only [↓qxs, ↓qxc, ↓qxa] | refine p_opt_r (by simp only [pickL, putL, offX, Int.reduceToNat, Int.reduceAdd, Int.reduceMul, Int.reduceMod, Int.reduceSub, Int.reduceNeg, Int.reduceDiv, Nat.reduceAdd, Nat.reduceMul, Nat.reduceLeDiff, List.length_cons, List.length_nil, ↓reduceIte, List.drop_succ_cons, List.drop_zero, List.take_succ_cons, List.take_zero, List.cons_append, List.nil_append, Nat.zero_add, Int.toNat_zero, Nat.zero_mul, Nat.add_zero, Int.zero_add]; exact rfl) ?_ | refine p_callE (lsn1 (by omega)) (fun r hr => ?_) | refine p_loop 5 ?_ | refine p_call (ccorn1 (by omega)) ?_ | refine p_call (lineCheck_ok (by omega)) ?_ | refine p_call (lsp1 (by omega)) ?_); (try simp only [List.cons.injEq, Lf.i.injEq, and_true, true_and]); (try omega)
  by_cases h1 : 2 * x + 2 - 2 * c > 0
  · repeat (first | simp (disch := omega) only [↓qxs, ↓qxc, ↓qxa] | refine p_opt_r (by simp only [pickL, putL, offX, Int.reduceToNat, Int.reduceAdd, Int.reduceMul, Int.reduceMod, Int.reduceSub, Int.reduceNeg, Int.reduceDiv, Nat.reduceAdd, Nat.reduceMul, Nat.reduceLeDiff, List.length_cons, List.length_nil, ↓reduceIte, List.drop_succ_cons, List.drop_zero, List.take_succ_cons, List.take_zero, List.cons_append, List.nil_append, Nat.zero_add, Int.toNat_zero, Nat.zero_mul, Nat.add_zero, Int.zero_add]; exact rfl) ?_ | refine p_callE (lsn1 (by omega)) (fun r hr => ?_) | refine p_loop 5 ?_ | refine p_call (ccorn1 (by omega)) ?_ | refine p_call (lineCheck_ok (by omega)) ?_ | refine p_call (lsp1 (by omega)) ?_); (try simp only [List.cons.injEq, Lf.i.injEq, and_true, true_and]); (try omega)
  repeat (first | simp (disch := omega) only [↓qxs, ↓qxc, ↓qxa] | refine p_opt_r (by simp only [pickL, putL, offX, Int.reduceToNat, Int.reduceAdd, Int.reduceMul, Int.reduceMod, Int.reduceSub, Int.reduceNeg, Int.reduceDiv, Nat.reduceAdd, Nat.reduceMul, Nat.reduceLeDiff, List.length_cons, List.length_nil, ↓reduceIte, List.drop_succ_cons, List.drop_zero, List.take_succ_cons, List.take_zero, List.cons_append, List.nil_append, Nat.zero_add, Int.toNat_zero, Nat.zero_mul, Nat.add_zero, Int.zero_add]; exact rfl) ?_ | refine p_callE (lsn1 (by omega)) (fun r hr => ?_) | refine p_loop 5 ?_ | refine p_call (ccorn1 (by omega)) ?_ | refine p_call (lineCheck_ok (by omega)) ?_ | refine p_call (lsp1 (by omega)) ?_)
  (try simp only [List.cons.injEq, Lf.i.injEq, and_true, true_and]); (try omega)
theorem csidel11 {x y c : Int} (h : -4096 ≤ x ∧ x ≤ 4096 ∧ -4096 ≤ y ∧ y ≤ 4096 ∧ -4096 ≤ c ∧ c ≤ 4096 ∧ 2 * x + 1 - 2 * c ≤ 0 ∧ 2 * x + 2 - 2 * c ≤ 0 ∧ 2 * x + 2 - 2 * c ≤ 0) : Cc 50 [.i 1, .i c, .i x, .i y, .i 1] [.i 0, .i 0] := by
  refine q50 rfl ?_; unfold p50
  repeat (first | simp (disch := omega) only [↓qxs, ↓qxc, ↓qxa] | refine p_opt_r (by simp only [pickL, putL, offX, Int.reduceToNat, Int.reduceAdd, Int.reduceMul, Int.reduceMod, Int.reduceSub, Int.reduceNeg, Int.reduceDiv, Nat.reduceAdd, Nat.reduceMul, Nat.reduceLeDiff, List.length_cons, List.length_nil, ↓reduceIte, List.drop_succ_cons, List.drop_zero, List.take_succ_cons, List.take_zero, List.cons_append, List.nil_append, Nat.zero_add, Int.toNat_zero, Nat.zero_mul, Nat.add_zero, Int.zero_add]; exact rfl) ?_ | refine p_callE (lsn1 (by omega)) (fun r hr => ?_) | refine p_loop 5 ?_ | refine p_call (ccorn1 (by omega)) ?_ | refine p_call (lineCheck_ok (by omega)) ?_ | refine p_call (lsp1 (by omega)) ?_)
  (try simp only [List.cons.injEq, Lf.i.injEq, and_true, true_and]); (try omega)
theorem csideh13 {x y c : Int} (h : -4096 ≤ x ∧ x ≤ 4096 ∧ -4096 ≤ y ∧ y ≤ 4096 ∧ -4096 ≤ c ∧ c ≤ 4096 ∧ (2 * x + 1 - 2 * c > 0 ∨ 2 * x - 2 * c > 0 ∨ 2 * x - 2 * c > 0)) : Cc 50 [.i 1, .i c, .i x, .i y, .i 3] [.i 1, .i 0] := by
  refine q50 rfl ?_; unfold p50
  by_cases h0 : 2 * x + 1 - 2 * c > 0
  · repeat (first | simp (disch := omega) only [↓qxs, ↓qxc, ↓qxa] | refine p_opt_r (by simp only [pickL, putL, offX, Int.reduceToNat, Int.reduceAdd, Int.reduceMul, Int.reduceMod, Int.reduceSub, Int.reduceNeg, Int.reduceDiv, Nat.reduceAdd, Nat.reduceMul, Nat.reduceLeDiff, List.length_cons, List.length_nil, ↓reduceIte, List.drop_succ_cons, List.drop_zero, List.take_succ_cons, List.take_zero, List.cons_append, List.nil_append, Nat.zero_add, Int.toNat_zero, Nat.zero_mul, Nat.add_zero, Int.zero_add]; exact rfl) ?_ | refine p_callE (lsn1 (by omega)) (fun r hr => ?_) | refine p_loop 5 ?_ | refine p_call (ccorn3 (by omega)) ?_ | refine p_call (lineCheck_ok (by omega)) ?_ | refine p_call (lsp1 (by omega)) ?_); (try simp only [List.cons.injEq, Lf.i.injEq, and_true, true_and]); (try omega)
  by_cases h1 : 2 * x - 2 * c > 0
  · repeat (first | simp (disch := omega) only [↓qxs, ↓qxc, ↓qxa] | refine p_opt_r (by simp only [pickL, putL, offX, Int.reduceToNat, Int.reduceAdd, Int.reduceMul, Int.reduceMod, Int.reduceSub, Int.reduceNeg, Int.reduceDiv, Nat.reduceAdd, Nat.reduceMul, Nat.reduceLeDiff, List.length_cons, List.length_nil, ↓reduceIte, List.drop_succ_cons, List.drop_zero, List.take_succ_cons, List.take_zero, List.cons_append, List.nil_append, Nat.zero_add, Int.toNat_zero, Nat.zero_mul, Nat.add_zero, Int.zero_add]; exact rfl) ?_ | refine p_callE (lsn1 (by omega)) (fun r hr => ?_) | refine p_loop 5 ?_ | refine p_call (ccorn3 (by omega)) ?_ | refine p_call (lineCheck_ok (by omega)) ?_ | refine p_call (lsp1 (by omega)) ?_); (try simp only [List.cons.injEq, Lf.i.injEq, and_true, true_and]); (try omega)
  repeat (first | simp (disch := omega) only [↓qxs, ↓qxc, ↓qxa] | refine p_opt_r (by simp only [pickL, putL, offX, Int.reduceToNat, Int.reduceAdd, Int.reduceMul, Int.reduceMod, Int.reduceSub, Int.reduceNeg, Int.reduceDiv, Nat.reduceAdd, Nat.reduceMul, Nat.reduceLeDiff, List.length_cons, List.length_nil, ↓reduceIte, List.drop_succ_cons, List.drop_zero, List.take_succ_cons, List.take_zero, List.cons_append, List.nil_append, Nat.zero_add, Int.toNat_zero, Nat.zero_mul, Nat.add_zero, Int.zero_add]; exact rfl) ?_ | refine p_callE (lsn1 (by omega)) (fun r hr => ?_) | refine p_loop 5 ?_ | refine p_call (ccorn3 (by omega)) ?_ | refine p_call (lineCheck_ok (by omega)) ?_ | refine p_call (lsp1 (by omega)) ?_)
  (try simp only [List.cons.injEq, Lf.i.injEq, and_true, true_and]); (try omega)
theorem csidel13 {x y c : Int} (h : -4096 ≤ x ∧ x ≤ 4096 ∧ -4096 ≤ y ∧ y ≤ 4096 ∧ -4096 ≤ c ∧ c ≤ 4096 ∧ 2 * x + 1 - 2 * c ≤ 0 ∧ 2 * x - 2 * c ≤ 0 ∧ 2 * x - 2 * c ≤ 0) : Cc 50 [.i 1, .i c, .i x, .i y, .i 3] [.i 0, .i 0] := by
  refine q50 rfl ?_; unfold p50
  repeat (first | simp (disch := omega) only [↓qxs, ↓qxc, ↓qxa] | refine p_opt_r (by simp only [pickL, putL, offX, Int.reduceToNat, Int.reduceAdd, Int.reduceMul, Int.reduceMod, Int.reduceSub, Int.reduceNeg, Int.reduceDiv, Nat.reduceAdd, Nat.reduceMul, Nat.reduceLeDiff, List.length_cons, List.length_nil, ↓reduceIte, List.drop_succ_cons, List.drop_zero, List.take_succ_cons, List.take_zero, List.cons_append, List.nil_append, Nat.zero_add, Int.toNat_zero, Nat.zero_mul, Nat.add_zero, Int.zero_add]; exact rfl) ?_ | refine p_callE (lsn1 (by omega)) (fun r hr => ?_) | refine p_loop 5 ?_ | refine p_call (ccorn3 (by omega)) ?_ | refine p_call (lineCheck_ok (by omega)) ?_ | refine p_call (lsp1 (by omega)) ?_)
  (try simp only [List.cons.injEq, Lf.i.injEq, and_true, true_and]); (try omega)
theorem csideh20 {x y c : Int} (h : -4096 ≤ x ∧ x ≤ 4096 ∧ -4096 ≤ y ∧ y ≤ 4096 ∧ -4096 ≤ c ∧ c ≤ 4096 ∧ (2 * y + 1 - 2 * c > 0 ∨ 2 * y - 2 * c > 0 ∨ 2 * y - 2 * c > 0)) : Cc 50 [.i 2, .i c, .i x, .i y, .i 0] [.i 1, .i 0] := by
  refine q50 rfl ?_; unfold p50
  by_cases h0 : 2 * y + 1 - 2 * c > 0
  · repeat (first | simp (disch := omega) only [↓qxs, ↓qxc, ↓qxa] | refine p_opt_r (by simp only [pickL, putL, offX, Int.reduceToNat, Int.reduceAdd, Int.reduceMul, Int.reduceMod, Int.reduceSub, Int.reduceNeg, Int.reduceDiv, Nat.reduceAdd, Nat.reduceMul, Nat.reduceLeDiff, List.length_cons, List.length_nil, ↓reduceIte, List.drop_succ_cons, List.drop_zero, List.take_succ_cons, List.take_zero, List.cons_append, List.nil_append, Nat.zero_add, Int.toNat_zero, Nat.zero_mul, Nat.add_zero, Int.zero_add]; exact rfl) ?_ | refine p_callE (lsn2 (by omega)) (fun r hr => ?_) | refine p_loop 5 ?_ | refine p_call (ccorn0 (by omega)) ?_ | refine p_call (lineCheck_ok (by omega)) ?_ | refine p_call (lsp2 (by omega)) ?_); (try simp only [List.cons.injEq, Lf.i.injEq, and_true, true_and]); (try omega)
  by_cases h1 : 2 * y - 2 * c > 0
  · repeat (first | simp (disch := omega) only [↓qxs, ↓qxc, ↓qxa] | refine p_opt_r (by simp only [pickL, putL, offX, Int.reduceToNat, Int.reduceAdd, Int.reduceMul, Int.reduceMod, Int.reduceSub, Int.reduceNeg, Int.reduceDiv, Nat.reduceAdd, Nat.reduceMul, Nat.reduceLeDiff, List.length_cons, List.length_nil, ↓reduceIte, List.drop_succ_cons, List.drop_zero, List.take_succ_cons, List.take_zero, List.cons_append, List.nil_append, Nat.zero_add, Int.toNat_zero, Nat.zero_mul, Nat.add_zero, Int.zero_add]; exact rfl) ?_ | refine p_callE (lsn2 (by omega)) (fun r hr => ?_) | refine p_loop 5 ?_ | refine p_call (ccorn0 (by omega)) ?_ | refine p_call (lineCheck_ok (by omega)) ?_ | refine p_call (lsp2 (by omega)) ?_); (try simp only [List.cons.injEq, Lf.i.injEq, and_true, true_and]); (try omega)
  repeat (first | simp (disch := omega) only [↓qxs, ↓qxc, ↓qxa] | refine p_opt_r (by simp only [pickL, putL, offX, Int.reduceToNat, Int.reduceAdd, Int.reduceMul, Int.reduceMod, Int.reduceSub, Int.reduceNeg, Int.reduceDiv, Nat.reduceAdd, Nat.reduceMul, Nat.reduceLeDiff, List.length_cons, List.length_nil, ↓reduceIte, List.drop_succ_cons, List.drop_zero, List.take_succ_cons, List.take_zero, List.cons_append, List.nil_append, Nat.zero_add, Int.toNat_zero, Nat.zero_mul, Nat.add_zero, Int.zero_add]; exact rfl) ?_ | refine p_callE (lsn2 (by omega)) (fun r hr => ?_) | refine p_loop 5 ?_ | refine p_call (ccorn0 (by omega)) ?_ | refine p_call (lineCheck_ok (by omega)) ?_ | refine p_call (lsp2 (by omega)) ?_)
  (try simp only [List.cons.injEq, Lf.i.injEq, and_true, true_and]); (try omega)
theorem csidel20 {x y c : Int} (h : -4096 ≤ x ∧ x ≤ 4096 ∧ -4096 ≤ y ∧ y ≤ 4096 ∧ -4096 ≤ c ∧ c ≤ 4096 ∧ 2 * y + 1 - 2 * c ≤ 0 ∧ 2 * y - 2 * c ≤ 0 ∧ 2 * y - 2 * c ≤ 0) : Cc 50 [.i 2, .i c, .i x, .i y, .i 0] [.i 0, .i 0] := by
  refine q50 rfl ?_; unfold p50
  repeat (first | simp (disch := omega) only [↓qxs, ↓qxc, ↓qxa] | refine p_opt_r (by simp only [pickL, putL, offX, Int.reduceToNat, Int.reduceAdd, Int.reduceMul, Int.reduceMod, Int.reduceSub, Int.reduceNeg, Int.reduceDiv, Nat.reduceAdd, Nat.reduceMul, Nat.reduceLeDiff, List.length_cons, List.length_nil, ↓reduceIte, List.drop_succ_cons, List.drop_zero, List.take_succ_cons, List.take_zero, List.cons_append, List.nil_append, Nat.zero_add, Int.toNat_zero, Nat.zero_mul, Nat.add_zero, Int.zero_add]; exact rfl) ?_ | refine p_callE (lsn2 (by omega)) (fun r hr => ?_) | refine p_loop 5 ?_ | refine p_call (ccorn0 (by omega)) ?_ | refine p_call (lineCheck_ok (by omega)) ?_ | refine p_call (lsp2 (by omega)) ?_)
  (try simp only [List.cons.injEq, Lf.i.injEq, and_true, true_and]); (try omega)
theorem csideh22 {x y c : Int} (h : -4096 ≤ x ∧ x ≤ 4096 ∧ -4096 ≤ y ∧ y ≤ 4096 ∧ -4096 ≤ c ∧ c ≤ 4096 ∧ (2 * y + 1 - 2 * c > 0 ∨ 2 * y + 2 - 2 * c > 0 ∨ 2 * y + 2 - 2 * c > 0)) : Cc 50 [.i 2, .i c, .i x, .i y, .i 2] [.i 1, .i 0] := by
  refine q50 rfl ?_; unfold p50
  by_cases h0 : 2 * y + 1 - 2 * c > 0
  · repeat (first | simp (disch := omega) only [↓qxs, ↓qxc, ↓qxa] | refine p_opt_r (by simp only [pickL, putL, offX, Int.reduceToNat, Int.reduceAdd, Int.reduceMul, Int.reduceMod, Int.reduceSub, Int.reduceNeg, Int.reduceDiv, Nat.reduceAdd, Nat.reduceMul, Nat.reduceLeDiff, List.length_cons, List.length_nil, ↓reduceIte, List.drop_succ_cons, List.drop_zero, List.take_succ_cons, List.take_zero, List.cons_append, List.nil_append, Nat.zero_add, Int.toNat_zero, Nat.zero_mul, Nat.add_zero, Int.zero_add]; exact rfl) ?_ | refine p_callE (lsn2 (by omega)) (fun r hr => ?_) | refine p_loop 5 ?_ | refine p_call (ccorn2 (by omega)) ?_ | refine p_call (lineCheck_ok (by omega)) ?_ | refine p_call (lsp2 (by omega)) ?_); (try simp only [List.cons.injEq, Lf.i.injEq, and_true, true_and]); (try omega)
  by_cases h1 : 2 * y + 2 - 2 * c > 0
  · repeat (first | simp (disch := omega) only [↓qxs, ↓qxc, ↓qxa] | refine p_opt_r (by simp only [pickL, putL, offX, Int.reduceToNat, Int.reduceAdd, Int.reduceMul, Int.reduceMod, Int.reduceSub, Int.reduceNeg, Int.reduceDiv, Nat.reduceAdd, Nat.reduceMul, Nat.reduceLeDiff, List.length_cons, List.length_nil, ↓reduceIte, List.drop_succ_cons, List.drop_zero, List.take_succ_cons, List.take_zero, List.cons_append, List.nil_append, Nat.zero_add, Int.toNat_zero, Nat.zero_mul, Nat.add_zero, Int.zero_add]; exact rfl) ?_ | refine p_callE (lsn2 (by omega)) (fun r hr => ?_) | refine p_loop 5 ?_ | refine p_call (ccorn2 (by omega)) ?_ | refine p_call (lineCheck_ok (by omega)) ?_ | refine p_call (lsp2 (by omega)) ?_); (try simp only [List.cons.injEq, Lf.i.injEq, and_true, true_and]); (try omega)
  repeat (first | simp (disch := omega) only [↓qxs, ↓qxc, ↓qxa] | refine p_opt_r (by simp only [pickL, putL, offX, Int.reduceToNat, Int.reduceAdd, Int.reduceMul, Int.reduceMod, Int.reduceSub, Int.reduceNeg, Int.reduceDiv, Nat.reduceAdd, Nat.reduceMul, Nat.reduceLeDiff, List.length_cons, List.length_nil, ↓reduceIte, List.drop_succ_cons, List.drop_zero, List.take_succ_cons, List.take_zero, List.cons_append, List.nil_append, Nat.zero_add, Int.toNat_zero, Nat.zero_mul, Nat.add_zero, Int.zero_add]; exact rfl) ?_ | refine p_callE (lsn2 (by omega)) (fun r hr => ?_) | refine p_loop 5 ?_ | refine p_call (ccorn2 (by omega)) ?_ | refine p_call (lineCheck_ok (by omega)) ?_ | refine p_call (lsp2 (by omega)) ?_)
  (try simp only [List.cons.injEq, Lf.i.injEq, and_true, true_and]); (try omega)
theorem csidel22 {x y c : Int} (h : -4096 ≤ x ∧ x ≤ 4096 ∧ -4096 ≤ y ∧ y ≤ 4096 ∧ -4096 ≤ c ∧ c ≤ 4096 ∧ 2 * y + 1 - 2 * c ≤ 0 ∧ 2 * y + 2 - 2 * c ≤ 0 ∧ 2 * y + 2 - 2 * c ≤ 0) : Cc 50 [.i 2, .i c, .i x, .i y, .i 2] [.i 0, .i 0] := by
  refine q50 rfl ?_; unfold p50
  repeat (first | simp (disch := omega) only [↓qxs, ↓qxc, ↓qxa] | refine p_opt_r (by simp only [pickL, putL, offX, Int.reduceToNat, Int.reduceAdd, Int.reduceMul, Int.reduceMod, Int.reduceSub, Int.reduceNeg, Int.reduceDiv, Nat.reduceAdd, Nat.reduceMul, Nat.reduceLeDiff, List.length_cons, List.length_nil, ↓reduceIte, List.drop_succ_cons, List.drop_zero, List.take_succ_cons, List.take_zero, List.cons_append, List.nil_append, Nat.zero_add, Int.toNat_zero, Nat.zero_mul, Nat.add_zero, Int.zero_add]; exact rfl) ?_ | refine p_callE (lsn2 (by omega)) (fun r hr => ?_) | refine p_loop 5 ?_ | refine p_call (ccorn2 (by omega)) ?_ | refine p_call (lineCheck_ok (by omega)) ?_ | refine p_call (lsp2 (by omega)) ?_)
  (try simp only [List.cons.injEq, Lf.i.injEq, and_true, true_and]); (try omega)
theorem csideh30 {x y c : Int} (h : -4096 ≤ x ∧ x ≤ 4096 ∧ -4096 ≤ y ∧ y ≤ 4096 ∧ -4096 ≤ c ∧ c ≤ 4096 ∧ (2 * x + 1 + (2 * y + 1) - 2 * c > 0 ∨ 2 * x + (2 * y) - 2 * c > 0 ∨ 2 * x + 2 + (2 * y) - 2 * c > 0)) : Cc 50 [.i 3, .i c, .i x, .i y, .i 0] [.i 1, .i 0] := by
  refine q50 rfl ?_; unfold p50
  by_cases h0 : 2 * x + 1 + (2 * y + 1) - 2 * c > 0
  · repeat (first | simp (disch := omega) only [↓qxs, ↓qxc, ↓qxa] | refine p_opt_r (by simp only [pickL, putL, offX, Int.reduceToNat, Int.reduceAdd, Int.reduceMul, Int.reduceMod, Int.reduceSub, Int.reduceNeg, Int.reduceDiv, Nat.reduceAdd, Nat.reduceMul, Nat.reduceLeDiff, List.length_cons, List.length_nil, ↓reduceIte, List.drop_succ_cons, List.drop_zero, List.take_succ_cons, List.take_zero, List.cons_append, List.nil_append, Nat.zero_add, Int.toNat_zero, Nat.zero_mul, Nat.add_zero, Int.zero_add]; exact rfl) ?_ | refine p_callE (lsn3 (by omega)) (fun r hr => ?_) | refine p_loop 5 ?_ | refine p_call (ccorn0 (by omega)) ?_ | refine p_call (lineCheck_ok (by omega)) ?_ | refine p_call (lsp3 (by omega)) ?_); (try simp only [List.cons.injEq, Lf.i.injEq, and_true, true_and]); (try omega)
  by_cases h1 : 2 * x + (2 * y) - 2 * c > 0
  · repeat (first | simp (disch := omega) only [↓qxs, ↓qxc, ↓qxa] | refine p_opt_r (by simp only [pickL, putL, offX, Int.reduceToNat, Int.reduceAdd, Int.reduceMul, Int.reduceMod, Int.reduceSub, Int.reduceNeg, Int.reduceDiv, Nat.reduceAdd, Nat.reduceMul, Nat.reduceLeDiff, List.length_cons, List.length_nil, ↓reduceIte, List.drop_succ_cons, List.drop_zero, List.take_succ_cons, List.take_zero, List.cons_append, List.nil_append, Nat.zero_add, Int.toNat_zero, Nat.zero_mul, Nat.add_zero, Int.zero_add]; exact rfl) ?_ | refine p_callE (lsn3 (by omega)) (fun r hr => ?_) | refine p_loop 5 ?_ | refine p_call (ccorn0 (by omega)) ?_ | refine p_call (lineCheck_ok (by omega)) ?_ | refine p_call (lsp3 (by omega)) ?_); (try simp only [List.cons.injEq, Lf.i.injEq, and_true, true_and]); (try omega)
  repeat (first | simp (disch := omega) only [↓qxs, ↓qxc, ↓qxa] | refine p_opt_r (by simp only [pickL, putL, offX, Int.reduceToNat, Int.reduceAdd, Int.reduceMul, Int.reduceMod, Int.reduceSub, Int.reduceNeg, Int.reduceDiv, Nat.reduceAdd, Nat.reduceMul, Nat.reduceLeDiff, List.length_cons, List.length_nil, ↓reduceIte, List.drop_succ_cons, List.drop_zero, List.take_succ_cons, List.take_zero, List.cons_append, List.nil_append, Nat.zero_add, Int.toNat_zero, Nat.zero_mul, Nat.add_zero, Int.zero_add]; exact rfl) ?_ | refine p_callE (lsn3 (by omega)) (fun r hr => ?_) | refine p_loop 5 ?_ | refine p_call (ccorn0 (by omega)) ?_ | refine p_call (lineCheck_ok (by omega)) ?_ | refine p_call (lsp3 (by omega)) ?_)
  (try simp only [List.cons.injEq, Lf.i.injEq, and_true, true_and]); (try omega)
theorem csidel30 {x y c : Int} (h : -4096 ≤ x ∧ x ≤ 4096 ∧ -4096 ≤ y ∧ y ≤ 4096 ∧ -4096 ≤ c ∧ c ≤ 4096 ∧ 2 * x + 1 + (2 * y + 1) - 2 * c ≤ 0 ∧ 2 * x + (2 * y) - 2 * c ≤ 0 ∧ 2 * x + 2 + (2 * y) - 2 * c ≤ 0) : Cc 50 [.i 3, .i c, .i x, .i y, .i 0] [.i 0, .i 0] := by
  refine q50 rfl ?_; unfold p50
  repeat (first | simp (disch := omega) only [↓qxs, ↓qxc, ↓qxa] | refine p_opt_r (by simp only [pickL, putL, offX, Int.reduceToNat, Int.reduceAdd, Int.reduceMul, Int.reduceMod, Int.reduceSub, Int.reduceNeg, Int.reduceDiv, Nat.reduceAdd, Nat.reduceMul, Nat.reduceLeDiff, List.length_cons, List.length_nil, ↓reduceIte, List.drop_succ_cons, List.drop_zero, List.take_succ_cons, List.take_zero, List.cons_append, List.nil_append, Nat.zero_add, Int.toNat_zero, Nat.zero_mul, Nat.add_zero, Int.zero_add]; exact rfl) ?_ | refine p_callE (lsn3 (by omega)) (fun r hr => ?_) | refine p_loop 5 ?_ | refine p_call (ccorn0 (by omega)) ?_ | refine p_call (lineCheck_ok (by omega)) ?_ | refine p_call (lsp3 (by omega)) ?_)
  (try simp only [List.cons.injEq, Lf.i.injEq, and_true, true_and]); (try omega)
theorem csideh31 {x y c : Int} (h : -4096 ≤ x ∧ x ≤ 4096 ∧ -4096 ≤ y ∧ y ≤ 4096 ∧ -4096 ≤ c ∧ c ≤ 4096 ∧ (2 * x + 1 + (2 * y + 1) - 2 * c > 0 ∨ 2 * x + 2 + (2 * y + 2) - 2 * c > 0 ∨ 2 * x + 2 + (2 * y) - 2 * c > 0)) : Cc 50 [.i 3, .i c, .i x, .i y, .i 1] [.i 1, .i 0] := by
  refine q50 rfl ?_; unfold p50
  by_cases h0 : 2 * x + 1 + (2 * y + 1) - 2 * c > 0
  · repeat (first | simp (disch := omega) only [↓qxs, ↓qxc, ↓qxa] | refine p_opt_r (by simp only [pickL, putL, offX, Int.reduceToNat, Int.reduceAdd, Int.reduceMul, Int.reduceMod, Int.reduceSub, Int.reduceNeg, Int.reduceDiv, Nat.reduceAdd, Nat.reduceMul, Nat.reduceLeDiff, List.length_cons, List.length_nil, ↓reduceIte, List.drop_succ_cons, List.drop_zero, List.take_succ_cons, List.take_zero, List.cons_append, List.nil_append, Nat.zero_add, Int.toNat_zero, Nat.zero_mul, Nat.add_zero, Int.zero_add]; exact rfl) ?_ | refine p_callE (lsn3 (by omega)) (fun r hr => ?_) | refine p_loop 5 ?_ | refine p_call (ccorn1 (by omega)) ?_ | refine p_call (lineCheck_ok (by omega)) ?_ | refine p_call (lsp3 (by omega)) ?_); (try simp only [List.cons.injEq, Lf.i.injEq, and_true, true_and]); (try omega)
  by_cases h1 : 2 * x + 2 + (2 * y + 2) - 2 * c > 0
  · repeat (first | simp (disch := omega) only [↓qxs, ↓qxc, ↓qxa] | refine p_opt_r (by simp only [pickL, putL, offX, Int.reduceToNat, Int.reduceAdd, Int.reduceMul, Int.reduceMod, Int.reduceSub, Int.reduceNeg, Int.reduceDiv, Nat.reduceAdd, Nat.reduceMul, Nat.reduceLeDiff, List.length_cons, List.length_nil, ↓reduceIte, List.drop_succ_cons, List.drop_zero, List.take_succ_cons, List.take_zero, List.cons_append, List.nil_append, Nat.zero_add, Int.toNat_zero, Nat.zero_mul, Nat.add_zero, Int.zero_add]; exact rfl) ?_ | refine p_callE (lsn3 (by omega)) (fun r hr => ?_) | refine p_loop 5 ?_ | refine p_call (ccorn1 (by omega)) ?_ | refine p_call (lineCheck_ok (by omega)) ?_ | refine p_call (lsp3 (by omega)) ?_); (try simp only [List.cons.injEq, Lf.i.injEq, and_true, true_and]); (try omega)
  repeat (first | simp (disch := omega) only [↓qxs, ↓qxc, ↓qxa] | refine p_opt_r (by simp only [pickL, putL, offX, Int.reduceToNat, Int.reduceAdd, Int.reduceMul, Int.reduceMod, Int.reduceSub, Int.reduceNeg, Int.reduceDiv, Nat.reduceAdd, Nat.reduceMul, Nat.reduceLeDiff, List.length_cons, List.length_nil, ↓reduceIte, List.drop_succ_cons, List.drop_zero, List.take_succ_cons, List.take_zero, List.cons_append, List.nil_append, Nat.zero_add, Int.toNat_zero, Nat.zero_mul, Nat.add_zero, Int.zero_add]; exact rfl) ?_ | refine p_callE (lsn3 (by omega)) (fun r hr => ?_) | refine p_loop 5 ?_ | refine p_call (ccorn1 (by omega)) ?_ | refine p_call (lineCheck_ok (by omega)) ?_ | refine p_call (lsp3 (by omega)) ?_)
  (try simp only [List.cons.injEq, Lf.i.injEq, and_true, true_and]); (try omega)
theorem csidel31 {x y c : Int} (h : -4096 ≤ x ∧ x ≤ 4096 ∧ -4096 ≤ y ∧ y ≤ 4096 ∧ -4096 ≤ c ∧ c ≤ 4096 ∧ 2 * x + 1 + (2 * y + 1) - 2 * c ≤ 0 ∧ 2 * x + 2 + (2 * y + 2) - 2 * c ≤ 0 ∧ 2 * x + 2 + (2 * y) - 2 * c ≤ 0) : Cc 50 [.i 3, .i c, .i x, .i y, .i 1] [.i 0, .i 0] := by
  refine q50 rfl ?_; unfold p50
  repeat (first | simp (disch := omega) only [↓qxs, ↓qxc, ↓qxa] | refine p_opt_r (by simp only [pickL, putL, offX, Int.reduceToNat, Int.reduceAdd, Int.reduceMul, Int.reduceMod, Int.reduceSub, Int.reduceNeg, Int.reduceDiv, Nat.reduceAdd, Nat.reduceMul, Nat.reduceLeDiff, List.length_cons, List.length_nil, ↓reduceIte, List.drop_succ_cons, List.drop_zero, List.take_succ_cons, List.take_zero, List.cons_append, List.nil_append, Nat.zero_add, Int.toNat_zero, Nat.zero_mul, Nat.add_zero, Int.zero_add]; exact rfl) ?_ | refine p_callE (lsn3 (by omega)) (fun r hr => ?_) | refine p_loop 5 ?_ | refine p_call (ccorn1 (by omega)) ?_ | refine p_call (lineCheck_ok (by omega)) ?_ | refine p_call (lsp3 (by omega)) ?_)
  (try simp only [List.cons.injEq, Lf.i.injEq, and_true, true_and]); (try omega)
theorem csideh32 {x y c : Int} (h : -4096 ≤ x ∧ x ≤ 4096 ∧ -4096 ≤ y ∧ y ≤ 4096 ∧ -4096 ≤ c ∧ c ≤ 4096 ∧ (2 * x + 1 + (2 * y + 1) - 2 * c > 0 ∨ 2 * x + 2 + (2 * y + 2) - 2 * c > 0 ∨ 2 * x + (2 * y + 2) - 2 * c > 0)) : Cc 50 [.i 3, .i c, .i x, .i y, .i 2] [.i 1, .i 0] := by
  refine q50 rfl ?_; unfold p50
  by_cases h0 : 2 * x + 1 + (2 * y + 1) - 2 * c > 0
  · repeat (first | simp (disch := omega) only [↓qxs, ↓qxc, ↓qxa] | refine p_opt_r (by simp only [pickL, putL, offX, Int.reduceToNat, Int.reduceAdd, Int.reduceMul, Int.reduceMod, Int.reduceSub, Int.reduceNeg, Int.reduceDiv, Nat.reduceAdd, Nat.reduceMul, Nat.reduceLeDiff, List.length_cons, List.length_nil, ↓reduceIte, List.drop_succ_cons, List.drop_zero, List.take_succ_cons, List.take_zero, List.cons_append, List.nil_append, Nat.zero_add, Int.toNat_zero, Nat.zero_mul, Nat.add_zero, Int.zero_add]; exact rfl) ?_ | refine p_callE (lsn3 (by omega)) (fun r hr => ?_) | refine p_loop 5 ?_ | refine p_call (ccorn2 (by omega)) ?_ | refine p_call (lineCheck_ok (by omega)) ?_ | refine p_call (lsp3 (by omega)) ?_); (try simp only [List.cons.injEq, Lf.i.injEq, and_true, true_and]); (try omega)
  by_cases h1 : 2 * x + 2 + (2 * y + 2) - 2 * c > 0
  · repeat (first | simp (disch := omega) only [↓qxs, ↓qxc, ↓qxa] | refine p_opt_r (by simp only [pickL, putL, offX, Int.reduceToNat, Int.reduceAdd, Int.reduceMul, Int.reduceMod, Int.reduceSub, Int.reduceNeg, Int.reduceDiv, Nat.reduceAdd, Nat.reduceMul, Nat.reduceLeDiff, List.length_cons, List.length_nil, ↓reduceIte, List.drop_succ_cons, List.drop_zero, List.take_succ_cons, List.take_zero, List.cons_append, List.nil_append, Nat.zero_add, Int.toNat_zero, Nat.zero_mul, Nat.add_zero, Int.zero_add]; exact rfl) ?_ | refine p_callE (lsn3 (by omega)) (fun r hr => ?_) | refine p_loop 5 ?_ | refine p_call (ccorn2 (by omega)) ?_ | refine p_call (lineCheck_ok (by omega)) ?_ | refine p_call (lsp3 (by omega)) ?_); (try simp only [List.cons.injEq, Lf.i.injEq, and_true, true_and]); (try omega)
  repeat (first | simp (disch := omega) only [↓qxs, ↓qxc, ↓qxa] | refine p_opt_r (by simp only [pickL, putL, offX, Int.reduceToNat, Int.reduceAdd, Int.reduceMul, Int.reduceMod, Int.reduceSub, Int.reduceNeg, Int.reduceDiv, Nat.reduceAdd, Nat.reduceMul, Nat.reduceLeDiff, List.length_cons, List.length_nil, ↓reduceIte, List.drop_succ_cons, List.drop_zero, List.take_succ_cons, List.take_zero, List.cons_append, List.nil_append, Nat.zero_add, Int.toNat_zero, Nat.zero_mul, Nat.add_zero, Int.zero_add]; exact rfl) ?_ | refine p_callE (lsn3 (by omega)) (fun r hr => ?_) | refine p_loop 5 ?_ | refine p_call (ccorn2 (by omega)) ?_ | refine p_call (lineCheck_ok (by omega)) ?_ | refine p_call (lsp3 (by omega)) ?_)
  (try simp only [List.cons.injEq, Lf.i.injEq, and_true, true_and]); (try omega)
theorem csidel32 {x y c : Int} (h : -4096 ≤ x ∧ x ≤ 4096 ∧ -4096 ≤ y ∧ y ≤ 4096 ∧ -4096 ≤ c ∧ c ≤ 4096 ∧ 2 * x + 1 + (2 * y + 1) - 2 * c ≤ 0 ∧ 2 * x + 2 + (2 * y + 2) - 2 * c ≤ 0 ∧ 2 * x + (2 * y + 2) - 2 * c ≤ 0) : Cc 50 [.i 3, .i c, .i x, .i y, .i 2] [.i 0, .i 0] := by
  refine q50 rfl ?_; unfold p50
  repeat (first | simp (disch := omega) only [↓qxs, ↓qxc, ↓qxa] | refine p_opt_r (by simp only [pickL, putL, offX, Int.reduceToNat, Int.reduceAdd, Int.reduceMul, Int.reduceMod, Int.reduceSub, Int.reduceNeg, Int.reduceDiv, Nat.reduceAdd, Nat.reduceMul, Nat.reduceLeDiff, List.length_cons, List.length_nil, ↓reduceIte, List.drop_succ_cons, List.drop_zero, List.take_succ_cons, List.take_zero, List.cons_append, List.nil_append, Nat.zero_add, Int.toNat_zero, Nat.zero_mul, Nat.add_zero, Int.zero_add]; exact rfl) ?_ | refine p_callE (lsn3 (by omega)) (fun r hr => ?_) | refine p_loop 5 ?_ | refine p_call (ccorn2 (by omega)) ?_ | refine p_call (lineCheck_ok (by omega)) ?_ | refine p_call (lsp3 (by omega)) ?_)
  (try simp only [List.cons.injEq, Lf.i.injEq, and_true, true_and]); (try omega)
theorem csideh33 {x y c : Int} (h : -4096 ≤ x ∧ x ≤ 4096 ∧ -4096 ≤ y ∧ y ≤ 4096 ∧ -4096 ≤ c ∧ c ≤ 4096 ∧ (2 * x + 1 + (2 * y + 1) - 2 * c > 0 ∨ 2 * x + (2 * y) - 2 * c > 0 ∨ 2 * x + (2 * y + 2) - 2 * c > 0)) : Cc 50 [.i 3, .i c, .i x, .i y, .i 3] [.i 1, .i 0] := by
  refine q50 rfl ?_; unfold p50
  by_cases h0 : 2 * x + 1 + (2 * y + 1) - 2 * c > 0
  · repeat (first | simp (disch := omega) only [↓qxs, ↓qxc, ↓qxa] | refine p_opt_r (by simp only [pickL, putL, offX, Int.reduceToNat, Int.reduceAdd, Int.reduceMul, Int.reduceMod, Int.reduceSub, Int.reduceNeg, Int.reduceDiv, Nat.reduceAdd, Nat.reduceMul, Nat.reduceLeDiff, List.length_cons, List.length_nil, ↓reduceIte, List.drop_succ_cons, List.drop_zero, List.take_succ_cons, List.take_zero, List.cons_append, List.nil_append, Nat.zero_add, Int.toNat_zero, Nat.zero_mul, Nat.add_zero, Int.zero_add]; exact rfl) ?_ | refine p_callE (lsn3 (by omega)) (fun r hr => ?_) | refine p_loop 5 ?_ | refine p_call (ccorn3 (by omega)) ?_ | refine p_call (lineCheck_ok (by omega)) ?_ | refine p_call (lsp3 (by omega)) ?_); (try simp only [List.cons.injEq, Lf.i.injEq, and_true, true_and]); (try omega)
  by_cases h1 : 2 * x + (2 * y) - 2 * c > 0
  · repeat (first | simp (disch := omega) only [↓qxs, ↓qxc, ↓qxa] | refine p_opt_r (by simp only [pickL, putL, offX, Int.reduceToNat, Int.reduceAdd, Int.reduceMul, Int.reduceMod, Int.reduceSub, Int.reduceNeg, Int.reduceDiv, Nat.reduceAdd, Nat.reduceMul, Nat.reduceLeDiff, List.length_cons, List.length_nil, ↓reduceIte, List.drop_succ_cons, List.drop_zero, List.take_succ_cons, List.take_zero, List.cons_append, List.nil_append, Nat.zero_add, Int.toNat_zero, Nat.zero_mul, Nat.add_zero, Int.zero_add]; exact rfl) ?_ | refine p_callE (lsn3 (by omega)) (fun r hr => ?_) | refine p_loop 5 ?_ | refine p_call (ccorn3 (by omega)) ?_ | refine p_call (lineCheck_ok (by omega)) ?_ | refine p_call (lsp3 (by omega)) ?_); (try simp only [List.cons.injEq, Lf.i.injEq, and_true, true_and]); (try omega)
  repeat (first | simp (disch := omega) only [↓qxs, ↓qxc, ↓qxa] | refine p_opt_r (by simp only [pickL, putL, offX, Int.reduceToNat, Int.reduceAdd, Int.reduceMul, Int.reduceMod, Int.reduceSub, Int.reduceNeg, Int.reduceDiv, Nat.reduceAdd, Nat.reduceMul, Nat.reduceLeDiff, List.length_cons, List.length_nil, ↓reduceIte, List.drop_succ_cons, List.drop_zero, List.take_succ_cons, List.take_zero, List.cons_append, List.nil_append, Nat.zero_add, Int.toNat_zero, Nat.zero_mul, Nat.add_zero, Int.zero_add]; exact rfl) ?_ | refine p_callE (lsn3 (by omega)) (fun r hr => ?_) | refine p_loop 5 ?_ | refine p_call (ccorn3 (by omega)) ?_ | refine p_call (lineCheck_ok (by omega)) ?_ | refine p_call (lsp3 (by omega)) ?_)
  (try simp only [List.cons.injEq, Lf.i.injEq, and_true, true_and]); (try omega)
theorem csidel33 {x y c : Int} (h : -4096 ≤ x ∧ x ≤ 4096 ∧ -4096 ≤ y ∧ y ≤ 4096 ∧ -4096 ≤ c ∧ c ≤ 4096 ∧ 2 * x + 1 + (2 * y + 1) - 2 * c ≤ 0 ∧ 2 * x + (2 * y) - 2 * c ≤ 0 ∧ 2 * x + (2 * y + 2) - 2 * c ≤ 0) : Cc 50 [.i 3, .i c, .i x, .i y, .i 3] [.i 0, .i 0] := by
  refine q50 rfl ?_; unfold p50
  repeat (first | simp (disch := omega) only [↓qxs, ↓qxc, ↓qxa] | refine p_opt_r (by simp only [pickL, putL, offX, Int.reduceToNat, Int.reduceAdd, Int.reduceMul, Int.reduceMod, Int.reduceSub, Int.reduceNeg, Int.reduceDiv, Nat.reduceAdd, Nat.reduceMul, Nat.reduceLeDiff, List.length_cons, List.length_nil, ↓reduceIte, List.drop_succ_cons, List.drop_zero, List.take_succ_cons, List.take_zero, List.cons_append, List.nil_append, Nat.zero_add, Int.toNat_zero, Nat.zero_mul, Nat.add_zero, Int.zero_add]; exact rfl) ?_ | refine p_callE (lsn3 (by omega)) (fun r hr => ?_) | refine p_loop 5 ?_ | refine p_call (ccorn3 (by omega)) ?_ | refine p_call (lineCheck_ok (by omega)) ?_ | refine p_call (lsp3 (by omega)) ?_)
  (try simp only [List.cons.injEq, Lf.i.injEq, and_true, true_and]); (try omega)
theorem csideh40 {x y c : Int} (h : -4096 ≤ x ∧ x ≤ 4096 ∧ -4096 ≤ y ∧ y ≤ 4096 ∧ -4096 ≤ c ∧ c ≤ 4096 ∧ (2 * y + 1 - (2 * x + 1) - 2 * c > 0 ∨ 2 * y - (2 * x) - 2 * c > 0 ∨ 2 * y - (2 * x + 2) - 2 * c > 0)) : Cc 50 [.i 4, .i c, .i x, .i y, .i 0] [.i 1, .i 0] := by
  refine q50 rfl ?_; unfold p50
  by_cases h0 : 2 * y + 1 - (2 * x + 1) - 2 * c > 0
  · repeat (first | simp (disch := omega) only [↓qxs, ↓qxc, ↓qxa] | refine p_opt_r (by simp only [pickL, putL, offX, Int.reduceToNat, Int.reduceAdd, Int.reduceMul, Int.reduceMod, Int.reduceSub, Int.reduceNeg, Int.reduceDiv, Nat.reduceAdd, Nat.reduceMul, Nat.reduceLeDiff, List.length_cons, List.length_nil, ↓reduceIte, List.drop_succ_cons, List.drop_zero, List.take_succ_cons, List.take_zero, List.cons_append, List.nil_append, Nat.zero_add, Int.toNat_zero, Nat.zero_mul, Nat.add_zero, Int.zero_add]; exact rfl) ?_ | refine p_callE (lsn4 (by omega)) (fun r hr => ?_) | refine p_loop 5 ?_ | refine p_call (ccorn0 (by omega)) ?_ | refine p_call (lineCheck_ok (by omega)) ?_ | refine p_call (lsp4 (by omega)) ?_); (try simp only [List.cons.injEq, Lf.i.injEq, and_true, true_and]); (try omega)
  by_cases h1 : 2 * y - (2 * x) - 2 * c > 0
  · repeat (first | simp (disch := omega) only [↓qxs, ↓qxc, ↓qxa] | refine p_opt_r (by simp only [pickL, putL, offX, Int.reduceToNat, Int.reduceAdd, Int.reduceMul, Int.reduceMod, Int.reduceSub, Int.reduceNeg, Int.reduceDiv, Nat.reduceAdd, Nat.reduceMul, Nat.reduceLeDiff, List.length_cons, List.length_nil, ↓reduceIte, List.drop_succ_cons, List.drop_zero, List.take_succ_cons, List.take_zero, List.cons_append, List.nil_append, Nat.zero_add, Int.toNat_zero, Nat.zero_mul, Nat.add_zero, Int.zero_add]; exact rfl) ?_ | refine p_callE (lsn4 (by omega)) (fun r hr => ?_) | refine p_loop 5 ?_ | refine p_call (ccorn0 (by omega)) ?_ | refine p_call (lineCheck_ok (by omega)) ?_ | refine p_call (lsp4 (by omega)) ?_); (try simp only [List.cons.injEq, Lf.i.injEq, and_true, true_and]); (try omega)
  repeat (first | simp (disch := omega) only [↓qxs, ↓qxc, ↓qxa] | refine p_opt_r (by simp only [pickL, putL, offX, Int.reduceToNat, Int.reduceAdd, Int.reduceMul, Int.reduceMod, Int.reduceSub, Int.reduceNeg, Int.reduceDiv, Nat.reduceAdd, Nat.reduceMul, Nat.reduceLeDiff, List.length_cons, List.length_nil, ↓reduceIte, List.drop_succ_cons, List.drop_zero, List.take_succ_cons, List.take_zero, List.cons_append, List.nil_append, Nat.zero_add, Int.toNat_zero, Nat.zero_mul, Nat.add_zero, Int.zero_add]; exact rfl) ?_ | refine p_callE (lsn4 (by omega)) (fun r hr => ?_) | refine p_loop 5 ?_ | refine p_call (ccorn0 (by omega)) ?_ | refine p_call (lineCheck_ok (by omega)) ?_ | refine p_call (lsp4 (by omega)) ?_)
  (try simp only [List.cons.injEq, Lf.i.injEq, and_true, true_and]); (try omega)
theorem csidel40 {x y c : Int} (h : -4096 ≤ x ∧ x ≤ 4096 ∧ -4096 ≤ y ∧ y ≤ 4096 ∧ -4096 ≤ c ∧ c ≤ 4096 ∧ 2 * y + 1 - (2 * x + 1) - 2 * c ≤ 0 ∧ 2 * y - (2 * x) - 2 * c ≤ 0 ∧ 2 * y - (2 * x + 2) - 2 * c ≤ 0) : Cc 50 [.i 4, .i c, .i x, .i y, .i 0] [.i 0, .i 0] := by
  refine q50 rfl ?_; unfold p50
  repeat (first | simp (disch := omega) only [↓qxs, ↓qxc, ↓qxa] | refine p_opt_r (by simp only [pickL, putL, offX, Int.reduceToNat, Int.reduceAdd, Int.reduceMul, Int.reduceMod, Int.reduceSub, Int.reduceNeg, Int.reduceDiv, Nat.reduceAdd, Nat.reduceMul, Nat.reduceLeDiff, List.length_cons, List.length_nil, ↓reduceIte, List.drop_succ_cons, List.drop_zero, List.take_succ_cons, List.take_zero, List.cons_append, List.nil_append, Nat.zero_add, Int.toNat_zero, Nat.zero_mul, Nat.add_zero, Int.zero_add]; exact rfl) ?_ | refine p_callE (lsn4 (by omega)) (fun r hr => ?_) | refine p_loop 5 ?_ | refine p_call (ccorn0 (by omega)) ?_ | refine p_call (lineCheck_ok (by omega)) ?_ | refine p_call (lsp4 (by omega)) ?_)
  (try simp only [List.cons.injEq, Lf.i.injEq, and_true, true_and]); (try omega)
theorem csideh41 {x y c : Int} (h : -4096 ≤ x ∧ x ≤ 4096 ∧ -4096 ≤ y ∧ y ≤ 4096 ∧ -4096 ≤ c ∧ c ≤ 4096 ∧ (2 * y + 1 - (2 * x + 1) - 2 * c > 0 ∨ 2 * y + 2 - (2 * x + 2) - 2 * c > 0 ∨ 2 * y - (2 * x + 2) - 2 * c > 0)) : Cc 50 [.i 4, .i c, .i x, .i y, .i 1] [.i 1, .i 0] := by
  refine q50 rfl ?_; unfold p50
  by_cases h0 : 2 * y + 1 - (2 * x + 1) - 2 * c > 0
  · repeat (first | simp (disch := omega) only [↓qxs, ↓qxc, ↓qxa] | refine p_opt_r (by simp only [pickL, putL, offX, Int.reduceToNat, Int.reduceAdd, Int.reduceMul, Int.reduceMod, Int.reduceSub, Int.reduceNeg, Int.reduceDiv, Nat.reduceAdd, Nat.reduceMul, Nat.reduceLeDiff, List.length_cons, List.length_nil, ↓reduceIte, List.drop_succ_cons, List.drop_zero, List.take_succ_cons, List.take_zero, List.cons_append, List.nil_append, Nat.zero_add, Int.toNat_zero, Nat.zero_mul, Nat.add_zero, Int.zero_add]; exact rfl) ?_ | refine p_callE (lsn4 (by omega)) (fun r hr => ?_) | refine p_loop 5 ?_ | refine p_call (ccorn1 (by omega)) ?_ | refine p_call (lineCheck_ok (by omega)) ?_ | refine p_call (lsp4 (by omega)) ?_); (try simp only [List.cons.injEq, Lf.i.injEq, and_true, true_and]); (try omega)
  by_cases h1 : 2 * y + 2 - (2 * x + 2) - 2 * c > 0
  · repeat (first | simp (disch := omega) only [↓qxs, ↓qxc, ↓qxa] | refine p_opt_r (by simp only [pickL, putL, offX, Int.reduceToNat, Int.reduceAdd, Int.reduceMul, Int.reduceMod, Int.reduceSub, Int.reduceNeg, Int.reduceDiv, Nat.reduceAdd, Nat.reduceMul, Nat.reduceLeDiff, List.length_cons, List.length_nil, ↓reduceIte, List.drop_succ_cons, List.drop_zero, List.take_succ_cons, List.take_zero, List.cons_append, List.nil_append, Nat.zero_add, Int.toNat_zero, Nat.zero_mul, Nat.add_zero, Int.zero_add]; exact rfl) ?_ | refine p_callE (lsn4 (by omega)) (fun r hr => ?_) | refine p_loop 5 ?_ | refine p_call (ccorn1 (by omega)) ?_ | refine p_call (lineCheck_ok (by omega)) ?_ | refine p_call (lsp4 (by omega)) ?_); (try simp only [List.cons.injEq, Lf.i.injEq, and_true, true_and]); (try omega)
  repeat (first | simp (disch := omega) only [↓qxs, ↓qxc, ↓qxa] | refine p_opt_r (by simp only [pickL, putL, offX, Int.reduceToNat, Int.reduceAdd, Int.reduceMul, Int.reduceMod, Int.reduceSub, Int.reduceNeg, Int.reduceDiv, Nat.reduceAdd, Nat.reduceMul, Nat.reduceLeDiff, List.length_cons, List.length_nil, ↓reduceIte, List.drop_succ_cons, List.drop_zero, List.take_succ_cons, List.take_zero, List.cons_append, List.nil_append, Nat.zero_add, Int.toNat_zero, Nat.zero_mul, Nat.add_zero, Int.zero_add]; exact rfl) ?_ | refine p_callE (lsn4 (by omega)) (fun r hr => ?_) | refine p_loop 5 ?_ | refine p_call (ccorn1 (by omega)) ?_ | refine p_call (lineCheck_ok (by omega)) ?_ | refine p_call (lsp4 (by omega)) ?_)
  (try simp only [List.cons.injEq, Lf.i.injEq, and_true, true_and]); (try omega)
theorem csidel41 {x y c : Int} (h : -4096 ≤ x ∧ x ≤ 4096 ∧ -4096 ≤ y ∧ y ≤ 4096 ∧ -4096 ≤ c ∧ c ≤ 4096 ∧ 2 * y + 1 - (2 * x + 1) - 2 * c ≤ 0 ∧ 2 * y + 2 - (2 * x + 2) - 2 * c ≤ 0 ∧ 2 * y - (2 * x + 2) - 2 * c ≤ 0) : Cc 50 [.i 4, .i c, .i x, .i y, .i 1] [.i 0, .i 0] := by
  refine q50 rfl ?_; unfold p50
  repeat (first | simp (disch := omega) only [↓qxs, ↓qxc, ↓qxa] | refine p_opt_r (by simp only [pickL, putL, offX, Int.reduceToNat, Int.reduceAdd, Int.reduceMul, Int.reduceMod, Int.reduceSub, Int.reduceNeg, Int.reduceDiv, Nat.reduceAdd, Nat.reduceMul, Nat.reduceLeDiff, List.length_cons, List.length_nil, ↓reduceIte, List.drop_succ_cons, List.drop_zero, List.take_succ_cons, List.take_zero, List.cons_append, List.nil_append, Nat.zero_add, Int.toNat_zero, Nat.zero_mul, Nat.add_zero, Int.zero_add]; exact rfl) ?_ | refine p_callE (lsn4 (by omega)) (fun r hr => ?_) | refine p_loop 5 ?_ | refine p_call (ccorn1 (by omega)) ?_ | refine p_call (lineCheck_ok (by omega)) ?_ | refine p_call (lsp4 (by omega)) ?_)
  (try simp only [List.cons.injEq, Lf.i.injEq, and_true, true_and]); (try omega)
theorem csideh42 {x y c : Int} (h : -4096 ≤ x ∧ x ≤ 4096 ∧ -4096 ≤ y ∧ y ≤ 4096 ∧ -4096 ≤ c ∧ c ≤ 4096 ∧ (2 * y + 1 - (2 * x + 1) - 2 * c > 0 ∨ 2 * y + 2 - (2 * x + 2) - 2 * c > 0 ∨ 2 * y + 2 - (2 * x) - 2 * c > 0)) : Cc 50 [.i 4, .i c, .i x, .i y, .i 2] [.i 1, .i 0] := by
  refine q50 rfl ?_; unfold p50
  by_cases h0 : 2 * y + 1 - (2 * x + 1) - 2 * c > 0
  · repeat (first | simp (disch := omega) only [↓qxs, ↓qxc, ↓qxa] | refine p_opt_r (by simp only [pickL, putL, offX, Int.reduceToNat, Int.reduceAdd, Int.reduceMul, Int.reduceMod, Int.reduceSub, Int.reduceNeg, Int.reduceDiv, Nat.reduceAdd, Nat.reduceMul, Nat.reduceLeDiff, List.length_cons, List.length_nil, ↓reduceIte, List.drop_succ_cons, List.drop_zero, List.take_succ_cons, List.take_zero, List.cons_append, List.nil_append, Nat.zero_add, Int.toNat_zero, Nat.zero_mul, Nat.add_zero, Int.zero_add]; exact rfl) ?_ | refine p_callE (lsn4 (by omega)) (fun r hr => ?_) | refine p_loop 5 ?_ | refine p_call (ccorn2 (by omega)) ?_ | refine p_call (lineCheck_ok (by omega)) ?_ | refine p_call (lsp4 (by omega)) ?_); (try simp only [List.cons.injEq, Lf.i.injEq, and_true, true_and]); (try omega)
  by_cases h1 : 2 * y + 2 - (2 * x + 2) - 2 * c > 0
  · repeat (first | simp (disch := omega) only [↓qxs, ↓qxc, ↓qxa] | refine p_opt_r (by simp only [pickL, putL, offX, Int.reduceToNat, Int.reduceAdd, Int.reduceMul, Int.reduceMod, Int.reduceSub, Int.reduceNeg, Int.reduceDiv, Nat.reduceAdd, Nat.reduceMul, Nat.reduceLeDiff, List.length_cons, List.length_nil, ↓reduceIte, List.drop_succ_cons, List.drop_zero, List.take_succ_cons, List.take_zero, List.cons_append, List.nil_append, Nat.zero_add, Int.toNat_zero, Nat.zero_mul, Nat.add_zero, Int.zero_add]; exact rfl) ?_ | refine p_callE (lsn4 (by omega)) (fun r hr => ?_) | refine p_loop 5 ?_ | refine p_call (ccorn2 (by omega)) ?_ | refine p_call (lineCheck_ok (by omega)) ?_ | refine p_call (lsp4 (by omega)) ?_); (try simp only [List.cons.injEq, Lf.i.injEq, and_true, true_and]); (try omega)
  repeat (first | simp (disch := omega) only [↓qxs, ↓qxc, ↓qxa] | refine p_opt_r (by simp only [pickL, putL, offX, Int.reduceToNat, Int.reduceAdd, Int.reduceMul, Int.reduceMod, Int.reduceSub, Int.reduceNeg, Int.reduceDiv, Nat.reduceAdd, Nat.reduceMul, Nat.reduceLeDiff, List.length_cons, List.length_nil, ↓reduceIte, List.drop_succ_cons, List.drop_zero, List.take_succ_cons, List.take_zero, List.cons_append, List.nil_append, Nat.zero_add, Int.toNat_zero, Nat.zero_mul, Nat.add_zero, Int.zero_add]; exact rfl) ?_ | refine p_callE (lsn4 (by omega)) (fun r hr => ?_) | refine p_loop 5 ?_ | refine p_call (ccorn2 (by omega)) ?_ | refine p_call (lineCheck_ok (by omega)) ?_ | refine p_call (lsp4 (by omega)) ?_)
  (try simp only [List.cons.injEq, Lf.i.injEq, and_true, true_and]); (try omega)
theorem csidel42 {x y c : Int} (h : -4096 ≤ x ∧ x ≤ 4096 ∧ -4096 ≤ y ∧ y ≤ 4096 ∧ -4096 ≤ c ∧ c ≤ 4096 ∧ 2 * y + 1 - (2 * x + 1) - 2 * c ≤ 0 ∧ 2 * y + 2 - (2 * x + 2) - 2 * c ≤ 0 ∧ 2 * y + 2 - (2 * x) - 2 * c ≤ 0) : Cc 50 [.i 4, .i c, .i x, .i y, .i 2] [.i 0, .i 0] := by
  refine q50 rfl ?_; unfold p50
  repeat (first | simp (disch := omega) only [↓qxs, ↓qxc, ↓qxa] | refine p_opt_r (by simp only [pickL, putL, offX, Int.reduceToNat, Int.reduceAdd, Int.reduceMul, Int.reduceMod, Int.reduceSub, Int.reduceNeg, Int.reduceDiv, Nat.reduceAdd, Nat.reduceMul, Nat.reduceLeDiff, List.length_cons, List.length_nil, ↓reduceIte, List.drop_succ_cons, List.drop_zero, List.take_succ_cons, List.take_zero, List.cons_append, List.nil_append, Nat.zero_add, Int.toNat_zero, Nat.zero_mul, Nat.add_zero, Int.zero_add]; exact rfl) ?_ | refine p_callE (lsn4 (by omega)) (fun r hr => ?_) | refine p_loop 5 ?_ | refine p_call (ccorn2 (by omega)) ?_ | refine p_call (lineCheck_ok (by omega)) ?_ | refine p_call (lsp4 (by omega)) ?_)
  (try simp only [List.cons.injEq, Lf.i.injEq, and_true, true_and]); (try omega)
theorem csideh43 {x y c : Int} (h : -4096 ≤ x ∧ x ≤ 4096 ∧ -4096 ≤ y ∧ y ≤ 4096 ∧ -4096 ≤ c ∧ c ≤ 4096 ∧ (2 * y + 1 - (2 * x + 1) - 2 * c > 0 ∨ 2 * y - (2 * x) - 2 * c > 0 ∨ 2 * y + 2 - (2 * x) - 2 * c > 0)) : Cc 50 [.i 4, .i c, .i x, .i y, .i 3] [.i 1, .i 0] := by
  refine q50 rfl ?_; unfold p50
  by_cases h0 : 2 * y + 1 - (2 * x + 1) - 2 * c > 0
  · repeat (first | simp (disch := omega) only [↓qxs, ↓qxc, ↓qxa] | refine p_opt_r (by simp only [pickL, putL, offX, Int.reduceToNat, Int.reduceAdd, Int.reduceMul, Int.reduceMod, Int.reduceSub, Int.reduceNeg, Int.reduceDiv, Nat.reduceAdd, Nat.reduceMul, Nat.reduceLeDiff, List.length_cons, List.length_nil, ↓reduceIte, List.drop_succ_cons, List.drop_zero, List.take_succ_cons, List.take_zero, List.cons_append, List.nil_append, Nat.zero_add, Int.toNat_zero, Nat.zero_mul, Nat.add_zero, Int.zero_add]; exact rfl) ?_ | refine p_callE (lsn4 (by omega)) (fun r hr => ?_) | refine p_loop 5 ?_ | refine p_call (ccorn3 (by omega)) ?_ | refine p_call (lineCheck_ok (by omega)) ?_ | refine p_call (lsp4 (by omega)) ?_); (try simp only [List.cons.injEq, Lf.i.injEq, and_true, true_and]); (try omega)
  by_cases h1 : 2 * y - (2 * x) - 2 * c > 0
  · repeat (first | simp (disch := omega) only [↓qxs, ↓qxc, ↓qxa] | refine p_opt_r (by simp only [pickL, putL, offX, Int.reduceToNat, Int.reduceAdd, Int.reduceMul, Int.reduceMod, Int.reduceSub, Int.reduceNeg, Int.reduceDiv, Nat.reduceAdd, Nat.reduceMul, Nat.reduceLeDiff, List.length_cons, List.length_nil, ↓reduceIte, List.drop_succ_cons, List.drop_zero, List.take_succ_cons, List.take_zero, List.cons_append, List.nil_append, Nat.zero_add, Int.toNat_zero, Nat.zero_mul, Nat.add_zero, Int.zero_add]; exact rfl) ?_ | refine p_callE (lsn4 (by omega)) (fun r hr => ?_) | refine p_loop 5 ?_ | refine p_call (ccorn3 (by omega)) ?_ | refine p_call (lineCheck_ok (by omega)) ?_ | refine p_call (lsp4 (by omega)) ?_); (try simp only [List.cons.injEq, Lf.i.injEq, and_true, true_and]); (try omega)
  repeat (first | simp (disch := omega) only [↓qxs, ↓qxc, ↓qxa] | refine p_opt_r (by simp only [pickL, putL, offX, Int.reduceToNat, Int.reduceAdd, Int.reduceMul, Int.reduceMod, Int.reduceSub, Int.reduceNeg, Int.reduceDiv, Nat.reduceAdd, Nat.reduceMul, Nat.reduceLeDiff, List.length_cons, List.length_nil, ↓reduceIte, List.drop_succ_cons, List.drop_zero, List.take_succ_cons, List.take_zero, List.cons_append, List.nil_append, Nat.zero_add, Int.toNat_zero, Nat.zero_mul, Nat.add_zero, Int.zero_add]; exact rfl) ?_ | refine p_callE (lsn4 (by omega)) (fun r hr => ?_) | refine p_loop 5 ?_ | refine p_call (ccorn3 (by omega)) ?_ | refine p_call (lineCheck_ok (by omega)) ?_ | refine p_call (lsp4 (by omega)) ?_)
  (try simp only [List.cons.injEq, Lf.i.injEq, and_true, true_and]); (try omega)
theorem csidel43 {x y c : Int} (h : -4096 ≤ x ∧ x ≤ 4096 ∧ -4096 ≤ y ∧ y ≤ 4096 ∧ -4096 ≤ c ∧ c ≤ 4096 ∧ 2 * y + 1 - (2 * x + 1) - 2 * c ≤ 0 ∧ 2 * y - (2 * x) - 2 * c ≤ 0 ∧ 2 * y + 2 - (2 * x) - 2 * c ≤ 0) : Cc 50 [.i 4, .i c, .i x, .i y, .i 3] [.i 0, .i 0] := by
  refine q50 rfl ?_; unfold p50
  repeat (first | simp (disch := omega) only [↓qxs, ↓qxc, ↓qxa] | refine p_opt_r (by simp only [pickL, putL, offX, Int.reduceToNat, Int.reduceAdd, Int.reduceMul, Int.reduceMod, Int.reduceSub, Int.reduceNeg, Int.reduceDiv, Nat.reduceAdd, Nat.reduceMul, Nat.reduceLeDiff, List.length_cons, List.length_nil, ↓reduceIte, List.drop_succ_cons, List.drop_zero, List.take_succ_cons, List.take_zero, List.cons_append, List.nil_append, Nat.zero_add, Int.toNat_zero, Nat.zero_mul, Nat.add_zero, Int.zero_add]; exact rfl) ?_ | refine p_callE (lsn4 (by omega)) (fun r hr => ?_) | refine p_loop 5 ?_ | refine p_call (ccorn3 (by omega)) ?_ | refine p_call (lineCheck_ok (by omega)) ?_ | refine p_call (lsp4 (by omega)) ?_)
  (try simp only [List.cons.injEq, Lf.i.injEq, and_true, true_and]); (try omega)
end Go.Am
/-
  THE TABLE OF RUNS, BY PROGRAM.
-/
set_option maxRecDepth 100000
namespace Go.Am
open Sx
abbrev FB := List Lf → HL → (List Lf → HL → Bool) → Bool
def nf : FB := fun _ _ _ => false
noncomputable def tabB (A : Alg Bool HL) : Tr FB := (.node nf (.node nf (.node nf (.node nf (.node nf (.node nf .leaf (.node (f95 A) .leaf .leaf)) (.node (f47 A) (.node (f79 A) .leaf .leaf) .leaf)) (.node nf (.node nf .leaf (.node (f103 A) .leaf .leaf)) (.node (f55 A) .leaf .leaf))) (.node nf (.node nf (.node nf .leaf (.node (f99 A) .leaf .leaf)) (.node nf (.node (f83 A) .leaf .leaf) .leaf)) (.node nf (.node (f43 A) (.node (f75 A) .leaf .leaf) .leaf) (.node nf (.node (f91 A) .leaf .leaf) .leaf)))) (.node nf (.node nf (.node nf (.node nf .leaf (.node (f97 A) .leaf .leaf)) .leaf) (.node nf (.node (f41 A) .leaf (.node (f105 A) .leaf .leaf)) .leaf)) (.node nf (.node nf (.node nf .leaf (.node (f101 A) .leaf .leaf)) (.node nf (.node (f85 A) .leaf .leaf) .leaf)) .leaf))) (.node nf (.node nf (.node nf (.node nf (.node nf .leaf (.node (f96 A) .leaf .leaf)) (.node (f48 A) (.node (f80 A) .leaf .leaf) .leaf)) (.node nf (.node (f40 A) .leaf (.node (f104 A) .leaf .leaf)) .leaf)) (.node nf (.node nf (.node nf .leaf (.node (f100 A) .leaf .leaf)) (.node (f52 A) .leaf .leaf)) (.node nf (.node (f44 A) .leaf .leaf) (.node nf (.node (f92 A) .leaf .leaf) .leaf)))) (.node nf (.node nf (.node nf (.node nf (.node (f66 A) .leaf .leaf) (.node (f98 A) .leaf .leaf)) (.node (f50 A) (.node (f82 A) .leaf .leaf) .leaf)) (.node nf (.node nf (.node (f74 A) .leaf .leaf) (.node (f106 A) .leaf .leaf)) (.node nf (.node (f90 A) .leaf .leaf) .leaf))) (.node nf (.node nf (.node nf .leaf (.node (f102 A) .leaf .leaf)) .leaf) (.node nf (.node nf (.node (f78 A) .leaf .leaf) .leaf) (.node nf (.node (f94 A) .leaf .leaf) .leaf))))))
/-- Closed functions whose answer is known. -/
def knB (kn : List (FuncId × Bool)) (f : FuncId) : Option Bool := match kn with
  | [] => none
  | p :: l => match Nat.beq p.1 f with
    | true => some p.2
    | false => knB l f
noncomputable def tabT (kn : List (FuncId × Bool)) (A : Alg Bool HL) (k : CK) : FB := match k with
  | .f f => match knB kn f with
    | some t => fun ls h K => match ls with
      | [] => K [.b t] h
      | _ => false
    | none => match Nat.blt f 107 with
      | true => (pathOf f).get nf (tabB A)
      | false => nf
  | .y κ vs l => fun ls h K => execY A (xc 0) sgTab drN (siteTab κ) vs l ls h K
noncomputable abbrev runR (kn : List (FuncId × Bool)) (n : Nat) : CallB := Sx.runT sgTab siteTab (tabT kn) n
def isT (l : List Lf) (_ : HL) : Bool := match l with | [.b t] => t | _ => false
section
variable [Val] [Kno]
def TabP (k : Nat) : Prop := ∀ A ls h K, (pathOf k).get nf (tabB A) ls h K = true → ∃ fn, FnIs (xc k) sgTab k fn ∧ execF A (xc k) sgTab drN fn ls h K = true
theorem TabP.of {k : Nat} {g : Alg Bool HL → FB} {fn : Fn1} (h1 : (fun A : Alg Bool HL => (pathOf k).get nf (tabB A)) = g) (h2 : g = fun A ls h K => execF A (xc k) sgTab drN fn ls h K) (h3 : FnIs (xc k) sgTab k fn) : TabP k := by
  intro A ls h K hk
  refine ⟨fn, h3, ?_⟩
  have := congrFun (h1.trans h2) A
  rw [this] at hk
  exact hk
theorem TabP.no {k : Nat} (h1 : (fun A : Alg Bool HL => (pathOf k).get nf (tabB A)) = fun _ => nf) : TabP k := by
  intro A ls h K hk
  have := congrFun h1 A
  rw [this] at hk
  cases hk

theorem t0 : TabP 0 := .no (by kernel_rfl)
theorem t1 : TabP 1 := .no (by kernel_rfl)
theorem t2 : TabP 2 := .no (by kernel_rfl)
theorem t3 : TabP 3 := .no (by kernel_rfl)
theorem t4 : TabP 4 := .no (by kernel_rfl)
theorem t5 : TabP 5 := .no (by kernel_rfl)
theorem t6 : TabP 6 := .no (by kernel_rfl)
theorem t7 : TabP 7 := .no (by kernel_rfl)
theorem t8 : TabP 8 := .no (by kernel_rfl)
theorem t9 : TabP 9 := .no (by kernel_rfl)
theorem t10 : TabP 10 := .no (by kernel_rfl)
theorem t11 : TabP 11 := .no (by kernel_rfl)
theorem t12 : TabP 12 := .no (by kernel_rfl)
theorem t13 : TabP 13 := .no (by kernel_rfl)
theorem t14 : TabP 14 := .no (by kernel_rfl)
theorem t15 : TabP 15 := .no (by kernel_rfl)
theorem t16 : TabP 16 := .no (by kernel_rfl)
theorem t17 : TabP 17 := .no (by kernel_rfl)
theorem t18 : TabP 18 := .no (by kernel_rfl)
theorem t19 : TabP 19 := .no (by kernel_rfl)
theorem t20 : TabP 20 := .no (by kernel_rfl)
theorem t21 : TabP 21 := .no (by kernel_rfl)
theorem t22 : TabP 22 := .no (by kernel_rfl)
theorem t23 : TabP 23 := .no (by kernel_rfl)
theorem t24 : TabP 24 := .no (by kernel_rfl)
theorem t25 : TabP 25 := .no (by kernel_rfl)
theorem t26 : TabP 26 := .no (by kernel_rfl)
theorem t27 : TabP 27 := .no (by kernel_rfl)
theorem t28 : TabP 28 := .no (by kernel_rfl)
theorem t29 : TabP 29 := .no (by kernel_rfl)
theorem t30 : TabP 30 := .no (by kernel_rfl)
theorem t31 : TabP 31 := .no (by kernel_rfl)
theorem t32 : TabP 32 := .no (by kernel_rfl)
theorem t33 : TabP 33 := .no (by kernel_rfl)
theorem t34 : TabP 34 := .no (by kernel_rfl)
theorem t35 : TabP 35 := .no (by kernel_rfl)
theorem t36 : TabP 36 := .no (by kernel_rfl)
theorem t37 : TabP 37 := .no (by kernel_rfl)
theorem t38 : TabP 38 := .no (by kernel_rfl)
theorem t39 : TabP 39 := .no (by kernel_rfl)
theorem t40 : TabP 40 := .of (g := fun A => f40 A) (by kernel_rfl) (congrFun (congrFun e40 Bool) HL) i40
theorem t41 : TabP 41 := .of (g := fun A => f41 A) (by kernel_rfl) (congrFun (congrFun e41 Bool) HL) i41
theorem t42 : TabP 42 := .no (by kernel_rfl)
theorem t43 : TabP 43 := .of (g := fun A => f43 A) (by kernel_rfl) (congrFun (congrFun e43 Bool) HL) i43
theorem t44 : TabP 44 := .of (g := fun A => f44 A) (by kernel_rfl) (congrFun (congrFun e44 Bool) HL) i44
theorem t45 : TabP 45 := .no (by kernel_rfl)
theorem t46 : TabP 46 := .no (by kernel_rfl)
theorem t47 : TabP 47 := .of (g := fun A => f47 A) (by kernel_rfl) (congrFun (congrFun e47 Bool) HL) i47
theorem t48 : TabP 48 := .of (g := fun A => f48 A) (by kernel_rfl) (congrFun (congrFun e48 Bool) HL) i48
theorem t49 : TabP 49 := .no (by kernel_rfl)
theorem t50 : TabP 50 := .of (g := fun A => f50 A) (by kernel_rfl) (congrFun (congrFun e50 Bool) HL) i50
theorem t51 : TabP 51 := .no (by kernel_rfl)
theorem t52 : TabP 52 := .of (g := fun A => f52 A) (by kernel_rfl) (congrFun (congrFun e52 Bool) HL) i52
theorem t53 : TabP 53 := .no (by kernel_rfl)
theorem t54 : TabP 54 := .no (by kernel_rfl)
theorem t55 : TabP 55 := .of (g := fun A => f55 A) (by kernel_rfl) (congrFun (congrFun e55 Bool) HL) i55
theorem t56 : TabP 56 := .no (by kernel_rfl)
theorem t57 : TabP 57 := .no (by kernel_rfl)
theorem t58 : TabP 58 := .no (by kernel_rfl)
theorem t59 : TabP 59 := .no (by kernel_rfl)
theorem t60 : TabP 60 := .no (by kernel_rfl)
theorem t61 : TabP 61 := .no (by kernel_rfl)
theorem t62 : TabP 62 := .no (by kernel_rfl)
theorem t63 : TabP 63 := .no (by kernel_rfl)
theorem t64 : TabP 64 := .no (by kernel_rfl)
theorem t65 : TabP 65 := .no (by kernel_rfl)
theorem t66 : TabP 66 := .of (g := fun A => f66 A) (by kernel_rfl) (congrFun (congrFun e66 Bool) HL) i66
theorem t67 : TabP 67 := .no (by kernel_rfl)
theorem t68 : TabP 68 := .no (by kernel_rfl)
theorem t69 : TabP 69 := .no (by kernel_rfl)
theorem t70 : TabP 70 := .no (by kernel_rfl)
theorem t71 : TabP 71 := .no (by kernel_rfl)
theorem t72 : TabP 72 := .no (by kernel_rfl)
theorem t73 : TabP 73 := .no (by kernel_rfl)
theorem t74 : TabP 74 := .of (g := fun A => f74 A) (by kernel_rfl) (congrFun (congrFun e74 Bool) HL) i74
theorem t75 : TabP 75 := .of (g := fun A => f75 A) (by kernel_rfl) (congrFun (congrFun e75 Bool) HL) i75
theorem t76 : TabP 76 := .no (by kernel_rfl)
theorem t77 : TabP 77 := .no (by kernel_rfl)
theorem t78 : TabP 78 := .of (g := fun A => f78 A) (by kernel_rfl) (congrFun (congrFun e78 Bool) HL) i78
theorem t79 : TabP 79 := .of (g := fun A => f79 A) (by kernel_rfl) (congrFun (congrFun e79 Bool) HL) i79
theorem t80 : TabP 80 := .of (g := fun A => f80 A) (by kernel_rfl) (congrFun (congrFun e80 Bool) HL) i80
theorem t81 : TabP 81 := .no (by kernel_rfl)
theorem t82 : TabP 82 := .of (g := fun A => f82 A) (by kernel_rfl) (congrFun (congrFun e82 Bool) HL) i82
theorem t83 : TabP 83 := .of (g := fun A => f83 A) (by kernel_rfl) (congrFun (congrFun e83 Bool) HL) i83
theorem t84 : TabP 84 := .no (by kernel_rfl)
theorem t85 : TabP 85 := .of (g := fun A => f85 A) (by kernel_rfl) (congrFun (congrFun e85 Bool) HL) i85
theorem t86 : TabP 86 := .no (by kernel_rfl)
theorem t87 : TabP 87 := .no (by kernel_rfl)
theorem t88 : TabP 88 := .no (by kernel_rfl)
theorem t89 : TabP 89 := .no (by kernel_rfl)
theorem t90 : TabP 90 := .of (g := fun A => f90 A) (by kernel_rfl) (congrFun (congrFun e90 Bool) HL) i90
theorem t91 : TabP 91 := .of (g := fun A => f91 A) (by kernel_rfl) (congrFun (congrFun e91 Bool) HL) i91
theorem t92 : TabP 92 := .of (g := fun A => f92 A) (by kernel_rfl) (congrFun (congrFun e92 Bool) HL) i92
theorem t93 : TabP 93 := .no (by kernel_rfl)
theorem t94 : TabP 94 := .of (g := fun A => f94 A) (by kernel_rfl) (congrFun (congrFun e94 Bool) HL) i94
theorem t95 : TabP 95 := .of (g := fun A => f95 A) (by kernel_rfl) (congrFun (congrFun e95 Bool) HL) i95
theorem t96 : TabP 96 := .of (g := fun A => f96 A) (by kernel_rfl) (congrFun (congrFun e96 Bool) HL) i96
theorem t97 : TabP 97 := .of (g := fun A => f97 A) (by kernel_rfl) (congrFun (congrFun e97 Bool) HL) i97
theorem t98 : TabP 98 := .of (g := fun A => f98 A) (by kernel_rfl) (congrFun (congrFun e98 Bool) HL) i98
theorem t99 : TabP 99 := .of (g := fun A => f99 A) (by kernel_rfl) (congrFun (congrFun e99 Bool) HL) i99
theorem t100 : TabP 100 := .of (g := fun A => f100 A) (by kernel_rfl) (congrFun (congrFun e100 Bool) HL) i100
theorem t101 : TabP 101 := .of (g := fun A => f101 A) (by kernel_rfl) (congrFun (congrFun e101 Bool) HL) i101
theorem t102 : TabP 102 := .of (g := fun A => f102 A) (by kernel_rfl) (congrFun (congrFun e102 Bool) HL) i102
theorem t103 : TabP 103 := .of (g := fun A => f103 A) (by kernel_rfl) (congrFun (congrFun e103 Bool) HL) i103
theorem t104 : TabP 104 := .of (g := fun A => f104 A) (by kernel_rfl) (congrFun (congrFun e104 Bool) HL) i104
theorem t105 : TabP 105 := .of (g := fun A => f105 A) (by kernel_rfl) (congrFun (congrFun e105 Bool) HL) i105
theorem t106 : TabP 106 := .of (g := fun A => f106 A) (by kernel_rfl) (congrFun (congrFun e106 Bool) HL) i106
theorem tabAll : ∀ f, Nat.blt f 107 = true → TabP f
  | 0, _ => t0
  | 1, _ => t1
  | 2, _ => t2
  | 3, _ => t3
  | 4, _ => t4
  | 5, _ => t5
  | 6, _ => t6
  | 7, _ => t7
  | 8, _ => t8
  | 9, _ => t9
  | 10, _ => t10
  | 11, _ => t11
  | 12, _ => t12
  | 13, _ => t13
  | 14, _ => t14
  | 15, _ => t15
  | 16, _ => t16
  | 17, _ => t17
  | 18, _ => t18
  | 19, _ => t19
  | 20, _ => t20
  | 21, _ => t21
  | 22, _ => t22
  | 23, _ => t23
  | 24, _ => t24
  | 25, _ => t25
  | 26, _ => t26
  | 27, _ => t27
  | 28, _ => t28
  | 29, _ => t29
  | 30, _ => t30
  | 31, _ => t31
  | 32, _ => t32
  | 33, _ => t33
  | 34, _ => t34
  | 35, _ => t35
  | 36, _ => t36
  | 37, _ => t37
  | 38, _ => t38
  | 39, _ => t39
  | 40, _ => t40
  | 41, _ => t41
  | 42, _ => t42
  | 43, _ => t43
  | 44, _ => t44
  | 45, _ => t45
  | 46, _ => t46
  | 47, _ => t47
  | 48, _ => t48
  | 49, _ => t49
  | 50, _ => t50
  | 51, _ => t51
  | 52, _ => t52
  | 53, _ => t53
  | 54, _ => t54
  | 55, _ => t55
  | 56, _ => t56
  | 57, _ => t57
  | 58, _ => t58
  | 59, _ => t59
  | 60, _ => t60
  | 61, _ => t61
  | 62, _ => t62
  | 63, _ => t63
  | 64, _ => t64
  | 65, _ => t65
  | 66, _ => t66
  | 67, _ => t67
  | 68, _ => t68
  | 69, _ => t69
  | 70, _ => t70
  | 71, _ => t71
  | 72, _ => t72
  | 73, _ => t73
  | 74, _ => t74
  | 75, _ => t75
  | 76, _ => t76
  | 77, _ => t77
  | 78, _ => t78
  | 79, _ => t79
  | 80, _ => t80
  | 81, _ => t81
  | 82, _ => t82
  | 83, _ => t83
  | 84, _ => t84
  | 85, _ => t85
  | 86, _ => t86
  | 87, _ => t87
  | 88, _ => t88
  | 89, _ => t89
  | 90, _ => t90
  | 91, _ => t91
  | 92, _ => t92
  | 93, _ => t93
  | 94, _ => t94
  | 95, _ => t95
  | 96, _ => t96
  | 97, _ => t97
  | 98, _ => t98
  | 99, _ => t99
  | 100, _ => t100
  | 101, _ => t101
  | 102, _ => t102
  | 103, _ => t103
  | 104, _ => t104
  | 105, _ => t105
  | 106, _ => t106
  | n + 107, h => by rw [Nat.blt_eq] at h; omega
theorem knB_mem {f : FuncId} {t : Bool} : ∀ {l : List (FuncId × Bool)}, knB l f = some t → (f, t) ∈ l
  | p :: l, h => by
    unfold knB at h
    split at h
    · rename_i e
      cases h
      have := Nat.eq_of_beq_eq_true e
      subst this
      exact List.mem_cons_self
    · exact List.mem_cons_of_mem _ (knB_mem h)
theorem run_ok (kn : List (FuncId × Bool)) (hkn : ∀ p ∈ kn, sgTab p.1 = some ⟨[], [lb]⟩ ∧ Kno.kn p.1 [] (.bool p.2)) (n : Nat) : CallBOk cc sgTab siteTab (runR kn n) :=
  Sx.runT_ok (tab := tabT kn) (T := siteTab) (X := xc) (dr := drN) (fun pts ops h n σ σ' hx => dr_ok neuN_ok pts ops h n σ σ' hx) (fun _ => ⟨rfl, rfl⟩) (fun A f ls h K hk => by
    simp only [tabT] at hk
    cases e0 : knB kn f with
    | some t =>
      rw [e0] at hk
      match ls, hk with
      | [], hk =>
        obtain ⟨h1, h2⟩ := hkn _ (knB_mem e0)
        exact .inr ⟨[.b t], fun H => ⟨⟨[], [lb]⟩, [], [.leaf (.b t)], h1, ⟨rfl, rfl, fun _ h => by cases h⟩, ⟨rfl, rfl, fun x hx => by
          simp only [List.mem_singleton] at hx
          subst hx
          intro y hy
          simp only [S0.cells, List.mem_singleton] at hy
          subst hy; trivial⟩, call_known h2 H⟩, hk⟩
    | none =>
      rw [e0] at hk
      cases e : Nat.blt f 107 with
      | true => rw [e] at hk; exact .inl (tabAll f e A ls h K hk)
      | false => rw [e] at hk; cases hk) (fun A κ vs l ls h K hk => ⟨0, hk⟩) n
end
end Go.Am

/-
  CLOSED FUNCTIONS THAT THE KERNEL RUNS: their contracts.
-/
set_option maxRecDepth 100000
namespace Go.Am
open Sx Go.Proofs

/-- A closed function that a run shows to say true. -/
theorem ran {g : FuncId} {n : Nat} (hs : sgTab g = some ⟨[], [lb]⟩) (h : runR [] n (.f g) [] [] isT = true) : Cc g [] [.b true] := by
  obtain ⟨H', h1⟩ := closed_true (run_ok [] (fun _ h => by cases h) n) hs h
  intro H
  refine ⟨⟨[], [lb]⟩, [], [.leaf (.b true)], hs, ⟨rfl, rfl, fun _ h => by cases h⟩, ⟨rfl, rfl, fun x hx => ?_⟩, ⟨0, fun H => frame_ok gl_flat (uCallC_ok mixed h1) rfl rfl H, rfl⟩⟩
  simp only [List.mem_singleton] at hx
  subst hx
  intro y hy
  simp only [S0.cells, List.mem_singleton] at hy
  subst hy; trivial
end Go.Am

/-
  The examples of chapter 3.
-/
set_option maxRecDepth 100000
namespace Go.Am
open Sx Go.Proofs
theorem lives : Cc 44 [] [.b true] := ran (n := 60) rfl (by kernel_rfl)
end Go.Am

/-
  RULES ON TRUTH VALUES.
-/
namespace Go.Am
open Sx Go.Proofs
theorem b_tt {l : List (Lf × Lf)} {K : Bool → Prop} : P1.eqs ((.b true, .b true) :: l) (@hid _ ⟨K⟩) = P1.eqs l (@hid _ ⟨K⟩) := rfl
theorem b_ff {l : List (Lf × Lf)} {K : Bool → Prop} : P1.eqs ((.b false, .b false) :: l) (@hid _ ⟨K⟩) = P1.eqs l (@hid _ ⟨K⟩) := rfl
theorem b_nt {X Y : Prop} : P1.cond (!true) X (@hid _ ⟨Y⟩) = Y := b_cond_f
theorem b_nf {X Y : Prop} : P1.cond (!false) (@hid _ ⟨X⟩) Y = X := b_cond_t
/-- These, in one. -/
def qxb := And.intro @b_tt (And.intro @b_ff (And.intro @b_nt @b_nf))
end Go.Am

/-
  CONTRACTS, BY PROGRAM: CellsNeighbour, by quarter.
-/
set_option maxRecDepth 100000
set_option maxHeartbeats 4000000
namespace Go.Am
open Sx Go.Proofs

theorem cellsNb0g0 {x y u v e : Int} (h : -4096 ≤ x ∧ x ≤ 4096 ∧ -4096 ≤ y ∧ y ≤ 4096 ∧ -9223372036854775808 ≤ u ∧ u ≤ 9223372036854775807 ∧ -9223372036854775808 ≤ v ∧ v ≤ 9223372036854775807 ∧ 2 < e ∧ e ≤ 255 ∧ -4096 ≤ u ∧ u ≤ 4096 ∧ -4096 ≤ v ∧ v ≤ 4096 ∧ u = x ∧ v = y - 1) : Cc 10 [.i x, .i y, .i 0, .i e, .i u, .i v, .i 2] [.b true] := by
  refine q10 rfl ?_; unfold p10
  first | (exfalso; omega) | (repeat (first | simp (disch := omega) only [↓qxs, ↓qxc, ↓qxa, ↓qxb] | refine p_loop 5 ?_ | refine p_call (cnb_no (by omega)) ?_ | refine p_call (touch00 (by omega)) ?_ | refine p_call (touch01 (by omega)) ?_ | refine p_call (touch02 (by omega)) ?_ | refine p_call (touchn0 (by omega)) ?_ | refine p_call (touch_no2 (by omega)) ?_ | refine p_call (v3_ok (by omega)) ?_ | refine p_call (v3_no (by omega)) ?_ | refine p_call (rnb00 (by omega)) ?_ | refine p_call (rnb01 (by omega)) ?_ | refine p_call (rnb02 (by omega)) ?_ | refine p_call lives ?_ | refine p_call (v3_ok (by omega)) ?_ | refine p_call (v3_no (by omega)) ?_ | refine p_call (cellCheck_ok (by omega)) ?_ | refine p_call (cellCheck_no (by omega)) ?_))
theorem cellsNb0g1 {x y u v e : Int} (h : -4096 ≤ x ∧ x ≤ 4096 ∧ -4096 ≤ y ∧ y ≤ 4096 ∧ -9223372036854775808 ≤ u ∧ u ≤ 9223372036854775807 ∧ -9223372036854775808 ≤ v ∧ v ≤ 9223372036854775807 ∧ 2 < e ∧ e ≤ 255 ∧ -4096 ≤ u ∧ u ≤ 4096 ∧ -4096 ≤ v ∧ v ≤ 4096 ∧ u = x ∧ v = y) : Cc 10 [.i x, .i y, .i 0, .i e, .i u, .i v, .i 1] [.b true] := by
  refine q10 rfl ?_; unfold p10
  first | (exfalso; omega) | (repeat (first | simp (disch := omega) only [↓qxs, ↓qxc, ↓qxa, ↓qxb] | refine p_loop 5 ?_ | refine p_call (cnb_no (by omega)) ?_ | refine p_call (touch00 (by omega)) ?_ | refine p_call (touch01 (by omega)) ?_ | refine p_call (touch02 (by omega)) ?_ | refine p_call (touchn0 (by omega)) ?_ | refine p_call (touch_no2 (by omega)) ?_ | refine p_call (v3_ok (by omega)) ?_ | refine p_call (v3_no (by omega)) ?_ | refine p_call (rnb00 (by omega)) ?_ | refine p_call (rnb01 (by omega)) ?_ | refine p_call (rnb02 (by omega)) ?_ | refine p_call lives ?_ | refine p_call (v3_ok (by omega)) ?_ | refine p_call (v3_no (by omega)) ?_ | refine p_call (cellCheck_ok (by omega)) ?_ | refine p_call (cellCheck_no (by omega)) ?_))
theorem cellsNb0g2 {x y u v e : Int} (h : -4096 ≤ x ∧ x ≤ 4096 ∧ -4096 ≤ y ∧ y ≤ 4096 ∧ -9223372036854775808 ≤ u ∧ u ≤ 9223372036854775807 ∧ -9223372036854775808 ≤ v ∧ v ≤ 9223372036854775807 ∧ 2 < e ∧ e ≤ 255 ∧ -4096 ≤ u ∧ u ≤ 4096 ∧ -4096 ≤ v ∧ v ≤ 4096 ∧ u = x ∧ v = y) : Cc 10 [.i x, .i y, .i 0, .i e, .i u, .i v, .i 3] [.b true] := by
  refine q10 rfl ?_; unfold p10
  first | (exfalso; omega) | (repeat (first | simp (disch := omega) only [↓qxs, ↓qxc, ↓qxa, ↓qxb] | refine p_loop 5 ?_ | refine p_call (cnb_no (by omega)) ?_ | refine p_call (touch00 (by omega)) ?_ | refine p_call (touch01 (by omega)) ?_ | refine p_call (touch02 (by omega)) ?_ | refine p_call (touchn0 (by omega)) ?_ | refine p_call (touch_no2 (by omega)) ?_ | refine p_call (v3_ok (by omega)) ?_ | refine p_call (v3_no (by omega)) ?_ | refine p_call (rnb00 (by omega)) ?_ | refine p_call (rnb01 (by omega)) ?_ | refine p_call (rnb02 (by omega)) ?_ | refine p_call lives ?_ | refine p_call (v3_ok (by omega)) ?_ | refine p_call (v3_no (by omega)) ?_ | refine p_call (cellCheck_ok (by omega)) ?_ | refine p_call (cellCheck_no (by omega)) ?_))
theorem cellsNb0g3 {x y u v r e : Int} (h : -4096 ≤ x ∧ x ≤ 4096 ∧ -4096 ≤ y ∧ y ≤ 4096 ∧ -9223372036854775808 ≤ u ∧ u ≤ 9223372036854775807 ∧ -9223372036854775808 ≤ v ∧ v ≤ 9223372036854775807 ∧ 0 ≤ r ∧ r ≤ 255 ∧ 2 < e ∧ e ≤ 255 ∧ (-4096 ≤ u ∧ u ≤ 4096 ∧ -4096 ≤ v ∧ v ≤ 4096 ∧ r ≤ 3) ∧ ¬ (u = x ∧ v = y - 1 ∧ r = 2) ∧ ¬ (u = x ∧ v = y ∧ r = 1) ∧ ¬ (u = x ∧ v = y ∧ r = 3)) : Cc 10 [.i x, .i y, .i 0, .i e, .i u, .i v, .i r] [.b true] := by
  refine q10 rfl ?_; unfold p10
  first | (exfalso; omega) | (repeat (first | simp (disch := omega) only [↓qxs, ↓qxc, ↓qxa, ↓qxb] | refine p_loop 5 ?_ | refine p_call (cnb_no (by omega)) ?_ | refine p_call (touch00 (by omega)) ?_ | refine p_call (touch01 (by omega)) ?_ | refine p_call (touch02 (by omega)) ?_ | refine p_call (touchn0 (by omega)) ?_ | refine p_call (touch_no2 (by omega)) ?_ | refine p_call (v3_ok (by omega)) ?_ | refine p_call (v3_no (by omega)) ?_ | refine p_call (rnb00 (by omega)) ?_ | refine p_call (rnb01 (by omega)) ?_ | refine p_call (rnb02 (by omega)) ?_ | refine p_call lives ?_ | refine p_call (v3_ok (by omega)) ?_ | refine p_call (v3_no (by omega)) ?_ | refine p_call (cellCheck_ok (by omega)) ?_ | refine p_call (cellCheck_no (by omega)) ?_))
theorem cellsNb0g4 {x y u v r e : Int} (h : -4096 ≤ x ∧ x ≤ 4096 ∧ -4096 ≤ y ∧ y ≤ 4096 ∧ -9223372036854775808 ≤ u ∧ u ≤ 9223372036854775807 ∧ -9223372036854775808 ≤ v ∧ v ≤ 9223372036854775807 ∧ 0 ≤ r ∧ r ≤ 255 ∧ 2 < e ∧ e ≤ 255 ∧ ¬ (-4096 ≤ u ∧ u ≤ 4096 ∧ -4096 ≤ v ∧ v ≤ 4096 ∧ r ≤ 3)) : Cc 10 [.i x, .i y, .i 0, .i e, .i u, .i v, .i r] [.b true] := by
  refine q10 rfl ?_; unfold p10
  first | (exfalso; omega) | (repeat (first | simp (disch := omega) only [↓qxs, ↓qxc, ↓qxa, ↓qxb] | refine p_loop 5 ?_ | refine p_call (cnb_no (by omega)) ?_ | refine p_call (touch00 (by omega)) ?_ | refine p_call (touch01 (by omega)) ?_ | refine p_call (touch02 (by omega)) ?_ | refine p_call (touchn0 (by omega)) ?_ | refine p_call (touch_no2 (by omega)) ?_ | refine p_call (v3_ok (by omega)) ?_ | refine p_call (v3_no (by omega)) ?_ | refine p_call (rnb00 (by omega)) ?_ | refine p_call (rnb01 (by omega)) ?_ | refine p_call (rnb02 (by omega)) ?_ | refine p_call lives ?_ | refine p_call (v3_ok (by omega)) ?_ | refine p_call (v3_no (by omega)) ?_ | refine p_call (cellCheck_ok (by omega)) ?_ | refine p_call (cellCheck_no (by omega)) ?_))
theorem cellsNb000 {x y u v : Int} (h : -4096 ≤ x ∧ x ≤ 4096 ∧ -4096 ≤ y ∧ y ≤ 4096 ∧ -9223372036854775808 ≤ u ∧ u ≤ 9223372036854775807 ∧ -9223372036854775808 ≤ v ∧ v ≤ 9223372036854775807 ∧ -4096 ≤ u ∧ u ≤ 4096 ∧ -4096 ≤ v ∧ v ≤ 4096 ∧ u = x ∧ v = y - 1) : Cc 10 [.i x, .i y, .i 0, .i 0, .i u, .i v, .i 2] [.b true] := by
  refine q10 rfl ?_; unfold p10
  by_cases hn : -4096 ≤ x ∧ x ≤ 4096 ∧ -4096 ≤ y - 1 ∧ y - 1 ≤ 4096
  · first | (exfalso; omega) | (repeat (first | simp (disch := omega) only [↓qxs, ↓qxc, ↓qxa, ↓qxb] | refine p_loop 5 ?_ | refine p_call (touch00 (by omega)) ?_ | refine p_call (touch01 (by omega)) ?_ | refine p_call (touch02 (by omega)) ?_ | refine p_call (touchn0 (by omega)) ?_ | refine p_call (touch_no2 (by omega)) ?_ | refine p_call (v3_ok (by omega)) ?_ | refine p_call (v3_no (by omega)) ?_ | refine p_call (rnb00 (by omega)) ?_ | refine p_call (rnb01 (by omega)) ?_ | refine p_call (rnb02 (by omega)) ?_ | refine p_call (cnb00 (by omega)) ?_ | refine p_call (cnbl00 (by omega)) ?_ | refine p_call (cnb20 (by omega)) ?_ | refine p_call (rline00 (by omega)) ?_ | refine p_call (v1_ok (by omega)) ?_ | refine p_call (v1_no (by omega)) ?_ | refine p_call (csideh20 (by omega)) ?_ | refine p_call (csidel20 (by omega)) ?_ | refine p_call (csideh22 (by omega)) ?_ | refine p_call (csidel22 (by omega)) ?_ | refine p_call lives ?_ | refine p_call (v3_ok (by omega)) ?_ | refine p_call (v3_no (by omega)) ?_ | refine p_call (cellCheck_ok (by omega)) ?_ | refine p_call (cellCheck_no (by omega)) ?_))
  first | (exfalso; omega) | (repeat (first | simp (disch := omega) only [↓qxs, ↓qxc, ↓qxa, ↓qxb] | refine p_loop 5 ?_ | refine p_call (touch00 (by omega)) ?_ | refine p_call (touch01 (by omega)) ?_ | refine p_call (touch02 (by omega)) ?_ | refine p_call (touchn0 (by omega)) ?_ | refine p_call (touch_no2 (by omega)) ?_ | refine p_call (v3_ok (by omega)) ?_ | refine p_call (v3_no (by omega)) ?_ | refine p_call (rnb00 (by omega)) ?_ | refine p_call (rnb01 (by omega)) ?_ | refine p_call (rnb02 (by omega)) ?_ | refine p_call (cnb00 (by omega)) ?_ | refine p_call (cnbl00 (by omega)) ?_ | refine p_call (cnb20 (by omega)) ?_ | refine p_call (rline00 (by omega)) ?_ | refine p_call (v1_ok (by omega)) ?_ | refine p_call (v1_no (by omega)) ?_ | refine p_call (csideh20 (by omega)) ?_ | refine p_call (csidel20 (by omega)) ?_ | refine p_call (csideh22 (by omega)) ?_ | refine p_call (csidel22 (by omega)) ?_ | refine p_call lives ?_ | refine p_call (v3_ok (by omega)) ?_ | refine p_call (v3_no (by omega)) ?_ | refine p_call (cellCheck_ok (by omega)) ?_ | refine p_call (cellCheck_no (by omega)) ?_))
theorem cellsNb001 {x y u v : Int} (h : -4096 ≤ x ∧ x ≤ 4096 ∧ -4096 ≤ y ∧ y ≤ 4096 ∧ -9223372036854775808 ≤ u ∧ u ≤ 9223372036854775807 ∧ -9223372036854775808 ≤ v ∧ v ≤ 9223372036854775807 ∧ -4096 ≤ u ∧ u ≤ 4096 ∧ -4096 ≤ v ∧ v ≤ 4096 ∧ u = x ∧ v = y) : Cc 10 [.i x, .i y, .i 0, .i 0, .i u, .i v, .i 1] [.b true] := by
  refine q10 rfl ?_; unfold p10
  by_cases hn : -4096 ≤ x ∧ x ≤ 4096 ∧ -4096 ≤ y - 1 ∧ y - 1 ≤ 4096
  · first | (exfalso; omega) | (repeat (first | simp (disch := omega) only [↓qxs, ↓qxc, ↓qxa, ↓qxb] | refine p_loop 5 ?_ | refine p_call (touch00 (by omega)) ?_ | refine p_call (touch01 (by omega)) ?_ | refine p_call (touch02 (by omega)) ?_ | refine p_call (touchn0 (by omega)) ?_ | refine p_call (touch_no2 (by omega)) ?_ | refine p_call (v3_ok (by omega)) ?_ | refine p_call (v3_no (by omega)) ?_ | refine p_call (rnb00 (by omega)) ?_ | refine p_call (rnb01 (by omega)) ?_ | refine p_call (rnb02 (by omega)) ?_ | refine p_call (cnb00 (by omega)) ?_ | refine p_call (cnbl00 (by omega)) ?_ | refine p_call (cnb20 (by omega)) ?_ | refine p_call (rline00 (by omega)) ?_ | refine p_call (v1_ok (by omega)) ?_ | refine p_call (v1_no (by omega)) ?_ | refine p_call (csideh20 (by omega)) ?_ | refine p_call (csidel20 (by omega)) ?_ | refine p_call (csideh22 (by omega)) ?_ | refine p_call (csidel22 (by omega)) ?_ | refine p_call lives ?_ | refine p_call (v3_ok (by omega)) ?_ | refine p_call (v3_no (by omega)) ?_ | refine p_call (cellCheck_ok (by omega)) ?_ | refine p_call (cellCheck_no (by omega)) ?_))
  first | (exfalso; omega) | (repeat (first | simp (disch := omega) only [↓qxs, ↓qxc, ↓qxa, ↓qxb] | refine p_loop 5 ?_ | refine p_call (touch00 (by omega)) ?_ | refine p_call (touch01 (by omega)) ?_ | refine p_call (touch02 (by omega)) ?_ | refine p_call (touchn0 (by omega)) ?_ | refine p_call (touch_no2 (by omega)) ?_ | refine p_call (v3_ok (by omega)) ?_ | refine p_call (v3_no (by omega)) ?_ | refine p_call (rnb00 (by omega)) ?_ | refine p_call (rnb01 (by omega)) ?_ | refine p_call (rnb02 (by omega)) ?_ | refine p_call (cnb00 (by omega)) ?_ | refine p_call (cnbl00 (by omega)) ?_ | refine p_call (cnb20 (by omega)) ?_ | refine p_call (rline00 (by omega)) ?_ | refine p_call (v1_ok (by omega)) ?_ | refine p_call (v1_no (by omega)) ?_ | refine p_call (csideh20 (by omega)) ?_ | refine p_call (csidel20 (by omega)) ?_ | refine p_call (csideh22 (by omega)) ?_ | refine p_call (csidel22 (by omega)) ?_ | refine p_call lives ?_ | refine p_call (v3_ok (by omega)) ?_ | refine p_call (v3_no (by omega)) ?_ | refine p_call (cellCheck_ok (by omega)) ?_ | refine p_call (cellCheck_no (by omega)) ?_))
theorem cellsNb002 {x y u v : Int} (h : -4096 ≤ x ∧ x ≤ 4096 ∧ -4096 ≤ y ∧ y ≤ 4096 ∧ -9223372036854775808 ≤ u ∧ u ≤ 9223372036854775807 ∧ -9223372036854775808 ≤ v ∧ v ≤ 9223372036854775807 ∧ -4096 ≤ u ∧ u ≤ 4096 ∧ -4096 ≤ v ∧ v ≤ 4096 ∧ u = x ∧ v = y) : Cc 10 [.i x, .i y, .i 0, .i 0, .i u, .i v, .i 3] [.b true] := by
  refine q10 rfl ?_; unfold p10
  by_cases hn : -4096 ≤ x ∧ x ≤ 4096 ∧ -4096 ≤ y - 1 ∧ y - 1 ≤ 4096
  · first | (exfalso; omega) | (repeat (first | simp (disch := omega) only [↓qxs, ↓qxc, ↓qxa, ↓qxb] | refine p_loop 5 ?_ | refine p_call (touch00 (by omega)) ?_ | refine p_call (touch01 (by omega)) ?_ | refine p_call (touch02 (by omega)) ?_ | refine p_call (touchn0 (by omega)) ?_ | refine p_call (touch_no2 (by omega)) ?_ | refine p_call (v3_ok (by omega)) ?_ | refine p_call (v3_no (by omega)) ?_ | refine p_call (rnb00 (by omega)) ?_ | refine p_call (rnb01 (by omega)) ?_ | refine p_call (rnb02 (by omega)) ?_ | refine p_call (cnb00 (by omega)) ?_ | refine p_call (cnbl00 (by omega)) ?_ | refine p_call (cnb20 (by omega)) ?_ | refine p_call (rline00 (by omega)) ?_ | refine p_call (v1_ok (by omega)) ?_ | refine p_call (v1_no (by omega)) ?_ | refine p_call (csideh20 (by omega)) ?_ | refine p_call (csidel20 (by omega)) ?_ | refine p_call (csideh22 (by omega)) ?_ | refine p_call (csidel22 (by omega)) ?_ | refine p_call lives ?_ | refine p_call (v3_ok (by omega)) ?_ | refine p_call (v3_no (by omega)) ?_ | refine p_call (cellCheck_ok (by omega)) ?_ | refine p_call (cellCheck_no (by omega)) ?_))
  first | (exfalso; omega) | (repeat (first | simp (disch := omega) only [↓qxs, ↓qxc, ↓qxa, ↓qxb] | refine p_loop 5 ?_ | refine p_call (touch00 (by omega)) ?_ | refine p_call (touch01 (by omega)) ?_ | refine p_call (touch02 (by omega)) ?_ | refine p_call (touchn0 (by omega)) ?_ | refine p_call (touch_no2 (by omega)) ?_ | refine p_call (v3_ok (by omega)) ?_ | refine p_call (v3_no (by omega)) ?_ | refine p_call (rnb00 (by omega)) ?_ | refine p_call (rnb01 (by omega)) ?_ | refine p_call (rnb02 (by omega)) ?_ | refine p_call (cnb00 (by omega)) ?_ | refine p_call (cnbl00 (by omega)) ?_ | refine p_call (cnb20 (by omega)) ?_ | refine p_call (rline00 (by omega)) ?_ | refine p_call (v1_ok (by omega)) ?_ | refine p_call (v1_no (by omega)) ?_ | refine p_call (csideh20 (by omega)) ?_ | refine p_call (csidel20 (by omega)) ?_ | refine p_call (csideh22 (by omega)) ?_ | refine p_call (csidel22 (by omega)) ?_ | refine p_call lives ?_ | refine p_call (v3_ok (by omega)) ?_ | refine p_call (v3_no (by omega)) ?_ | refine p_call (cellCheck_ok (by omega)) ?_ | refine p_call (cellCheck_no (by omega)) ?_))
theorem cellsNb003 {x y u v r : Int} (h : -4096 ≤ x ∧ x ≤ 4096 ∧ -4096 ≤ y ∧ y ≤ 4096 ∧ -9223372036854775808 ≤ u ∧ u ≤ 9223372036854775807 ∧ -9223372036854775808 ≤ v ∧ v ≤ 9223372036854775807 ∧ 0 ≤ r ∧ r ≤ 255 ∧ (-4096 ≤ u ∧ u ≤ 4096 ∧ -4096 ≤ v ∧ v ≤ 4096 ∧ r ≤ 3) ∧ ¬ (u = x ∧ v = y - 1 ∧ r = 2) ∧ ¬ (u = x ∧ v = y ∧ r = 1) ∧ ¬ (u = x ∧ v = y ∧ r = 3)) : Cc 10 [.i x, .i y, .i 0, .i 0, .i u, .i v, .i r] [.b true] := by
  refine q10 rfl ?_; unfold p10
  by_cases hn : -4096 ≤ x ∧ x ≤ 4096 ∧ -4096 ≤ y - 1 ∧ y - 1 ≤ 4096
  · first | (exfalso; omega) | (repeat (first | simp (disch := omega) only [↓qxs, ↓qxc, ↓qxa, ↓qxb] | refine p_loop 5 ?_ | refine p_call (touch00 (by omega)) ?_ | refine p_call (touch01 (by omega)) ?_ | refine p_call (touch02 (by omega)) ?_ | refine p_call (touchn0 (by omega)) ?_ | refine p_call (touch_no2 (by omega)) ?_ | refine p_call (v3_ok (by omega)) ?_ | refine p_call (v3_no (by omega)) ?_ | refine p_call (rnb00 (by omega)) ?_ | refine p_call (rnb01 (by omega)) ?_ | refine p_call (rnb02 (by omega)) ?_ | refine p_call (cnb00 (by omega)) ?_ | refine p_call (cnbl00 (by omega)) ?_ | refine p_call (cnb20 (by omega)) ?_ | refine p_call (rline00 (by omega)) ?_ | refine p_call (v1_ok (by omega)) ?_ | refine p_call (v1_no (by omega)) ?_ | refine p_call (csideh20 (by omega)) ?_ | refine p_call (csidel20 (by omega)) ?_ | refine p_call (csideh22 (by omega)) ?_ | refine p_call (csidel22 (by omega)) ?_ | refine p_call lives ?_ | refine p_call (v3_ok (by omega)) ?_ | refine p_call (v3_no (by omega)) ?_ | refine p_call (cellCheck_ok (by omega)) ?_ | refine p_call (cellCheck_no (by omega)) ?_))
  first | (exfalso; omega) | (repeat (first | simp (disch := omega) only [↓qxs, ↓qxc, ↓qxa, ↓qxb] | refine p_loop 5 ?_ | refine p_call (touch00 (by omega)) ?_ | refine p_call (touch01 (by omega)) ?_ | refine p_call (touch02 (by omega)) ?_ | refine p_call (touchn0 (by omega)) ?_ | refine p_call (touch_no2 (by omega)) ?_ | refine p_call (v3_ok (by omega)) ?_ | refine p_call (v3_no (by omega)) ?_ | refine p_call (rnb00 (by omega)) ?_ | refine p_call (rnb01 (by omega)) ?_ | refine p_call (rnb02 (by omega)) ?_ | refine p_call (cnb00 (by omega)) ?_ | refine p_call (cnbl00 (by omega)) ?_ | refine p_call (cnb20 (by omega)) ?_ | refine p_call (rline00 (by omega)) ?_ | refine p_call (v1_ok (by omega)) ?_ | refine p_call (v1_no (by omega)) ?_ | refine p_call (csideh20 (by omega)) ?_ | refine p_call (csidel20 (by omega)) ?_ | refine p_call (csideh22 (by omega)) ?_ | refine p_call (csidel22 (by omega)) ?_ | refine p_call lives ?_ | refine p_call (v3_ok (by omega)) ?_ | refine p_call (v3_no (by omega)) ?_ | refine p_call (cellCheck_ok (by omega)) ?_ | refine p_call (cellCheck_no (by omega)) ?_))
theorem cellsNb004 {x y u v r : Int} (h : -4096 ≤ x ∧ x ≤ 4096 ∧ -4096 ≤ y ∧ y ≤ 4096 ∧ -9223372036854775808 ≤ u ∧ u ≤ 9223372036854775807 ∧ -9223372036854775808 ≤ v ∧ v ≤ 9223372036854775807 ∧ 0 ≤ r ∧ r ≤ 255 ∧ ¬ (-4096 ≤ u ∧ u ≤ 4096 ∧ -4096 ≤ v ∧ v ≤ 4096 ∧ r ≤ 3)) : Cc 10 [.i x, .i y, .i 0, .i 0, .i u, .i v, .i r] [.b true] := by
  refine q10 rfl ?_; unfold p10
  by_cases hn : -4096 ≤ x ∧ x ≤ 4096 ∧ -4096 ≤ y - 1 ∧ y - 1 ≤ 4096
  · first | (exfalso; omega) | (repeat (first | simp (disch := omega) only [↓qxs, ↓qxc, ↓qxa, ↓qxb] | refine p_loop 5 ?_ | refine p_call (touch00 (by omega)) ?_ | refine p_call (touch01 (by omega)) ?_ | refine p_call (touch02 (by omega)) ?_ | refine p_call (touchn0 (by omega)) ?_ | refine p_call (touch_no2 (by omega)) ?_ | refine p_call (v3_ok (by omega)) ?_ | refine p_call (v3_no (by omega)) ?_ | refine p_call (rnb00 (by omega)) ?_ | refine p_call (rnb01 (by omega)) ?_ | refine p_call (rnb02 (by omega)) ?_ | refine p_call (cnb00 (by omega)) ?_ | refine p_call (cnbl00 (by omega)) ?_ | refine p_call (cnb20 (by omega)) ?_ | refine p_call (rline00 (by omega)) ?_ | refine p_call (v1_ok (by omega)) ?_ | refine p_call (v1_no (by omega)) ?_ | refine p_call (csideh20 (by omega)) ?_ | refine p_call (csidel20 (by omega)) ?_ | refine p_call (csideh22 (by omega)) ?_ | refine p_call (csidel22 (by omega)) ?_ | refine p_call lives ?_ | refine p_call (v3_ok (by omega)) ?_ | refine p_call (v3_no (by omega)) ?_ | refine p_call (cellCheck_ok (by omega)) ?_ | refine p_call (cellCheck_no (by omega)) ?_))
  first | (exfalso; omega) | (repeat (first | simp (disch := omega) only [↓qxs, ↓qxc, ↓qxa, ↓qxb] | refine p_loop 5 ?_ | refine p_call (touch00 (by omega)) ?_ | refine p_call (touch01 (by omega)) ?_ | refine p_call (touch02 (by omega)) ?_ | refine p_call (touchn0 (by omega)) ?_ | refine p_call (touch_no2 (by omega)) ?_ | refine p_call (v3_ok (by omega)) ?_ | refine p_call (v3_no (by omega)) ?_ | refine p_call (rnb00 (by omega)) ?_ | refine p_call (rnb01 (by omega)) ?_ | refine p_call (rnb02 (by omega)) ?_ | refine p_call (cnb00 (by omega)) ?_ | refine p_call (cnbl00 (by omega)) ?_ | refine p_call (cnb20 (by omega)) ?_ | refine p_call (rline00 (by omega)) ?_ | refine p_call (v1_ok (by omega)) ?_ | refine p_call (v1_no (by omega)) ?_ | refine p_call (csideh20 (by omega)) ?_ | refine p_call (csidel20 (by omega)) ?_ | refine p_call (csideh22 (by omega)) ?_ | refine p_call (csidel22 (by omega)) ?_ | refine p_call lives ?_ | refine p_call (v3_ok (by omega)) ?_ | refine p_call (v3_no (by omega)) ?_ | refine p_call (cellCheck_ok (by omega)) ?_ | refine p_call (cellCheck_no (by omega)) ?_))
theorem cellsNb010 {x y u v : Int} (h : -4096 ≤ x ∧ x ≤ 4096 ∧ -4096 ≤ y ∧ y ≤ 4096 ∧ -9223372036854775808 ≤ u ∧ u ≤ 9223372036854775807 ∧ -9223372036854775808 ≤ v ∧ v ≤ 9223372036854775807 ∧ -4096 ≤ u ∧ u ≤ 4096 ∧ -4096 ≤ v ∧ v ≤ 4096 ∧ u = x ∧ v = y - 1) : Cc 10 [.i x, .i y, .i 0, .i 1, .i u, .i v, .i 2] [.b true] := by
  refine q10 rfl ?_; unfold p10
  by_cases hc : -4096 ≤ x + y + 1 ∧ x + y + 1 ≤ 4096
  · first | (exfalso; omega) | (repeat (first | simp (disch := omega) only [↓qxs, ↓qxc, ↓qxa, ↓qxb] | refine p_loop 5 ?_ | refine p_call (touch00 (by omega)) ?_ | refine p_call (touch01 (by omega)) ?_ | refine p_call (touch02 (by omega)) ?_ | refine p_call (touchn0 (by omega)) ?_ | refine p_call (touch_no2 (by omega)) ?_ | refine p_call (v3_ok (by omega)) ?_ | refine p_call (v3_no (by omega)) ?_ | refine p_call (rnb00 (by omega)) ?_ | refine p_call (rnb01 (by omega)) ?_ | refine p_call (rnb02 (by omega)) ?_ | refine p_call (cnb01 (by omega)) ?_ | refine p_call (cnb11 (by omega)) ?_ | refine p_call (rline01 (by omega)) ?_ | refine p_call (v1_ok (by omega)) ?_ | refine p_call (v1_no (by omega)) ?_ | refine p_call (csideh30 (by omega)) ?_ | refine p_call (csidel30 (by omega)) ?_ | refine p_call (csideh31 (by omega)) ?_ | refine p_call (csidel31 (by omega)) ?_ | refine p_call lives ?_ | refine p_call (v3_ok (by omega)) ?_ | refine p_call (v3_no (by omega)) ?_ | refine p_call (cellCheck_ok (by omega)) ?_ | refine p_call (cellCheck_no (by omega)) ?_))
  first | (exfalso; omega) | (repeat (first | simp (disch := omega) only [↓qxs, ↓qxc, ↓qxa, ↓qxb] | refine p_loop 5 ?_ | refine p_call (touch00 (by omega)) ?_ | refine p_call (touch01 (by omega)) ?_ | refine p_call (touch02 (by omega)) ?_ | refine p_call (touchn0 (by omega)) ?_ | refine p_call (touch_no2 (by omega)) ?_ | refine p_call (v3_ok (by omega)) ?_ | refine p_call (v3_no (by omega)) ?_ | refine p_call (rnb00 (by omega)) ?_ | refine p_call (rnb01 (by omega)) ?_ | refine p_call (rnb02 (by omega)) ?_ | refine p_call (cnb01 (by omega)) ?_ | refine p_call (cnb11 (by omega)) ?_ | refine p_call (rline01 (by omega)) ?_ | refine p_call (v1_ok (by omega)) ?_ | refine p_call (v1_no (by omega)) ?_ | refine p_call (csideh30 (by omega)) ?_ | refine p_call (csidel30 (by omega)) ?_ | refine p_call (csideh31 (by omega)) ?_ | refine p_call (csidel31 (by omega)) ?_ | refine p_call lives ?_ | refine p_call (v3_ok (by omega)) ?_ | refine p_call (v3_no (by omega)) ?_ | refine p_call (cellCheck_ok (by omega)) ?_ | refine p_call (cellCheck_no (by omega)) ?_))
theorem cellsNb011 {x y u v : Int} (h : -4096 ≤ x ∧ x ≤ 4096 ∧ -4096 ≤ y ∧ y ≤ 4096 ∧ -9223372036854775808 ≤ u ∧ u ≤ 9223372036854775807 ∧ -9223372036854775808 ≤ v ∧ v ≤ 9223372036854775807 ∧ -4096 ≤ u ∧ u ≤ 4096 ∧ -4096 ≤ v ∧ v ≤ 4096 ∧ u = x ∧ v = y) : Cc 10 [.i x, .i y, .i 0, .i 1, .i u, .i v, .i 1] [.b true] := by
  refine q10 rfl ?_; unfold p10
  by_cases hc : -4096 ≤ x + y + 1 ∧ x + y + 1 ≤ 4096
  · first | (exfalso; omega) | (repeat (first | simp (disch := omega) only [↓qxs, ↓qxc, ↓qxa, ↓qxb] | refine p_loop 5 ?_ | refine p_call (touch00 (by omega)) ?_ | refine p_call (touch01 (by omega)) ?_ | refine p_call (touch02 (by omega)) ?_ | refine p_call (touchn0 (by omega)) ?_ | refine p_call (touch_no2 (by omega)) ?_ | refine p_call (v3_ok (by omega)) ?_ | refine p_call (v3_no (by omega)) ?_ | refine p_call (rnb00 (by omega)) ?_ | refine p_call (rnb01 (by omega)) ?_ | refine p_call (rnb02 (by omega)) ?_ | refine p_call (cnb01 (by omega)) ?_ | refine p_call (cnb11 (by omega)) ?_ | refine p_call (rline01 (by omega)) ?_ | refine p_call (v1_ok (by omega)) ?_ | refine p_call (v1_no (by omega)) ?_ | refine p_call (csideh30 (by omega)) ?_ | refine p_call (csidel30 (by omega)) ?_ | refine p_call (csideh31 (by omega)) ?_ | refine p_call (csidel31 (by omega)) ?_ | refine p_call lives ?_ | refine p_call (v3_ok (by omega)) ?_ | refine p_call (v3_no (by omega)) ?_ | refine p_call (cellCheck_ok (by omega)) ?_ | refine p_call (cellCheck_no (by omega)) ?_))
  first | (exfalso; omega) | (repeat (first | simp (disch := omega) only [↓qxs, ↓qxc, ↓qxa, ↓qxb] | refine p_loop 5 ?_ | refine p_call (touch00 (by omega)) ?_ | refine p_call (touch01 (by omega)) ?_ | refine p_call (touch02 (by omega)) ?_ | refine p_call (touchn0 (by omega)) ?_ | refine p_call (touch_no2 (by omega)) ?_ | refine p_call (v3_ok (by omega)) ?_ | refine p_call (v3_no (by omega)) ?_ | refine p_call (rnb00 (by omega)) ?_ | refine p_call (rnb01 (by omega)) ?_ | refine p_call (rnb02 (by omega)) ?_ | refine p_call (cnb01 (by omega)) ?_ | refine p_call (cnb11 (by omega)) ?_ | refine p_call (rline01 (by omega)) ?_ | refine p_call (v1_ok (by omega)) ?_ | refine p_call (v1_no (by omega)) ?_ | refine p_call (csideh30 (by omega)) ?_ | refine p_call (csidel30 (by omega)) ?_ | refine p_call (csideh31 (by omega)) ?_ | refine p_call (csidel31 (by omega)) ?_ | refine p_call lives ?_ | refine p_call (v3_ok (by omega)) ?_ | refine p_call (v3_no (by omega)) ?_ | refine p_call (cellCheck_ok (by omega)) ?_ | refine p_call (cellCheck_no (by omega)) ?_))
theorem cellsNb012 {x y u v : Int} (h : -4096 ≤ x ∧ x ≤ 4096 ∧ -4096 ≤ y ∧ y ≤ 4096 ∧ -9223372036854775808 ≤ u ∧ u ≤ 9223372036854775807 ∧ -9223372036854775808 ≤ v ∧ v ≤ 9223372036854775807 ∧ -4096 ≤ u ∧ u ≤ 4096 ∧ -4096 ≤ v ∧ v ≤ 4096 ∧ u = x ∧ v = y) : Cc 10 [.i x, .i y, .i 0, .i 1, .i u, .i v, .i 3] [.b true] := by
  refine q10 rfl ?_; unfold p10
  by_cases hc : -4096 ≤ x + y + 1 ∧ x + y + 1 ≤ 4096
  · first | (exfalso; omega) | (repeat (first | simp (disch := omega) only [↓qxs, ↓qxc, ↓qxa, ↓qxb] | refine p_loop 5 ?_ | refine p_call (touch00 (by omega)) ?_ | refine p_call (touch01 (by omega)) ?_ | refine p_call (touch02 (by omega)) ?_ | refine p_call (touchn0 (by omega)) ?_ | refine p_call (touch_no2 (by omega)) ?_ | refine p_call (v3_ok (by omega)) ?_ | refine p_call (v3_no (by omega)) ?_ | refine p_call (rnb00 (by omega)) ?_ | refine p_call (rnb01 (by omega)) ?_ | refine p_call (rnb02 (by omega)) ?_ | refine p_call (cnb01 (by omega)) ?_ | refine p_call (cnb11 (by omega)) ?_ | refine p_call (rline01 (by omega)) ?_ | refine p_call (v1_ok (by omega)) ?_ | refine p_call (v1_no (by omega)) ?_ | refine p_call (csideh30 (by omega)) ?_ | refine p_call (csidel30 (by omega)) ?_ | refine p_call (csideh31 (by omega)) ?_ | refine p_call (csidel31 (by omega)) ?_ | refine p_call lives ?_ | refine p_call (v3_ok (by omega)) ?_ | refine p_call (v3_no (by omega)) ?_ | refine p_call (cellCheck_ok (by omega)) ?_ | refine p_call (cellCheck_no (by omega)) ?_))
  first | (exfalso; omega) | (repeat (first | simp (disch := omega) only [↓qxs, ↓qxc, ↓qxa, ↓qxb] | refine p_loop 5 ?_ | refine p_call (touch00 (by omega)) ?_ | refine p_call (touch01 (by omega)) ?_ | refine p_call (touch02 (by omega)) ?_ | refine p_call (touchn0 (by omega)) ?_ | refine p_call (touch_no2 (by omega)) ?_ | refine p_call (v3_ok (by omega)) ?_ | refine p_call (v3_no (by omega)) ?_ | refine p_call (rnb00 (by omega)) ?_ | refine p_call (rnb01 (by omega)) ?_ | refine p_call (rnb02 (by omega)) ?_ | refine p_call (cnb01 (by omega)) ?_ | refine p_call (cnb11 (by omega)) ?_ | refine p_call (rline01 (by omega)) ?_ | refine p_call (v1_ok (by omega)) ?_ | refine p_call (v1_no (by omega)) ?_ | refine p_call (csideh30 (by omega)) ?_ | refine p_call (csidel30 (by omega)) ?_ | refine p_call (csideh31 (by omega)) ?_ | refine p_call (csidel31 (by omega)) ?_ | refine p_call lives ?_ | refine p_call (v3_ok (by omega)) ?_ | refine p_call (v3_no (by omega)) ?_ | refine p_call (cellCheck_ok (by omega)) ?_ | refine p_call (cellCheck_no (by omega)) ?_))
theorem cellsNb013 {x y u v r : Int} (h : -4096 ≤ x ∧ x ≤ 4096 ∧ -4096 ≤ y ∧ y ≤ 4096 ∧ -9223372036854775808 ≤ u ∧ u ≤ 9223372036854775807 ∧ -9223372036854775808 ≤ v ∧ v ≤ 9223372036854775807 ∧ 0 ≤ r ∧ r ≤ 255 ∧ (-4096 ≤ u ∧ u ≤ 4096 ∧ -4096 ≤ v ∧ v ≤ 4096 ∧ r ≤ 3) ∧ ¬ (u = x ∧ v = y - 1 ∧ r = 2) ∧ ¬ (u = x ∧ v = y ∧ r = 1) ∧ ¬ (u = x ∧ v = y ∧ r = 3)) : Cc 10 [.i x, .i y, .i 0, .i 1, .i u, .i v, .i r] [.b true] := by
  refine q10 rfl ?_; unfold p10
  by_cases hc : -4096 ≤ x + y + 1 ∧ x + y + 1 ≤ 4096
  · first | (exfalso; omega) | (repeat (first | simp (disch := omega) only [↓qxs, ↓qxc, ↓qxa, ↓qxb] | refine p_loop 5 ?_ | refine p_call (touch00 (by omega)) ?_ | refine p_call (touch01 (by omega)) ?_ | refine p_call (touch02 (by omega)) ?_ | refine p_call (touchn0 (by omega)) ?_ | refine p_call (touch_no2 (by omega)) ?_ | refine p_call (v3_ok (by omega)) ?_ | refine p_call (v3_no (by omega)) ?_ | refine p_call (rnb00 (by omega)) ?_ | refine p_call (rnb01 (by omega)) ?_ | refine p_call (rnb02 (by omega)) ?_ | refine p_call (cnb01 (by omega)) ?_ | refine p_call (cnb11 (by omega)) ?_ | refine p_call (rline01 (by omega)) ?_ | refine p_call (v1_ok (by omega)) ?_ | refine p_call (v1_no (by omega)) ?_ | refine p_call (csideh30 (by omega)) ?_ | refine p_call (csidel30 (by omega)) ?_ | refine p_call (csideh31 (by omega)) ?_ | refine p_call (csidel31 (by omega)) ?_ | refine p_call lives ?_ | refine p_call (v3_ok (by omega)) ?_ | refine p_call (v3_no (by omega)) ?_ | refine p_call (cellCheck_ok (by omega)) ?_ | refine p_call (cellCheck_no (by omega)) ?_))
  first | (exfalso; omega) | (repeat (first | simp (disch := omega) only [↓qxs, ↓qxc, ↓qxa, ↓qxb] | refine p_loop 5 ?_ | refine p_call (touch00 (by omega)) ?_ | refine p_call (touch01 (by omega)) ?_ | refine p_call (touch02 (by omega)) ?_ | refine p_call (touchn0 (by omega)) ?_ | refine p_call (touch_no2 (by omega)) ?_ | refine p_call (v3_ok (by omega)) ?_ | refine p_call (v3_no (by omega)) ?_ | refine p_call (rnb00 (by omega)) ?_ | refine p_call (rnb01 (by omega)) ?_ | refine p_call (rnb02 (by omega)) ?_ | refine p_call (cnb01 (by omega)) ?_ | refine p_call (cnb11 (by omega)) ?_ | refine p_call (rline01 (by omega)) ?_ | refine p_call (v1_ok (by omega)) ?_ | refine p_call (v1_no (by omega)) ?_ | refine p_call (csideh30 (by omega)) ?_ | refine p_call (csidel30 (by omega)) ?_ | refine p_call (csideh31 (by omega)) ?_ | refine p_call (csidel31 (by omega)) ?_ | refine p_call lives ?_ | refine p_call (v3_ok (by omega)) ?_ | refine p_call (v3_no (by omega)) ?_ | refine p_call (cellCheck_ok (by omega)) ?_ | refine p_call (cellCheck_no (by omega)) ?_))
theorem cellsNb014 {x y u v r : Int} (h : -4096 ≤ x ∧ x ≤ 4096 ∧ -4096 ≤ y ∧ y ≤ 4096 ∧ -9223372036854775808 ≤ u ∧ u ≤ 9223372036854775807 ∧ -9223372036854775808 ≤ v ∧ v ≤ 9223372036854775807 ∧ 0 ≤ r ∧ r ≤ 255 ∧ ¬ (-4096 ≤ u ∧ u ≤ 4096 ∧ -4096 ≤ v ∧ v ≤ 4096 ∧ r ≤ 3)) : Cc 10 [.i x, .i y, .i 0, .i 1, .i u, .i v, .i r] [.b true] := by
  refine q10 rfl ?_; unfold p10
  by_cases hc : -4096 ≤ x + y + 1 ∧ x + y + 1 ≤ 4096
  · first | (exfalso; omega) | (repeat (first | simp (disch := omega) only [↓qxs, ↓qxc, ↓qxa, ↓qxb] | refine p_loop 5 ?_ | refine p_call (touch00 (by omega)) ?_ | refine p_call (touch01 (by omega)) ?_ | refine p_call (touch02 (by omega)) ?_ | refine p_call (touchn0 (by omega)) ?_ | refine p_call (touch_no2 (by omega)) ?_ | refine p_call (v3_ok (by omega)) ?_ | refine p_call (v3_no (by omega)) ?_ | refine p_call (rnb00 (by omega)) ?_ | refine p_call (rnb01 (by omega)) ?_ | refine p_call (rnb02 (by omega)) ?_ | refine p_call (cnb01 (by omega)) ?_ | refine p_call (cnb11 (by omega)) ?_ | refine p_call (rline01 (by omega)) ?_ | refine p_call (v1_ok (by omega)) ?_ | refine p_call (v1_no (by omega)) ?_ | refine p_call (csideh30 (by omega)) ?_ | refine p_call (csidel30 (by omega)) ?_ | refine p_call (csideh31 (by omega)) ?_ | refine p_call (csidel31 (by omega)) ?_ | refine p_call lives ?_ | refine p_call (v3_ok (by omega)) ?_ | refine p_call (v3_no (by omega)) ?_ | refine p_call (cellCheck_ok (by omega)) ?_ | refine p_call (cellCheck_no (by omega)) ?_))
  first | (exfalso; omega) | (repeat (first | simp (disch := omega) only [↓qxs, ↓qxc, ↓qxa, ↓qxb] | refine p_loop 5 ?_ | refine p_call (touch00 (by omega)) ?_ | refine p_call (touch01 (by omega)) ?_ | refine p_call (touch02 (by omega)) ?_ | refine p_call (touchn0 (by omega)) ?_ | refine p_call (touch_no2 (by omega)) ?_ | refine p_call (v3_ok (by omega)) ?_ | refine p_call (v3_no (by omega)) ?_ | refine p_call (rnb00 (by omega)) ?_ | refine p_call (rnb01 (by omega)) ?_ | refine p_call (rnb02 (by omega)) ?_ | refine p_call (cnb01 (by omega)) ?_ | refine p_call (cnb11 (by omega)) ?_ | refine p_call (rline01 (by omega)) ?_ | refine p_call (v1_ok (by omega)) ?_ | refine p_call (v1_no (by omega)) ?_ | refine p_call (csideh30 (by omega)) ?_ | refine p_call (csidel30 (by omega)) ?_ | refine p_call (csideh31 (by omega)) ?_ | refine p_call (csidel31 (by omega)) ?_ | refine p_call lives ?_ | refine p_call (v3_ok (by omega)) ?_ | refine p_call (v3_no (by omega)) ?_ | refine p_call (cellCheck_ok (by omega)) ?_ | refine p_call (cellCheck_no (by omega)) ?_))
theorem cellsNb020 {x y u v : Int} (h : -4096 ≤ x ∧ x ≤ 4096 ∧ -4096 ≤ y ∧ y ≤ 4096 ∧ -9223372036854775808 ≤ u ∧ u ≤ 9223372036854775807 ∧ -9223372036854775808 ≤ v ∧ v ≤ 9223372036854775807 ∧ -4096 ≤ u ∧ u ≤ 4096 ∧ -4096 ≤ v ∧ v ≤ 4096 ∧ u = x ∧ v = y - 1) : Cc 10 [.i x, .i y, .i 0, .i 2, .i u, .i v, .i 2] [.b true] := by
  refine q10 rfl ?_; unfold p10
  by_cases hc : -4096 ≤ y - x ∧ y - x ≤ 4096
  · first | (exfalso; omega) | (repeat (first | simp (disch := omega) only [↓qxs, ↓qxc, ↓qxa, ↓qxb] | refine p_loop 5 ?_ | refine p_call (touch00 (by omega)) ?_ | refine p_call (touch01 (by omega)) ?_ | refine p_call (touch02 (by omega)) ?_ | refine p_call (touchn0 (by omega)) ?_ | refine p_call (touch_no2 (by omega)) ?_ | refine p_call (v3_ok (by omega)) ?_ | refine p_call (v3_no (by omega)) ?_ | refine p_call (rnb00 (by omega)) ?_ | refine p_call (rnb01 (by omega)) ?_ | refine p_call (rnb02 (by omega)) ?_ | refine p_call (cnb02 (by omega)) ?_ | refine p_call (cnb32 (by omega)) ?_ | refine p_call (rline02 (by omega)) ?_ | refine p_call (v1_ok (by omega)) ?_ | refine p_call (v1_no (by omega)) ?_ | refine p_call (csideh40 (by omega)) ?_ | refine p_call (csidel40 (by omega)) ?_ | refine p_call (csideh43 (by omega)) ?_ | refine p_call (csidel43 (by omega)) ?_ | refine p_call lives ?_ | refine p_call (v3_ok (by omega)) ?_ | refine p_call (v3_no (by omega)) ?_ | refine p_call (cellCheck_ok (by omega)) ?_ | refine p_call (cellCheck_no (by omega)) ?_))
  first | (exfalso; omega) | (repeat (first | simp (disch := omega) only [↓qxs, ↓qxc, ↓qxa, ↓qxb] | refine p_loop 5 ?_ | refine p_call (touch00 (by omega)) ?_ | refine p_call (touch01 (by omega)) ?_ | refine p_call (touch02 (by omega)) ?_ | refine p_call (touchn0 (by omega)) ?_ | refine p_call (touch_no2 (by omega)) ?_ | refine p_call (v3_ok (by omega)) ?_ | refine p_call (v3_no (by omega)) ?_ | refine p_call (rnb00 (by omega)) ?_ | refine p_call (rnb01 (by omega)) ?_ | refine p_call (rnb02 (by omega)) ?_ | refine p_call (cnb02 (by omega)) ?_ | refine p_call (cnb32 (by omega)) ?_ | refine p_call (rline02 (by omega)) ?_ | refine p_call (v1_ok (by omega)) ?_ | refine p_call (v1_no (by omega)) ?_ | refine p_call (csideh40 (by omega)) ?_ | refine p_call (csidel40 (by omega)) ?_ | refine p_call (csideh43 (by omega)) ?_ | refine p_call (csidel43 (by omega)) ?_ | refine p_call lives ?_ | refine p_call (v3_ok (by omega)) ?_ | refine p_call (v3_no (by omega)) ?_ | refine p_call (cellCheck_ok (by omega)) ?_ | refine p_call (cellCheck_no (by omega)) ?_))
theorem cellsNb021 {x y u v : Int} (h : -4096 ≤ x ∧ x ≤ 4096 ∧ -4096 ≤ y ∧ y ≤ 4096 ∧ -9223372036854775808 ≤ u ∧ u ≤ 9223372036854775807 ∧ -9223372036854775808 ≤ v ∧ v ≤ 9223372036854775807 ∧ -4096 ≤ u ∧ u ≤ 4096 ∧ -4096 ≤ v ∧ v ≤ 4096 ∧ u = x ∧ v = y) : Cc 10 [.i x, .i y, .i 0, .i 2, .i u, .i v, .i 1] [.b true] := by
  refine q10 rfl ?_; unfold p10
  by_cases hc : -4096 ≤ y - x ∧ y - x ≤ 4096
  · first | (exfalso; omega) | (repeat (first | simp (disch := omega) only [↓qxs, ↓qxc, ↓qxa, ↓qxb] | refine p_loop 5 ?_ | refine p_call (touch00 (by omega)) ?_ | refine p_call (touch01 (by omega)) ?_ | refine p_call (touch02 (by omega)) ?_ | refine p_call (touchn0 (by omega)) ?_ | refine p_call (touch_no2 (by omega)) ?_ | refine p_call (v3_ok (by omega)) ?_ | refine p_call (v3_no (by omega)) ?_ | refine p_call (rnb00 (by omega)) ?_ | refine p_call (rnb01 (by omega)) ?_ | refine p_call (rnb02 (by omega)) ?_ | refine p_call (cnb02 (by omega)) ?_ | refine p_call (cnb32 (by omega)) ?_ | refine p_call (rline02 (by omega)) ?_ | refine p_call (v1_ok (by omega)) ?_ | refine p_call (v1_no (by omega)) ?_ | refine p_call (csideh40 (by omega)) ?_ | refine p_call (csidel40 (by omega)) ?_ | refine p_call (csideh43 (by omega)) ?_ | refine p_call (csidel43 (by omega)) ?_ | refine p_call lives ?_ | refine p_call (v3_ok (by omega)) ?_ | refine p_call (v3_no (by omega)) ?_ | refine p_call (cellCheck_ok (by omega)) ?_ | refine p_call (cellCheck_no (by omega)) ?_))
  first | (exfalso; omega) | (repeat (first | simp (disch := omega) only [↓qxs, ↓qxc, ↓qxa, ↓qxb] | refine p_loop 5 ?_ | refine p_call (touch00 (by omega)) ?_ | refine p_call (touch01 (by omega)) ?_ | refine p_call (touch02 (by omega)) ?_ | refine p_call (touchn0 (by omega)) ?_ | refine p_call (touch_no2 (by omega)) ?_ | refine p_call (v3_ok (by omega)) ?_ | refine p_call (v3_no (by omega)) ?_ | refine p_call (rnb00 (by omega)) ?_ | refine p_call (rnb01 (by omega)) ?_ | refine p_call (rnb02 (by omega)) ?_ | refine p_call (cnb02 (by omega)) ?_ | refine p_call (cnb32 (by omega)) ?_ | refine p_call (rline02 (by omega)) ?_ | refine p_call (v1_ok (by omega)) ?_ | refine p_call (v1_no (by omega)) ?_ | refine p_call (csideh40 (by omega)) ?_ | refine p_call (csidel40 (by omega)) ?_ | refine p_call (csideh43 (by omega)) ?_ | refine p_call (csidel43 (by omega)) ?_ | refine p_call lives ?_ | refine p_call (v3_ok (by omega)) ?_ | refine p_call (v3_no (by omega)) ?_ | refine p_call (cellCheck_ok (by omega)) ?_ | refine p_call (cellCheck_no (by omega)) ?_))
theorem cellsNb022 {x y u v : Int} (h : -4096 ≤ x ∧ x ≤ 4096 ∧ -4096 ≤ y ∧ y ≤ 4096 ∧ -9223372036854775808 ≤ u ∧ u ≤ 9223372036854775807 ∧ -9223372036854775808 ≤ v ∧ v ≤ 9223372036854775807 ∧ -4096 ≤ u ∧ u ≤ 4096 ∧ -4096 ≤ v ∧ v ≤ 4096 ∧ u = x ∧ v = y) : Cc 10 [.i x, .i y, .i 0, .i 2, .i u, .i v, .i 3] [.b true] := by
  refine q10 rfl ?_; unfold p10
  by_cases hc : -4096 ≤ y - x ∧ y - x ≤ 4096
  · first | (exfalso; omega) | (repeat (first | simp (disch := omega) only [↓qxs, ↓qxc, ↓qxa, ↓qxb] | refine p_loop 5 ?_ | refine p_call (touch00 (by omega)) ?_ | refine p_call (touch01 (by omega)) ?_ | refine p_call (touch02 (by omega)) ?_ | refine p_call (touchn0 (by omega)) ?_ | refine p_call (touch_no2 (by omega)) ?_ | refine p_call (v3_ok (by omega)) ?_ | refine p_call (v3_no (by omega)) ?_ | refine p_call (rnb00 (by omega)) ?_ | refine p_call (rnb01 (by omega)) ?_ | refine p_call (rnb02 (by omega)) ?_ | refine p_call (cnb02 (by omega)) ?_ | refine p_call (cnb32 (by omega)) ?_ | refine p_call (rline02 (by omega)) ?_ | refine p_call (v1_ok (by omega)) ?_ | refine p_call (v1_no (by omega)) ?_ | refine p_call (csideh40 (by omega)) ?_ | refine p_call (csidel40 (by omega)) ?_ | refine p_call (csideh43 (by omega)) ?_ | refine p_call (csidel43 (by omega)) ?_ | refine p_call lives ?_ | refine p_call (v3_ok (by omega)) ?_ | refine p_call (v3_no (by omega)) ?_ | refine p_call (cellCheck_ok (by omega)) ?_ | refine p_call (cellCheck_no (by omega)) ?_))
  first | (exfalso; omega) | (repeat (first | simp (disch := omega) only [↓qxs, ↓qxc, ↓qxa, ↓qxb] | refine p_loop 5 ?_ | refine p_call (touch00 (by omega)) ?_ | refine p_call (touch01 (by omega)) ?_ | refine p_call (touch02 (by omega)) ?_ | refine p_call (touchn0 (by omega)) ?_ | refine p_call (touch_no2 (by omega)) ?_ | refine p_call (v3_ok (by omega)) ?_ | refine p_call (v3_no (by omega)) ?_ | refine p_call (rnb00 (by omega)) ?_ | refine p_call (rnb01 (by omega)) ?_ | refine p_call (rnb02 (by omega)) ?_ | refine p_call (cnb02 (by omega)) ?_ | refine p_call (cnb32 (by omega)) ?_ | refine p_call (rline02 (by omega)) ?_ | refine p_call (v1_ok (by omega)) ?_ | refine p_call (v1_no (by omega)) ?_ | refine p_call (csideh40 (by omega)) ?_ | refine p_call (csidel40 (by omega)) ?_ | refine p_call (csideh43 (by omega)) ?_ | refine p_call (csidel43 (by omega)) ?_ | refine p_call lives ?_ | refine p_call (v3_ok (by omega)) ?_ | refine p_call (v3_no (by omega)) ?_ | refine p_call (cellCheck_ok (by omega)) ?_ | refine p_call (cellCheck_no (by omega)) ?_))
theorem cellsNb023 {x y u v r : Int} (h : -4096 ≤ x ∧ x ≤ 4096 ∧ -4096 ≤ y ∧ y ≤ 4096 ∧ -9223372036854775808 ≤ u ∧ u ≤ 9223372036854775807 ∧ -9223372036854775808 ≤ v ∧ v ≤ 9223372036854775807 ∧ 0 ≤ r ∧ r ≤ 255 ∧ (-4096 ≤ u ∧ u ≤ 4096 ∧ -4096 ≤ v ∧ v ≤ 4096 ∧ r ≤ 3) ∧ ¬ (u = x ∧ v = y - 1 ∧ r = 2) ∧ ¬ (u = x ∧ v = y ∧ r = 1) ∧ ¬ (u = x ∧ v = y ∧ r = 3)) : Cc 10 [.i x, .i y, .i 0, .i 2, .i u, .i v, .i r] [.b true] := by
  refine q10 rfl ?_; unfold p10
  by_cases hc : -4096 ≤ y - x ∧ y - x ≤ 4096
  · first | (exfalso; omega) | (repeat (first | simp (disch := omega) only [↓qxs, ↓qxc, ↓qxa, ↓qxb] | refine p_loop 5 ?_ | refine p_call (touch00 (by omega)) ?_ | refine p_call (touch01 (by omega)) ?_ | refine p_call (touch02 (by omega)) ?_ | refine p_call (touchn0 (by omega)) ?_ | refine p_call (touch_no2 (by omega)) ?_ | refine p_call (v3_ok (by omega)) ?_ | refine p_call (v3_no (by omega)) ?_ | refine p_call (rnb00 (by omega)) ?_ | refine p_call (rnb01 (by omega)) ?_ | refine p_call (rnb02 (by omega)) ?_ | refine p_call (cnb02 (by omega)) ?_ | refine p_call (cnb32 (by omega)) ?_ | refine p_call (rline02 (by omega)) ?_ | refine p_call (v1_ok (by omega)) ?_ | refine p_call (v1_no (by omega)) ?_ | refine p_call (csideh40 (by omega)) ?_ | refine p_call (csidel40 (by omega)) ?_ | refine p_call (csideh43 (by omega)) ?_ | refine p_call (csidel43 (by omega)) ?_ | refine p_call lives ?_ | refine p_call (v3_ok (by omega)) ?_ | refine p_call (v3_no (by omega)) ?_ | refine p_call (cellCheck_ok (by omega)) ?_ | refine p_call (cellCheck_no (by omega)) ?_))
  first | (exfalso; omega) | (repeat (first | simp (disch := omega) only [↓qxs, ↓qxc, ↓qxa, ↓qxb] | refine p_loop 5 ?_ | refine p_call (touch00 (by omega)) ?_ | refine p_call (touch01 (by omega)) ?_ | refine p_call (touch02 (by omega)) ?_ | refine p_call (touchn0 (by omega)) ?_ | refine p_call (touch_no2 (by omega)) ?_ | refine p_call (v3_ok (by omega)) ?_ | refine p_call (v3_no (by omega)) ?_ | refine p_call (rnb00 (by omega)) ?_ | refine p_call (rnb01 (by omega)) ?_ | refine p_call (rnb02 (by omega)) ?_ | refine p_call (cnb02 (by omega)) ?_ | refine p_call (cnb32 (by omega)) ?_ | refine p_call (rline02 (by omega)) ?_ | refine p_call (v1_ok (by omega)) ?_ | refine p_call (v1_no (by omega)) ?_ | refine p_call (csideh40 (by omega)) ?_ | refine p_call (csidel40 (by omega)) ?_ | refine p_call (csideh43 (by omega)) ?_ | refine p_call (csidel43 (by omega)) ?_ | refine p_call lives ?_ | refine p_call (v3_ok (by omega)) ?_ | refine p_call (v3_no (by omega)) ?_ | refine p_call (cellCheck_ok (by omega)) ?_ | refine p_call (cellCheck_no (by omega)) ?_))
theorem cellsNb024 {x y u v r : Int} (h : -4096 ≤ x ∧ x ≤ 4096 ∧ -4096 ≤ y ∧ y ≤ 4096 ∧ -9223372036854775808 ≤ u ∧ u ≤ 9223372036854775807 ∧ -9223372036854775808 ≤ v ∧ v ≤ 9223372036854775807 ∧ 0 ≤ r ∧ r ≤ 255 ∧ ¬ (-4096 ≤ u ∧ u ≤ 4096 ∧ -4096 ≤ v ∧ v ≤ 4096 ∧ r ≤ 3)) : Cc 10 [.i x, .i y, .i 0, .i 2, .i u, .i v, .i r] [.b true] := by
  refine q10 rfl ?_; unfold p10
  by_cases hc : -4096 ≤ y - x ∧ y - x ≤ 4096
  · first | (exfalso; omega) | (repeat (first | simp (disch := omega) only [↓qxs, ↓qxc, ↓qxa, ↓qxb] | refine p_loop 5 ?_ | refine p_call (touch00 (by omega)) ?_ | refine p_call (touch01 (by omega)) ?_ | refine p_call (touch02 (by omega)) ?_ | refine p_call (touchn0 (by omega)) ?_ | refine p_call (touch_no2 (by omega)) ?_ | refine p_call (v3_ok (by omega)) ?_ | refine p_call (v3_no (by omega)) ?_ | refine p_call (rnb00 (by omega)) ?_ | refine p_call (rnb01 (by omega)) ?_ | refine p_call (rnb02 (by omega)) ?_ | refine p_call (cnb02 (by omega)) ?_ | refine p_call (cnb32 (by omega)) ?_ | refine p_call (rline02 (by omega)) ?_ | refine p_call (v1_ok (by omega)) ?_ | refine p_call (v1_no (by omega)) ?_ | refine p_call (csideh40 (by omega)) ?_ | refine p_call (csidel40 (by omega)) ?_ | refine p_call (csideh43 (by omega)) ?_ | refine p_call (csidel43 (by omega)) ?_ | refine p_call lives ?_ | refine p_call (v3_ok (by omega)) ?_ | refine p_call (v3_no (by omega)) ?_ | refine p_call (cellCheck_ok (by omega)) ?_ | refine p_call (cellCheck_no (by omega)) ?_))
  first | (exfalso; omega) | (repeat (first | simp (disch := omega) only [↓qxs, ↓qxc, ↓qxa, ↓qxb] | refine p_loop 5 ?_ | refine p_call (touch00 (by omega)) ?_ | refine p_call (touch01 (by omega)) ?_ | refine p_call (touch02 (by omega)) ?_ | refine p_call (touchn0 (by omega)) ?_ | refine p_call (touch_no2 (by omega)) ?_ | refine p_call (v3_ok (by omega)) ?_ | refine p_call (v3_no (by omega)) ?_ | refine p_call (rnb00 (by omega)) ?_ | refine p_call (rnb01 (by omega)) ?_ | refine p_call (rnb02 (by omega)) ?_ | refine p_call (cnb02 (by omega)) ?_ | refine p_call (cnb32 (by omega)) ?_ | refine p_call (rline02 (by omega)) ?_ | refine p_call (v1_ok (by omega)) ?_ | refine p_call (v1_no (by omega)) ?_ | refine p_call (csideh40 (by omega)) ?_ | refine p_call (csidel40 (by omega)) ?_ | refine p_call (csideh43 (by omega)) ?_ | refine p_call (csidel43 (by omega)) ?_ | refine p_call lives ?_ | refine p_call (v3_ok (by omega)) ?_ | refine p_call (v3_no (by omega)) ?_ | refine p_call (cellCheck_ok (by omega)) ?_ | refine p_call (cellCheck_no (by omega)) ?_))
theorem cellsNb0 {x y e u v r : Int} (h : -4096 ≤ x ∧ x ≤ 4096 ∧ -4096 ≤ y ∧ y ≤ 4096 ∧ -9223372036854775808 ≤ u ∧ u ≤ 9223372036854775807 ∧ -9223372036854775808 ≤ v ∧ v ≤ 9223372036854775807 ∧ 0 ≤ r ∧ r ≤ 255 ∧ 0 ≤ e ∧ e ≤ 255) : Cc 10 [.i x, .i y, .i 0, .i e, .i u, .i v, .i r] [.b true] := by
  obtain he | rfl | rfl | rfl : 2 < e ∨ e = 0 ∨ e = 1 ∨ e = 2 := by omega
  · by_cases hv : -4096 ≤ u ∧ u ≤ 4096 ∧ -4096 ≤ v ∧ v ≤ 4096 ∧ r ≤ 3
    · by_cases h0 : u = x ∧ v = y - 1 ∧ r = 2
      · obtain ⟨h1, h2, rfl⟩ := h0; exact cellsNb0g0 (by omega)
      by_cases h1 : u = x ∧ v = y ∧ r = 1
      · obtain ⟨h1, h2, rfl⟩ := h1; exact cellsNb0g1 (by omega)
      by_cases h2 : u = x ∧ v = y ∧ r = 3
      · obtain ⟨h1, h2, rfl⟩ := h2; exact cellsNb0g2 (by omega)
      exact cellsNb0g3 (by omega)
    · exact cellsNb0g4 (by omega)
  · by_cases hv : -4096 ≤ u ∧ u ≤ 4096 ∧ -4096 ≤ v ∧ v ≤ 4096 ∧ r ≤ 3
    · by_cases h0 : u = x ∧ v = y - 1 ∧ r = 2
      · obtain ⟨h1, h2, rfl⟩ := h0; exact cellsNb000 (by omega)
      by_cases h1 : u = x ∧ v = y ∧ r = 1
      · obtain ⟨h1, h2, rfl⟩ := h1; exact cellsNb001 (by omega)
      by_cases h2 : u = x ∧ v = y ∧ r = 3
      · obtain ⟨h1, h2, rfl⟩ := h2; exact cellsNb002 (by omega)
      exact cellsNb003 (by omega)
    · exact cellsNb004 (by omega)
  · by_cases hv : -4096 ≤ u ∧ u ≤ 4096 ∧ -4096 ≤ v ∧ v ≤ 4096 ∧ r ≤ 3
    · by_cases h0 : u = x ∧ v = y - 1 ∧ r = 2
      · obtain ⟨h1, h2, rfl⟩ := h0; exact cellsNb010 (by omega)
      by_cases h1 : u = x ∧ v = y ∧ r = 1
      · obtain ⟨h1, h2, rfl⟩ := h1; exact cellsNb011 (by omega)
      by_cases h2 : u = x ∧ v = y ∧ r = 3
      · obtain ⟨h1, h2, rfl⟩ := h2; exact cellsNb012 (by omega)
      exact cellsNb013 (by omega)
    · exact cellsNb014 (by omega)
  · by_cases hv : -4096 ≤ u ∧ u ≤ 4096 ∧ -4096 ≤ v ∧ v ≤ 4096 ∧ r ≤ 3
    · by_cases h0 : u = x ∧ v = y - 1 ∧ r = 2
      · obtain ⟨h1, h2, rfl⟩ := h0; exact cellsNb020 (by omega)
      by_cases h1 : u = x ∧ v = y ∧ r = 1
      · obtain ⟨h1, h2, rfl⟩ := h1; exact cellsNb021 (by omega)
      by_cases h2 : u = x ∧ v = y ∧ r = 3
      · obtain ⟨h1, h2, rfl⟩ := h2; exact cellsNb022 (by omega)
      exact cellsNb023 (by omega)
    · exact cellsNb024 (by omega)
end Go.Am
/-
  CONTRACTS, BY PROGRAM: CellsNeighbour, by quarter.
-/
set_option maxRecDepth 100000
set_option maxHeartbeats 4000000
namespace Go.Am
open Sx Go.Proofs

theorem cellsNb1g0 {x y u v e : Int} (h : -4096 ≤ x ∧ x ≤ 4096 ∧ -4096 ≤ y ∧ y ≤ 4096 ∧ -9223372036854775808 ≤ u ∧ u ≤ 9223372036854775807 ∧ -9223372036854775808 ≤ v ∧ v ≤ 9223372036854775807 ∧ 2 < e ∧ e ≤ 255 ∧ -4096 ≤ u ∧ u ≤ 4096 ∧ -4096 ≤ v ∧ v ≤ 4096 ∧ u = x + 1 ∧ v = y) : Cc 10 [.i x, .i y, .i 1, .i e, .i u, .i v, .i 3] [.b true] := by
  refine q10 rfl ?_; unfold p10
  first | (exfalso; omega) | (repeat (first | simp (disch := omega) only [↓qxs, ↓qxc, ↓qxa, ↓qxb] | refine p_loop 5 ?_ | refine p_call (cnb_no (by omega)) ?_ | refine p_call (touch10 (by omega)) ?_ | refine p_call (touch11 (by omega)) ?_ | refine p_call (touch12 (by omega)) ?_ | refine p_call (touchn1 (by omega)) ?_ | refine p_call (touch_no2 (by omega)) ?_ | refine p_call (v3_ok (by omega)) ?_ | refine p_call (v3_no (by omega)) ?_ | refine p_call (rnb10 (by omega)) ?_ | refine p_call (rnb11 (by omega)) ?_ | refine p_call (rnb12 (by omega)) ?_ | refine p_call lives ?_ | refine p_call (v3_ok (by omega)) ?_ | refine p_call (v3_no (by omega)) ?_ | refine p_call (cellCheck_ok (by omega)) ?_ | refine p_call (cellCheck_no (by omega)) ?_))
theorem cellsNb1g1 {x y u v e : Int} (h : -4096 ≤ x ∧ x ≤ 4096 ∧ -4096 ≤ y ∧ y ≤ 4096 ∧ -9223372036854775808 ≤ u ∧ u ≤ 9223372036854775807 ∧ -9223372036854775808 ≤ v ∧ v ≤ 9223372036854775807 ∧ 2 < e ∧ e ≤ 255 ∧ -4096 ≤ u ∧ u ≤ 4096 ∧ -4096 ≤ v ∧ v ≤ 4096 ∧ u = x ∧ v = y) : Cc 10 [.i x, .i y, .i 1, .i e, .i u, .i v, .i 0] [.b true] := by
  refine q10 rfl ?_; unfold p10
  first | (exfalso; omega) | (repeat (first | simp (disch := omega) only [↓qxs, ↓qxc, ↓qxa, ↓qxb] | refine p_loop 5 ?_ | refine p_call (cnb_no (by omega)) ?_ | refine p_call (touch10 (by omega)) ?_ | refine p_call (touch11 (by omega)) ?_ | refine p_call (touch12 (by omega)) ?_ | refine p_call (touchn1 (by omega)) ?_ | refine p_call (touch_no2 (by omega)) ?_ | refine p_call (v3_ok (by omega)) ?_ | refine p_call (v3_no (by omega)) ?_ | refine p_call (rnb10 (by omega)) ?_ | refine p_call (rnb11 (by omega)) ?_ | refine p_call (rnb12 (by omega)) ?_ | refine p_call lives ?_ | refine p_call (v3_ok (by omega)) ?_ | refine p_call (v3_no (by omega)) ?_ | refine p_call (cellCheck_ok (by omega)) ?_ | refine p_call (cellCheck_no (by omega)) ?_))
theorem cellsNb1g2 {x y u v e : Int} (h : -4096 ≤ x ∧ x ≤ 4096 ∧ -4096 ≤ y ∧ y ≤ 4096 ∧ -9223372036854775808 ≤ u ∧ u ≤ 9223372036854775807 ∧ -9223372036854775808 ≤ v ∧ v ≤ 9223372036854775807 ∧ 2 < e ∧ e ≤ 255 ∧ -4096 ≤ u ∧ u ≤ 4096 ∧ -4096 ≤ v ∧ v ≤ 4096 ∧ u = x ∧ v = y) : Cc 10 [.i x, .i y, .i 1, .i e, .i u, .i v, .i 2] [.b true] := by
  refine q10 rfl ?_; unfold p10
  first | (exfalso; omega) | (repeat (first | simp (disch := omega) only [↓qxs, ↓qxc, ↓qxa, ↓qxb] | refine p_loop 5 ?_ | refine p_call (cnb_no (by omega)) ?_ | refine p_call (touch10 (by omega)) ?_ | refine p_call (touch11 (by omega)) ?_ | refine p_call (touch12 (by omega)) ?_ | refine p_call (touchn1 (by omega)) ?_ | refine p_call (touch_no2 (by omega)) ?_ | refine p_call (v3_ok (by omega)) ?_ | refine p_call (v3_no (by omega)) ?_ | refine p_call (rnb10 (by omega)) ?_ | refine p_call (rnb11 (by omega)) ?_ | refine p_call (rnb12 (by omega)) ?_ | refine p_call lives ?_ | refine p_call (v3_ok (by omega)) ?_ | refine p_call (v3_no (by omega)) ?_ | refine p_call (cellCheck_ok (by omega)) ?_ | refine p_call (cellCheck_no (by omega)) ?_))
theorem cellsNb1g3 {x y u v r e : Int} (h : -4096 ≤ x ∧ x ≤ 4096 ∧ -4096 ≤ y ∧ y ≤ 4096 ∧ -9223372036854775808 ≤ u ∧ u ≤ 9223372036854775807 ∧ -9223372036854775808 ≤ v ∧ v ≤ 9223372036854775807 ∧ 0 ≤ r ∧ r ≤ 255 ∧ 2 < e ∧ e ≤ 255 ∧ (-4096 ≤ u ∧ u ≤ 4096 ∧ -4096 ≤ v ∧ v ≤ 4096 ∧ r ≤ 3) ∧ ¬ (u = x + 1 ∧ v = y ∧ r = 3) ∧ ¬ (u = x ∧ v = y ∧ r = 0) ∧ ¬ (u = x ∧ v = y ∧ r = 2)) : Cc 10 [.i x, .i y, .i 1, .i e, .i u, .i v, .i r] [.b true] := by
  refine q10 rfl ?_; unfold p10
  first | (exfalso; omega) | (repeat (first | simp (disch := omega) only [↓qxs, ↓qxc, ↓qxa, ↓qxb] | refine p_loop 5 ?_ | refine p_call (cnb_no (by omega)) ?_ | refine p_call (touch10 (by omega)) ?_ | refine p_call (touch11 (by omega)) ?_ | refine p_call (touch12 (by omega)) ?_ | refine p_call (touchn1 (by omega)) ?_ | refine p_call (touch_no2 (by omega)) ?_ | refine p_call (v3_ok (by omega)) ?_ | refine p_call (v3_no (by omega)) ?_ | refine p_call (rnb10 (by omega)) ?_ | refine p_call (rnb11 (by omega)) ?_ | refine p_call (rnb12 (by omega)) ?_ | refine p_call lives ?_ | refine p_call (v3_ok (by omega)) ?_ | refine p_call (v3_no (by omega)) ?_ | refine p_call (cellCheck_ok (by omega)) ?_ | refine p_call (cellCheck_no (by omega)) ?_))
theorem cellsNb1g4 {x y u v r e : Int} (h : -4096 ≤ x ∧ x ≤ 4096 ∧ -4096 ≤ y ∧ y ≤ 4096 ∧ -9223372036854775808 ≤ u ∧ u ≤ 9223372036854775807 ∧ -9223372036854775808 ≤ v ∧ v ≤ 9223372036854775807 ∧ 0 ≤ r ∧ r ≤ 255 ∧ 2 < e ∧ e ≤ 255 ∧ ¬ (-4096 ≤ u ∧ u ≤ 4096 ∧ -4096 ≤ v ∧ v ≤ 4096 ∧ r ≤ 3)) : Cc 10 [.i x, .i y, .i 1, .i e, .i u, .i v, .i r] [.b true] := by
  refine q10 rfl ?_; unfold p10
  first | (exfalso; omega) | (repeat (first | simp (disch := omega) only [↓qxs, ↓qxc, ↓qxa, ↓qxb] | refine p_loop 5 ?_ | refine p_call (cnb_no (by omega)) ?_ | refine p_call (touch10 (by omega)) ?_ | refine p_call (touch11 (by omega)) ?_ | refine p_call (touch12 (by omega)) ?_ | refine p_call (touchn1 (by omega)) ?_ | refine p_call (touch_no2 (by omega)) ?_ | refine p_call (v3_ok (by omega)) ?_ | refine p_call (v3_no (by omega)) ?_ | refine p_call (rnb10 (by omega)) ?_ | refine p_call (rnb11 (by omega)) ?_ | refine p_call (rnb12 (by omega)) ?_ | refine p_call lives ?_ | refine p_call (v3_ok (by omega)) ?_ | refine p_call (v3_no (by omega)) ?_ | refine p_call (cellCheck_ok (by omega)) ?_ | refine p_call (cellCheck_no (by omega)) ?_))
theorem cellsNb100 {x y u v : Int} (h : -4096 ≤ x ∧ x ≤ 4096 ∧ -4096 ≤ y ∧ y ≤ 4096 ∧ -9223372036854775808 ≤ u ∧ u ≤ 9223372036854775807 ∧ -9223372036854775808 ≤ v ∧ v ≤ 9223372036854775807 ∧ -4096 ≤ u ∧ u ≤ 4096 ∧ -4096 ≤ v ∧ v ≤ 4096 ∧ u = x + 1 ∧ v = y) : Cc 10 [.i x, .i y, .i 1, .i 0, .i u, .i v, .i 3] [.b true] := by
  refine q10 rfl ?_; unfold p10
  by_cases hn : -4096 ≤ x + 1 ∧ x + 1 ≤ 4096 ∧ -4096 ≤ y ∧ y ≤ 4096
  · by_cases hc : -4096 ≤ x + 1 ∧ x + 1 ≤ 4096
    · first | (exfalso; omega) | (repeat (first | simp (disch := omega) only [↓qxs, ↓qxc, ↓qxa, ↓qxb] | refine p_loop 5 ?_ | refine p_call (touch10 (by omega)) ?_ | refine p_call (touch11 (by omega)) ?_ | refine p_call (touch12 (by omega)) ?_ | refine p_call (touchn1 (by omega)) ?_ | refine p_call (touch_no2 (by omega)) ?_ | refine p_call (v3_ok (by omega)) ?_ | refine p_call (v3_no (by omega)) ?_ | refine p_call (rnb10 (by omega)) ?_ | refine p_call (rnb11 (by omega)) ?_ | refine p_call (rnb12 (by omega)) ?_ | refine p_call (cnb10 (by omega)) ?_ | refine p_call (cnbl10 (by omega)) ?_ | refine p_call (cnb30 (by omega)) ?_ | refine p_call (rline10 (by omega)) ?_ | refine p_call (v1_ok (by omega)) ?_ | refine p_call (v1_no (by omega)) ?_ | refine p_call (csideh11 (by omega)) ?_ | refine p_call (csidel11 (by omega)) ?_ | refine p_call (csideh13 (by omega)) ?_ | refine p_call (csidel13 (by omega)) ?_ | refine p_call lives ?_ | refine p_call (v3_ok (by omega)) ?_ | refine p_call (v3_no (by omega)) ?_ | refine p_call (cellCheck_ok (by omega)) ?_ | refine p_call (cellCheck_no (by omega)) ?_))
    first | (exfalso; omega) | (repeat (first | simp (disch := omega) only [↓qxs, ↓qxc, ↓qxa, ↓qxb] | refine p_loop 5 ?_ | refine p_call (touch10 (by omega)) ?_ | refine p_call (touch11 (by omega)) ?_ | refine p_call (touch12 (by omega)) ?_ | refine p_call (touchn1 (by omega)) ?_ | refine p_call (touch_no2 (by omega)) ?_ | refine p_call (v3_ok (by omega)) ?_ | refine p_call (v3_no (by omega)) ?_ | refine p_call (rnb10 (by omega)) ?_ | refine p_call (rnb11 (by omega)) ?_ | refine p_call (rnb12 (by omega)) ?_ | refine p_call (cnb10 (by omega)) ?_ | refine p_call (cnbl10 (by omega)) ?_ | refine p_call (cnb30 (by omega)) ?_ | refine p_call (rline10 (by omega)) ?_ | refine p_call (v1_ok (by omega)) ?_ | refine p_call (v1_no (by omega)) ?_ | refine p_call (csideh11 (by omega)) ?_ | refine p_call (csidel11 (by omega)) ?_ | refine p_call (csideh13 (by omega)) ?_ | refine p_call (csidel13 (by omega)) ?_ | refine p_call lives ?_ | refine p_call (v3_ok (by omega)) ?_ | refine p_call (v3_no (by omega)) ?_ | refine p_call (cellCheck_ok (by omega)) ?_ | refine p_call (cellCheck_no (by omega)) ?_))
  first | (exfalso; omega) | (repeat (first | simp (disch := omega) only [↓qxs, ↓qxc, ↓qxa, ↓qxb] | refine p_loop 5 ?_ | refine p_call (touch10 (by omega)) ?_ | refine p_call (touch11 (by omega)) ?_ | refine p_call (touch12 (by omega)) ?_ | refine p_call (touchn1 (by omega)) ?_ | refine p_call (touch_no2 (by omega)) ?_ | refine p_call (v3_ok (by omega)) ?_ | refine p_call (v3_no (by omega)) ?_ | refine p_call (rnb10 (by omega)) ?_ | refine p_call (rnb11 (by omega)) ?_ | refine p_call (rnb12 (by omega)) ?_ | refine p_call (cnb10 (by omega)) ?_ | refine p_call (cnbl10 (by omega)) ?_ | refine p_call (cnb30 (by omega)) ?_ | refine p_call (rline10 (by omega)) ?_ | refine p_call (v1_ok (by omega)) ?_ | refine p_call (v1_no (by omega)) ?_ | refine p_call (csideh11 (by omega)) ?_ | refine p_call (csidel11 (by omega)) ?_ | refine p_call (csideh13 (by omega)) ?_ | refine p_call (csidel13 (by omega)) ?_ | refine p_call lives ?_ | refine p_call (v3_ok (by omega)) ?_ | refine p_call (v3_no (by omega)) ?_ | refine p_call (cellCheck_ok (by omega)) ?_ | refine p_call (cellCheck_no (by omega)) ?_))
theorem cellsNb101 {x y u v : Int} (h : -4096 ≤ x ∧ x ≤ 4096 ∧ -4096 ≤ y ∧ y ≤ 4096 ∧ -9223372036854775808 ≤ u ∧ u ≤ 9223372036854775807 ∧ -9223372036854775808 ≤ v ∧ v ≤ 9223372036854775807 ∧ -4096 ≤ u ∧ u ≤ 4096 ∧ -4096 ≤ v ∧ v ≤ 4096 ∧ u = x ∧ v = y) : Cc 10 [.i x, .i y, .i 1, .i 0, .i u, .i v, .i 0] [.b true] := by
  refine q10 rfl ?_; unfold p10
  by_cases hn : -4096 ≤ x + 1 ∧ x + 1 ≤ 4096 ∧ -4096 ≤ y ∧ y ≤ 4096
  · by_cases hc : -4096 ≤ x + 1 ∧ x + 1 ≤ 4096
    · first | (exfalso; omega) | (repeat (first | simp (disch := omega) only [↓qxs, ↓qxc, ↓qxa, ↓qxb] | refine p_loop 5 ?_ | refine p_call (touch10 (by omega)) ?_ | refine p_call (touch11 (by omega)) ?_ | refine p_call (touch12 (by omega)) ?_ | refine p_call (touchn1 (by omega)) ?_ | refine p_call (touch_no2 (by omega)) ?_ | refine p_call (v3_ok (by omega)) ?_ | refine p_call (v3_no (by omega)) ?_ | refine p_call (rnb10 (by omega)) ?_ | refine p_call (rnb11 (by omega)) ?_ | refine p_call (rnb12 (by omega)) ?_ | refine p_call (cnb10 (by omega)) ?_ | refine p_call (cnbl10 (by omega)) ?_ | refine p_call (cnb30 (by omega)) ?_ | refine p_call (rline10 (by omega)) ?_ | refine p_call (v1_ok (by omega)) ?_ | refine p_call (v1_no (by omega)) ?_ | refine p_call (csideh11 (by omega)) ?_ | refine p_call (csidel11 (by omega)) ?_ | refine p_call (csideh13 (by omega)) ?_ | refine p_call (csidel13 (by omega)) ?_ | refine p_call lives ?_ | refine p_call (v3_ok (by omega)) ?_ | refine p_call (v3_no (by omega)) ?_ | refine p_call (cellCheck_ok (by omega)) ?_ | refine p_call (cellCheck_no (by omega)) ?_))
    first | (exfalso; omega) | (repeat (first | simp (disch := omega) only [↓qxs, ↓qxc, ↓qxa, ↓qxb] | refine p_loop 5 ?_ | refine p_call (touch10 (by omega)) ?_ | refine p_call (touch11 (by omega)) ?_ | refine p_call (touch12 (by omega)) ?_ | refine p_call (touchn1 (by omega)) ?_ | refine p_call (touch_no2 (by omega)) ?_ | refine p_call (v3_ok (by omega)) ?_ | refine p_call (v3_no (by omega)) ?_ | refine p_call (rnb10 (by omega)) ?_ | refine p_call (rnb11 (by omega)) ?_ | refine p_call (rnb12 (by omega)) ?_ | refine p_call (cnb10 (by omega)) ?_ | refine p_call (cnbl10 (by omega)) ?_ | refine p_call (cnb30 (by omega)) ?_ | refine p_call (rline10 (by omega)) ?_ | refine p_call (v1_ok (by omega)) ?_ | refine p_call (v1_no (by omega)) ?_ | refine p_call (csideh11 (by omega)) ?_ | refine p_call (csidel11 (by omega)) ?_ | refine p_call (csideh13 (by omega)) ?_ | refine p_call (csidel13 (by omega)) ?_ | refine p_call lives ?_ | refine p_call (v3_ok (by omega)) ?_ | refine p_call (v3_no (by omega)) ?_ | refine p_call (cellCheck_ok (by omega)) ?_ | refine p_call (cellCheck_no (by omega)) ?_))
  first | (exfalso; omega) | (repeat (first | simp (disch := omega) only [↓qxs, ↓qxc, ↓qxa, ↓qxb] | refine p_loop 5 ?_ | refine p_call (touch10 (by omega)) ?_ | refine p_call (touch11 (by omega)) ?_ | refine p_call (touch12 (by omega)) ?_ | refine p_call (touchn1 (by omega)) ?_ | refine p_call (touch_no2 (by omega)) ?_ | refine p_call (v3_ok (by omega)) ?_ | refine p_call (v3_no (by omega)) ?_ | refine p_call (rnb10 (by omega)) ?_ | refine p_call (rnb11 (by omega)) ?_ | refine p_call (rnb12 (by omega)) ?_ | refine p_call (cnb10 (by omega)) ?_ | refine p_call (cnbl10 (by omega)) ?_ | refine p_call (cnb30 (by omega)) ?_ | refine p_call (rline10 (by omega)) ?_ | refine p_call (v1_ok (by omega)) ?_ | refine p_call (v1_no (by omega)) ?_ | refine p_call (csideh11 (by omega)) ?_ | refine p_call (csidel11 (by omega)) ?_ | refine p_call (csideh13 (by omega)) ?_ | refine p_call (csidel13 (by omega)) ?_ | refine p_call lives ?_ | refine p_call (v3_ok (by omega)) ?_ | refine p_call (v3_no (by omega)) ?_ | refine p_call (cellCheck_ok (by omega)) ?_ | refine p_call (cellCheck_no (by omega)) ?_))
theorem cellsNb102 {x y u v : Int} (h : -4096 ≤ x ∧ x ≤ 4096 ∧ -4096 ≤ y ∧ y ≤ 4096 ∧ -9223372036854775808 ≤ u ∧ u ≤ 9223372036854775807 ∧ -9223372036854775808 ≤ v ∧ v ≤ 9223372036854775807 ∧ -4096 ≤ u ∧ u ≤ 4096 ∧ -4096 ≤ v ∧ v ≤ 4096 ∧ u = x ∧ v = y) : Cc 10 [.i x, .i y, .i 1, .i 0, .i u, .i v, .i 2] [.b true] := by
  refine q10 rfl ?_; unfold p10
  by_cases hn : -4096 ≤ x + 1 ∧ x + 1 ≤ 4096 ∧ -4096 ≤ y ∧ y ≤ 4096
  · by_cases hc : -4096 ≤ x + 1 ∧ x + 1 ≤ 4096
    · first | (exfalso; omega) | (repeat (first | simp (disch := omega) only [↓qxs, ↓qxc, ↓qxa, ↓qxb] | refine p_loop 5 ?_ | refine p_call (touch10 (by omega)) ?_ | refine p_call (touch11 (by omega)) ?_ | refine p_call (touch12 (by omega)) ?_ | refine p_call (touchn1 (by omega)) ?_ | refine p_call (touch_no2 (by omega)) ?_ | refine p_call (v3_ok (by omega)) ?_ | refine p_call (v3_no (by omega)) ?_ | refine p_call (rnb10 (by omega)) ?_ | refine p_call (rnb11 (by omega)) ?_ | refine p_call (rnb12 (by omega)) ?_ | refine p_call (cnb10 (by omega)) ?_ | refine p_call (cnbl10 (by omega)) ?_ | refine p_call (cnb30 (by omega)) ?_ | refine p_call (rline10 (by omega)) ?_ | refine p_call (v1_ok (by omega)) ?_ | refine p_call (v1_no (by omega)) ?_ | refine p_call (csideh11 (by omega)) ?_ | refine p_call (csidel11 (by omega)) ?_ | refine p_call (csideh13 (by omega)) ?_ | refine p_call (csidel13 (by omega)) ?_ | refine p_call lives ?_ | refine p_call (v3_ok (by omega)) ?_ | refine p_call (v3_no (by omega)) ?_ | refine p_call (cellCheck_ok (by omega)) ?_ | refine p_call (cellCheck_no (by omega)) ?_))
    first | (exfalso; omega) | (repeat (first | simp (disch := omega) only [↓qxs, ↓qxc, ↓qxa, ↓qxb] | refine p_loop 5 ?_ | refine p_call (touch10 (by omega)) ?_ | refine p_call (touch11 (by omega)) ?_ | refine p_call (touch12 (by omega)) ?_ | refine p_call (touchn1 (by omega)) ?_ | refine p_call (touch_no2 (by omega)) ?_ | refine p_call (v3_ok (by omega)) ?_ | refine p_call (v3_no (by omega)) ?_ | refine p_call (rnb10 (by omega)) ?_ | refine p_call (rnb11 (by omega)) ?_ | refine p_call (rnb12 (by omega)) ?_ | refine p_call (cnb10 (by omega)) ?_ | refine p_call (cnbl10 (by omega)) ?_ | refine p_call (cnb30 (by omega)) ?_ | refine p_call (rline10 (by omega)) ?_ | refine p_call (v1_ok (by omega)) ?_ | refine p_call (v1_no (by omega)) ?_ | refine p_call (csideh11 (by omega)) ?_ | refine p_call (csidel11 (by omega)) ?_ | refine p_call (csideh13 (by omega)) ?_ | refine p_call (csidel13 (by omega)) ?_ | refine p_call lives ?_ | refine p_call (v3_ok (by omega)) ?_ | refine p_call (v3_no (by omega)) ?_ | refine p_call (cellCheck_ok (by omega)) ?_ | refine p_call (cellCheck_no (by omega)) ?_))
  first | (exfalso; omega) | (repeat (first | simp (disch := omega) only [↓qxs, ↓qxc, ↓qxa, ↓qxb] | refine p_loop 5 ?_ | refine p_call (touch10 (by omega)) ?_ | refine p_call (touch11 (by omega)) ?_ | refine p_call (touch12 (by omega)) ?_ | refine p_call (touchn1 (by omega)) ?_ | refine p_call (touch_no2 (by omega)) ?_ | refine p_call (v3_ok (by omega)) ?_ | refine p_call (v3_no (by omega)) ?_ | refine p_call (rnb10 (by omega)) ?_ | refine p_call (rnb11 (by omega)) ?_ | refine p_call (rnb12 (by omega)) ?_ | refine p_call (cnb10 (by omega)) ?_ | refine p_call (cnbl10 (by omega)) ?_ | refine p_call (cnb30 (by omega)) ?_ | refine p_call (rline10 (by omega)) ?_ | refine p_call (v1_ok (by omega)) ?_ | refine p_call (v1_no (by omega)) ?_ | refine p_call (csideh11 (by omega)) ?_ | refine p_call (csidel11 (by omega)) ?_ | refine p_call (csideh13 (by omega)) ?_ | refine p_call (csidel13 (by omega)) ?_ | refine p_call lives ?_ | refine p_call (v3_ok (by omega)) ?_ | refine p_call (v3_no (by omega)) ?_ | refine p_call (cellCheck_ok (by omega)) ?_ | refine p_call (cellCheck_no (by omega)) ?_))
theorem cellsNb103 {x y u v r : Int} (h : -4096 ≤ x ∧ x ≤ 4096 ∧ -4096 ≤ y ∧ y ≤ 4096 ∧ -9223372036854775808 ≤ u ∧ u ≤ 9223372036854775807 ∧ -9223372036854775808 ≤ v ∧ v ≤ 9223372036854775807 ∧ 0 ≤ r ∧ r ≤ 255 ∧ (-4096 ≤ u ∧ u ≤ 4096 ∧ -4096 ≤ v ∧ v ≤ 4096 ∧ r ≤ 3) ∧ ¬ (u = x + 1 ∧ v = y ∧ r = 3) ∧ ¬ (u = x ∧ v = y ∧ r = 0) ∧ ¬ (u = x ∧ v = y ∧ r = 2)) : Cc 10 [.i x, .i y, .i 1, .i 0, .i u, .i v, .i r] [.b true] := by
  refine q10 rfl ?_; unfold p10
  by_cases hn : -4096 ≤ x + 1 ∧ x + 1 ≤ 4096 ∧ -4096 ≤ y ∧ y ≤ 4096
  · by_cases hc : -4096 ≤ x + 1 ∧ x + 1 ≤ 4096
    · first | (exfalso; omega) | (repeat (first | simp (disch := omega) only [↓qxs, ↓qxc, ↓qxa, ↓qxb] | refine p_loop 5 ?_ | refine p_call (touch10 (by omega)) ?_ | refine p_call (touch11 (by omega)) ?_ | refine p_call (touch12 (by omega)) ?_ | refine p_call (touchn1 (by omega)) ?_ | refine p_call (touch_no2 (by omega)) ?_ | refine p_call (v3_ok (by omega)) ?_ | refine p_call (v3_no (by omega)) ?_ | refine p_call (rnb10 (by omega)) ?_ | refine p_call (rnb11 (by omega)) ?_ | refine p_call (rnb12 (by omega)) ?_ | refine p_call (cnb10 (by omega)) ?_ | refine p_call (cnbl10 (by omega)) ?_ | refine p_call (cnb30 (by omega)) ?_ | refine p_call (rline10 (by omega)) ?_ | refine p_call (v1_ok (by omega)) ?_ | refine p_call (v1_no (by omega)) ?_ | refine p_call (csideh11 (by omega)) ?_ | refine p_call (csidel11 (by omega)) ?_ | refine p_call (csideh13 (by omega)) ?_ | refine p_call (csidel13 (by omega)) ?_ | refine p_call lives ?_ | refine p_call (v3_ok (by omega)) ?_ | refine p_call (v3_no (by omega)) ?_ | refine p_call (cellCheck_ok (by omega)) ?_ | refine p_call (cellCheck_no (by omega)) ?_))
    first | (exfalso; omega) | (repeat (first | simp (disch := omega) only [↓qxs, ↓qxc, ↓qxa, ↓qxb] | refine p_loop 5 ?_ | refine p_call (touch10 (by omega)) ?_ | refine p_call (touch11 (by omega)) ?_ | refine p_call (touch12 (by omega)) ?_ | refine p_call (touchn1 (by omega)) ?_ | refine p_call (touch_no2 (by omega)) ?_ | refine p_call (v3_ok (by omega)) ?_ | refine p_call (v3_no (by omega)) ?_ | refine p_call (rnb10 (by omega)) ?_ | refine p_call (rnb11 (by omega)) ?_ | refine p_call (rnb12 (by omega)) ?_ | refine p_call (cnb10 (by omega)) ?_ | refine p_call (cnbl10 (by omega)) ?_ | refine p_call (cnb30 (by omega)) ?_ | refine p_call (rline10 (by omega)) ?_ | refine p_call (v1_ok (by omega)) ?_ | refine p_call (v1_no (by omega)) ?_ | refine p_call (csideh11 (by omega)) ?_ | refine p_call (csidel11 (by omega)) ?_ | refine p_call (csideh13 (by omega)) ?_ | refine p_call (csidel13 (by omega)) ?_ | refine p_call lives ?_ | refine p_call (v3_ok (by omega)) ?_ | refine p_call (v3_no (by omega)) ?_ | refine p_call (cellCheck_ok (by omega)) ?_ | refine p_call (cellCheck_no (by omega)) ?_))
  first | (exfalso; omega) | (repeat (first | simp (disch := omega) only [↓qxs, ↓qxc, ↓qxa, ↓qxb] | refine p_loop 5 ?_ | refine p_call (touch10 (by omega)) ?_ | refine p_call (touch11 (by omega)) ?_ | refine p_call (touch12 (by omega)) ?_ | refine p_call (touchn1 (by omega)) ?_ | refine p_call (touch_no2 (by omega)) ?_ | refine p_call (v3_ok (by omega)) ?_ | refine p_call (v3_no (by omega)) ?_ | refine p_call (rnb10 (by omega)) ?_ | refine p_call (rnb11 (by omega)) ?_ | refine p_call (rnb12 (by omega)) ?_ | refine p_call (cnb10 (by omega)) ?_ | refine p_call (cnbl10 (by omega)) ?_ | refine p_call (cnb30 (by omega)) ?_ | refine p_call (rline10 (by omega)) ?_ | refine p_call (v1_ok (by omega)) ?_ | refine p_call (v1_no (by omega)) ?_ | refine p_call (csideh11 (by omega)) ?_ | refine p_call (csidel11 (by omega)) ?_ | refine p_call (csideh13 (by omega)) ?_ | refine p_call (csidel13 (by omega)) ?_ | refine p_call lives ?_ | refine p_call (v3_ok (by omega)) ?_ | refine p_call (v3_no (by omega)) ?_ | refine p_call (cellCheck_ok (by omega)) ?_ | refine p_call (cellCheck_no (by omega)) ?_))
theorem cellsNb104 {x y u v r : Int} (h : -4096 ≤ x ∧ x ≤ 4096 ∧ -4096 ≤ y ∧ y ≤ 4096 ∧ -9223372036854775808 ≤ u ∧ u ≤ 9223372036854775807 ∧ -9223372036854775808 ≤ v ∧ v ≤ 9223372036854775807 ∧ 0 ≤ r ∧ r ≤ 255 ∧ ¬ (-4096 ≤ u ∧ u ≤ 4096 ∧ -4096 ≤ v ∧ v ≤ 4096 ∧ r ≤ 3)) : Cc 10 [.i x, .i y, .i 1, .i 0, .i u, .i v, .i r] [.b true] := by
  refine q10 rfl ?_; unfold p10
  by_cases hn : -4096 ≤ x + 1 ∧ x + 1 ≤ 4096 ∧ -4096 ≤ y ∧ y ≤ 4096
  · by_cases hc : -4096 ≤ x + 1 ∧ x + 1 ≤ 4096
    · first | (exfalso; omega) | (repeat (first | simp (disch := omega) only [↓qxs, ↓qxc, ↓qxa, ↓qxb] | refine p_loop 5 ?_ | refine p_call (touch10 (by omega)) ?_ | refine p_call (touch11 (by omega)) ?_ | refine p_call (touch12 (by omega)) ?_ | refine p_call (touchn1 (by omega)) ?_ | refine p_call (touch_no2 (by omega)) ?_ | refine p_call (v3_ok (by omega)) ?_ | refine p_call (v3_no (by omega)) ?_ | refine p_call (rnb10 (by omega)) ?_ | refine p_call (rnb11 (by omega)) ?_ | refine p_call (rnb12 (by omega)) ?_ | refine p_call (cnb10 (by omega)) ?_ | refine p_call (cnbl10 (by omega)) ?_ | refine p_call (cnb30 (by omega)) ?_ | refine p_call (rline10 (by omega)) ?_ | refine p_call (v1_ok (by omega)) ?_ | refine p_call (v1_no (by omega)) ?_ | refine p_call (csideh11 (by omega)) ?_ | refine p_call (csidel11 (by omega)) ?_ | refine p_call (csideh13 (by omega)) ?_ | refine p_call (csidel13 (by omega)) ?_ | refine p_call lives ?_ | refine p_call (v3_ok (by omega)) ?_ | refine p_call (v3_no (by omega)) ?_ | refine p_call (cellCheck_ok (by omega)) ?_ | refine p_call (cellCheck_no (by omega)) ?_))
    first | (exfalso; omega) | (repeat (first | simp (disch := omega) only [↓qxs, ↓qxc, ↓qxa, ↓qxb] | refine p_loop 5 ?_ | refine p_call (touch10 (by omega)) ?_ | refine p_call (touch11 (by omega)) ?_ | refine p_call (touch12 (by omega)) ?_ | refine p_call (touchn1 (by omega)) ?_ | refine p_call (touch_no2 (by omega)) ?_ | refine p_call (v3_ok (by omega)) ?_ | refine p_call (v3_no (by omega)) ?_ | refine p_call (rnb10 (by omega)) ?_ | refine p_call (rnb11 (by omega)) ?_ | refine p_call (rnb12 (by omega)) ?_ | refine p_call (cnb10 (by omega)) ?_ | refine p_call (cnbl10 (by omega)) ?_ | refine p_call (cnb30 (by omega)) ?_ | refine p_call (rline10 (by omega)) ?_ | refine p_call (v1_ok (by omega)) ?_ | refine p_call (v1_no (by omega)) ?_ | refine p_call (csideh11 (by omega)) ?_ | refine p_call (csidel11 (by omega)) ?_ | refine p_call (csideh13 (by omega)) ?_ | refine p_call (csidel13 (by omega)) ?_ | refine p_call lives ?_ | refine p_call (v3_ok (by omega)) ?_ | refine p_call (v3_no (by omega)) ?_ | refine p_call (cellCheck_ok (by omega)) ?_ | refine p_call (cellCheck_no (by omega)) ?_))
  first | (exfalso; omega) | (repeat (first | simp (disch := omega) only [↓qxs, ↓qxc, ↓qxa, ↓qxb] | refine p_loop 5 ?_ | refine p_call (touch10 (by omega)) ?_ | refine p_call (touch11 (by omega)) ?_ | refine p_call (touch12 (by omega)) ?_ | refine p_call (touchn1 (by omega)) ?_ | refine p_call (touch_no2 (by omega)) ?_ | refine p_call (v3_ok (by omega)) ?_ | refine p_call (v3_no (by omega)) ?_ | refine p_call (rnb10 (by omega)) ?_ | refine p_call (rnb11 (by omega)) ?_ | refine p_call (rnb12 (by omega)) ?_ | refine p_call (cnb10 (by omega)) ?_ | refine p_call (cnbl10 (by omega)) ?_ | refine p_call (cnb30 (by omega)) ?_ | refine p_call (rline10 (by omega)) ?_ | refine p_call (v1_ok (by omega)) ?_ | refine p_call (v1_no (by omega)) ?_ | refine p_call (csideh11 (by omega)) ?_ | refine p_call (csidel11 (by omega)) ?_ | refine p_call (csideh13 (by omega)) ?_ | refine p_call (csidel13 (by omega)) ?_ | refine p_call lives ?_ | refine p_call (v3_ok (by omega)) ?_ | refine p_call (v3_no (by omega)) ?_ | refine p_call (cellCheck_ok (by omega)) ?_ | refine p_call (cellCheck_no (by omega)) ?_))
theorem cellsNb110 {x y u v : Int} (h : -4096 ≤ x ∧ x ≤ 4096 ∧ -4096 ≤ y ∧ y ≤ 4096 ∧ -9223372036854775808 ≤ u ∧ u ≤ 9223372036854775807 ∧ -9223372036854775808 ≤ v ∧ v ≤ 9223372036854775807 ∧ -4096 ≤ u ∧ u ≤ 4096 ∧ -4096 ≤ v ∧ v ≤ 4096 ∧ u = x + 1 ∧ v = y) : Cc 10 [.i x, .i y, .i 1, .i 1, .i u, .i v, .i 3] [.b true] := by
  refine q10 rfl ?_; unfold p10
  by_cases hc : -4096 ≤ x + y + 1 ∧ x + y + 1 ≤ 4096
  · first | (exfalso; omega) | (repeat (first | simp (disch := omega) only [↓qxs, ↓qxc, ↓qxa, ↓qxb] | refine p_loop 5 ?_ | refine p_call (touch10 (by omega)) ?_ | refine p_call (touch11 (by omega)) ?_ | refine p_call (touch12 (by omega)) ?_ | refine p_call (touchn1 (by omega)) ?_ | refine p_call (touch_no2 (by omega)) ?_ | refine p_call (v3_ok (by omega)) ?_ | refine p_call (v3_no (by omega)) ?_ | refine p_call (rnb10 (by omega)) ?_ | refine p_call (rnb11 (by omega)) ?_ | refine p_call (rnb12 (by omega)) ?_ | refine p_call (cnb11 (by omega)) ?_ | refine p_call (cnb01 (by omega)) ?_ | refine p_call (rline11 (by omega)) ?_ | refine p_call (v1_ok (by omega)) ?_ | refine p_call (v1_no (by omega)) ?_ | refine p_call (csideh31 (by omega)) ?_ | refine p_call (csidel31 (by omega)) ?_ | refine p_call (csideh30 (by omega)) ?_ | refine p_call (csidel30 (by omega)) ?_ | refine p_call lives ?_ | refine p_call (v3_ok (by omega)) ?_ | refine p_call (v3_no (by omega)) ?_ | refine p_call (cellCheck_ok (by omega)) ?_ | refine p_call (cellCheck_no (by omega)) ?_))
  first | (exfalso; omega) | (repeat (first | simp (disch := omega) only [↓qxs, ↓qxc, ↓qxa, ↓qxb] | refine p_loop 5 ?_ | refine p_call (touch10 (by omega)) ?_ | refine p_call (touch11 (by omega)) ?_ | refine p_call (touch12 (by omega)) ?_ | refine p_call (touchn1 (by omega)) ?_ | refine p_call (touch_no2 (by omega)) ?_ | refine p_call (v3_ok (by omega)) ?_ | refine p_call (v3_no (by omega)) ?_ | refine p_call (rnb10 (by omega)) ?_ | refine p_call (rnb11 (by omega)) ?_ | refine p_call (rnb12 (by omega)) ?_ | refine p_call (cnb11 (by omega)) ?_ | refine p_call (cnb01 (by omega)) ?_ | refine p_call (rline11 (by omega)) ?_ | refine p_call (v1_ok (by omega)) ?_ | refine p_call (v1_no (by omega)) ?_ | refine p_call (csideh31 (by omega)) ?_ | refine p_call (csidel31 (by omega)) ?_ | refine p_call (csideh30 (by omega)) ?_ | refine p_call (csidel30 (by omega)) ?_ | refine p_call lives ?_ | refine p_call (v3_ok (by omega)) ?_ | refine p_call (v3_no (by omega)) ?_ | refine p_call (cellCheck_ok (by omega)) ?_ | refine p_call (cellCheck_no (by omega)) ?_))
theorem cellsNb111 {x y u v : Int} (h : -4096 ≤ x ∧ x ≤ 4096 ∧ -4096 ≤ y ∧ y ≤ 4096 ∧ -9223372036854775808 ≤ u ∧ u ≤ 9223372036854775807 ∧ -9223372036854775808 ≤ v ∧ v ≤ 9223372036854775807 ∧ -4096 ≤ u ∧ u ≤ 4096 ∧ -4096 ≤ v ∧ v ≤ 4096 ∧ u = x ∧ v = y) : Cc 10 [.i x, .i y, .i 1, .i 1, .i u, .i v, .i 0] [.b true] := by
  refine q10 rfl ?_; unfold p10
  by_cases hc : -4096 ≤ x + y + 1 ∧ x + y + 1 ≤ 4096
  · first | (exfalso; omega) | (repeat (first | simp (disch := omega) only [↓qxs, ↓qxc, ↓qxa, ↓qxb] | refine p_loop 5 ?_ | refine p_call (touch10 (by omega)) ?_ | refine p_call (touch11 (by omega)) ?_ | refine p_call (touch12 (by omega)) ?_ | refine p_call (touchn1 (by omega)) ?_ | refine p_call (touch_no2 (by omega)) ?_ | refine p_call (v3_ok (by omega)) ?_ | refine p_call (v3_no (by omega)) ?_ | refine p_call (rnb10 (by omega)) ?_ | refine p_call (rnb11 (by omega)) ?_ | refine p_call (rnb12 (by omega)) ?_ | refine p_call (cnb11 (by omega)) ?_ | refine p_call (cnb01 (by omega)) ?_ | refine p_call (rline11 (by omega)) ?_ | refine p_call (v1_ok (by omega)) ?_ | refine p_call (v1_no (by omega)) ?_ | refine p_call (csideh31 (by omega)) ?_ | refine p_call (csidel31 (by omega)) ?_ | refine p_call (csideh30 (by omega)) ?_ | refine p_call (csidel30 (by omega)) ?_ | refine p_call lives ?_ | refine p_call (v3_ok (by omega)) ?_ | refine p_call (v3_no (by omega)) ?_ | refine p_call (cellCheck_ok (by omega)) ?_ | refine p_call (cellCheck_no (by omega)) ?_))
  first | (exfalso; omega) | (repeat (first | simp (disch := omega) only [↓qxs, ↓qxc, ↓qxa, ↓qxb] | refine p_loop 5 ?_ | refine p_call (touch10 (by omega)) ?_ | refine p_call (touch11 (by omega)) ?_ | refine p_call (touch12 (by omega)) ?_ | refine p_call (touchn1 (by omega)) ?_ | refine p_call (touch_no2 (by omega)) ?_ | refine p_call (v3_ok (by omega)) ?_ | refine p_call (v3_no (by omega)) ?_ | refine p_call (rnb10 (by omega)) ?_ | refine p_call (rnb11 (by omega)) ?_ | refine p_call (rnb12 (by omega)) ?_ | refine p_call (cnb11 (by omega)) ?_ | refine p_call (cnb01 (by omega)) ?_ | refine p_call (rline11 (by omega)) ?_ | refine p_call (v1_ok (by omega)) ?_ | refine p_call (v1_no (by omega)) ?_ | refine p_call (csideh31 (by omega)) ?_ | refine p_call (csidel31 (by omega)) ?_ | refine p_call (csideh30 (by omega)) ?_ | refine p_call (csidel30 (by omega)) ?_ | refine p_call lives ?_ | refine p_call (v3_ok (by omega)) ?_ | refine p_call (v3_no (by omega)) ?_ | refine p_call (cellCheck_ok (by omega)) ?_ | refine p_call (cellCheck_no (by omega)) ?_))
theorem cellsNb112 {x y u v : Int} (h : -4096 ≤ x ∧ x ≤ 4096 ∧ -4096 ≤ y ∧ y ≤ 4096 ∧ -9223372036854775808 ≤ u ∧ u ≤ 9223372036854775807 ∧ -9223372036854775808 ≤ v ∧ v ≤ 9223372036854775807 ∧ -4096 ≤ u ∧ u ≤ 4096 ∧ -4096 ≤ v ∧ v ≤ 4096 ∧ u = x ∧ v = y) : Cc 10 [.i x, .i y, .i 1, .i 1, .i u, .i v, .i 2] [.b true] := by
  refine q10 rfl ?_; unfold p10
  by_cases hc : -4096 ≤ x + y + 1 ∧ x + y + 1 ≤ 4096
  · first | (exfalso; omega) | (repeat (first | simp (disch := omega) only [↓qxs, ↓qxc, ↓qxa, ↓qxb] | refine p_loop 5 ?_ | refine p_call (touch10 (by omega)) ?_ | refine p_call (touch11 (by omega)) ?_ | refine p_call (touch12 (by omega)) ?_ | refine p_call (touchn1 (by omega)) ?_ | refine p_call (touch_no2 (by omega)) ?_ | refine p_call (v3_ok (by omega)) ?_ | refine p_call (v3_no (by omega)) ?_ | refine p_call (rnb10 (by omega)) ?_ | refine p_call (rnb11 (by omega)) ?_ | refine p_call (rnb12 (by omega)) ?_ | refine p_call (cnb11 (by omega)) ?_ | refine p_call (cnb01 (by omega)) ?_ | refine p_call (rline11 (by omega)) ?_ | refine p_call (v1_ok (by omega)) ?_ | refine p_call (v1_no (by omega)) ?_ | refine p_call (csideh31 (by omega)) ?_ | refine p_call (csidel31 (by omega)) ?_ | refine p_call (csideh30 (by omega)) ?_ | refine p_call (csidel30 (by omega)) ?_ | refine p_call lives ?_ | refine p_call (v3_ok (by omega)) ?_ | refine p_call (v3_no (by omega)) ?_ | refine p_call (cellCheck_ok (by omega)) ?_ | refine p_call (cellCheck_no (by omega)) ?_))
  first | (exfalso; omega) | (repeat (first | simp (disch := omega) only [↓qxs, ↓qxc, ↓qxa, ↓qxb] | refine p_loop 5 ?_ | refine p_call (touch10 (by omega)) ?_ | refine p_call (touch11 (by omega)) ?_ | refine p_call (touch12 (by omega)) ?_ | refine p_call (touchn1 (by omega)) ?_ | refine p_call (touch_no2 (by omega)) ?_ | refine p_call (v3_ok (by omega)) ?_ | refine p_call (v3_no (by omega)) ?_ | refine p_call (rnb10 (by omega)) ?_ | refine p_call (rnb11 (by omega)) ?_ | refine p_call (rnb12 (by omega)) ?_ | refine p_call (cnb11 (by omega)) ?_ | refine p_call (cnb01 (by omega)) ?_ | refine p_call (rline11 (by omega)) ?_ | refine p_call (v1_ok (by omega)) ?_ | refine p_call (v1_no (by omega)) ?_ | refine p_call (csideh31 (by omega)) ?_ | refine p_call (csidel31 (by omega)) ?_ | refine p_call (csideh30 (by omega)) ?_ | refine p_call (csidel30 (by omega)) ?_ | refine p_call lives ?_ | refine p_call (v3_ok (by omega)) ?_ | refine p_call (v3_no (by omega)) ?_ | refine p_call (cellCheck_ok (by omega)) ?_ | refine p_call (cellCheck_no (by omega)) ?_))
theorem cellsNb113 {x y u v r : Int} (h : -4096 ≤ x ∧ x ≤ 4096 ∧ -4096 ≤ y ∧ y ≤ 4096 ∧ -9223372036854775808 ≤ u ∧ u ≤ 9223372036854775807 ∧ -9223372036854775808 ≤ v ∧ v ≤ 9223372036854775807 ∧ 0 ≤ r ∧ r ≤ 255 ∧ (-4096 ≤ u ∧ u ≤ 4096 ∧ -4096 ≤ v ∧ v ≤ 4096 ∧ r ≤ 3) ∧ ¬ (u = x + 1 ∧ v = y ∧ r = 3) ∧ ¬ (u = x ∧ v = y ∧ r = 0) ∧ ¬ (u = x ∧ v = y ∧ r = 2)) : Cc 10 [.i x, .i y, .i 1, .i 1, .i u, .i v, .i r] [.b true] := by
  refine q10 rfl ?_; unfold p10
  by_cases hc : -4096 ≤ x + y + 1 ∧ x + y + 1 ≤ 4096
  · first | (exfalso; omega) | (repeat (first | simp (disch := omega) only [↓qxs, ↓qxc, ↓qxa, ↓qxb] | refine p_loop 5 ?_ | refine p_call (touch10 (by omega)) ?_ | refine p_call (touch11 (by omega)) ?_ | refine p_call (touch12 (by omega)) ?_ | refine p_call (touchn1 (by omega)) ?_ | refine p_call (touch_no2 (by omega)) ?_ | refine p_call (v3_ok (by omega)) ?_ | refine p_call (v3_no (by omega)) ?_ | refine p_call (rnb10 (by omega)) ?_ | refine p_call (rnb11 (by omega)) ?_ | refine p_call (rnb12 (by omega)) ?_ | refine p_call (cnb11 (by omega)) ?_ | refine p_call (cnb01 (by omega)) ?_ | refine p_call (rline11 (by omega)) ?_ | refine p_call (v1_ok (by omega)) ?_ | refine p_call (v1_no (by omega)) ?_ | refine p_call (csideh31 (by omega)) ?_ | refine p_call (csidel31 (by omega)) ?_ | refine p_call (csideh30 (by omega)) ?_ | refine p_call (csidel30 (by omega)) ?_ | refine p_call lives ?_ | refine p_call (v3_ok (by omega)) ?_ | refine p_call (v3_no (by omega)) ?_ | refine p_call (cellCheck_ok (by omega)) ?_ | refine p_call (cellCheck_no (by omega)) ?_))
  first | (exfalso; omega) | (repeat (first | simp (disch := omega) only [↓qxs, ↓qxc, ↓qxa, ↓qxb] | refine p_loop 5 ?_ | refine p_call (touch10 (by omega)) ?_ | refine p_call (touch11 (by omega)) ?_ | refine p_call (touch12 (by omega)) ?_ | refine p_call (touchn1 (by omega)) ?_ | refine p_call (touch_no2 (by omega)) ?_ | refine p_call (v3_ok (by omega)) ?_ | refine p_call (v3_no (by omega)) ?_ | refine p_call (rnb10 (by omega)) ?_ | refine p_call (rnb11 (by omega)) ?_ | refine p_call (rnb12 (by omega)) ?_ | refine p_call (cnb11 (by omega)) ?_ | refine p_call (cnb01 (by omega)) ?_ | refine p_call (rline11 (by omega)) ?_ | refine p_call (v1_ok (by omega)) ?_ | refine p_call (v1_no (by omega)) ?_ | refine p_call (csideh31 (by omega)) ?_ | refine p_call (csidel31 (by omega)) ?_ | refine p_call (csideh30 (by omega)) ?_ | refine p_call (csidel30 (by omega)) ?_ | refine p_call lives ?_ | refine p_call (v3_ok (by omega)) ?_ | refine p_call (v3_no (by omega)) ?_ | refine p_call (cellCheck_ok (by omega)) ?_ | refine p_call (cellCheck_no (by omega)) ?_))
theorem cellsNb114 {x y u v r : Int} (h : -4096 ≤ x ∧ x ≤ 4096 ∧ -4096 ≤ y ∧ y ≤ 4096 ∧ -9223372036854775808 ≤ u ∧ u ≤ 9223372036854775807 ∧ -9223372036854775808 ≤ v ∧ v ≤ 9223372036854775807 ∧ 0 ≤ r ∧ r ≤ 255 ∧ ¬ (-4096 ≤ u ∧ u ≤ 4096 ∧ -4096 ≤ v ∧ v ≤ 4096 ∧ r ≤ 3)) : Cc 10 [.i x, .i y, .i 1, .i 1, .i u, .i v, .i r] [.b true] := by
  refine q10 rfl ?_; unfold p10
  by_cases hc : -4096 ≤ x + y + 1 ∧ x + y + 1 ≤ 4096
  · first | (exfalso; omega) | (repeat (first | simp (disch := omega) only [↓qxs, ↓qxc, ↓qxa, ↓qxb] | refine p_loop 5 ?_ | refine p_call (touch10 (by omega)) ?_ | refine p_call (touch11 (by omega)) ?_ | refine p_call (touch12 (by omega)) ?_ | refine p_call (touchn1 (by omega)) ?_ | refine p_call (touch_no2 (by omega)) ?_ | refine p_call (v3_ok (by omega)) ?_ | refine p_call (v3_no (by omega)) ?_ | refine p_call (rnb10 (by omega)) ?_ | refine p_call (rnb11 (by omega)) ?_ | refine p_call (rnb12 (by omega)) ?_ | refine p_call (cnb11 (by omega)) ?_ | refine p_call (cnb01 (by omega)) ?_ | refine p_call (rline11 (by omega)) ?_ | refine p_call (v1_ok (by omega)) ?_ | refine p_call (v1_no (by omega)) ?_ | refine p_call (csideh31 (by omega)) ?_ | refine p_call (csidel31 (by omega)) ?_ | refine p_call (csideh30 (by omega)) ?_ | refine p_call (csidel30 (by omega)) ?_ | refine p_call lives ?_ | refine p_call (v3_ok (by omega)) ?_ | refine p_call (v3_no (by omega)) ?_ | refine p_call (cellCheck_ok (by omega)) ?_ | refine p_call (cellCheck_no (by omega)) ?_))
  first | (exfalso; omega) | (repeat (first | simp (disch := omega) only [↓qxs, ↓qxc, ↓qxa, ↓qxb] | refine p_loop 5 ?_ | refine p_call (touch10 (by omega)) ?_ | refine p_call (touch11 (by omega)) ?_ | refine p_call (touch12 (by omega)) ?_ | refine p_call (touchn1 (by omega)) ?_ | refine p_call (touch_no2 (by omega)) ?_ | refine p_call (v3_ok (by omega)) ?_ | refine p_call (v3_no (by omega)) ?_ | refine p_call (rnb10 (by omega)) ?_ | refine p_call (rnb11 (by omega)) ?_ | refine p_call (rnb12 (by omega)) ?_ | refine p_call (cnb11 (by omega)) ?_ | refine p_call (cnb01 (by omega)) ?_ | refine p_call (rline11 (by omega)) ?_ | refine p_call (v1_ok (by omega)) ?_ | refine p_call (v1_no (by omega)) ?_ | refine p_call (csideh31 (by omega)) ?_ | refine p_call (csidel31 (by omega)) ?_ | refine p_call (csideh30 (by omega)) ?_ | refine p_call (csidel30 (by omega)) ?_ | refine p_call lives ?_ | refine p_call (v3_ok (by omega)) ?_ | refine p_call (v3_no (by omega)) ?_ | refine p_call (cellCheck_ok (by omega)) ?_ | refine p_call (cellCheck_no (by omega)) ?_))
theorem cellsNb120 {x y u v : Int} (h : -4096 ≤ x ∧ x ≤ 4096 ∧ -4096 ≤ y ∧ y ≤ 4096 ∧ -9223372036854775808 ≤ u ∧ u ≤ 9223372036854775807 ∧ -9223372036854775808 ≤ v ∧ v ≤ 9223372036854775807 ∧ -4096 ≤ u ∧ u ≤ 4096 ∧ -4096 ≤ v ∧ v ≤ 4096 ∧ u = x + 1 ∧ v = y) : Cc 10 [.i x, .i y, .i 1, .i 2, .i u, .i v, .i 3] [.b true] := by
  refine q10 rfl ?_; unfold p10
  by_cases hc : -4096 ≤ y - x ∧ y - x ≤ 4096
  · first | (exfalso; omega) | (repeat (first | simp (disch := omega) only [↓qxs, ↓qxc, ↓qxa, ↓qxb] | refine p_loop 5 ?_ | refine p_call (touch10 (by omega)) ?_ | refine p_call (touch11 (by omega)) ?_ | refine p_call (touch12 (by omega)) ?_ | refine p_call (touchn1 (by omega)) ?_ | refine p_call (touch_no2 (by omega)) ?_ | refine p_call (v3_ok (by omega)) ?_ | refine p_call (v3_no (by omega)) ?_ | refine p_call (rnb10 (by omega)) ?_ | refine p_call (rnb11 (by omega)) ?_ | refine p_call (rnb12 (by omega)) ?_ | refine p_call (cnb12 (by omega)) ?_ | refine p_call (cnb22 (by omega)) ?_ | refine p_call (rline12 (by omega)) ?_ | refine p_call (v1_ok (by omega)) ?_ | refine p_call (v1_no (by omega)) ?_ | refine p_call (csideh41 (by omega)) ?_ | refine p_call (csidel41 (by omega)) ?_ | refine p_call (csideh42 (by omega)) ?_ | refine p_call (csidel42 (by omega)) ?_ | refine p_call lives ?_ | refine p_call (v3_ok (by omega)) ?_ | refine p_call (v3_no (by omega)) ?_ | refine p_call (cellCheck_ok (by omega)) ?_ | refine p_call (cellCheck_no (by omega)) ?_))
  first | (exfalso; omega) | (repeat (first | simp (disch := omega) only [↓qxs, ↓qxc, ↓qxa, ↓qxb] | refine p_loop 5 ?_ | refine p_call (touch10 (by omega)) ?_ | refine p_call (touch11 (by omega)) ?_ | refine p_call (touch12 (by omega)) ?_ | refine p_call (touchn1 (by omega)) ?_ | refine p_call (touch_no2 (by omega)) ?_ | refine p_call (v3_ok (by omega)) ?_ | refine p_call (v3_no (by omega)) ?_ | refine p_call (rnb10 (by omega)) ?_ | refine p_call (rnb11 (by omega)) ?_ | refine p_call (rnb12 (by omega)) ?_ | refine p_call (cnb12 (by omega)) ?_ | refine p_call (cnb22 (by omega)) ?_ | refine p_call (rline12 (by omega)) ?_ | refine p_call (v1_ok (by omega)) ?_ | refine p_call (v1_no (by omega)) ?_ | refine p_call (csideh41 (by omega)) ?_ | refine p_call (csidel41 (by omega)) ?_ | refine p_call (csideh42 (by omega)) ?_ | refine p_call (csidel42 (by omega)) ?_ | refine p_call lives ?_ | refine p_call (v3_ok (by omega)) ?_ | refine p_call (v3_no (by omega)) ?_ | refine p_call (cellCheck_ok (by omega)) ?_ | refine p_call (cellCheck_no (by omega)) ?_))
theorem cellsNb121 {x y u v : Int} (h : -4096 ≤ x ∧ x ≤ 4096 ∧ -4096 ≤ y ∧ y ≤ 4096 ∧ -9223372036854775808 ≤ u ∧ u ≤ 9223372036854775807 ∧ -9223372036854775808 ≤ v ∧ v ≤ 9223372036854775807 ∧ -4096 ≤ u ∧ u ≤ 4096 ∧ -4096 ≤ v ∧ v ≤ 4096 ∧ u = x ∧ v = y) : Cc 10 [.i x, .i y, .i 1, .i 2, .i u, .i v, .i 0] [.b true] := by
  refine q10 rfl ?_; unfold p10
  by_cases hc : -4096 ≤ y - x ∧ y - x ≤ 4096
  · first | (exfalso; omega) | (repeat (first | simp (disch := omega) only [↓qxs, ↓qxc, ↓qxa, ↓qxb] | refine p_loop 5 ?_ | refine p_call (touch10 (by omega)) ?_ | refine p_call (touch11 (by omega)) ?_ | refine p_call (touch12 (by omega)) ?_ | refine p_call (touchn1 (by omega)) ?_ | refine p_call (touch_no2 (by omega)) ?_ | refine p_call (v3_ok (by omega)) ?_ | refine p_call (v3_no (by omega)) ?_ | refine p_call (rnb10 (by omega)) ?_ | refine p_call (rnb11 (by omega)) ?_ | refine p_call (rnb12 (by omega)) ?_ | refine p_call (cnb12 (by omega)) ?_ | refine p_call (cnb22 (by omega)) ?_ | refine p_call (rline12 (by omega)) ?_ | refine p_call (v1_ok (by omega)) ?_ | refine p_call (v1_no (by omega)) ?_ | refine p_call (csideh41 (by omega)) ?_ | refine p_call (csidel41 (by omega)) ?_ | refine p_call (csideh42 (by omega)) ?_ | refine p_call (csidel42 (by omega)) ?_ | refine p_call lives ?_ | refine p_call (v3_ok (by omega)) ?_ | refine p_call (v3_no (by omega)) ?_ | refine p_call (cellCheck_ok (by omega)) ?_ | refine p_call (cellCheck_no (by omega)) ?_))
  first | (exfalso; omega) | (repeat (first | simp (disch := omega) only [↓qxs, ↓qxc, ↓qxa, ↓qxb] | refine p_loop 5 ?_ | refine p_call (touch10 (by omega)) ?_ | refine p_call (touch11 (by omega)) ?_ | refine p_call (touch12 (by omega)) ?_ | refine p_call (touchn1 (by omega)) ?_ | refine p_call (touch_no2 (by omega)) ?_ | refine p_call (v3_ok (by omega)) ?_ | refine p_call (v3_no (by omega)) ?_ | refine p_call (rnb10 (by omega)) ?_ | refine p_call (rnb11 (by omega)) ?_ | refine p_call (rnb12 (by omega)) ?_ | refine p_call (cnb12 (by omega)) ?_ | refine p_call (cnb22 (by omega)) ?_ | refine p_call (rline12 (by omega)) ?_ | refine p_call (v1_ok (by omega)) ?_ | refine p_call (v1_no (by omega)) ?_ | refine p_call (csideh41 (by omega)) ?_ | refine p_call (csidel41 (by omega)) ?_ | refine p_call (csideh42 (by omega)) ?_ | refine p_call (csidel42 (by omega)) ?_ | refine p_call lives ?_ | refine p_call (v3_ok (by omega)) ?_ | refine p_call (v3_no (by omega)) ?_ | refine p_call (cellCheck_ok (by omega)) ?_ | refine p_call (cellCheck_no (by omega)) ?_))
theorem cellsNb122 {x y u v : Int} (h : -4096 ≤ x ∧ x ≤ 4096 ∧ -4096 ≤ y ∧ y ≤ 4096 ∧ -9223372036854775808 ≤ u ∧ u ≤ 9223372036854775807 ∧ -9223372036854775808 ≤ v ∧ v ≤ 9223372036854775807 ∧ -4096 ≤ u ∧ u ≤ 4096 ∧ -4096 ≤ v ∧ v ≤ 4096 ∧ u = x ∧ v = y) : Cc 10 [.i x, .i y, .i 1, .i 2, .i u, .i v, .i 2] [.b true] := by
  refine q10 rfl ?_; unfold p10
  by_cases hc : -4096 ≤ y - x ∧ y - x ≤ 4096
  · first | (exfalso; omega) | (repeat (first | simp (disch := omega) only [↓qxs, ↓qxc, ↓qxa, ↓qxb] | refine p_loop 5 ?_ | refine p_call (touch10 (by omega)) ?_ | refine p_call (touch11 (by omega)) ?_ | refine p_call (touch12 (by omega)) ?_ | refine p_call (touchn1 (by omega)) ?_ | refine p_call (touch_no2 (by omega)) ?_ | refine p_call (v3_ok (by omega)) ?_ | refine p_call (v3_no (by omega)) ?_ | refine p_call (rnb10 (by omega)) ?_ | refine p_call (rnb11 (by omega)) ?_ | refine p_call (rnb12 (by omega)) ?_ | refine p_call (cnb12 (by omega)) ?_ | refine p_call (cnb22 (by omega)) ?_ | refine p_call (rline12 (by omega)) ?_ | refine p_call (v1_ok (by omega)) ?_ | refine p_call (v1_no (by omega)) ?_ | refine p_call (csideh41 (by omega)) ?_ | refine p_call (csidel41 (by omega)) ?_ | refine p_call (csideh42 (by omega)) ?_ | refine p_call (csidel42 (by omega)) ?_ | refine p_call lives ?_ | refine p_call (v3_ok (by omega)) ?_ | refine p_call (v3_no (by omega)) ?_ | refine p_call (cellCheck_ok (by omega)) ?_ | refine p_call (cellCheck_no (by omega)) ?_))
  first | (exfalso; omega) | (repeat (first | simp (disch := omega) only [↓qxs, ↓qxc, ↓qxa, ↓qxb] | refine p_loop 5 ?_ | refine p_call (touch10 (by omega)) ?_ | refine p_call (touch11 (by omega)) ?_ | refine p_call (touch12 (by omega)) ?_ | refine p_call (touchn1 (by omega)) ?_ | refine p_call (touch_no2 (by omega)) ?_ | refine p_call (v3_ok (by omega)) ?_ | refine p_call (v3_no (by omega)) ?_ | refine p_call (rnb10 (by omega)) ?_ | refine p_call (rnb11 (by omega)) ?_ | refine p_call (rnb12 (by omega)) ?_ | refine p_call (cnb12 (by omega)) ?_ | refine p_call (cnb22 (by omega)) ?_ | refine p_call (rline12 (by omega)) ?_ | refine p_call (v1_ok (by omega)) ?_ | refine p_call (v1_no (by omega)) ?_ | refine p_call (csideh41 (by omega)) ?_ | refine p_call (csidel41 (by omega)) ?_ | refine p_call (csideh42 (by omega)) ?_ | refine p_call (csidel42 (by omega)) ?_ | refine p_call lives ?_ | refine p_call (v3_ok (by omega)) ?_ | refine p_call (v3_no (by omega)) ?_ | refine p_call (cellCheck_ok (by omega)) ?_ | refine p_call (cellCheck_no (by omega)) ?_))
theorem cellsNb123 {x y u v r : Int} (h : -4096 ≤ x ∧ x ≤ 4096 ∧ -4096 ≤ y ∧ y ≤ 4096 ∧ -9223372036854775808 ≤ u ∧ u ≤ 9223372036854775807 ∧ -9223372036854775808 ≤ v ∧ v ≤ 9223372036854775807 ∧ 0 ≤ r ∧ r ≤ 255 ∧ (-4096 ≤ u ∧ u ≤ 4096 ∧ -4096 ≤ v ∧ v ≤ 4096 ∧ r ≤ 3) ∧ ¬ (u = x + 1 ∧ v = y ∧ r = 3) ∧ ¬ (u = x ∧ v = y ∧ r = 0) ∧ ¬ (u = x ∧ v = y ∧ r = 2)) : Cc 10 [.i x, .i y, .i 1, .i 2, .i u, .i v, .i r] [.b true] := by
  refine q10 rfl ?_; unfold p10
  by_cases hc : -4096 ≤ y - x ∧ y - x ≤ 4096
  · first | (exfalso; omega) | (repeat (first | simp (disch := omega) only [↓qxs, ↓qxc, ↓qxa, ↓qxb] | refine p_loop 5 ?_ | refine p_call (touch10 (by omega)) ?_ | refine p_call (touch11 (by omega)) ?_ | refine p_call (touch12 (by omega)) ?_ | refine p_call (touchn1 (by omega)) ?_ | refine p_call (touch_no2 (by omega)) ?_ | refine p_call (v3_ok (by omega)) ?_ | refine p_call (v3_no (by omega)) ?_ | refine p_call (rnb10 (by omega)) ?_ | refine p_call (rnb11 (by omega)) ?_ | refine p_call (rnb12 (by omega)) ?_ | refine p_call (cnb12 (by omega)) ?_ | refine p_call (cnb22 (by omega)) ?_ | refine p_call (rline12 (by omega)) ?_ | refine p_call (v1_ok (by omega)) ?_ | refine p_call (v1_no (by omega)) ?_ | refine p_call (csideh41 (by omega)) ?_ | refine p_call (csidel41 (by omega)) ?_ | refine p_call (csideh42 (by omega)) ?_ | refine p_call (csidel42 (by omega)) ?_ | refine p_call lives ?_ | refine p_call (v3_ok (by omega)) ?_ | refine p_call (v3_no (by omega)) ?_ | refine p_call (cellCheck_ok (by omega)) ?_ | refine p_call (cellCheck_no (by omega)) ?_))
  first | (exfalso; omega) | (repeat (first | simp (disch := omega) only [↓qxs, ↓qxc, ↓qxa, ↓qxb] | refine p_loop 5 ?_ | refine p_call (touch10 (by omega)) ?_ | refine p_call (touch11 (by omega)) ?_ | refine p_call (touch12 (by omega)) ?_ | refine p_call (touchn1 (by omega)) ?_ | refine p_call (touch_no2 (by omega)) ?_ | refine p_call (v3_ok (by omega)) ?_ | refine p_call (v3_no (by omega)) ?_ | refine p_call (rnb10 (by omega)) ?_ | refine p_call (rnb11 (by omega)) ?_ | refine p_call (rnb12 (by omega)) ?_ | refine p_call (cnb12 (by omega)) ?_ | refine p_call (cnb22 (by omega)) ?_ | refine p_call (rline12 (by omega)) ?_ | refine p_call (v1_ok (by omega)) ?_ | refine p_call (v1_no (by omega)) ?_ | refine p_call (csideh41 (by omega)) ?_ | refine p_call (csidel41 (by omega)) ?_ | refine p_call (csideh42 (by omega)) ?_ | refine p_call (csidel42 (by omega)) ?_ | refine p_call lives ?_ | refine p_call (v3_ok (by omega)) ?_ | refine p_call (v3_no (by omega)) ?_ | refine p_call (cellCheck_ok (by omega)) ?_ | refine p_call (cellCheck_no (by omega)) ?_))
theorem cellsNb124 {x y u v r : Int} (h : -4096 ≤ x ∧ x ≤ 4096 ∧ -4096 ≤ y ∧ y ≤ 4096 ∧ -9223372036854775808 ≤ u ∧ u ≤ 9223372036854775807 ∧ -9223372036854775808 ≤ v ∧ v ≤ 9223372036854775807 ∧ 0 ≤ r ∧ r ≤ 255 ∧ ¬ (-4096 ≤ u ∧ u ≤ 4096 ∧ -4096 ≤ v ∧ v ≤ 4096 ∧ r ≤ 3)) : Cc 10 [.i x, .i y, .i 1, .i 2, .i u, .i v, .i r] [.b true] := by
  refine q10 rfl ?_; unfold p10
  by_cases hc : -4096 ≤ y - x ∧ y - x ≤ 4096
  · first | (exfalso; omega) | (repeat (first | simp (disch := omega) only [↓qxs, ↓qxc, ↓qxa, ↓qxb] | refine p_loop 5 ?_ | refine p_call (touch10 (by omega)) ?_ | refine p_call (touch11 (by omega)) ?_ | refine p_call (touch12 (by omega)) ?_ | refine p_call (touchn1 (by omega)) ?_ | refine p_call (touch_no2 (by omega)) ?_ | refine p_call (v3_ok (by omega)) ?_ | refine p_call (v3_no (by omega)) ?_ | refine p_call (rnb10 (by omega)) ?_ | refine p_call (rnb11 (by omega)) ?_ | refine p_call (rnb12 (by omega)) ?_ | refine p_call (cnb12 (by omega)) ?_ | refine p_call (cnb22 (by omega)) ?_ | refine p_call (rline12 (by omega)) ?_ | refine p_call (v1_ok (by omega)) ?_ | refine p_call (v1_no (by omega)) ?_ | refine p_call (csideh41 (by omega)) ?_ | refine p_call (csidel41 (by omega)) ?_ | refine p_call (csideh42 (by omega)) ?_ | refine p_call (csidel42 (by omega)) ?_ | refine p_call lives ?_ | refine p_call (v3_ok (by omega)) ?_ | refine p_call (v3_no (by omega)) ?_ | refine p_call (cellCheck_ok (by omega)) ?_ | refine p_call (cellCheck_no (by omega)) ?_))
  first | (exfalso; omega) | (repeat (first | simp (disch := omega) only [↓qxs, ↓qxc, ↓qxa, ↓qxb] | refine p_loop 5 ?_ | refine p_call (touch10 (by omega)) ?_ | refine p_call (touch11 (by omega)) ?_ | refine p_call (touch12 (by omega)) ?_ | refine p_call (touchn1 (by omega)) ?_ | refine p_call (touch_no2 (by omega)) ?_ | refine p_call (v3_ok (by omega)) ?_ | refine p_call (v3_no (by omega)) ?_ | refine p_call (rnb10 (by omega)) ?_ | refine p_call (rnb11 (by omega)) ?_ | refine p_call (rnb12 (by omega)) ?_ | refine p_call (cnb12 (by omega)) ?_ | refine p_call (cnb22 (by omega)) ?_ | refine p_call (rline12 (by omega)) ?_ | refine p_call (v1_ok (by omega)) ?_ | refine p_call (v1_no (by omega)) ?_ | refine p_call (csideh41 (by omega)) ?_ | refine p_call (csidel41 (by omega)) ?_ | refine p_call (csideh42 (by omega)) ?_ | refine p_call (csidel42 (by omega)) ?_ | refine p_call lives ?_ | refine p_call (v3_ok (by omega)) ?_ | refine p_call (v3_no (by omega)) ?_ | refine p_call (cellCheck_ok (by omega)) ?_ | refine p_call (cellCheck_no (by omega)) ?_))
theorem cellsNb1 {x y e u v r : Int} (h : -4096 ≤ x ∧ x ≤ 4096 ∧ -4096 ≤ y ∧ y ≤ 4096 ∧ -9223372036854775808 ≤ u ∧ u ≤ 9223372036854775807 ∧ -9223372036854775808 ≤ v ∧ v ≤ 9223372036854775807 ∧ 0 ≤ r ∧ r ≤ 255 ∧ 0 ≤ e ∧ e ≤ 255) : Cc 10 [.i x, .i y, .i 1, .i e, .i u, .i v, .i r] [.b true] := by
  obtain he | rfl | rfl | rfl : 2 < e ∨ e = 0 ∨ e = 1 ∨ e = 2 := by omega
  · by_cases hv : -4096 ≤ u ∧ u ≤ 4096 ∧ -4096 ≤ v ∧ v ≤ 4096 ∧ r ≤ 3
    · by_cases h0 : u = x + 1 ∧ v = y ∧ r = 3
      · obtain ⟨h1, h2, rfl⟩ := h0; exact cellsNb1g0 (by omega)
      by_cases h1 : u = x ∧ v = y ∧ r = 0
      · obtain ⟨h1, h2, rfl⟩ := h1; exact cellsNb1g1 (by omega)
      by_cases h2 : u = x ∧ v = y ∧ r = 2
      · obtain ⟨h1, h2, rfl⟩ := h2; exact cellsNb1g2 (by omega)
      exact cellsNb1g3 (by omega)
    · exact cellsNb1g4 (by omega)
  · by_cases hv : -4096 ≤ u ∧ u ≤ 4096 ∧ -4096 ≤ v ∧ v ≤ 4096 ∧ r ≤ 3
    · by_cases h0 : u = x + 1 ∧ v = y ∧ r = 3
      · obtain ⟨h1, h2, rfl⟩ := h0; exact cellsNb100 (by omega)
      by_cases h1 : u = x ∧ v = y ∧ r = 0
      · obtain ⟨h1, h2, rfl⟩ := h1; exact cellsNb101 (by omega)
      by_cases h2 : u = x ∧ v = y ∧ r = 2
      · obtain ⟨h1, h2, rfl⟩ := h2; exact cellsNb102 (by omega)
      exact cellsNb103 (by omega)
    · exact cellsNb104 (by omega)
  · by_cases hv : -4096 ≤ u ∧ u ≤ 4096 ∧ -4096 ≤ v ∧ v ≤ 4096 ∧ r ≤ 3
    · by_cases h0 : u = x + 1 ∧ v = y ∧ r = 3
      · obtain ⟨h1, h2, rfl⟩ := h0; exact cellsNb110 (by omega)
      by_cases h1 : u = x ∧ v = y ∧ r = 0
      · obtain ⟨h1, h2, rfl⟩ := h1; exact cellsNb111 (by omega)
      by_cases h2 : u = x ∧ v = y ∧ r = 2
      · obtain ⟨h1, h2, rfl⟩ := h2; exact cellsNb112 (by omega)
      exact cellsNb113 (by omega)
    · exact cellsNb114 (by omega)
  · by_cases hv : -4096 ≤ u ∧ u ≤ 4096 ∧ -4096 ≤ v ∧ v ≤ 4096 ∧ r ≤ 3
    · by_cases h0 : u = x + 1 ∧ v = y ∧ r = 3
      · obtain ⟨h1, h2, rfl⟩ := h0; exact cellsNb120 (by omega)
      by_cases h1 : u = x ∧ v = y ∧ r = 0
      · obtain ⟨h1, h2, rfl⟩ := h1; exact cellsNb121 (by omega)
      by_cases h2 : u = x ∧ v = y ∧ r = 2
      · obtain ⟨h1, h2, rfl⟩ := h2; exact cellsNb122 (by omega)
      exact cellsNb123 (by omega)
    · exact cellsNb124 (by omega)
end Go.Am
