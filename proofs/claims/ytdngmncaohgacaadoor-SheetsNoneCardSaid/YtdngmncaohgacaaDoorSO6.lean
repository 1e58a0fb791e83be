/-
  PART 6 OF THE PROOF: D3 D6 D7 D9 Ls5 Cd2 (no conditions).
-/
import Derived.Test.YtdngmncaohgacaaDoorSO5
import Derived.SevenTiedAt
import Derived.Test.YtdngmncaohgacaaDoorCards
import Derived.Test.YtdngmncaohgacaaDoorTie
set_option linter.unusedSectionVars false
set_option linter.unusedSimpArgs false
set_option linter.unusedVariables false
set_option linter.constructorNameAsVariable false
set_option linter.defProp false
/-
  CONTRACTS, BY PROGRAM: neighbours within a sheet.
-/
set_option maxRecDepth 100000
set_option maxHeartbeats 4000000
namespace Go.Am
open Sx Go.Proofs

theorem shId10 {v x y : Int} (h : (1 ≤ v ∧ v ≤ 5) ∧ 0 ≤ x ∧ x < 1 ∧ 0 ≤ y ∧ y < v) : Cc 36 [.i 1, .i v, .i x, .i y, .i 0] [.i (4 * (y * 1 + x) + 0), .i 0] := by
  refine q36 rfl ?_; unfold p36
  repeat (first | simp (disch := omega) only [↓qxs, ↓qxc, ↓qxa, ↓qxb] | refine p_call (shCheck_ok (by omega)) ?_ | refine p_call (cellCheck_ok (by omega)) ?_)
  (try simp only [List.cons.injEq, Lf.i.injEq, and_true, true_and]); (try omega)
theorem shId11 {v x y : Int} (h : (1 ≤ v ∧ v ≤ 5) ∧ 0 ≤ x ∧ x < 1 ∧ 0 ≤ y ∧ y < v) : Cc 36 [.i 1, .i v, .i x, .i y, .i 1] [.i (4 * (y * 1 + x) + 1), .i 0] := by
  refine q36 rfl ?_; unfold p36
  repeat (first | simp (disch := omega) only [↓qxs, ↓qxc, ↓qxa, ↓qxb] | refine p_call (shCheck_ok (by omega)) ?_ | refine p_call (cellCheck_ok (by omega)) ?_)
  (try simp only [List.cons.injEq, Lf.i.injEq, and_true, true_and]); (try omega)
theorem shId12 {v x y : Int} (h : (1 ≤ v ∧ v ≤ 5) ∧ 0 ≤ x ∧ x < 1 ∧ 0 ≤ y ∧ y < v) : Cc 36 [.i 1, .i v, .i x, .i y, .i 2] [.i (4 * (y * 1 + x) + 2), .i 0] := by
  refine q36 rfl ?_; unfold p36
  repeat (first | simp (disch := omega) only [↓qxs, ↓qxc, ↓qxa, ↓qxb] | refine p_call (shCheck_ok (by omega)) ?_ | refine p_call (cellCheck_ok (by omega)) ?_)
  (try simp only [List.cons.injEq, Lf.i.injEq, and_true, true_and]); (try omega)
theorem shId13 {v x y : Int} (h : (1 ≤ v ∧ v ≤ 5) ∧ 0 ≤ x ∧ x < 1 ∧ 0 ≤ y ∧ y < v) : Cc 36 [.i 1, .i v, .i x, .i y, .i 3] [.i (4 * (y * 1 + x) + 3), .i 0] := by
  refine q36 rfl ?_; unfold p36
  repeat (first | simp (disch := omega) only [↓qxs, ↓qxc, ↓qxa, ↓qxb] | refine p_call (shCheck_ok (by omega)) ?_ | refine p_call (cellCheck_ok (by omega)) ?_)
  (try simp only [List.cons.injEq, Lf.i.injEq, and_true, true_and]); (try omega)
theorem shId20 {v x y : Int} (h : (1 ≤ v ∧ v ≤ 5) ∧ 0 ≤ x ∧ x < 2 ∧ 0 ≤ y ∧ y < v) : Cc 36 [.i 2, .i v, .i x, .i y, .i 0] [.i (4 * (y * 2 + x) + 0), .i 0] := by
  refine q36 rfl ?_; unfold p36
  repeat (first | simp (disch := omega) only [↓qxs, ↓qxc, ↓qxa, ↓qxb] | refine p_call (shCheck_ok (by omega)) ?_ | refine p_call (cellCheck_ok (by omega)) ?_)
  (try simp only [List.cons.injEq, Lf.i.injEq, and_true, true_and]); (try omega)
theorem shId21 {v x y : Int} (h : (1 ≤ v ∧ v ≤ 5) ∧ 0 ≤ x ∧ x < 2 ∧ 0 ≤ y ∧ y < v) : Cc 36 [.i 2, .i v, .i x, .i y, .i 1] [.i (4 * (y * 2 + x) + 1), .i 0] := by
  refine q36 rfl ?_; unfold p36
  repeat (first | simp (disch := omega) only [↓qxs, ↓qxc, ↓qxa, ↓qxb] | refine p_call (shCheck_ok (by omega)) ?_ | refine p_call (cellCheck_ok (by omega)) ?_)
  (try simp only [List.cons.injEq, Lf.i.injEq, and_true, true_and]); (try omega)
theorem shId22 {v x y : Int} (h : (1 ≤ v ∧ v ≤ 5) ∧ 0 ≤ x ∧ x < 2 ∧ 0 ≤ y ∧ y < v) : Cc 36 [.i 2, .i v, .i x, .i y, .i 2] [.i (4 * (y * 2 + x) + 2), .i 0] := by
  refine q36 rfl ?_; unfold p36
  repeat (first | simp (disch := omega) only [↓qxs, ↓qxc, ↓qxa, ↓qxb] | refine p_call (shCheck_ok (by omega)) ?_ | refine p_call (cellCheck_ok (by omega)) ?_)
  (try simp only [List.cons.injEq, Lf.i.injEq, and_true, true_and]); (try omega)
theorem shId23 {v x y : Int} (h : (1 ≤ v ∧ v ≤ 5) ∧ 0 ≤ x ∧ x < 2 ∧ 0 ≤ y ∧ y < v) : Cc 36 [.i 2, .i v, .i x, .i y, .i 3] [.i (4 * (y * 2 + x) + 3), .i 0] := by
  refine q36 rfl ?_; unfold p36
  repeat (first | simp (disch := omega) only [↓qxs, ↓qxc, ↓qxa, ↓qxb] | refine p_call (shCheck_ok (by omega)) ?_ | refine p_call (cellCheck_ok (by omega)) ?_)
  (try simp only [List.cons.injEq, Lf.i.injEq, and_true, true_and]); (try omega)
theorem shId30 {v x y : Int} (h : (1 ≤ v ∧ v ≤ 5) ∧ 0 ≤ x ∧ x < 3 ∧ 0 ≤ y ∧ y < v) : Cc 36 [.i 3, .i v, .i x, .i y, .i 0] [.i (4 * (y * 3 + x) + 0), .i 0] := by
  refine q36 rfl ?_; unfold p36
  repeat (first | simp (disch := omega) only [↓qxs, ↓qxc, ↓qxa, ↓qxb] | refine p_call (shCheck_ok (by omega)) ?_ | refine p_call (cellCheck_ok (by omega)) ?_)
  (try simp only [List.cons.injEq, Lf.i.injEq, and_true, true_and]); (try omega)
theorem shId31 {v x y : Int} (h : (1 ≤ v ∧ v ≤ 5) ∧ 0 ≤ x ∧ x < 3 ∧ 0 ≤ y ∧ y < v) : Cc 36 [.i 3, .i v, .i x, .i y, .i 1] [.i (4 * (y * 3 + x) + 1), .i 0] := by
  refine q36 rfl ?_; unfold p36
  repeat (first | simp (disch := omega) only [↓qxs, ↓qxc, ↓qxa, ↓qxb] | refine p_call (shCheck_ok (by omega)) ?_ | refine p_call (cellCheck_ok (by omega)) ?_)
  (try simp only [List.cons.injEq, Lf.i.injEq, and_true, true_and]); (try omega)
theorem shId32 {v x y : Int} (h : (1 ≤ v ∧ v ≤ 5) ∧ 0 ≤ x ∧ x < 3 ∧ 0 ≤ y ∧ y < v) : Cc 36 [.i 3, .i v, .i x, .i y, .i 2] [.i (4 * (y * 3 + x) + 2), .i 0] := by
  refine q36 rfl ?_; unfold p36
  repeat (first | simp (disch := omega) only [↓qxs, ↓qxc, ↓qxa, ↓qxb] | refine p_call (shCheck_ok (by omega)) ?_ | refine p_call (cellCheck_ok (by omega)) ?_)
  (try simp only [List.cons.injEq, Lf.i.injEq, and_true, true_and]); (try omega)
theorem shId33 {v x y : Int} (h : (1 ≤ v ∧ v ≤ 5) ∧ 0 ≤ x ∧ x < 3 ∧ 0 ≤ y ∧ y < v) : Cc 36 [.i 3, .i v, .i x, .i y, .i 3] [.i (4 * (y * 3 + x) + 3), .i 0] := by
  refine q36 rfl ?_; unfold p36
  repeat (first | simp (disch := omega) only [↓qxs, ↓qxc, ↓qxa, ↓qxb] | refine p_call (shCheck_ok (by omega)) ?_ | refine p_call (cellCheck_ok (by omega)) ?_)
  (try simp only [List.cons.injEq, Lf.i.injEq, and_true, true_and]); (try omega)
theorem shId40 {v x y : Int} (h : (1 ≤ v ∧ v ≤ 5) ∧ 0 ≤ x ∧ x < 4 ∧ 0 ≤ y ∧ y < v) : Cc 36 [.i 4, .i v, .i x, .i y, .i 0] [.i (4 * (y * 4 + x) + 0), .i 0] := by
  refine q36 rfl ?_; unfold p36
  repeat (first | simp (disch := omega) only [↓qxs, ↓qxc, ↓qxa, ↓qxb] | refine p_call (shCheck_ok (by omega)) ?_ | refine p_call (cellCheck_ok (by omega)) ?_)
  (try simp only [List.cons.injEq, Lf.i.injEq, and_true, true_and]); (try omega)
theorem shId41 {v x y : Int} (h : (1 ≤ v ∧ v ≤ 5) ∧ 0 ≤ x ∧ x < 4 ∧ 0 ≤ y ∧ y < v) : Cc 36 [.i 4, .i v, .i x, .i y, .i 1] [.i (4 * (y * 4 + x) + 1), .i 0] := by
  refine q36 rfl ?_; unfold p36
  repeat (first | simp (disch := omega) only [↓qxs, ↓qxc, ↓qxa, ↓qxb] | refine p_call (shCheck_ok (by omega)) ?_ | refine p_call (cellCheck_ok (by omega)) ?_)
  (try simp only [List.cons.injEq, Lf.i.injEq, and_true, true_and]); (try omega)
theorem shId42 {v x y : Int} (h : (1 ≤ v ∧ v ≤ 5) ∧ 0 ≤ x ∧ x < 4 ∧ 0 ≤ y ∧ y < v) : Cc 36 [.i 4, .i v, .i x, .i y, .i 2] [.i (4 * (y * 4 + x) + 2), .i 0] := by
  refine q36 rfl ?_; unfold p36
  repeat (first | simp (disch := omega) only [↓qxs, ↓qxc, ↓qxa, ↓qxb] | refine p_call (shCheck_ok (by omega)) ?_ | refine p_call (cellCheck_ok (by omega)) ?_)
  (try simp only [List.cons.injEq, Lf.i.injEq, and_true, true_and]); (try omega)
theorem shId43 {v x y : Int} (h : (1 ≤ v ∧ v ≤ 5) ∧ 0 ≤ x ∧ x < 4 ∧ 0 ≤ y ∧ y < v) : Cc 36 [.i 4, .i v, .i x, .i y, .i 3] [.i (4 * (y * 4 + x) + 3), .i 0] := by
  refine q36 rfl ?_; unfold p36
  repeat (first | simp (disch := omega) only [↓qxs, ↓qxc, ↓qxa, ↓qxb] | refine p_call (shCheck_ok (by omega)) ?_ | refine p_call (cellCheck_ok (by omega)) ?_)
  (try simp only [List.cons.injEq, Lf.i.injEq, and_true, true_and]); (try omega)
theorem shId50 {v x y : Int} (h : (1 ≤ v ∧ v ≤ 5) ∧ 0 ≤ x ∧ x < 5 ∧ 0 ≤ y ∧ y < v) : Cc 36 [.i 5, .i v, .i x, .i y, .i 0] [.i (4 * (y * 5 + x) + 0), .i 0] := by
  refine q36 rfl ?_; unfold p36
  repeat (first | simp (disch := omega) only [↓qxs, ↓qxc, ↓qxa, ↓qxb] | refine p_call (shCheck_ok (by omega)) ?_ | refine p_call (cellCheck_ok (by omega)) ?_)
  (try simp only [List.cons.injEq, Lf.i.injEq, and_true, true_and]); (try omega)
theorem shId51 {v x y : Int} (h : (1 ≤ v ∧ v ≤ 5) ∧ 0 ≤ x ∧ x < 5 ∧ 0 ≤ y ∧ y < v) : Cc 36 [.i 5, .i v, .i x, .i y, .i 1] [.i (4 * (y * 5 + x) + 1), .i 0] := by
  refine q36 rfl ?_; unfold p36
  repeat (first | simp (disch := omega) only [↓qxs, ↓qxc, ↓qxa, ↓qxb] | refine p_call (shCheck_ok (by omega)) ?_ | refine p_call (cellCheck_ok (by omega)) ?_)
  (try simp only [List.cons.injEq, Lf.i.injEq, and_true, true_and]); (try omega)
theorem shId52 {v x y : Int} (h : (1 ≤ v ∧ v ≤ 5) ∧ 0 ≤ x ∧ x < 5 ∧ 0 ≤ y ∧ y < v) : Cc 36 [.i 5, .i v, .i x, .i y, .i 2] [.i (4 * (y * 5 + x) + 2), .i 0] := by
  refine q36 rfl ?_; unfold p36
  repeat (first | simp (disch := omega) only [↓qxs, ↓qxc, ↓qxa, ↓qxb] | refine p_call (shCheck_ok (by omega)) ?_ | refine p_call (cellCheck_ok (by omega)) ?_)
  (try simp only [List.cons.injEq, Lf.i.injEq, and_true, true_and]); (try omega)
theorem shId53 {v x y : Int} (h : (1 ≤ v ∧ v ≤ 5) ∧ 0 ≤ x ∧ x < 5 ∧ 0 ≤ y ∧ y < v) : Cc 36 [.i 5, .i v, .i x, .i y, .i 3] [.i (4 * (y * 5 + x) + 3), .i 0] := by
  refine q36 rfl ?_; unfold p36
  repeat (first | simp (disch := omega) only [↓qxs, ↓qxc, ↓qxa, ↓qxb] | refine p_call (shCheck_ok (by omega)) ?_ | refine p_call (cellCheck_ok (by omega)) ?_)
  (try simp only [List.cons.injEq, Lf.i.injEq, and_true, true_and]); (try omega)
theorem shIdo {w v x y q : Int} (h : (1 ≤ w ∧ w ≤ 5 ∧ 1 ≤ v ∧ v ≤ 5) ∧ ¬ (0 ≤ x ∧ x < w ∧ 0 ≤ y ∧ y < v ∧ q ≤ 3)) : Cc 36 [.i w, .i v, .i x, .i y, .i q] [.i 0, .i 7] := by
  refine q36 rfl ?_; unfold p36
  by_cases hv : -4096 ≤ x ∧ x ≤ 4096 ∧ -4096 ≤ y ∧ y ≤ 4096 ∧ q ≤ 3
  · by_cases h1 : x < 0
    · repeat (first | simp (disch := omega) only [↓qxs, ↓qxc, ↓qxa, ↓qxb] | refine p_call (shCheck_ok (by omega)) ?_ | refine p_call (cellCheck_ok (by omega)) ?_); (try simp only [List.cons.injEq, Lf.i.injEq, and_true, true_and]); (try omega)
    by_cases h2 : w ≤ x
    · repeat (first | simp (disch := omega) only [↓qxs, ↓qxc, ↓qxa, ↓qxb] | refine p_call (shCheck_ok (by omega)) ?_ | refine p_call (cellCheck_ok (by omega)) ?_); (try simp only [List.cons.injEq, Lf.i.injEq, and_true, true_and]); (try omega)
    by_cases h3 : y < 0
    · repeat (first | simp (disch := omega) only [↓qxs, ↓qxc, ↓qxa, ↓qxb] | refine p_call (shCheck_ok (by omega)) ?_ | refine p_call (cellCheck_ok (by omega)) ?_); (try simp only [List.cons.injEq, Lf.i.injEq, and_true, true_and]); (try omega)
    repeat (first | simp (disch := omega) only [↓qxs, ↓qxc, ↓qxa, ↓qxb] | refine p_call (shCheck_ok (by omega)) ?_ | refine p_call (cellCheck_ok (by omega)) ?_); (try simp only [List.cons.injEq, Lf.i.injEq, and_true, true_and]); (try omega)
  repeat (first | simp (disch := omega) only [↓qxs, ↓qxc, ↓qxa, ↓qxb] | refine p_call (shCheck_ok (by omega)) ?_ | refine p_call (cellCheck_no (by omega)) ?_); (try simp only [List.cons.injEq, Lf.i.injEq, and_true, true_and]); (try omega)
theorem nbi100 {v i : Int} (h : (1 ≤ v ∧ v ≤ 5) ∧ (0 ≤ i ∧ i < 4 * 1 * v) ∧ i % 4 = 0 ∧ 4 ≤ i) : Cc 18 [.i 1, .i v, .i i, .i 0] [.i (i - 2), .i 0] := by
  refine q18 rfl ?_; unfold p18
  have hq : i % 4 = 0 := by omega
  repeat (first | simp (disch := omega) only [↓qxs, ↓qxc, ↓qxa, ↓qxb, hq] | refine p_call (shCell_ok (by omega)) ?_ | refine p_call (cnb00 (by omega)) ?_ | refine p_call (shId12 (by omega)) ?_); (try simp only [List.cons.injEq, Lf.i.injEq, and_true, true_and]); (try omega)
theorem nmi100 {v i : Int} (h : (1 ≤ v ∧ v ≤ 5) ∧ (0 ≤ i ∧ i < 4 * 1 * v) ∧ i % 4 = 0 ∧ 4 ≤ i) : Cc 19 [.i 1, .i v, .i i, .i 0] [.i (i - 2), .i 0, .i 0] := by
  refine q19 rfl ?_; unfold p19
  have hq : i % 4 = 0 := by omega
  repeat (first | simp (disch := omega) only [↓qxs, ↓qxc, ↓qxa, ↓qxb] | refine p_call (nbi100 (by omega)) ?_); (try simp only [List.cons.injEq, Lf.i.injEq, and_true, true_and]); (try omega)
theorem nbo100 {v i : Int} (h : (1 ≤ v ∧ v ≤ 5) ∧ (0 ≤ i ∧ i < 4 * 1 * v) ∧ i % 4 = 0 ∧ ¬ (4 ≤ i)) : Cc 18 [.i 1, .i v, .i i, .i 0] [.i 0, .i 7] := by
  refine q18 rfl ?_; unfold p18
  have hq : i % 4 = 0 := by omega
  repeat (first | simp (disch := omega) only [↓qxs, ↓qxc, ↓qxa, ↓qxb, hq] | refine p_call (shCell_ok (by omega)) ?_ | refine p_call (cnb00 (by omega)) ?_ | refine p_call (shIdo (by omega)) ?_); (try simp only [List.cons.injEq, Lf.i.injEq, and_true, true_and]); (try omega)
theorem nmo100 {v i : Int} (h : (1 ≤ v ∧ v ≤ 5) ∧ (0 ≤ i ∧ i < 4 * 1 * v) ∧ i % 4 = 0 ∧ ¬ (4 ≤ i)) : Cc 19 [.i 1, .i v, .i i, .i 0] [.i 0, .i 0, .i 7] := by
  refine q19 rfl ?_; unfold p19
  have hq : i % 4 = 0 := by omega
  repeat (first | simp (disch := omega) only [↓qxs, ↓qxc, ↓qxa, ↓qxb] | refine p_call (nbo100 (by omega)) ?_); (try simp only [List.cons.injEq, Lf.i.injEq, and_true, true_and]); (try omega)
theorem nbi101 {v i : Int} (h : (1 ≤ v ∧ v ≤ 5) ∧ (0 ≤ i ∧ i < 4 * 1 * v) ∧ i % 4 = 0) : Cc 18 [.i 1, .i v, .i i, .i 1] [.i (i + 1), .i 0] := by
  refine q18 rfl ?_; unfold p18
  have hq : i % 4 = 0 := by omega
  repeat (first | simp (disch := omega) only [↓qxs, ↓qxc, ↓qxa, ↓qxb, hq] | refine p_call (shCell_ok (by omega)) ?_ | refine p_call (cnb01 (by omega)) ?_ | refine p_call (shId11 (by omega)) ?_); (try simp only [List.cons.injEq, Lf.i.injEq, and_true, true_and]); (try omega)
theorem nmi101 {v i : Int} (h : (1 ≤ v ∧ v ≤ 5) ∧ (0 ≤ i ∧ i < 4 * 1 * v) ∧ i % 4 = 0) : Cc 19 [.i 1, .i v, .i i, .i 1] [.i i, .i 1, .i 0] := by
  refine q19 rfl ?_; unfold p19
  have hq : i % 4 = 0 := by omega
  repeat (first | simp (disch := omega) only [↓qxs, ↓qxc, ↓qxa, ↓qxb] | refine p_call (nbi101 (by omega)) ?_); (try simp only [List.cons.injEq, Lf.i.injEq, and_true, true_and]); (try omega)
theorem nbi102 {v i : Int} (h : (1 ≤ v ∧ v ≤ 5) ∧ (0 ≤ i ∧ i < 4 * 1 * v) ∧ i % 4 = 0) : Cc 18 [.i 1, .i v, .i i, .i 2] [.i (i + 3), .i 0] := by
  refine q18 rfl ?_; unfold p18
  have hq : i % 4 = 0 := by omega
  repeat (first | simp (disch := omega) only [↓qxs, ↓qxc, ↓qxa, ↓qxb, hq] | refine p_call (shCell_ok (by omega)) ?_ | refine p_call (cnb02 (by omega)) ?_ | refine p_call (shId13 (by omega)) ?_); (try simp only [List.cons.injEq, Lf.i.injEq, and_true, true_and]); (try omega)
theorem nmi102 {v i : Int} (h : (1 ≤ v ∧ v ≤ 5) ∧ (0 ≤ i ∧ i < 4 * 1 * v) ∧ i % 4 = 0) : Cc 19 [.i 1, .i v, .i i, .i 2] [.i i, .i 2, .i 0] := by
  refine q19 rfl ?_; unfold p19
  have hq : i % 4 = 0 := by omega
  repeat (first | simp (disch := omega) only [↓qxs, ↓qxc, ↓qxa, ↓qxb] | refine p_call (nbi102 (by omega)) ?_); (try simp only [List.cons.injEq, Lf.i.injEq, and_true, true_and]); (try omega)
theorem nbo110 {v i : Int} (h : (1 ≤ v ∧ v ≤ 5) ∧ (0 ≤ i ∧ i < 4 * 1 * v) ∧ i % 4 = 1 ∧ ¬ (i / 4 % 1 + 1 < 1)) : Cc 18 [.i 1, .i v, .i i, .i 0] [.i 0, .i 7] := by
  refine q18 rfl ?_; unfold p18
  have hq : i % 4 = 1 := by omega
  repeat (first | simp (disch := omega) only [↓qxs, ↓qxc, ↓qxa, ↓qxb, hq] | refine p_call (shCell_ok (by omega)) ?_ | refine p_call (cnb10 (by omega)) ?_ | refine p_call (shIdo (by omega)) ?_); (try simp only [List.cons.injEq, Lf.i.injEq, and_true, true_and]); (try omega)
theorem nmo110 {v i : Int} (h : (1 ≤ v ∧ v ≤ 5) ∧ (0 ≤ i ∧ i < 4 * 1 * v) ∧ i % 4 = 1 ∧ ¬ (i / 4 % 1 + 1 < 1)) : Cc 19 [.i 1, .i v, .i i, .i 0] [.i 0, .i 0, .i 7] := by
  refine q19 rfl ?_; unfold p19
  have hq : i % 4 = 1 := by omega
  repeat (first | simp (disch := omega) only [↓qxs, ↓qxc, ↓qxa, ↓qxb] | refine p_call (nbo110 (by omega)) ?_); (try simp only [List.cons.injEq, Lf.i.injEq, and_true, true_and]); (try omega)
theorem nbi111 {v i : Int} (h : (1 ≤ v ∧ v ≤ 5) ∧ (0 ≤ i ∧ i < 4 * 1 * v) ∧ i % 4 = 1) : Cc 18 [.i 1, .i v, .i i, .i 1] [.i (i - 1), .i 0] := by
  refine q18 rfl ?_; unfold p18
  have hq : i % 4 = 1 := by omega
  repeat (first | simp (disch := omega) only [↓qxs, ↓qxc, ↓qxa, ↓qxb, hq] | refine p_call (shCell_ok (by omega)) ?_ | refine p_call (cnb11 (by omega)) ?_ | refine p_call (shId10 (by omega)) ?_); (try simp only [List.cons.injEq, Lf.i.injEq, and_true, true_and]); (try omega)
theorem nmi111 {v i : Int} (h : (1 ≤ v ∧ v ≤ 5) ∧ (0 ≤ i ∧ i < 4 * 1 * v) ∧ i % 4 = 1) : Cc 19 [.i 1, .i v, .i i, .i 1] [.i (i - 1), .i 1, .i 0] := by
  refine q19 rfl ?_; unfold p19
  have hq : i % 4 = 1 := by omega
  repeat (first | simp (disch := omega) only [↓qxs, ↓qxc, ↓qxa, ↓qxb] | refine p_call (nbi111 (by omega)) ?_); (try simp only [List.cons.injEq, Lf.i.injEq, and_true, true_and]); (try omega)
theorem nbi112 {v i : Int} (h : (1 ≤ v ∧ v ≤ 5) ∧ (0 ≤ i ∧ i < 4 * 1 * v) ∧ i % 4 = 1) : Cc 18 [.i 1, .i v, .i i, .i 2] [.i (i + 1), .i 0] := by
  refine q18 rfl ?_; unfold p18
  have hq : i % 4 = 1 := by omega
  repeat (first | simp (disch := omega) only [↓qxs, ↓qxc, ↓qxa, ↓qxb, hq] | refine p_call (shCell_ok (by omega)) ?_ | refine p_call (cnb12 (by omega)) ?_ | refine p_call (shId12 (by omega)) ?_); (try simp only [List.cons.injEq, Lf.i.injEq, and_true, true_and]); (try omega)
theorem nmi112 {v i : Int} (h : (1 ≤ v ∧ v ≤ 5) ∧ (0 ≤ i ∧ i < 4 * 1 * v) ∧ i % 4 = 1) : Cc 19 [.i 1, .i v, .i i, .i 2] [.i i, .i 2, .i 0] := by
  refine q19 rfl ?_; unfold p19
  have hq : i % 4 = 1 := by omega
  repeat (first | simp (disch := omega) only [↓qxs, ↓qxc, ↓qxa, ↓qxb] | refine p_call (nbi112 (by omega)) ?_); (try simp only [List.cons.injEq, Lf.i.injEq, and_true, true_and]); (try omega)
theorem nbi120 {v i : Int} (h : (1 ≤ v ∧ v ≤ 5) ∧ (0 ≤ i ∧ i < 4 * 1 * v) ∧ i % 4 = 2 ∧ i / 4 / 1 + 1 < v) : Cc 18 [.i 1, .i v, .i i, .i 0] [.i (i + 2), .i 0] := by
  refine q18 rfl ?_; unfold p18
  have hq : i % 4 = 2 := by omega
  repeat (first | simp (disch := omega) only [↓qxs, ↓qxc, ↓qxa, ↓qxb, hq] | refine p_call (shCell_ok (by omega)) ?_ | refine p_call (cnb20 (by omega)) ?_ | refine p_call (shId10 (by omega)) ?_); (try simp only [List.cons.injEq, Lf.i.injEq, and_true, true_and]); (try omega)
theorem nmi120 {v i : Int} (h : (1 ≤ v ∧ v ≤ 5) ∧ (0 ≤ i ∧ i < 4 * 1 * v) ∧ i % 4 = 2 ∧ i / 4 / 1 + 1 < v) : Cc 19 [.i 1, .i v, .i i, .i 0] [.i i, .i 0, .i 0] := by
  refine q19 rfl ?_; unfold p19
  have hq : i % 4 = 2 := by omega
  repeat (first | simp (disch := omega) only [↓qxs, ↓qxc, ↓qxa, ↓qxb] | refine p_call (nbi120 (by omega)) ?_); (try simp only [List.cons.injEq, Lf.i.injEq, and_true, true_and]); (try omega)
theorem nbo120 {v i : Int} (h : (1 ≤ v ∧ v ≤ 5) ∧ (0 ≤ i ∧ i < 4 * 1 * v) ∧ i % 4 = 2 ∧ ¬ (i / 4 / 1 + 1 < v)) : Cc 18 [.i 1, .i v, .i i, .i 0] [.i 0, .i 7] := by
  refine q18 rfl ?_; unfold p18
  have hq : i % 4 = 2 := by omega
  repeat (first | simp (disch := omega) only [↓qxs, ↓qxc, ↓qxa, ↓qxb, hq] | refine p_call (shCell_ok (by omega)) ?_ | refine p_call (cnb20 (by omega)) ?_ | refine p_call (shIdo (by omega)) ?_); (try simp only [List.cons.injEq, Lf.i.injEq, and_true, true_and]); (try omega)
theorem nmo120 {v i : Int} (h : (1 ≤ v ∧ v ≤ 5) ∧ (0 ≤ i ∧ i < 4 * 1 * v) ∧ i % 4 = 2 ∧ ¬ (i / 4 / 1 + 1 < v)) : Cc 19 [.i 1, .i v, .i i, .i 0] [.i 0, .i 0, .i 7] := by
  refine q19 rfl ?_; unfold p19
  have hq : i % 4 = 2 := by omega
  repeat (first | simp (disch := omega) only [↓qxs, ↓qxc, ↓qxa, ↓qxb] | refine p_call (nbo120 (by omega)) ?_); (try simp only [List.cons.injEq, Lf.i.injEq, and_true, true_and]); (try omega)
theorem nbi121 {v i : Int} (h : (1 ≤ v ∧ v ≤ 5) ∧ (0 ≤ i ∧ i < 4 * 1 * v) ∧ i % 4 = 2) : Cc 18 [.i 1, .i v, .i i, .i 1] [.i (i + 1), .i 0] := by
  refine q18 rfl ?_; unfold p18
  have hq : i % 4 = 2 := by omega
  repeat (first | simp (disch := omega) only [↓qxs, ↓qxc, ↓qxa, ↓qxb, hq] | refine p_call (shCell_ok (by omega)) ?_ | refine p_call (cnb21 (by omega)) ?_ | refine p_call (shId13 (by omega)) ?_); (try simp only [List.cons.injEq, Lf.i.injEq, and_true, true_and]); (try omega)
theorem nmi121 {v i : Int} (h : (1 ≤ v ∧ v ≤ 5) ∧ (0 ≤ i ∧ i < 4 * 1 * v) ∧ i % 4 = 2) : Cc 19 [.i 1, .i v, .i i, .i 1] [.i i, .i 1, .i 0] := by
  refine q19 rfl ?_; unfold p19
  have hq : i % 4 = 2 := by omega
  repeat (first | simp (disch := omega) only [↓qxs, ↓qxc, ↓qxa, ↓qxb] | refine p_call (nbi121 (by omega)) ?_); (try simp only [List.cons.injEq, Lf.i.injEq, and_true, true_and]); (try omega)
theorem nbi122 {v i : Int} (h : (1 ≤ v ∧ v ≤ 5) ∧ (0 ≤ i ∧ i < 4 * 1 * v) ∧ i % 4 = 2) : Cc 18 [.i 1, .i v, .i i, .i 2] [.i (i - 1), .i 0] := by
  refine q18 rfl ?_; unfold p18
  have hq : i % 4 = 2 := by omega
  repeat (first | simp (disch := omega) only [↓qxs, ↓qxc, ↓qxa, ↓qxb, hq] | refine p_call (shCell_ok (by omega)) ?_ | refine p_call (cnb22 (by omega)) ?_ | refine p_call (shId11 (by omega)) ?_); (try simp only [List.cons.injEq, Lf.i.injEq, and_true, true_and]); (try omega)
theorem nmi122 {v i : Int} (h : (1 ≤ v ∧ v ≤ 5) ∧ (0 ≤ i ∧ i < 4 * 1 * v) ∧ i % 4 = 2) : Cc 19 [.i 1, .i v, .i i, .i 2] [.i (i - 1), .i 2, .i 0] := by
  refine q19 rfl ?_; unfold p19
  have hq : i % 4 = 2 := by omega
  repeat (first | simp (disch := omega) only [↓qxs, ↓qxc, ↓qxa, ↓qxb] | refine p_call (nbi122 (by omega)) ?_); (try simp only [List.cons.injEq, Lf.i.injEq, and_true, true_and]); (try omega)
theorem nbi130 {v i : Int} (h : (1 ≤ v ∧ v ≤ 5) ∧ (0 ≤ i ∧ i < 4 * 1 * v) ∧ i % 4 = 3 ∧ 1 ≤ i / 4 % 1) : Cc 18 [.i 1, .i v, .i i, .i 0] [.i (i - 6), .i 0] := by
  refine q18 rfl ?_; unfold p18
  have hq : i % 4 = 3 := by omega
  repeat (first | simp (disch := omega) only [↓qxs, ↓qxc, ↓qxa, ↓qxb, hq] | refine p_call (shCell_ok (by omega)) ?_ | refine p_call (cnb30 (by omega)) ?_ | refine p_call (shId11 (by omega)) ?_); (try simp only [List.cons.injEq, Lf.i.injEq, and_true, true_and]); (try omega)
theorem nmi130 {v i : Int} (h : (1 ≤ v ∧ v ≤ 5) ∧ (0 ≤ i ∧ i < 4 * 1 * v) ∧ i % 4 = 3 ∧ 1 ≤ i / 4 % 1) : Cc 19 [.i 1, .i v, .i i, .i 0] [.i (i - 6), .i 0, .i 0] := by
  refine q19 rfl ?_; unfold p19
  have hq : i % 4 = 3 := by omega
  repeat (first | simp (disch := omega) only [↓qxs, ↓qxc, ↓qxa, ↓qxb] | refine p_call (nbi130 (by omega)) ?_); (try simp only [List.cons.injEq, Lf.i.injEq, and_true, true_and]); (try omega)
theorem nbo130 {v i : Int} (h : (1 ≤ v ∧ v ≤ 5) ∧ (0 ≤ i ∧ i < 4 * 1 * v) ∧ i % 4 = 3 ∧ ¬ (1 ≤ i / 4 % 1)) : Cc 18 [.i 1, .i v, .i i, .i 0] [.i 0, .i 7] := by
  refine q18 rfl ?_; unfold p18
  have hq : i % 4 = 3 := by omega
  repeat (first | simp (disch := omega) only [↓qxs, ↓qxc, ↓qxa, ↓qxb, hq] | refine p_call (shCell_ok (by omega)) ?_ | refine p_call (cnb30 (by omega)) ?_ | refine p_call (shIdo (by omega)) ?_); (try simp only [List.cons.injEq, Lf.i.injEq, and_true, true_and]); (try omega)
theorem nmo130 {v i : Int} (h : (1 ≤ v ∧ v ≤ 5) ∧ (0 ≤ i ∧ i < 4 * 1 * v) ∧ i % 4 = 3 ∧ ¬ (1 ≤ i / 4 % 1)) : Cc 19 [.i 1, .i v, .i i, .i 0] [.i 0, .i 0, .i 7] := by
  refine q19 rfl ?_; unfold p19
  have hq : i % 4 = 3 := by omega
  repeat (first | simp (disch := omega) only [↓qxs, ↓qxc, ↓qxa, ↓qxb] | refine p_call (nbo130 (by omega)) ?_); (try simp only [List.cons.injEq, Lf.i.injEq, and_true, true_and]); (try omega)
theorem nbi131 {v i : Int} (h : (1 ≤ v ∧ v ≤ 5) ∧ (0 ≤ i ∧ i < 4 * 1 * v) ∧ i % 4 = 3) : Cc 18 [.i 1, .i v, .i i, .i 1] [.i (i - 1), .i 0] := by
  refine q18 rfl ?_; unfold p18
  have hq : i % 4 = 3 := by omega
  repeat (first | simp (disch := omega) only [↓qxs, ↓qxc, ↓qxa, ↓qxb, hq] | refine p_call (shCell_ok (by omega)) ?_ | refine p_call (cnb31 (by omega)) ?_ | refine p_call (shId12 (by omega)) ?_); (try simp only [List.cons.injEq, Lf.i.injEq, and_true, true_and]); (try omega)
theorem nmi131 {v i : Int} (h : (1 ≤ v ∧ v ≤ 5) ∧ (0 ≤ i ∧ i < 4 * 1 * v) ∧ i % 4 = 3) : Cc 19 [.i 1, .i v, .i i, .i 1] [.i (i - 1), .i 1, .i 0] := by
  refine q19 rfl ?_; unfold p19
  have hq : i % 4 = 3 := by omega
  repeat (first | simp (disch := omega) only [↓qxs, ↓qxc, ↓qxa, ↓qxb] | refine p_call (nbi131 (by omega)) ?_); (try simp only [List.cons.injEq, Lf.i.injEq, and_true, true_and]); (try omega)
theorem nbi132 {v i : Int} (h : (1 ≤ v ∧ v ≤ 5) ∧ (0 ≤ i ∧ i < 4 * 1 * v) ∧ i % 4 = 3) : Cc 18 [.i 1, .i v, .i i, .i 2] [.i (i - 3), .i 0] := by
  refine q18 rfl ?_; unfold p18
  have hq : i % 4 = 3 := by omega
  repeat (first | simp (disch := omega) only [↓qxs, ↓qxc, ↓qxa, ↓qxb, hq] | refine p_call (shCell_ok (by omega)) ?_ | refine p_call (cnb32 (by omega)) ?_ | refine p_call (shId10 (by omega)) ?_); (try simp only [List.cons.injEq, Lf.i.injEq, and_true, true_and]); (try omega)
theorem nmi132 {v i : Int} (h : (1 ≤ v ∧ v ≤ 5) ∧ (0 ≤ i ∧ i < 4 * 1 * v) ∧ i % 4 = 3) : Cc 19 [.i 1, .i v, .i i, .i 2] [.i (i - 3), .i 2, .i 0] := by
  refine q19 rfl ?_; unfold p19
  have hq : i % 4 = 3 := by omega
  repeat (first | simp (disch := omega) only [↓qxs, ↓qxc, ↓qxa, ↓qxb] | refine p_call (nbi132 (by omega)) ?_); (try simp only [List.cons.injEq, Lf.i.injEq, and_true, true_and]); (try omega)
theorem nbi200 {v i : Int} (h : (1 ≤ v ∧ v ≤ 5) ∧ (0 ≤ i ∧ i < 4 * 2 * v) ∧ i % 4 = 0 ∧ 8 ≤ i) : Cc 18 [.i 2, .i v, .i i, .i 0] [.i (i - 6), .i 0] := by
  refine q18 rfl ?_; unfold p18
  have hq : i % 4 = 0 := by omega
  repeat (first | simp (disch := omega) only [↓qxs, ↓qxc, ↓qxa, ↓qxb, hq] | refine p_call (shCell_ok (by omega)) ?_ | refine p_call (cnb00 (by omega)) ?_ | refine p_call (shId22 (by omega)) ?_); (try simp only [List.cons.injEq, Lf.i.injEq, and_true, true_and]); (try omega)
theorem nmi200 {v i : Int} (h : (1 ≤ v ∧ v ≤ 5) ∧ (0 ≤ i ∧ i < 4 * 2 * v) ∧ i % 4 = 0 ∧ 8 ≤ i) : Cc 19 [.i 2, .i v, .i i, .i 0] [.i (i - 6), .i 0, .i 0] := by
  refine q19 rfl ?_; unfold p19
  have hq : i % 4 = 0 := by omega
  repeat (first | simp (disch := omega) only [↓qxs, ↓qxc, ↓qxa, ↓qxb] | refine p_call (nbi200 (by omega)) ?_); (try simp only [List.cons.injEq, Lf.i.injEq, and_true, true_and]); (try omega)
theorem nbo200 {v i : Int} (h : (1 ≤ v ∧ v ≤ 5) ∧ (0 ≤ i ∧ i < 4 * 2 * v) ∧ i % 4 = 0 ∧ ¬ (8 ≤ i)) : Cc 18 [.i 2, .i v, .i i, .i 0] [.i 0, .i 7] := by
  refine q18 rfl ?_; unfold p18
  have hq : i % 4 = 0 := by omega
  repeat (first | simp (disch := omega) only [↓qxs, ↓qxc, ↓qxa, ↓qxb, hq] | refine p_call (shCell_ok (by omega)) ?_ | refine p_call (cnb00 (by omega)) ?_ | refine p_call (shIdo (by omega)) ?_); (try simp only [List.cons.injEq, Lf.i.injEq, and_true, true_and]); (try omega)
theorem nmo200 {v i : Int} (h : (1 ≤ v ∧ v ≤ 5) ∧ (0 ≤ i ∧ i < 4 * 2 * v) ∧ i % 4 = 0 ∧ ¬ (8 ≤ i)) : Cc 19 [.i 2, .i v, .i i, .i 0] [.i 0, .i 0, .i 7] := by
  refine q19 rfl ?_; unfold p19
  have hq : i % 4 = 0 := by omega
  repeat (first | simp (disch := omega) only [↓qxs, ↓qxc, ↓qxa, ↓qxb] | refine p_call (nbo200 (by omega)) ?_); (try simp only [List.cons.injEq, Lf.i.injEq, and_true, true_and]); (try omega)
theorem nbi201 {v i : Int} (h : (1 ≤ v ∧ v ≤ 5) ∧ (0 ≤ i ∧ i < 4 * 2 * v) ∧ i % 4 = 0) : Cc 18 [.i 2, .i v, .i i, .i 1] [.i (i + 1), .i 0] := by
  refine q18 rfl ?_; unfold p18
  have hq : i % 4 = 0 := by omega
  repeat (first | simp (disch := omega) only [↓qxs, ↓qxc, ↓qxa, ↓qxb, hq] | refine p_call (shCell_ok (by omega)) ?_ | refine p_call (cnb01 (by omega)) ?_ | refine p_call (shId21 (by omega)) ?_); (try simp only [List.cons.injEq, Lf.i.injEq, and_true, true_and]); (try omega)
theorem nmi201 {v i : Int} (h : (1 ≤ v ∧ v ≤ 5) ∧ (0 ≤ i ∧ i < 4 * 2 * v) ∧ i % 4 = 0) : Cc 19 [.i 2, .i v, .i i, .i 1] [.i i, .i 1, .i 0] := by
  refine q19 rfl ?_; unfold p19
  have hq : i % 4 = 0 := by omega
  repeat (first | simp (disch := omega) only [↓qxs, ↓qxc, ↓qxa, ↓qxb] | refine p_call (nbi201 (by omega)) ?_); (try simp only [List.cons.injEq, Lf.i.injEq, and_true, true_and]); (try omega)
theorem nbi202 {v i : Int} (h : (1 ≤ v ∧ v ≤ 5) ∧ (0 ≤ i ∧ i < 4 * 2 * v) ∧ i % 4 = 0) : Cc 18 [.i 2, .i v, .i i, .i 2] [.i (i + 3), .i 0] := by
  refine q18 rfl ?_; unfold p18
  have hq : i % 4 = 0 := by omega
  repeat (first | simp (disch := omega) only [↓qxs, ↓qxc, ↓qxa, ↓qxb, hq] | refine p_call (shCell_ok (by omega)) ?_ | refine p_call (cnb02 (by omega)) ?_ | refine p_call (shId23 (by omega)) ?_); (try simp only [List.cons.injEq, Lf.i.injEq, and_true, true_and]); (try omega)
theorem nmi202 {v i : Int} (h : (1 ≤ v ∧ v ≤ 5) ∧ (0 ≤ i ∧ i < 4 * 2 * v) ∧ i % 4 = 0) : Cc 19 [.i 2, .i v, .i i, .i 2] [.i i, .i 2, .i 0] := by
  refine q19 rfl ?_; unfold p19
  have hq : i % 4 = 0 := by omega
  repeat (first | simp (disch := omega) only [↓qxs, ↓qxc, ↓qxa, ↓qxb] | refine p_call (nbi202 (by omega)) ?_); (try simp only [List.cons.injEq, Lf.i.injEq, and_true, true_and]); (try omega)
theorem nbi210 {v i : Int} (h : (1 ≤ v ∧ v ≤ 5) ∧ (0 ≤ i ∧ i < 4 * 2 * v) ∧ i % 4 = 1 ∧ i / 4 % 2 + 1 < 2) : Cc 18 [.i 2, .i v, .i i, .i 0] [.i (i + 6), .i 0] := by
  refine q18 rfl ?_; unfold p18
  have hq : i % 4 = 1 := by omega
  repeat (first | simp (disch := omega) only [↓qxs, ↓qxc, ↓qxa, ↓qxb, hq] | refine p_call (shCell_ok (by omega)) ?_ | refine p_call (cnb10 (by omega)) ?_ | refine p_call (shId23 (by omega)) ?_); (try simp only [List.cons.injEq, Lf.i.injEq, and_true, true_and]); (try omega)
theorem nmi210 {v i : Int} (h : (1 ≤ v ∧ v ≤ 5) ∧ (0 ≤ i ∧ i < 4 * 2 * v) ∧ i % 4 = 1 ∧ i / 4 % 2 + 1 < 2) : Cc 19 [.i 2, .i v, .i i, .i 0] [.i i, .i 0, .i 0] := by
  refine q19 rfl ?_; unfold p19
  have hq : i % 4 = 1 := by omega
  repeat (first | simp (disch := omega) only [↓qxs, ↓qxc, ↓qxa, ↓qxb] | refine p_call (nbi210 (by omega)) ?_); (try simp only [List.cons.injEq, Lf.i.injEq, and_true, true_and]); (try omega)
theorem nbo210 {v i : Int} (h : (1 ≤ v ∧ v ≤ 5) ∧ (0 ≤ i ∧ i < 4 * 2 * v) ∧ i % 4 = 1 ∧ ¬ (i / 4 % 2 + 1 < 2)) : Cc 18 [.i 2, .i v, .i i, .i 0] [.i 0, .i 7] := by
  refine q18 rfl ?_; unfold p18
  have hq : i % 4 = 1 := by omega
  repeat (first | simp (disch := omega) only [↓qxs, ↓qxc, ↓qxa, ↓qxb, hq] | refine p_call (shCell_ok (by omega)) ?_ | refine p_call (cnb10 (by omega)) ?_ | refine p_call (shIdo (by omega)) ?_); (try simp only [List.cons.injEq, Lf.i.injEq, and_true, true_and]); (try omega)
theorem nmo210 {v i : Int} (h : (1 ≤ v ∧ v ≤ 5) ∧ (0 ≤ i ∧ i < 4 * 2 * v) ∧ i % 4 = 1 ∧ ¬ (i / 4 % 2 + 1 < 2)) : Cc 19 [.i 2, .i v, .i i, .i 0] [.i 0, .i 0, .i 7] := by
  refine q19 rfl ?_; unfold p19
  have hq : i % 4 = 1 := by omega
  repeat (first | simp (disch := omega) only [↓qxs, ↓qxc, ↓qxa, ↓qxb] | refine p_call (nbo210 (by omega)) ?_); (try simp only [List.cons.injEq, Lf.i.injEq, and_true, true_and]); (try omega)
theorem nbi211 {v i : Int} (h : (1 ≤ v ∧ v ≤ 5) ∧ (0 ≤ i ∧ i < 4 * 2 * v) ∧ i % 4 = 1) : Cc 18 [.i 2, .i v, .i i, .i 1] [.i (i - 1), .i 0] := by
  refine q18 rfl ?_; unfold p18
  have hq : i % 4 = 1 := by omega
  repeat (first | simp (disch := omega) only [↓qxs, ↓qxc, ↓qxa, ↓qxb, hq] | refine p_call (shCell_ok (by omega)) ?_ | refine p_call (cnb11 (by omega)) ?_ | refine p_call (shId20 (by omega)) ?_); (try simp only [List.cons.injEq, Lf.i.injEq, and_true, true_and]); (try omega)
theorem nmi211 {v i : Int} (h : (1 ≤ v ∧ v ≤ 5) ∧ (0 ≤ i ∧ i < 4 * 2 * v) ∧ i % 4 = 1) : Cc 19 [.i 2, .i v, .i i, .i 1] [.i (i - 1), .i 1, .i 0] := by
  refine q19 rfl ?_; unfold p19
  have hq : i % 4 = 1 := by omega
  repeat (first | simp (disch := omega) only [↓qxs, ↓qxc, ↓qxa, ↓qxb] | refine p_call (nbi211 (by omega)) ?_); (try simp only [List.cons.injEq, Lf.i.injEq, and_true, true_and]); (try omega)
theorem nbi212 {v i : Int} (h : (1 ≤ v ∧ v ≤ 5) ∧ (0 ≤ i ∧ i < 4 * 2 * v) ∧ i % 4 = 1) : Cc 18 [.i 2, .i v, .i i, .i 2] [.i (i + 1), .i 0] := by
  refine q18 rfl ?_; unfold p18
  have hq : i % 4 = 1 := by omega
  repeat (first | simp (disch := omega) only [↓qxs, ↓qxc, ↓qxa, ↓qxb, hq] | refine p_call (shCell_ok (by omega)) ?_ | refine p_call (cnb12 (by omega)) ?_ | refine p_call (shId22 (by omega)) ?_); (try simp only [List.cons.injEq, Lf.i.injEq, and_true, true_and]); (try omega)
theorem nmi212 {v i : Int} (h : (1 ≤ v ∧ v ≤ 5) ∧ (0 ≤ i ∧ i < 4 * 2 * v) ∧ i % 4 = 1) : Cc 19 [.i 2, .i v, .i i, .i 2] [.i i, .i 2, .i 0] := by
  refine q19 rfl ?_; unfold p19
  have hq : i % 4 = 1 := by omega
  repeat (first | simp (disch := omega) only [↓qxs, ↓qxc, ↓qxa, ↓qxb] | refine p_call (nbi212 (by omega)) ?_); (try simp only [List.cons.injEq, Lf.i.injEq, and_true, true_and]); (try omega)
theorem nbi220 {v i : Int} (h : (1 ≤ v ∧ v ≤ 5) ∧ (0 ≤ i ∧ i < 4 * 2 * v) ∧ i % 4 = 2 ∧ i / 4 / 2 + 1 < v) : Cc 18 [.i 2, .i v, .i i, .i 0] [.i (i + 6), .i 0] := by
  refine q18 rfl ?_; unfold p18
  have hq : i % 4 = 2 := by omega
  repeat (first | simp (disch := omega) only [↓qxs, ↓qxc, ↓qxa, ↓qxb, hq] | refine p_call (shCell_ok (by omega)) ?_ | refine p_call (cnb20 (by omega)) ?_ | refine p_call (shId20 (by omega)) ?_); (try simp only [List.cons.injEq, Lf.i.injEq, and_true, true_and]); (try omega)
theorem nmi220 {v i : Int} (h : (1 ≤ v ∧ v ≤ 5) ∧ (0 ≤ i ∧ i < 4 * 2 * v) ∧ i % 4 = 2 ∧ i / 4 / 2 + 1 < v) : Cc 19 [.i 2, .i v, .i i, .i 0] [.i i, .i 0, .i 0] := by
  refine q19 rfl ?_; unfold p19
  have hq : i % 4 = 2 := by omega
  repeat (first | simp (disch := omega) only [↓qxs, ↓qxc, ↓qxa, ↓qxb] | refine p_call (nbi220 (by omega)) ?_); (try simp only [List.cons.injEq, Lf.i.injEq, and_true, true_and]); (try omega)
theorem nbo220 {v i : Int} (h : (1 ≤ v ∧ v ≤ 5) ∧ (0 ≤ i ∧ i < 4 * 2 * v) ∧ i % 4 = 2 ∧ ¬ (i / 4 / 2 + 1 < v)) : Cc 18 [.i 2, .i v, .i i, .i 0] [.i 0, .i 7] := by
  refine q18 rfl ?_; unfold p18
  have hq : i % 4 = 2 := by omega
  repeat (first | simp (disch := omega) only [↓qxs, ↓qxc, ↓qxa, ↓qxb, hq] | refine p_call (shCell_ok (by omega)) ?_ | refine p_call (cnb20 (by omega)) ?_ | refine p_call (shIdo (by omega)) ?_); (try simp only [List.cons.injEq, Lf.i.injEq, and_true, true_and]); (try omega)
theorem nmo220 {v i : Int} (h : (1 ≤ v ∧ v ≤ 5) ∧ (0 ≤ i ∧ i < 4 * 2 * v) ∧ i % 4 = 2 ∧ ¬ (i / 4 / 2 + 1 < v)) : Cc 19 [.i 2, .i v, .i i, .i 0] [.i 0, .i 0, .i 7] := by
  refine q19 rfl ?_; unfold p19
  have hq : i % 4 = 2 := by omega
  repeat (first | simp (disch := omega) only [↓qxs, ↓qxc, ↓qxa, ↓qxb] | refine p_call (nbo220 (by omega)) ?_); (try simp only [List.cons.injEq, Lf.i.injEq, and_true, true_and]); (try omega)
theorem nbi221 {v i : Int} (h : (1 ≤ v ∧ v ≤ 5) ∧ (0 ≤ i ∧ i < 4 * 2 * v) ∧ i % 4 = 2) : Cc 18 [.i 2, .i v, .i i, .i 1] [.i (i + 1), .i 0] := by
  refine q18 rfl ?_; unfold p18
  have hq : i % 4 = 2 := by omega
  repeat (first | simp (disch := omega) only [↓qxs, ↓qxc, ↓qxa, ↓qxb, hq] | refine p_call (shCell_ok (by omega)) ?_ | refine p_call (cnb21 (by omega)) ?_ | refine p_call (shId23 (by omega)) ?_); (try simp only [List.cons.injEq, Lf.i.injEq, and_true, true_and]); (try omega)
theorem nmi221 {v i : Int} (h : (1 ≤ v ∧ v ≤ 5) ∧ (0 ≤ i ∧ i < 4 * 2 * v) ∧ i % 4 = 2) : Cc 19 [.i 2, .i v, .i i, .i 1] [.i i, .i 1, .i 0] := by
  refine q19 rfl ?_; unfold p19
  have hq : i % 4 = 2 := by omega
  repeat (first | simp (disch := omega) only [↓qxs, ↓qxc, ↓qxa, ↓qxb] | refine p_call (nbi221 (by omega)) ?_); (try simp only [List.cons.injEq, Lf.i.injEq, and_true, true_and]); (try omega)
theorem nbi222 {v i : Int} (h : (1 ≤ v ∧ v ≤ 5) ∧ (0 ≤ i ∧ i < 4 * 2 * v) ∧ i % 4 = 2) : Cc 18 [.i 2, .i v, .i i, .i 2] [.i (i - 1), .i 0] := by
  refine q18 rfl ?_; unfold p18
  have hq : i % 4 = 2 := by omega
  repeat (first | simp (disch := omega) only [↓qxs, ↓qxc, ↓qxa, ↓qxb, hq] | refine p_call (shCell_ok (by omega)) ?_ | refine p_call (cnb22 (by omega)) ?_ | refine p_call (shId21 (by omega)) ?_); (try simp only [List.cons.injEq, Lf.i.injEq, and_true, true_and]); (try omega)
theorem nmi222 {v i : Int} (h : (1 ≤ v ∧ v ≤ 5) ∧ (0 ≤ i ∧ i < 4 * 2 * v) ∧ i % 4 = 2) : Cc 19 [.i 2, .i v, .i i, .i 2] [.i (i - 1), .i 2, .i 0] := by
  refine q19 rfl ?_; unfold p19
  have hq : i % 4 = 2 := by omega
  repeat (first | simp (disch := omega) only [↓qxs, ↓qxc, ↓qxa, ↓qxb] | refine p_call (nbi222 (by omega)) ?_); (try simp only [List.cons.injEq, Lf.i.injEq, and_true, true_and]); (try omega)
theorem nbi230 {v i : Int} (h : (1 ≤ v ∧ v ≤ 5) ∧ (0 ≤ i ∧ i < 4 * 2 * v) ∧ i % 4 = 3 ∧ 1 ≤ i / 4 % 2) : Cc 18 [.i 2, .i v, .i i, .i 0] [.i (i - 6), .i 0] := by
  refine q18 rfl ?_; unfold p18
  have hq : i % 4 = 3 := by omega
  repeat (first | simp (disch := omega) only [↓qxs, ↓qxc, ↓qxa, ↓qxb, hq] | refine p_call (shCell_ok (by omega)) ?_ | refine p_call (cnb30 (by omega)) ?_ | refine p_call (shId21 (by omega)) ?_); (try simp only [List.cons.injEq, Lf.i.injEq, and_true, true_and]); (try omega)
theorem nmi230 {v i : Int} (h : (1 ≤ v ∧ v ≤ 5) ∧ (0 ≤ i ∧ i < 4 * 2 * v) ∧ i % 4 = 3 ∧ 1 ≤ i / 4 % 2) : Cc 19 [.i 2, .i v, .i i, .i 0] [.i (i - 6), .i 0, .i 0] := by
  refine q19 rfl ?_; unfold p19
  have hq : i % 4 = 3 := by omega
  repeat (first | simp (disch := omega) only [↓qxs, ↓qxc, ↓qxa, ↓qxb] | refine p_call (nbi230 (by omega)) ?_); (try simp only [List.cons.injEq, Lf.i.injEq, and_true, true_and]); (try omega)
theorem nbo230 {v i : Int} (h : (1 ≤ v ∧ v ≤ 5) ∧ (0 ≤ i ∧ i < 4 * 2 * v) ∧ i % 4 = 3 ∧ ¬ (1 ≤ i / 4 % 2)) : Cc 18 [.i 2, .i v, .i i, .i 0] [.i 0, .i 7] := by
  refine q18 rfl ?_; unfold p18
  have hq : i % 4 = 3 := by omega
  repeat (first | simp (disch := omega) only [↓qxs, ↓qxc, ↓qxa, ↓qxb, hq] | refine p_call (shCell_ok (by omega)) ?_ | refine p_call (cnb30 (by omega)) ?_ | refine p_call (shIdo (by omega)) ?_); (try simp only [List.cons.injEq, Lf.i.injEq, and_true, true_and]); (try omega)
theorem nmo230 {v i : Int} (h : (1 ≤ v ∧ v ≤ 5) ∧ (0 ≤ i ∧ i < 4 * 2 * v) ∧ i % 4 = 3 ∧ ¬ (1 ≤ i / 4 % 2)) : Cc 19 [.i 2, .i v, .i i, .i 0] [.i 0, .i 0, .i 7] := by
  refine q19 rfl ?_; unfold p19
  have hq : i % 4 = 3 := by omega
  repeat (first | simp (disch := omega) only [↓qxs, ↓qxc, ↓qxa, ↓qxb] | refine p_call (nbo230 (by omega)) ?_); (try simp only [List.cons.injEq, Lf.i.injEq, and_true, true_and]); (try omega)
theorem nbi231 {v i : Int} (h : (1 ≤ v ∧ v ≤ 5) ∧ (0 ≤ i ∧ i < 4 * 2 * v) ∧ i % 4 = 3) : Cc 18 [.i 2, .i v, .i i, .i 1] [.i (i - 1), .i 0] := by
  refine q18 rfl ?_; unfold p18
  have hq : i % 4 = 3 := by omega
  repeat (first | simp (disch := omega) only [↓qxs, ↓qxc, ↓qxa, ↓qxb, hq] | refine p_call (shCell_ok (by omega)) ?_ | refine p_call (cnb31 (by omega)) ?_ | refine p_call (shId22 (by omega)) ?_); (try simp only [List.cons.injEq, Lf.i.injEq, and_true, true_and]); (try omega)
theorem nmi231 {v i : Int} (h : (1 ≤ v ∧ v ≤ 5) ∧ (0 ≤ i ∧ i < 4 * 2 * v) ∧ i % 4 = 3) : Cc 19 [.i 2, .i v, .i i, .i 1] [.i (i - 1), .i 1, .i 0] := by
  refine q19 rfl ?_; unfold p19
  have hq : i % 4 = 3 := by omega
  repeat (first | simp (disch := omega) only [↓qxs, ↓qxc, ↓qxa, ↓qxb] | refine p_call (nbi231 (by omega)) ?_); (try simp only [List.cons.injEq, Lf.i.injEq, and_true, true_and]); (try omega)
theorem nbi232 {v i : Int} (h : (1 ≤ v ∧ v ≤ 5) ∧ (0 ≤ i ∧ i < 4 * 2 * v) ∧ i % 4 = 3) : Cc 18 [.i 2, .i v, .i i, .i 2] [.i (i - 3), .i 0] := by
  refine q18 rfl ?_; unfold p18
  have hq : i % 4 = 3 := by omega
  repeat (first | simp (disch := omega) only [↓qxs, ↓qxc, ↓qxa, ↓qxb, hq] | refine p_call (shCell_ok (by omega)) ?_ | refine p_call (cnb32 (by omega)) ?_ | refine p_call (shId20 (by omega)) ?_); (try simp only [List.cons.injEq, Lf.i.injEq, and_true, true_and]); (try omega)
theorem nmi232 {v i : Int} (h : (1 ≤ v ∧ v ≤ 5) ∧ (0 ≤ i ∧ i < 4 * 2 * v) ∧ i % 4 = 3) : Cc 19 [.i 2, .i v, .i i, .i 2] [.i (i - 3), .i 2, .i 0] := by
  refine q19 rfl ?_; unfold p19
  have hq : i % 4 = 3 := by omega
  repeat (first | simp (disch := omega) only [↓qxs, ↓qxc, ↓qxa, ↓qxb] | refine p_call (nbi232 (by omega)) ?_); (try simp only [List.cons.injEq, Lf.i.injEq, and_true, true_and]); (try omega)
theorem nbi300 {v i : Int} (h : (1 ≤ v ∧ v ≤ 5) ∧ (0 ≤ i ∧ i < 4 * 3 * v) ∧ i % 4 = 0 ∧ 12 ≤ i) : Cc 18 [.i 3, .i v, .i i, .i 0] [.i (i - 10), .i 0] := by
  refine q18 rfl ?_; unfold p18
  have hq : i % 4 = 0 := by omega
  repeat (first | simp (disch := omega) only [↓qxs, ↓qxc, ↓qxa, ↓qxb, hq] | refine p_call (shCell_ok (by omega)) ?_ | refine p_call (cnb00 (by omega)) ?_ | refine p_call (shId32 (by omega)) ?_); (try simp only [List.cons.injEq, Lf.i.injEq, and_true, true_and]); (try omega)
theorem nmi300 {v i : Int} (h : (1 ≤ v ∧ v ≤ 5) ∧ (0 ≤ i ∧ i < 4 * 3 * v) ∧ i % 4 = 0 ∧ 12 ≤ i) : Cc 19 [.i 3, .i v, .i i, .i 0] [.i (i - 10), .i 0, .i 0] := by
  refine q19 rfl ?_; unfold p19
  have hq : i % 4 = 0 := by omega
  repeat (first | simp (disch := omega) only [↓qxs, ↓qxc, ↓qxa, ↓qxb] | refine p_call (nbi300 (by omega)) ?_); (try simp only [List.cons.injEq, Lf.i.injEq, and_true, true_and]); (try omega)
theorem nbo300 {v i : Int} (h : (1 ≤ v ∧ v ≤ 5) ∧ (0 ≤ i ∧ i < 4 * 3 * v) ∧ i % 4 = 0 ∧ ¬ (12 ≤ i)) : Cc 18 [.i 3, .i v, .i i, .i 0] [.i 0, .i 7] := by
  refine q18 rfl ?_; unfold p18
  have hq : i % 4 = 0 := by omega
  repeat (first | simp (disch := omega) only [↓qxs, ↓qxc, ↓qxa, ↓qxb, hq] | refine p_call (shCell_ok (by omega)) ?_ | refine p_call (cnb00 (by omega)) ?_ | refine p_call (shIdo (by omega)) ?_); (try simp only [List.cons.injEq, Lf.i.injEq, and_true, true_and]); (try omega)
theorem nmo300 {v i : Int} (h : (1 ≤ v ∧ v ≤ 5) ∧ (0 ≤ i ∧ i < 4 * 3 * v) ∧ i % 4 = 0 ∧ ¬ (12 ≤ i)) : Cc 19 [.i 3, .i v, .i i, .i 0] [.i 0, .i 0, .i 7] := by
  refine q19 rfl ?_; unfold p19
  have hq : i % 4 = 0 := by omega
  repeat (first | simp (disch := omega) only [↓qxs, ↓qxc, ↓qxa, ↓qxb] | refine p_call (nbo300 (by omega)) ?_); (try simp only [List.cons.injEq, Lf.i.injEq, and_true, true_and]); (try omega)
theorem nbi301 {v i : Int} (h : (1 ≤ v ∧ v ≤ 5) ∧ (0 ≤ i ∧ i < 4 * 3 * v) ∧ i % 4 = 0) : Cc 18 [.i 3, .i v, .i i, .i 1] [.i (i + 1), .i 0] := by
  refine q18 rfl ?_; unfold p18
  have hq : i % 4 = 0 := by omega
  repeat (first | simp (disch := omega) only [↓qxs, ↓qxc, ↓qxa, ↓qxb, hq] | refine p_call (shCell_ok (by omega)) ?_ | refine p_call (cnb01 (by omega)) ?_ | refine p_call (shId31 (by omega)) ?_); (try simp only [List.cons.injEq, Lf.i.injEq, and_true, true_and]); (try omega)
theorem nmi301 {v i : Int} (h : (1 ≤ v ∧ v ≤ 5) ∧ (0 ≤ i ∧ i < 4 * 3 * v) ∧ i % 4 = 0) : Cc 19 [.i 3, .i v, .i i, .i 1] [.i i, .i 1, .i 0] := by
  refine q19 rfl ?_; unfold p19
  have hq : i % 4 = 0 := by omega
  repeat (first | simp (disch := omega) only [↓qxs, ↓qxc, ↓qxa, ↓qxb] | refine p_call (nbi301 (by omega)) ?_); (try simp only [List.cons.injEq, Lf.i.injEq, and_true, true_and]); (try omega)
theorem nbi302 {v i : Int} (h : (1 ≤ v ∧ v ≤ 5) ∧ (0 ≤ i ∧ i < 4 * 3 * v) ∧ i % 4 = 0) : Cc 18 [.i 3, .i v, .i i, .i 2] [.i (i + 3), .i 0] := by
  refine q18 rfl ?_; unfold p18
  have hq : i % 4 = 0 := by omega
  repeat (first | simp (disch := omega) only [↓qxs, ↓qxc, ↓qxa, ↓qxb, hq] | refine p_call (shCell_ok (by omega)) ?_ | refine p_call (cnb02 (by omega)) ?_ | refine p_call (shId33 (by omega)) ?_); (try simp only [List.cons.injEq, Lf.i.injEq, and_true, true_and]); (try omega)
theorem nmi302 {v i : Int} (h : (1 ≤ v ∧ v ≤ 5) ∧ (0 ≤ i ∧ i < 4 * 3 * v) ∧ i % 4 = 0) : Cc 19 [.i 3, .i v, .i i, .i 2] [.i i, .i 2, .i 0] := by
  refine q19 rfl ?_; unfold p19
  have hq : i % 4 = 0 := by omega
  repeat (first | simp (disch := omega) only [↓qxs, ↓qxc, ↓qxa, ↓qxb] | refine p_call (nbi302 (by omega)) ?_); (try simp only [List.cons.injEq, Lf.i.injEq, and_true, true_and]); (try omega)
theorem nbi310 {v i : Int} (h : (1 ≤ v ∧ v ≤ 5) ∧ (0 ≤ i ∧ i < 4 * 3 * v) ∧ i % 4 = 1 ∧ i / 4 % 3 + 1 < 3) : Cc 18 [.i 3, .i v, .i i, .i 0] [.i (i + 6), .i 0] := by
  refine q18 rfl ?_; unfold p18
  have hq : i % 4 = 1 := by omega
  repeat (first | simp (disch := omega) only [↓qxs, ↓qxc, ↓qxa, ↓qxb, hq] | refine p_call (shCell_ok (by omega)) ?_ | refine p_call (cnb10 (by omega)) ?_ | refine p_call (shId33 (by omega)) ?_); (try simp only [List.cons.injEq, Lf.i.injEq, and_true, true_and]); (try omega)
theorem nmi310 {v i : Int} (h : (1 ≤ v ∧ v ≤ 5) ∧ (0 ≤ i ∧ i < 4 * 3 * v) ∧ i % 4 = 1 ∧ i / 4 % 3 + 1 < 3) : Cc 19 [.i 3, .i v, .i i, .i 0] [.i i, .i 0, .i 0] := by
  refine q19 rfl ?_; unfold p19
  have hq : i % 4 = 1 := by omega
  repeat (first | simp (disch := omega) only [↓qxs, ↓qxc, ↓qxa, ↓qxb] | refine p_call (nbi310 (by omega)) ?_); (try simp only [List.cons.injEq, Lf.i.injEq, and_true, true_and]); (try omega)
theorem nbo310 {v i : Int} (h : (1 ≤ v ∧ v ≤ 5) ∧ (0 ≤ i ∧ i < 4 * 3 * v) ∧ i % 4 = 1 ∧ ¬ (i / 4 % 3 + 1 < 3)) : Cc 18 [.i 3, .i v, .i i, .i 0] [.i 0, .i 7] := by
  refine q18 rfl ?_; unfold p18
  have hq : i % 4 = 1 := by omega
  repeat (first | simp (disch := omega) only [↓qxs, ↓qxc, ↓qxa, ↓qxb, hq] | refine p_call (shCell_ok (by omega)) ?_ | refine p_call (cnb10 (by omega)) ?_ | refine p_call (shIdo (by omega)) ?_); (try simp only [List.cons.injEq, Lf.i.injEq, and_true, true_and]); (try omega)
theorem nmo310 {v i : Int} (h : (1 ≤ v ∧ v ≤ 5) ∧ (0 ≤ i ∧ i < 4 * 3 * v) ∧ i % 4 = 1 ∧ ¬ (i / 4 % 3 + 1 < 3)) : Cc 19 [.i 3, .i v, .i i, .i 0] [.i 0, .i 0, .i 7] := by
  refine q19 rfl ?_; unfold p19
  have hq : i % 4 = 1 := by omega
  repeat (first | simp (disch := omega) only [↓qxs, ↓qxc, ↓qxa, ↓qxb] | refine p_call (nbo310 (by omega)) ?_); (try simp only [List.cons.injEq, Lf.i.injEq, and_true, true_and]); (try omega)
theorem nbi311 {v i : Int} (h : (1 ≤ v ∧ v ≤ 5) ∧ (0 ≤ i ∧ i < 4 * 3 * v) ∧ i % 4 = 1) : Cc 18 [.i 3, .i v, .i i, .i 1] [.i (i - 1), .i 0] := by
  refine q18 rfl ?_; unfold p18
  have hq : i % 4 = 1 := by omega
  repeat (first | simp (disch := omega) only [↓qxs, ↓qxc, ↓qxa, ↓qxb, hq] | refine p_call (shCell_ok (by omega)) ?_ | refine p_call (cnb11 (by omega)) ?_ | refine p_call (shId30 (by omega)) ?_); (try simp only [List.cons.injEq, Lf.i.injEq, and_true, true_and]); (try omega)
theorem nmi311 {v i : Int} (h : (1 ≤ v ∧ v ≤ 5) ∧ (0 ≤ i ∧ i < 4 * 3 * v) ∧ i % 4 = 1) : Cc 19 [.i 3, .i v, .i i, .i 1] [.i (i - 1), .i 1, .i 0] := by
  refine q19 rfl ?_; unfold p19
  have hq : i % 4 = 1 := by omega
  repeat (first | simp (disch := omega) only [↓qxs, ↓qxc, ↓qxa, ↓qxb] | refine p_call (nbi311 (by omega)) ?_); (try simp only [List.cons.injEq, Lf.i.injEq, and_true, true_and]); (try omega)
theorem nbi312 {v i : Int} (h : (1 ≤ v ∧ v ≤ 5) ∧ (0 ≤ i ∧ i < 4 * 3 * v) ∧ i % 4 = 1) : Cc 18 [.i 3, .i v, .i i, .i 2] [.i (i + 1), .i 0] := by
  refine q18 rfl ?_; unfold p18
  have hq : i % 4 = 1 := by omega
  repeat (first | simp (disch := omega) only [↓qxs, ↓qxc, ↓qxa, ↓qxb, hq] | refine p_call (shCell_ok (by omega)) ?_ | refine p_call (cnb12 (by omega)) ?_ | refine p_call (shId32 (by omega)) ?_); (try simp only [List.cons.injEq, Lf.i.injEq, and_true, true_and]); (try omega)
theorem nmi312 {v i : Int} (h : (1 ≤ v ∧ v ≤ 5) ∧ (0 ≤ i ∧ i < 4 * 3 * v) ∧ i % 4 = 1) : Cc 19 [.i 3, .i v, .i i, .i 2] [.i i, .i 2, .i 0] := by
  refine q19 rfl ?_; unfold p19
  have hq : i % 4 = 1 := by omega
  repeat (first | simp (disch := omega) only [↓qxs, ↓qxc, ↓qxa, ↓qxb] | refine p_call (nbi312 (by omega)) ?_); (try simp only [List.cons.injEq, Lf.i.injEq, and_true, true_and]); (try omega)
theorem nbi320 {v i : Int} (h : (1 ≤ v ∧ v ≤ 5) ∧ (0 ≤ i ∧ i < 4 * 3 * v) ∧ i % 4 = 2 ∧ i / 4 / 3 + 1 < v) : Cc 18 [.i 3, .i v, .i i, .i 0] [.i (i + 10), .i 0] := by
  refine q18 rfl ?_; unfold p18
  have hq : i % 4 = 2 := by omega
  repeat (first | simp (disch := omega) only [↓qxs, ↓qxc, ↓qxa, ↓qxb, hq] | refine p_call (shCell_ok (by omega)) ?_ | refine p_call (cnb20 (by omega)) ?_ | refine p_call (shId30 (by omega)) ?_); (try simp only [List.cons.injEq, Lf.i.injEq, and_true, true_and]); (try omega)
theorem nmi320 {v i : Int} (h : (1 ≤ v ∧ v ≤ 5) ∧ (0 ≤ i ∧ i < 4 * 3 * v) ∧ i % 4 = 2 ∧ i / 4 / 3 + 1 < v) : Cc 19 [.i 3, .i v, .i i, .i 0] [.i i, .i 0, .i 0] := by
  refine q19 rfl ?_; unfold p19
  have hq : i % 4 = 2 := by omega
  repeat (first | simp (disch := omega) only [↓qxs, ↓qxc, ↓qxa, ↓qxb] | refine p_call (nbi320 (by omega)) ?_); (try simp only [List.cons.injEq, Lf.i.injEq, and_true, true_and]); (try omega)
theorem nbo320 {v i : Int} (h : (1 ≤ v ∧ v ≤ 5) ∧ (0 ≤ i ∧ i < 4 * 3 * v) ∧ i % 4 = 2 ∧ ¬ (i / 4 / 3 + 1 < v)) : Cc 18 [.i 3, .i v, .i i, .i 0] [.i 0, .i 7] := by
  refine q18 rfl ?_; unfold p18
  have hq : i % 4 = 2 := by omega
  repeat (first | simp (disch := omega) only [↓qxs, ↓qxc, ↓qxa, ↓qxb, hq] | refine p_call (shCell_ok (by omega)) ?_ | refine p_call (cnb20 (by omega)) ?_ | refine p_call (shIdo (by omega)) ?_); (try simp only [List.cons.injEq, Lf.i.injEq, and_true, true_and]); (try omega)
theorem nmo320 {v i : Int} (h : (1 ≤ v ∧ v ≤ 5) ∧ (0 ≤ i ∧ i < 4 * 3 * v) ∧ i % 4 = 2 ∧ ¬ (i / 4 / 3 + 1 < v)) : Cc 19 [.i 3, .i v, .i i, .i 0] [.i 0, .i 0, .i 7] := by
  refine q19 rfl ?_; unfold p19
  have hq : i % 4 = 2 := by omega
  repeat (first | simp (disch := omega) only [↓qxs, ↓qxc, ↓qxa, ↓qxb] | refine p_call (nbo320 (by omega)) ?_); (try simp only [List.cons.injEq, Lf.i.injEq, and_true, true_and]); (try omega)
theorem nbi321 {v i : Int} (h : (1 ≤ v ∧ v ≤ 5) ∧ (0 ≤ i ∧ i < 4 * 3 * v) ∧ i % 4 = 2) : Cc 18 [.i 3, .i v, .i i, .i 1] [.i (i + 1), .i 0] := by
  refine q18 rfl ?_; unfold p18
  have hq : i % 4 = 2 := by omega
  repeat (first | simp (disch := omega) only [↓qxs, ↓qxc, ↓qxa, ↓qxb, hq] | refine p_call (shCell_ok (by omega)) ?_ | refine p_call (cnb21 (by omega)) ?_ | refine p_call (shId33 (by omega)) ?_); (try simp only [List.cons.injEq, Lf.i.injEq, and_true, true_and]); (try omega)
theorem nmi321 {v i : Int} (h : (1 ≤ v ∧ v ≤ 5) ∧ (0 ≤ i ∧ i < 4 * 3 * v) ∧ i % 4 = 2) : Cc 19 [.i 3, .i v, .i i, .i 1] [.i i, .i 1, .i 0] := by
  refine q19 rfl ?_; unfold p19
  have hq : i % 4 = 2 := by omega
  repeat (first | simp (disch := omega) only [↓qxs, ↓qxc, ↓qxa, ↓qxb] | refine p_call (nbi321 (by omega)) ?_); (try simp only [List.cons.injEq, Lf.i.injEq, and_true, true_and]); (try omega)
theorem nbi322 {v i : Int} (h : (1 ≤ v ∧ v ≤ 5) ∧ (0 ≤ i ∧ i < 4 * 3 * v) ∧ i % 4 = 2) : Cc 18 [.i 3, .i v, .i i, .i 2] [.i (i - 1), .i 0] := by
  refine q18 rfl ?_; unfold p18
  have hq : i % 4 = 2 := by omega
  repeat (first | simp (disch := omega) only [↓qxs, ↓qxc, ↓qxa, ↓qxb, hq] | refine p_call (shCell_ok (by omega)) ?_ | refine p_call (cnb22 (by omega)) ?_ | refine p_call (shId31 (by omega)) ?_); (try simp only [List.cons.injEq, Lf.i.injEq, and_true, true_and]); (try omega)
theorem nmi322 {v i : Int} (h : (1 ≤ v ∧ v ≤ 5) ∧ (0 ≤ i ∧ i < 4 * 3 * v) ∧ i % 4 = 2) : Cc 19 [.i 3, .i v, .i i, .i 2] [.i (i - 1), .i 2, .i 0] := by
  refine q19 rfl ?_; unfold p19
  have hq : i % 4 = 2 := by omega
  repeat (first | simp (disch := omega) only [↓qxs, ↓qxc, ↓qxa, ↓qxb] | refine p_call (nbi322 (by omega)) ?_); (try simp only [List.cons.injEq, Lf.i.injEq, and_true, true_and]); (try omega)
theorem nbi330 {v i : Int} (h : (1 ≤ v ∧ v ≤ 5) ∧ (0 ≤ i ∧ i < 4 * 3 * v) ∧ i % 4 = 3 ∧ 1 ≤ i / 4 % 3) : Cc 18 [.i 3, .i v, .i i, .i 0] [.i (i - 6), .i 0] := by
  refine q18 rfl ?_; unfold p18
  have hq : i % 4 = 3 := by omega
  repeat (first | simp (disch := omega) only [↓qxs, ↓qxc, ↓qxa, ↓qxb, hq] | refine p_call (shCell_ok (by omega)) ?_ | refine p_call (cnb30 (by omega)) ?_ | refine p_call (shId31 (by omega)) ?_); (try simp only [List.cons.injEq, Lf.i.injEq, and_true, true_and]); (try omega)
theorem nmi330 {v i : Int} (h : (1 ≤ v ∧ v ≤ 5) ∧ (0 ≤ i ∧ i < 4 * 3 * v) ∧ i % 4 = 3 ∧ 1 ≤ i / 4 % 3) : Cc 19 [.i 3, .i v, .i i, .i 0] [.i (i - 6), .i 0, .i 0] := by
  refine q19 rfl ?_; unfold p19
  have hq : i % 4 = 3 := by omega
  repeat (first | simp (disch := omega) only [↓qxs, ↓qxc, ↓qxa, ↓qxb] | refine p_call (nbi330 (by omega)) ?_); (try simp only [List.cons.injEq, Lf.i.injEq, and_true, true_and]); (try omega)
theorem nbo330 {v i : Int} (h : (1 ≤ v ∧ v ≤ 5) ∧ (0 ≤ i ∧ i < 4 * 3 * v) ∧ i % 4 = 3 ∧ ¬ (1 ≤ i / 4 % 3)) : Cc 18 [.i 3, .i v, .i i, .i 0] [.i 0, .i 7] := by
  refine q18 rfl ?_; unfold p18
  have hq : i % 4 = 3 := by omega
  repeat (first | simp (disch := omega) only [↓qxs, ↓qxc, ↓qxa, ↓qxb, hq] | refine p_call (shCell_ok (by omega)) ?_ | refine p_call (cnb30 (by omega)) ?_ | refine p_call (shIdo (by omega)) ?_); (try simp only [List.cons.injEq, Lf.i.injEq, and_true, true_and]); (try omega)
theorem nmo330 {v i : Int} (h : (1 ≤ v ∧ v ≤ 5) ∧ (0 ≤ i ∧ i < 4 * 3 * v) ∧ i % 4 = 3 ∧ ¬ (1 ≤ i / 4 % 3)) : Cc 19 [.i 3, .i v, .i i, .i 0] [.i 0, .i 0, .i 7] := by
  refine q19 rfl ?_; unfold p19
  have hq : i % 4 = 3 := by omega
  repeat (first | simp (disch := omega) only [↓qxs, ↓qxc, ↓qxa, ↓qxb] | refine p_call (nbo330 (by omega)) ?_); (try simp only [List.cons.injEq, Lf.i.injEq, and_true, true_and]); (try omega)
theorem nbi331 {v i : Int} (h : (1 ≤ v ∧ v ≤ 5) ∧ (0 ≤ i ∧ i < 4 * 3 * v) ∧ i % 4 = 3) : Cc 18 [.i 3, .i v, .i i, .i 1] [.i (i - 1), .i 0] := by
  refine q18 rfl ?_; unfold p18
  have hq : i % 4 = 3 := by omega
  repeat (first | simp (disch := omega) only [↓qxs, ↓qxc, ↓qxa, ↓qxb, hq] | refine p_call (shCell_ok (by omega)) ?_ | refine p_call (cnb31 (by omega)) ?_ | refine p_call (shId32 (by omega)) ?_); (try simp only [List.cons.injEq, Lf.i.injEq, and_true, true_and]); (try omega)
theorem nmi331 {v i : Int} (h : (1 ≤ v ∧ v ≤ 5) ∧ (0 ≤ i ∧ i < 4 * 3 * v) ∧ i % 4 = 3) : Cc 19 [.i 3, .i v, .i i, .i 1] [.i (i - 1), .i 1, .i 0] := by
  refine q19 rfl ?_; unfold p19
  have hq : i % 4 = 3 := by omega
  repeat (first | simp (disch := omega) only [↓qxs, ↓qxc, ↓qxa, ↓qxb] | refine p_call (nbi331 (by omega)) ?_); (try simp only [List.cons.injEq, Lf.i.injEq, and_true, true_and]); (try omega)
theorem nbi332 {v i : Int} (h : (1 ≤ v ∧ v ≤ 5) ∧ (0 ≤ i ∧ i < 4 * 3 * v) ∧ i % 4 = 3) : Cc 18 [.i 3, .i v, .i i, .i 2] [.i (i - 3), .i 0] := by
  refine q18 rfl ?_; unfold p18
  have hq : i % 4 = 3 := by omega
  repeat (first | simp (disch := omega) only [↓qxs, ↓qxc, ↓qxa, ↓qxb, hq] | refine p_call (shCell_ok (by omega)) ?_ | refine p_call (cnb32 (by omega)) ?_ | refine p_call (shId30 (by omega)) ?_); (try simp only [List.cons.injEq, Lf.i.injEq, and_true, true_and]); (try omega)
theorem nmi332 {v i : Int} (h : (1 ≤ v ∧ v ≤ 5) ∧ (0 ≤ i ∧ i < 4 * 3 * v) ∧ i % 4 = 3) : Cc 19 [.i 3, .i v, .i i, .i 2] [.i (i - 3), .i 2, .i 0] := by
  refine q19 rfl ?_; unfold p19
  have hq : i % 4 = 3 := by omega
  repeat (first | simp (disch := omega) only [↓qxs, ↓qxc, ↓qxa, ↓qxb] | refine p_call (nbi332 (by omega)) ?_); (try simp only [List.cons.injEq, Lf.i.injEq, and_true, true_and]); (try omega)
theorem nbi400 {v i : Int} (h : (1 ≤ v ∧ v ≤ 5) ∧ (0 ≤ i ∧ i < 4 * 4 * v) ∧ i % 4 = 0 ∧ 16 ≤ i) : Cc 18 [.i 4, .i v, .i i, .i 0] [.i (i - 14), .i 0] := by
  refine q18 rfl ?_; unfold p18
  have hq : i % 4 = 0 := by omega
  repeat (first | simp (disch := omega) only [↓qxs, ↓qxc, ↓qxa, ↓qxb, hq] | refine p_call (shCell_ok (by omega)) ?_ | refine p_call (cnb00 (by omega)) ?_ | refine p_call (shId42 (by omega)) ?_); (try simp only [List.cons.injEq, Lf.i.injEq, and_true, true_and]); (try omega)
theorem nmi400 {v i : Int} (h : (1 ≤ v ∧ v ≤ 5) ∧ (0 ≤ i ∧ i < 4 * 4 * v) ∧ i % 4 = 0 ∧ 16 ≤ i) : Cc 19 [.i 4, .i v, .i i, .i 0] [.i (i - 14), .i 0, .i 0] := by
  refine q19 rfl ?_; unfold p19
  have hq : i % 4 = 0 := by omega
  repeat (first | simp (disch := omega) only [↓qxs, ↓qxc, ↓qxa, ↓qxb] | refine p_call (nbi400 (by omega)) ?_); (try simp only [List.cons.injEq, Lf.i.injEq, and_true, true_and]); (try omega)
theorem nbo400 {v i : Int} (h : (1 ≤ v ∧ v ≤ 5) ∧ (0 ≤ i ∧ i < 4 * 4 * v) ∧ i % 4 = 0 ∧ ¬ (16 ≤ i)) : Cc 18 [.i 4, .i v, .i i, .i 0] [.i 0, .i 7] := by
  refine q18 rfl ?_; unfold p18
  have hq : i % 4 = 0 := by omega
  repeat (first | simp (disch := omega) only [↓qxs, ↓qxc, ↓qxa, ↓qxb, hq] | refine p_call (shCell_ok (by omega)) ?_ | refine p_call (cnb00 (by omega)) ?_ | refine p_call (shIdo (by omega)) ?_); (try simp only [List.cons.injEq, Lf.i.injEq, and_true, true_and]); (try omega)
theorem nmo400 {v i : Int} (h : (1 ≤ v ∧ v ≤ 5) ∧ (0 ≤ i ∧ i < 4 * 4 * v) ∧ i % 4 = 0 ∧ ¬ (16 ≤ i)) : Cc 19 [.i 4, .i v, .i i, .i 0] [.i 0, .i 0, .i 7] := by
  refine q19 rfl ?_; unfold p19
  have hq : i % 4 = 0 := by omega
  repeat (first | simp (disch := omega) only [↓qxs, ↓qxc, ↓qxa, ↓qxb] | refine p_call (nbo400 (by omega)) ?_); (try simp only [List.cons.injEq, Lf.i.injEq, and_true, true_and]); (try omega)
theorem nbi401 {v i : Int} (h : (1 ≤ v ∧ v ≤ 5) ∧ (0 ≤ i ∧ i < 4 * 4 * v) ∧ i % 4 = 0) : Cc 18 [.i 4, .i v, .i i, .i 1] [.i (i + 1), .i 0] := by
  refine q18 rfl ?_; unfold p18
  have hq : i % 4 = 0 := by omega
  repeat (first | simp (disch := omega) only [↓qxs, ↓qxc, ↓qxa, ↓qxb, hq] | refine p_call (shCell_ok (by omega)) ?_ | refine p_call (cnb01 (by omega)) ?_ | refine p_call (shId41 (by omega)) ?_); (try simp only [List.cons.injEq, Lf.i.injEq, and_true, true_and]); (try omega)
theorem nmi401 {v i : Int} (h : (1 ≤ v ∧ v ≤ 5) ∧ (0 ≤ i ∧ i < 4 * 4 * v) ∧ i % 4 = 0) : Cc 19 [.i 4, .i v, .i i, .i 1] [.i i, .i 1, .i 0] := by
  refine q19 rfl ?_; unfold p19
  have hq : i % 4 = 0 := by omega
  repeat (first | simp (disch := omega) only [↓qxs, ↓qxc, ↓qxa, ↓qxb] | refine p_call (nbi401 (by omega)) ?_); (try simp only [List.cons.injEq, Lf.i.injEq, and_true, true_and]); (try omega)
theorem nbi402 {v i : Int} (h : (1 ≤ v ∧ v ≤ 5) ∧ (0 ≤ i ∧ i < 4 * 4 * v) ∧ i % 4 = 0) : Cc 18 [.i 4, .i v, .i i, .i 2] [.i (i + 3), .i 0] := by
  refine q18 rfl ?_; unfold p18
  have hq : i % 4 = 0 := by omega
  repeat (first | simp (disch := omega) only [↓qxs, ↓qxc, ↓qxa, ↓qxb, hq] | refine p_call (shCell_ok (by omega)) ?_ | refine p_call (cnb02 (by omega)) ?_ | refine p_call (shId43 (by omega)) ?_); (try simp only [List.cons.injEq, Lf.i.injEq, and_true, true_and]); (try omega)
theorem nmi402 {v i : Int} (h : (1 ≤ v ∧ v ≤ 5) ∧ (0 ≤ i ∧ i < 4 * 4 * v) ∧ i % 4 = 0) : Cc 19 [.i 4, .i v, .i i, .i 2] [.i i, .i 2, .i 0] := by
  refine q19 rfl ?_; unfold p19
  have hq : i % 4 = 0 := by omega
  repeat (first | simp (disch := omega) only [↓qxs, ↓qxc, ↓qxa, ↓qxb] | refine p_call (nbi402 (by omega)) ?_); (try simp only [List.cons.injEq, Lf.i.injEq, and_true, true_and]); (try omega)
theorem nbi410 {v i : Int} (h : (1 ≤ v ∧ v ≤ 5) ∧ (0 ≤ i ∧ i < 4 * 4 * v) ∧ i % 4 = 1 ∧ i / 4 % 4 + 1 < 4) : Cc 18 [.i 4, .i v, .i i, .i 0] [.i (i + 6), .i 0] := by
  refine q18 rfl ?_; unfold p18
  have hq : i % 4 = 1 := by omega
  repeat (first | simp (disch := omega) only [↓qxs, ↓qxc, ↓qxa, ↓qxb, hq] | refine p_call (shCell_ok (by omega)) ?_ | refine p_call (cnb10 (by omega)) ?_ | refine p_call (shId43 (by omega)) ?_); (try simp only [List.cons.injEq, Lf.i.injEq, and_true, true_and]); (try omega)
theorem nmi410 {v i : Int} (h : (1 ≤ v ∧ v ≤ 5) ∧ (0 ≤ i ∧ i < 4 * 4 * v) ∧ i % 4 = 1 ∧ i / 4 % 4 + 1 < 4) : Cc 19 [.i 4, .i v, .i i, .i 0] [.i i, .i 0, .i 0] := by
  refine q19 rfl ?_; unfold p19
  have hq : i % 4 = 1 := by omega
  repeat (first | simp (disch := omega) only [↓qxs, ↓qxc, ↓qxa, ↓qxb] | refine p_call (nbi410 (by omega)) ?_); (try simp only [List.cons.injEq, Lf.i.injEq, and_true, true_and]); (try omega)
theorem nbo410 {v i : Int} (h : (1 ≤ v ∧ v ≤ 5) ∧ (0 ≤ i ∧ i < 4 * 4 * v) ∧ i % 4 = 1 ∧ ¬ (i / 4 % 4 + 1 < 4)) : Cc 18 [.i 4, .i v, .i i, .i 0] [.i 0, .i 7] := by
  refine q18 rfl ?_; unfold p18
  have hq : i % 4 = 1 := by omega
  repeat (first | simp (disch := omega) only [↓qxs, ↓qxc, ↓qxa, ↓qxb, hq] | refine p_call (shCell_ok (by omega)) ?_ | refine p_call (cnb10 (by omega)) ?_ | refine p_call (shIdo (by omega)) ?_); (try simp only [List.cons.injEq, Lf.i.injEq, and_true, true_and]); (try omega)
theorem nmo410 {v i : Int} (h : (1 ≤ v ∧ v ≤ 5) ∧ (0 ≤ i ∧ i < 4 * 4 * v) ∧ i % 4 = 1 ∧ ¬ (i / 4 % 4 + 1 < 4)) : Cc 19 [.i 4, .i v, .i i, .i 0] [.i 0, .i 0, .i 7] := by
  refine q19 rfl ?_; unfold p19
  have hq : i % 4 = 1 := by omega
  repeat (first | simp (disch := omega) only [↓qxs, ↓qxc, ↓qxa, ↓qxb] | refine p_call (nbo410 (by omega)) ?_); (try simp only [List.cons.injEq, Lf.i.injEq, and_true, true_and]); (try omega)
theorem nbi411 {v i : Int} (h : (1 ≤ v ∧ v ≤ 5) ∧ (0 ≤ i ∧ i < 4 * 4 * v) ∧ i % 4 = 1) : Cc 18 [.i 4, .i v, .i i, .i 1] [.i (i - 1), .i 0] := by
  refine q18 rfl ?_; unfold p18
  have hq : i % 4 = 1 := by omega
  repeat (first | simp (disch := omega) only [↓qxs, ↓qxc, ↓qxa, ↓qxb, hq] | refine p_call (shCell_ok (by omega)) ?_ | refine p_call (cnb11 (by omega)) ?_ | refine p_call (shId40 (by omega)) ?_); (try simp only [List.cons.injEq, Lf.i.injEq, and_true, true_and]); (try omega)
theorem nmi411 {v i : Int} (h : (1 ≤ v ∧ v ≤ 5) ∧ (0 ≤ i ∧ i < 4 * 4 * v) ∧ i % 4 = 1) : Cc 19 [.i 4, .i v, .i i, .i 1] [.i (i - 1), .i 1, .i 0] := by
  refine q19 rfl ?_; unfold p19
  have hq : i % 4 = 1 := by omega
  repeat (first | simp (disch := omega) only [↓qxs, ↓qxc, ↓qxa, ↓qxb] | refine p_call (nbi411 (by omega)) ?_); (try simp only [List.cons.injEq, Lf.i.injEq, and_true, true_and]); (try omega)
theorem nbi412 {v i : Int} (h : (1 ≤ v ∧ v ≤ 5) ∧ (0 ≤ i ∧ i < 4 * 4 * v) ∧ i % 4 = 1) : Cc 18 [.i 4, .i v, .i i, .i 2] [.i (i + 1), .i 0] := by
  refine q18 rfl ?_; unfold p18
  have hq : i % 4 = 1 := by omega
  repeat (first | simp (disch := omega) only [↓qxs, ↓qxc, ↓qxa, ↓qxb, hq] | refine p_call (shCell_ok (by omega)) ?_ | refine p_call (cnb12 (by omega)) ?_ | refine p_call (shId42 (by omega)) ?_); (try simp only [List.cons.injEq, Lf.i.injEq, and_true, true_and]); (try omega)
theorem nmi412 {v i : Int} (h : (1 ≤ v ∧ v ≤ 5) ∧ (0 ≤ i ∧ i < 4 * 4 * v) ∧ i % 4 = 1) : Cc 19 [.i 4, .i v, .i i, .i 2] [.i i, .i 2, .i 0] := by
  refine q19 rfl ?_; unfold p19
  have hq : i % 4 = 1 := by omega
  repeat (first | simp (disch := omega) only [↓qxs, ↓qxc, ↓qxa, ↓qxb] | refine p_call (nbi412 (by omega)) ?_); (try simp only [List.cons.injEq, Lf.i.injEq, and_true, true_and]); (try omega)
theorem nbi420 {v i : Int} (h : (1 ≤ v ∧ v ≤ 5) ∧ (0 ≤ i ∧ i < 4 * 4 * v) ∧ i % 4 = 2 ∧ i / 4 / 4 + 1 < v) : Cc 18 [.i 4, .i v, .i i, .i 0] [.i (i + 14), .i 0] := by
  refine q18 rfl ?_; unfold p18
  have hq : i % 4 = 2 := by omega
  repeat (first | simp (disch := omega) only [↓qxs, ↓qxc, ↓qxa, ↓qxb, hq] | refine p_call (shCell_ok (by omega)) ?_ | refine p_call (cnb20 (by omega)) ?_ | refine p_call (shId40 (by omega)) ?_); (try simp only [List.cons.injEq, Lf.i.injEq, and_true, true_and]); (try omega)
theorem nmi420 {v i : Int} (h : (1 ≤ v ∧ v ≤ 5) ∧ (0 ≤ i ∧ i < 4 * 4 * v) ∧ i % 4 = 2 ∧ i / 4 / 4 + 1 < v) : Cc 19 [.i 4, .i v, .i i, .i 0] [.i i, .i 0, .i 0] := by
  refine q19 rfl ?_; unfold p19
  have hq : i % 4 = 2 := by omega
  repeat (first | simp (disch := omega) only [↓qxs, ↓qxc, ↓qxa, ↓qxb] | refine p_call (nbi420 (by omega)) ?_); (try simp only [List.cons.injEq, Lf.i.injEq, and_true, true_and]); (try omega)
theorem nbo420 {v i : Int} (h : (1 ≤ v ∧ v ≤ 5) ∧ (0 ≤ i ∧ i < 4 * 4 * v) ∧ i % 4 = 2 ∧ ¬ (i / 4 / 4 + 1 < v)) : Cc 18 [.i 4, .i v, .i i, .i 0] [.i 0, .i 7] := by
  refine q18 rfl ?_; unfold p18
  have hq : i % 4 = 2 := by omega
  repeat (first | simp (disch := omega) only [↓qxs, ↓qxc, ↓qxa, ↓qxb, hq] | refine p_call (shCell_ok (by omega)) ?_ | refine p_call (cnb20 (by omega)) ?_ | refine p_call (shIdo (by omega)) ?_); (try simp only [List.cons.injEq, Lf.i.injEq, and_true, true_and]); (try omega)
theorem nmo420 {v i : Int} (h : (1 ≤ v ∧ v ≤ 5) ∧ (0 ≤ i ∧ i < 4 * 4 * v) ∧ i % 4 = 2 ∧ ¬ (i / 4 / 4 + 1 < v)) : Cc 19 [.i 4, .i v, .i i, .i 0] [.i 0, .i 0, .i 7] := by
  refine q19 rfl ?_; unfold p19
  have hq : i % 4 = 2 := by omega
  repeat (first | simp (disch := omega) only [↓qxs, ↓qxc, ↓qxa, ↓qxb] | refine p_call (nbo420 (by omega)) ?_); (try simp only [List.cons.injEq, Lf.i.injEq, and_true, true_and]); (try omega)
theorem nbi421 {v i : Int} (h : (1 ≤ v ∧ v ≤ 5) ∧ (0 ≤ i ∧ i < 4 * 4 * v) ∧ i % 4 = 2) : Cc 18 [.i 4, .i v, .i i, .i 1] [.i (i + 1), .i 0] := by
  refine q18 rfl ?_; unfold p18
  have hq : i % 4 = 2 := by omega
  repeat (first | simp (disch := omega) only [↓qxs, ↓qxc, ↓qxa, ↓qxb, hq] | refine p_call (shCell_ok (by omega)) ?_ | refine p_call (cnb21 (by omega)) ?_ | refine p_call (shId43 (by omega)) ?_); (try simp only [List.cons.injEq, Lf.i.injEq, and_true, true_and]); (try omega)
theorem nmi421 {v i : Int} (h : (1 ≤ v ∧ v ≤ 5) ∧ (0 ≤ i ∧ i < 4 * 4 * v) ∧ i % 4 = 2) : Cc 19 [.i 4, .i v, .i i, .i 1] [.i i, .i 1, .i 0] := by
  refine q19 rfl ?_; unfold p19
  have hq : i % 4 = 2 := by omega
  repeat (first | simp (disch := omega) only [↓qxs, ↓qxc, ↓qxa, ↓qxb] | refine p_call (nbi421 (by omega)) ?_); (try simp only [List.cons.injEq, Lf.i.injEq, and_true, true_and]); (try omega)
theorem nbi422 {v i : Int} (h : (1 ≤ v ∧ v ≤ 5) ∧ (0 ≤ i ∧ i < 4 * 4 * v) ∧ i % 4 = 2) : Cc 18 [.i 4, .i v, .i i, .i 2] [.i (i - 1), .i 0] := by
  refine q18 rfl ?_; unfold p18
  have hq : i % 4 = 2 := by omega
  repeat (first | simp (disch := omega) only [↓qxs, ↓qxc, ↓qxa, ↓qxb, hq] | refine p_call (shCell_ok (by omega)) ?_ | refine p_call (cnb22 (by omega)) ?_ | refine p_call (shId41 (by omega)) ?_); (try simp only [List.cons.injEq, Lf.i.injEq, and_true, true_and]); (try omega)
theorem nmi422 {v i : Int} (h : (1 ≤ v ∧ v ≤ 5) ∧ (0 ≤ i ∧ i < 4 * 4 * v) ∧ i % 4 = 2) : Cc 19 [.i 4, .i v, .i i, .i 2] [.i (i - 1), .i 2, .i 0] := by
  refine q19 rfl ?_; unfold p19
  have hq : i % 4 = 2 := by omega
  repeat (first | simp (disch := omega) only [↓qxs, ↓qxc, ↓qxa, ↓qxb] | refine p_call (nbi422 (by omega)) ?_); (try simp only [List.cons.injEq, Lf.i.injEq, and_true, true_and]); (try omega)
theorem nbi430 {v i : Int} (h : (1 ≤ v ∧ v ≤ 5) ∧ (0 ≤ i ∧ i < 4 * 4 * v) ∧ i % 4 = 3 ∧ 1 ≤ i / 4 % 4) : Cc 18 [.i 4, .i v, .i i, .i 0] [.i (i - 6), .i 0] := by
  refine q18 rfl ?_; unfold p18
  have hq : i % 4 = 3 := by omega
  repeat (first | simp (disch := omega) only [↓qxs, ↓qxc, ↓qxa, ↓qxb, hq] | refine p_call (shCell_ok (by omega)) ?_ | refine p_call (cnb30 (by omega)) ?_ | refine p_call (shId41 (by omega)) ?_); (try simp only [List.cons.injEq, Lf.i.injEq, and_true, true_and]); (try omega)
theorem nmi430 {v i : Int} (h : (1 ≤ v ∧ v ≤ 5) ∧ (0 ≤ i ∧ i < 4 * 4 * v) ∧ i % 4 = 3 ∧ 1 ≤ i / 4 % 4) : Cc 19 [.i 4, .i v, .i i, .i 0] [.i (i - 6), .i 0, .i 0] := by
  refine q19 rfl ?_; unfold p19
  have hq : i % 4 = 3 := by omega
  repeat (first | simp (disch := omega) only [↓qxs, ↓qxc, ↓qxa, ↓qxb] | refine p_call (nbi430 (by omega)) ?_); (try simp only [List.cons.injEq, Lf.i.injEq, and_true, true_and]); (try omega)
theorem nbo430 {v i : Int} (h : (1 ≤ v ∧ v ≤ 5) ∧ (0 ≤ i ∧ i < 4 * 4 * v) ∧ i % 4 = 3 ∧ ¬ (1 ≤ i / 4 % 4)) : Cc 18 [.i 4, .i v, .i i, .i 0] [.i 0, .i 7] := by
  refine q18 rfl ?_; unfold p18
  have hq : i % 4 = 3 := by omega
  repeat (first | simp (disch := omega) only [↓qxs, ↓qxc, ↓qxa, ↓qxb, hq] | refine p_call (shCell_ok (by omega)) ?_ | refine p_call (cnb30 (by omega)) ?_ | refine p_call (shIdo (by omega)) ?_); (try simp only [List.cons.injEq, Lf.i.injEq, and_true, true_and]); (try omega)
theorem nmo430 {v i : Int} (h : (1 ≤ v ∧ v ≤ 5) ∧ (0 ≤ i ∧ i < 4 * 4 * v) ∧ i % 4 = 3 ∧ ¬ (1 ≤ i / 4 % 4)) : Cc 19 [.i 4, .i v, .i i, .i 0] [.i 0, .i 0, .i 7] := by
  refine q19 rfl ?_; unfold p19
  have hq : i % 4 = 3 := by omega
  repeat (first | simp (disch := omega) only [↓qxs, ↓qxc, ↓qxa, ↓qxb] | refine p_call (nbo430 (by omega)) ?_); (try simp only [List.cons.injEq, Lf.i.injEq, and_true, true_and]); (try omega)
theorem nbi431 {v i : Int} (h : (1 ≤ v ∧ v ≤ 5) ∧ (0 ≤ i ∧ i < 4 * 4 * v) ∧ i % 4 = 3) : Cc 18 [.i 4, .i v, .i i, .i 1] [.i (i - 1), .i 0] := by
  refine q18 rfl ?_; unfold p18
  have hq : i % 4 = 3 := by omega
  repeat (first | simp (disch := omega) only [↓qxs, ↓qxc, ↓qxa, ↓qxb, hq] | refine p_call (shCell_ok (by omega)) ?_ | refine p_call (cnb31 (by omega)) ?_ | refine p_call (shId42 (by omega)) ?_); (try simp only [List.cons.injEq, Lf.i.injEq, and_true, true_and]); (try omega)
theorem nmi431 {v i : Int} (h : (1 ≤ v ∧ v ≤ 5) ∧ (0 ≤ i ∧ i < 4 * 4 * v) ∧ i % 4 = 3) : Cc 19 [.i 4, .i v, .i i, .i 1] [.i (i - 1), .i 1, .i 0] := by
  refine q19 rfl ?_; unfold p19
  have hq : i % 4 = 3 := by omega
  repeat (first | simp (disch := omega) only [↓qxs, ↓qxc, ↓qxa, ↓qxb] | refine p_call (nbi431 (by omega)) ?_); (try simp only [List.cons.injEq, Lf.i.injEq, and_true, true_and]); (try omega)
theorem nbi432 {v i : Int} (h : (1 ≤ v ∧ v ≤ 5) ∧ (0 ≤ i ∧ i < 4 * 4 * v) ∧ i % 4 = 3) : Cc 18 [.i 4, .i v, .i i, .i 2] [.i (i - 3), .i 0] := by
  refine q18 rfl ?_; unfold p18
  have hq : i % 4 = 3 := by omega
  repeat (first | simp (disch := omega) only [↓qxs, ↓qxc, ↓qxa, ↓qxb, hq] | refine p_call (shCell_ok (by omega)) ?_ | refine p_call (cnb32 (by omega)) ?_ | refine p_call (shId40 (by omega)) ?_); (try simp only [List.cons.injEq, Lf.i.injEq, and_true, true_and]); (try omega)
theorem nmi432 {v i : Int} (h : (1 ≤ v ∧ v ≤ 5) ∧ (0 ≤ i ∧ i < 4 * 4 * v) ∧ i % 4 = 3) : Cc 19 [.i 4, .i v, .i i, .i 2] [.i (i - 3), .i 2, .i 0] := by
  refine q19 rfl ?_; unfold p19
  have hq : i % 4 = 3 := by omega
  repeat (first | simp (disch := omega) only [↓qxs, ↓qxc, ↓qxa, ↓qxb] | refine p_call (nbi432 (by omega)) ?_); (try simp only [List.cons.injEq, Lf.i.injEq, and_true, true_and]); (try omega)
theorem nbi500 {v i : Int} (h : (1 ≤ v ∧ v ≤ 5) ∧ (0 ≤ i ∧ i < 4 * 5 * v) ∧ i % 4 = 0 ∧ 20 ≤ i) : Cc 18 [.i 5, .i v, .i i, .i 0] [.i (i - 18), .i 0] := by
  refine q18 rfl ?_; unfold p18
  have hq : i % 4 = 0 := by omega
  repeat (first | simp (disch := omega) only [↓qxs, ↓qxc, ↓qxa, ↓qxb, hq] | refine p_call (shCell_ok (by omega)) ?_ | refine p_call (cnb00 (by omega)) ?_ | refine p_call (shId52 (by omega)) ?_); (try simp only [List.cons.injEq, Lf.i.injEq, and_true, true_and]); (try omega)
theorem nmi500 {v i : Int} (h : (1 ≤ v ∧ v ≤ 5) ∧ (0 ≤ i ∧ i < 4 * 5 * v) ∧ i % 4 = 0 ∧ 20 ≤ i) : Cc 19 [.i 5, .i v, .i i, .i 0] [.i (i - 18), .i 0, .i 0] := by
  refine q19 rfl ?_; unfold p19
  have hq : i % 4 = 0 := by omega
  repeat (first | simp (disch := omega) only [↓qxs, ↓qxc, ↓qxa, ↓qxb] | refine p_call (nbi500 (by omega)) ?_); (try simp only [List.cons.injEq, Lf.i.injEq, and_true, true_and]); (try omega)
theorem nbo500 {v i : Int} (h : (1 ≤ v ∧ v ≤ 5) ∧ (0 ≤ i ∧ i < 4 * 5 * v) ∧ i % 4 = 0 ∧ ¬ (20 ≤ i)) : Cc 18 [.i 5, .i v, .i i, .i 0] [.i 0, .i 7] := by
  refine q18 rfl ?_; unfold p18
  have hq : i % 4 = 0 := by omega
  repeat (first | simp (disch := omega) only [↓qxs, ↓qxc, ↓qxa, ↓qxb, hq] | refine p_call (shCell_ok (by omega)) ?_ | refine p_call (cnb00 (by omega)) ?_ | refine p_call (shIdo (by omega)) ?_); (try simp only [List.cons.injEq, Lf.i.injEq, and_true, true_and]); (try omega)
theorem nmo500 {v i : Int} (h : (1 ≤ v ∧ v ≤ 5) ∧ (0 ≤ i ∧ i < 4 * 5 * v) ∧ i % 4 = 0 ∧ ¬ (20 ≤ i)) : Cc 19 [.i 5, .i v, .i i, .i 0] [.i 0, .i 0, .i 7] := by
  refine q19 rfl ?_; unfold p19
  have hq : i % 4 = 0 := by omega
  repeat (first | simp (disch := omega) only [↓qxs, ↓qxc, ↓qxa, ↓qxb] | refine p_call (nbo500 (by omega)) ?_); (try simp only [List.cons.injEq, Lf.i.injEq, and_true, true_and]); (try omega)
theorem nbi501 {v i : Int} (h : (1 ≤ v ∧ v ≤ 5) ∧ (0 ≤ i ∧ i < 4 * 5 * v) ∧ i % 4 = 0) : Cc 18 [.i 5, .i v, .i i, .i 1] [.i (i + 1), .i 0] := by
  refine q18 rfl ?_; unfold p18
  have hq : i % 4 = 0 := by omega
  repeat (first | simp (disch := omega) only [↓qxs, ↓qxc, ↓qxa, ↓qxb, hq] | refine p_call (shCell_ok (by omega)) ?_ | refine p_call (cnb01 (by omega)) ?_ | refine p_call (shId51 (by omega)) ?_); (try simp only [List.cons.injEq, Lf.i.injEq, and_true, true_and]); (try omega)
theorem nmi501 {v i : Int} (h : (1 ≤ v ∧ v ≤ 5) ∧ (0 ≤ i ∧ i < 4 * 5 * v) ∧ i % 4 = 0) : Cc 19 [.i 5, .i v, .i i, .i 1] [.i i, .i 1, .i 0] := by
  refine q19 rfl ?_; unfold p19
  have hq : i % 4 = 0 := by omega
  repeat (first | simp (disch := omega) only [↓qxs, ↓qxc, ↓qxa, ↓qxb] | refine p_call (nbi501 (by omega)) ?_); (try simp only [List.cons.injEq, Lf.i.injEq, and_true, true_and]); (try omega)
theorem nbi502 {v i : Int} (h : (1 ≤ v ∧ v ≤ 5) ∧ (0 ≤ i ∧ i < 4 * 5 * v) ∧ i % 4 = 0) : Cc 18 [.i 5, .i v, .i i, .i 2] [.i (i + 3), .i 0] := by
  refine q18 rfl ?_; unfold p18
  have hq : i % 4 = 0 := by omega
  repeat (first | simp (disch := omega) only [↓qxs, ↓qxc, ↓qxa, ↓qxb, hq] | refine p_call (shCell_ok (by omega)) ?_ | refine p_call (cnb02 (by omega)) ?_ | refine p_call (shId53 (by omega)) ?_); (try simp only [List.cons.injEq, Lf.i.injEq, and_true, true_and]); (try omega)
theorem nmi502 {v i : Int} (h : (1 ≤ v ∧ v ≤ 5) ∧ (0 ≤ i ∧ i < 4 * 5 * v) ∧ i % 4 = 0) : Cc 19 [.i 5, .i v, .i i, .i 2] [.i i, .i 2, .i 0] := by
  refine q19 rfl ?_; unfold p19
  have hq : i % 4 = 0 := by omega
  repeat (first | simp (disch := omega) only [↓qxs, ↓qxc, ↓qxa, ↓qxb] | refine p_call (nbi502 (by omega)) ?_); (try simp only [List.cons.injEq, Lf.i.injEq, and_true, true_and]); (try omega)
theorem nbi510 {v i : Int} (h : (1 ≤ v ∧ v ≤ 5) ∧ (0 ≤ i ∧ i < 4 * 5 * v) ∧ i % 4 = 1 ∧ i / 4 % 5 + 1 < 5) : Cc 18 [.i 5, .i v, .i i, .i 0] [.i (i + 6), .i 0] := by
  refine q18 rfl ?_; unfold p18
  have hq : i % 4 = 1 := by omega
  repeat (first | simp (disch := omega) only [↓qxs, ↓qxc, ↓qxa, ↓qxb, hq] | refine p_call (shCell_ok (by omega)) ?_ | refine p_call (cnb10 (by omega)) ?_ | refine p_call (shId53 (by omega)) ?_); (try simp only [List.cons.injEq, Lf.i.injEq, and_true, true_and]); (try omega)
theorem nmi510 {v i : Int} (h : (1 ≤ v ∧ v ≤ 5) ∧ (0 ≤ i ∧ i < 4 * 5 * v) ∧ i % 4 = 1 ∧ i / 4 % 5 + 1 < 5) : Cc 19 [.i 5, .i v, .i i, .i 0] [.i i, .i 0, .i 0] := by
  refine q19 rfl ?_; unfold p19
  have hq : i % 4 = 1 := by omega
  repeat (first | simp (disch := omega) only [↓qxs, ↓qxc, ↓qxa, ↓qxb] | refine p_call (nbi510 (by omega)) ?_); (try simp only [List.cons.injEq, Lf.i.injEq, and_true, true_and]); (try omega)
theorem nbo510 {v i : Int} (h : (1 ≤ v ∧ v ≤ 5) ∧ (0 ≤ i ∧ i < 4 * 5 * v) ∧ i % 4 = 1 ∧ ¬ (i / 4 % 5 + 1 < 5)) : Cc 18 [.i 5, .i v, .i i, .i 0] [.i 0, .i 7] := by
  refine q18 rfl ?_; unfold p18
  have hq : i % 4 = 1 := by omega
  repeat (first | simp (disch := omega) only [↓qxs, ↓qxc, ↓qxa, ↓qxb, hq] | refine p_call (shCell_ok (by omega)) ?_ | refine p_call (cnb10 (by omega)) ?_ | refine p_call (shIdo (by omega)) ?_); (try simp only [List.cons.injEq, Lf.i.injEq, and_true, true_and]); (try omega)
theorem nmo510 {v i : Int} (h : (1 ≤ v ∧ v ≤ 5) ∧ (0 ≤ i ∧ i < 4 * 5 * v) ∧ i % 4 = 1 ∧ ¬ (i / 4 % 5 + 1 < 5)) : Cc 19 [.i 5, .i v, .i i, .i 0] [.i 0, .i 0, .i 7] := by
  refine q19 rfl ?_; unfold p19
  have hq : i % 4 = 1 := by omega
  repeat (first | simp (disch := omega) only [↓qxs, ↓qxc, ↓qxa, ↓qxb] | refine p_call (nbo510 (by omega)) ?_); (try simp only [List.cons.injEq, Lf.i.injEq, and_true, true_and]); (try omega)
theorem nbi511 {v i : Int} (h : (1 ≤ v ∧ v ≤ 5) ∧ (0 ≤ i ∧ i < 4 * 5 * v) ∧ i % 4 = 1) : Cc 18 [.i 5, .i v, .i i, .i 1] [.i (i - 1), .i 0] := by
  refine q18 rfl ?_; unfold p18
  have hq : i % 4 = 1 := by omega
  repeat (first | simp (disch := omega) only [↓qxs, ↓qxc, ↓qxa, ↓qxb, hq] | refine p_call (shCell_ok (by omega)) ?_ | refine p_call (cnb11 (by omega)) ?_ | refine p_call (shId50 (by omega)) ?_); (try simp only [List.cons.injEq, Lf.i.injEq, and_true, true_and]); (try omega)
theorem nmi511 {v i : Int} (h : (1 ≤ v ∧ v ≤ 5) ∧ (0 ≤ i ∧ i < 4 * 5 * v) ∧ i % 4 = 1) : Cc 19 [.i 5, .i v, .i i, .i 1] [.i (i - 1), .i 1, .i 0] := by
  refine q19 rfl ?_; unfold p19
  have hq : i % 4 = 1 := by omega
  repeat (first | simp (disch := omega) only [↓qxs, ↓qxc, ↓qxa, ↓qxb] | refine p_call (nbi511 (by omega)) ?_); (try simp only [List.cons.injEq, Lf.i.injEq, and_true, true_and]); (try omega)
theorem nbi512 {v i : Int} (h : (1 ≤ v ∧ v ≤ 5) ∧ (0 ≤ i ∧ i < 4 * 5 * v) ∧ i % 4 = 1) : Cc 18 [.i 5, .i v, .i i, .i 2] [.i (i + 1), .i 0] := by
  refine q18 rfl ?_; unfold p18
  have hq : i % 4 = 1 := by omega
  repeat (first | simp (disch := omega) only [↓qxs, ↓qxc, ↓qxa, ↓qxb, hq] | refine p_call (shCell_ok (by omega)) ?_ | refine p_call (cnb12 (by omega)) ?_ | refine p_call (shId52 (by omega)) ?_); (try simp only [List.cons.injEq, Lf.i.injEq, and_true, true_and]); (try omega)
theorem nmi512 {v i : Int} (h : (1 ≤ v ∧ v ≤ 5) ∧ (0 ≤ i ∧ i < 4 * 5 * v) ∧ i % 4 = 1) : Cc 19 [.i 5, .i v, .i i, .i 2] [.i i, .i 2, .i 0] := by
  refine q19 rfl ?_; unfold p19
  have hq : i % 4 = 1 := by omega
  repeat (first | simp (disch := omega) only [↓qxs, ↓qxc, ↓qxa, ↓qxb] | refine p_call (nbi512 (by omega)) ?_); (try simp only [List.cons.injEq, Lf.i.injEq, and_true, true_and]); (try omega)
theorem nbi520 {v i : Int} (h : (1 ≤ v ∧ v ≤ 5) ∧ (0 ≤ i ∧ i < 4 * 5 * v) ∧ i % 4 = 2 ∧ i / 4 / 5 + 1 < v) : Cc 18 [.i 5, .i v, .i i, .i 0] [.i (i + 18), .i 0] := by
  refine q18 rfl ?_; unfold p18
  have hq : i % 4 = 2 := by omega
  repeat (first | simp (disch := omega) only [↓qxs, ↓qxc, ↓qxa, ↓qxb, hq] | refine p_call (shCell_ok (by omega)) ?_ | refine p_call (cnb20 (by omega)) ?_ | refine p_call (shId50 (by omega)) ?_); (try simp only [List.cons.injEq, Lf.i.injEq, and_true, true_and]); (try omega)
theorem nmi520 {v i : Int} (h : (1 ≤ v ∧ v ≤ 5) ∧ (0 ≤ i ∧ i < 4 * 5 * v) ∧ i % 4 = 2 ∧ i / 4 / 5 + 1 < v) : Cc 19 [.i 5, .i v, .i i, .i 0] [.i i, .i 0, .i 0] := by
  refine q19 rfl ?_; unfold p19
  have hq : i % 4 = 2 := by omega
  repeat (first | simp (disch := omega) only [↓qxs, ↓qxc, ↓qxa, ↓qxb] | refine p_call (nbi520 (by omega)) ?_); (try simp only [List.cons.injEq, Lf.i.injEq, and_true, true_and]); (try omega)
theorem nbo520 {v i : Int} (h : (1 ≤ v ∧ v ≤ 5) ∧ (0 ≤ i ∧ i < 4 * 5 * v) ∧ i % 4 = 2 ∧ ¬ (i / 4 / 5 + 1 < v)) : Cc 18 [.i 5, .i v, .i i, .i 0] [.i 0, .i 7] := by
  refine q18 rfl ?_; unfold p18
  have hq : i % 4 = 2 := by omega
  repeat (first | simp (disch := omega) only [↓qxs, ↓qxc, ↓qxa, ↓qxb, hq] | refine p_call (shCell_ok (by omega)) ?_ | refine p_call (cnb20 (by omega)) ?_ | refine p_call (shIdo (by omega)) ?_); (try simp only [List.cons.injEq, Lf.i.injEq, and_true, true_and]); (try omega)
theorem nmo520 {v i : Int} (h : (1 ≤ v ∧ v ≤ 5) ∧ (0 ≤ i ∧ i < 4 * 5 * v) ∧ i % 4 = 2 ∧ ¬ (i / 4 / 5 + 1 < v)) : Cc 19 [.i 5, .i v, .i i, .i 0] [.i 0, .i 0, .i 7] := by
  refine q19 rfl ?_; unfold p19
  have hq : i % 4 = 2 := by omega
  repeat (first | simp (disch := omega) only [↓qxs, ↓qxc, ↓qxa, ↓qxb] | refine p_call (nbo520 (by omega)) ?_); (try simp only [List.cons.injEq, Lf.i.injEq, and_true, true_and]); (try omega)
theorem nbi521 {v i : Int} (h : (1 ≤ v ∧ v ≤ 5) ∧ (0 ≤ i ∧ i < 4 * 5 * v) ∧ i % 4 = 2) : Cc 18 [.i 5, .i v, .i i, .i 1] [.i (i + 1), .i 0] := by
  refine q18 rfl ?_; unfold p18
  have hq : i % 4 = 2 := by omega
  repeat (first | simp (disch := omega) only [↓qxs, ↓qxc, ↓qxa, ↓qxb, hq] | refine p_call (shCell_ok (by omega)) ?_ | refine p_call (cnb21 (by omega)) ?_ | refine p_call (shId53 (by omega)) ?_); (try simp only [List.cons.injEq, Lf.i.injEq, and_true, true_and]); (try omega)
theorem nmi521 {v i : Int} (h : (1 ≤ v ∧ v ≤ 5) ∧ (0 ≤ i ∧ i < 4 * 5 * v) ∧ i % 4 = 2) : Cc 19 [.i 5, .i v, .i i, .i 1] [.i i, .i 1, .i 0] := by
  refine q19 rfl ?_; unfold p19
  have hq : i % 4 = 2 := by omega
  repeat (first | simp (disch := omega) only [↓qxs, ↓qxc, ↓qxa, ↓qxb] | refine p_call (nbi521 (by omega)) ?_); (try simp only [List.cons.injEq, Lf.i.injEq, and_true, true_and]); (try omega)
theorem nbi522 {v i : Int} (h : (1 ≤ v ∧ v ≤ 5) ∧ (0 ≤ i ∧ i < 4 * 5 * v) ∧ i % 4 = 2) : Cc 18 [.i 5, .i v, .i i, .i 2] [.i (i - 1), .i 0] := by
  refine q18 rfl ?_; unfold p18
  have hq : i % 4 = 2 := by omega
  repeat (first | simp (disch := omega) only [↓qxs, ↓qxc, ↓qxa, ↓qxb, hq] | refine p_call (shCell_ok (by omega)) ?_ | refine p_call (cnb22 (by omega)) ?_ | refine p_call (shId51 (by omega)) ?_); (try simp only [List.cons.injEq, Lf.i.injEq, and_true, true_and]); (try omega)
theorem nmi522 {v i : Int} (h : (1 ≤ v ∧ v ≤ 5) ∧ (0 ≤ i ∧ i < 4 * 5 * v) ∧ i % 4 = 2) : Cc 19 [.i 5, .i v, .i i, .i 2] [.i (i - 1), .i 2, .i 0] := by
  refine q19 rfl ?_; unfold p19
  have hq : i % 4 = 2 := by omega
  repeat (first | simp (disch := omega) only [↓qxs, ↓qxc, ↓qxa, ↓qxb] | refine p_call (nbi522 (by omega)) ?_); (try simp only [List.cons.injEq, Lf.i.injEq, and_true, true_and]); (try omega)
theorem nbi530 {v i : Int} (h : (1 ≤ v ∧ v ≤ 5) ∧ (0 ≤ i ∧ i < 4 * 5 * v) ∧ i % 4 = 3 ∧ 1 ≤ i / 4 % 5) : Cc 18 [.i 5, .i v, .i i, .i 0] [.i (i - 6), .i 0] := by
  refine q18 rfl ?_; unfold p18
  have hq : i % 4 = 3 := by omega
  repeat (first | simp (disch := omega) only [↓qxs, ↓qxc, ↓qxa, ↓qxb, hq] | refine p_call (shCell_ok (by omega)) ?_ | refine p_call (cnb30 (by omega)) ?_ | refine p_call (shId51 (by omega)) ?_); (try simp only [List.cons.injEq, Lf.i.injEq, and_true, true_and]); (try omega)
theorem nmi530 {v i : Int} (h : (1 ≤ v ∧ v ≤ 5) ∧ (0 ≤ i ∧ i < 4 * 5 * v) ∧ i % 4 = 3 ∧ 1 ≤ i / 4 % 5) : Cc 19 [.i 5, .i v, .i i, .i 0] [.i (i - 6), .i 0, .i 0] := by
  refine q19 rfl ?_; unfold p19
  have hq : i % 4 = 3 := by omega
  repeat (first | simp (disch := omega) only [↓qxs, ↓qxc, ↓qxa, ↓qxb] | refine p_call (nbi530 (by omega)) ?_); (try simp only [List.cons.injEq, Lf.i.injEq, and_true, true_and]); (try omega)
theorem nbo530 {v i : Int} (h : (1 ≤ v ∧ v ≤ 5) ∧ (0 ≤ i ∧ i < 4 * 5 * v) ∧ i % 4 = 3 ∧ ¬ (1 ≤ i / 4 % 5)) : Cc 18 [.i 5, .i v, .i i, .i 0] [.i 0, .i 7] := by
  refine q18 rfl ?_; unfold p18
  have hq : i % 4 = 3 := by omega
  repeat (first | simp (disch := omega) only [↓qxs, ↓qxc, ↓qxa, ↓qxb, hq] | refine p_call (shCell_ok (by omega)) ?_ | refine p_call (cnb30 (by omega)) ?_ | refine p_call (shIdo (by omega)) ?_); (try simp only [List.cons.injEq, Lf.i.injEq, and_true, true_and]); (try omega)
theorem nmo530 {v i : Int} (h : (1 ≤ v ∧ v ≤ 5) ∧ (0 ≤ i ∧ i < 4 * 5 * v) ∧ i % 4 = 3 ∧ ¬ (1 ≤ i / 4 % 5)) : Cc 19 [.i 5, .i v, .i i, .i 0] [.i 0, .i 0, .i 7] := by
  refine q19 rfl ?_; unfold p19
  have hq : i % 4 = 3 := by omega
  repeat (first | simp (disch := omega) only [↓qxs, ↓qxc, ↓qxa, ↓qxb] | refine p_call (nbo530 (by omega)) ?_); (try simp only [List.cons.injEq, Lf.i.injEq, and_true, true_and]); (try omega)
theorem nbi531 {v i : Int} (h : (1 ≤ v ∧ v ≤ 5) ∧ (0 ≤ i ∧ i < 4 * 5 * v) ∧ i % 4 = 3) : Cc 18 [.i 5, .i v, .i i, .i 1] [.i (i - 1), .i 0] := by
  refine q18 rfl ?_; unfold p18
  have hq : i % 4 = 3 := by omega
  repeat (first | simp (disch := omega) only [↓qxs, ↓qxc, ↓qxa, ↓qxb, hq] | refine p_call (shCell_ok (by omega)) ?_ | refine p_call (cnb31 (by omega)) ?_ | refine p_call (shId52 (by omega)) ?_); (try simp only [List.cons.injEq, Lf.i.injEq, and_true, true_and]); (try omega)
theorem nmi531 {v i : Int} (h : (1 ≤ v ∧ v ≤ 5) ∧ (0 ≤ i ∧ i < 4 * 5 * v) ∧ i % 4 = 3) : Cc 19 [.i 5, .i v, .i i, .i 1] [.i (i - 1), .i 1, .i 0] := by
  refine q19 rfl ?_; unfold p19
  have hq : i % 4 = 3 := by omega
  repeat (first | simp (disch := omega) only [↓qxs, ↓qxc, ↓qxa, ↓qxb] | refine p_call (nbi531 (by omega)) ?_); (try simp only [List.cons.injEq, Lf.i.injEq, and_true, true_and]); (try omega)
theorem nbi532 {v i : Int} (h : (1 ≤ v ∧ v ≤ 5) ∧ (0 ≤ i ∧ i < 4 * 5 * v) ∧ i % 4 = 3) : Cc 18 [.i 5, .i v, .i i, .i 2] [.i (i - 3), .i 0] := by
  refine q18 rfl ?_; unfold p18
  have hq : i % 4 = 3 := by omega
  repeat (first | simp (disch := omega) only [↓qxs, ↓qxc, ↓qxa, ↓qxb, hq] | refine p_call (shCell_ok (by omega)) ?_ | refine p_call (cnb32 (by omega)) ?_ | refine p_call (shId50 (by omega)) ?_); (try simp only [List.cons.injEq, Lf.i.injEq, and_true, true_and]); (try omega)
theorem nmi532 {v i : Int} (h : (1 ≤ v ∧ v ≤ 5) ∧ (0 ≤ i ∧ i < 4 * 5 * v) ∧ i % 4 = 3) : Cc 19 [.i 5, .i v, .i i, .i 2] [.i (i - 3), .i 2, .i 0] := by
  refine q19 rfl ?_; unfold p19
  have hq : i % 4 = 3 := by omega
  repeat (first | simp (disch := omega) only [↓qxs, ↓qxc, ↓qxa, ↓qxb] | refine p_call (nbi532 (by omega)) ?_); (try simp only [List.cons.injEq, Lf.i.injEq, and_true, true_and]); (try omega)
end Go.Am
/-
  CONTRACTS, BY PROGRAM: units by their names.
-/
set_option maxRecDepth 100000
set_option maxHeartbeats 4000000
namespace Go.Am
open Sx Go.Proofs

theorem namx100 {v i : Int} (h : (1 ≤ v ∧ v ≤ 5) ∧ (0 ≤ i ∧ i < 4 * 1 * v) ∧ i % 4 = 0 ∧ 4 ≤ i) : Cc 69 [.i 1, .i v, .i i, .i 0] [.i 0, .i 0, .i 0, .i 7] := by
  refine q69 rfl ?_; unfold p69
  have hq : i % 4 = 0 := by omega
  first | (exfalso; omega) | (repeat (first | simp (disch := omega) only [↓qxs, ↓qxc, ↓qxa, ↓qxb] | refine p_call (shCheck_ok (by omega)) ?_ | refine p_call (nmi100 (by omega)) ?_ | refine p_call (shCell0 (by omega)) ?_); (try simp only [List.cons.injEq, Lf.i.injEq, and_true, true_and]); (try omega))
theorem namo100 {v i : Int} (h : (1 ≤ v ∧ v ≤ 5) ∧ (0 ≤ i ∧ i < 4 * 1 * v) ∧ i % 4 = 0 ∧ ¬ (4 ≤ i)) : Cc 69 [.i 1, .i v, .i i, .i 0] [.i 0, .i 0, .i 0, .i 7] := by
  refine q69 rfl ?_; unfold p69
  have hq : i % 4 = 0 := by omega
  repeat (first | simp (disch := omega) only [↓qxs, ↓qxc, ↓qxa, ↓qxb] | refine p_call (shCheck_ok (by omega)) ?_ | refine p_call (nmo100 (by omega)) ?_)
  (try simp only [List.cons.injEq, Lf.i.injEq, and_true, true_and]); (try omega)
theorem nam101 {v i : Int} (h : (1 ≤ v ∧ v ≤ 5) ∧ (0 ≤ i ∧ i < 4 * 1 * v) ∧ i % 4 = 0) : Cc 69 [.i 1, .i v, .i i, .i 1] [.i (i / 4 % 1), .i (i / 4 / 1), .i 0, .i 0] := by
  refine q69 rfl ?_; unfold p69
  have hq : i % 4 = 0 := by omega
  repeat (first | simp (disch := omega) only [↓qxs, ↓qxc, ↓qxa, ↓qxb] | refine p_call (shCheck_ok (by omega)) ?_ | refine p_call (nmi101 (by omega)) ?_ | refine p_call (shCell0 (by omega)) ?_)
  (try simp only [List.cons.injEq, Lf.i.injEq, and_true, true_and]); (try omega)
theorem nam102 {v i : Int} (h : (1 ≤ v ∧ v ≤ 5) ∧ (0 ≤ i ∧ i < 4 * 1 * v) ∧ i % 4 = 0) : Cc 69 [.i 1, .i v, .i i, .i 2] [.i (i / 4 % 1), .i (i / 4 / 1), .i 0, .i 0] := by
  refine q69 rfl ?_; unfold p69
  have hq : i % 4 = 0 := by omega
  repeat (first | simp (disch := omega) only [↓qxs, ↓qxc, ↓qxa, ↓qxb] | refine p_call (shCheck_ok (by omega)) ?_ | refine p_call (nmi102 (by omega)) ?_ | refine p_call (shCell0 (by omega)) ?_)
  (try simp only [List.cons.injEq, Lf.i.injEq, and_true, true_and]); (try omega)
theorem namo110 {v i : Int} (h : (1 ≤ v ∧ v ≤ 5) ∧ (0 ≤ i ∧ i < 4 * 1 * v) ∧ i % 4 = 1 ∧ ¬ (i / 4 % 1 + 1 < 1)) : Cc 69 [.i 1, .i v, .i i, .i 0] [.i 0, .i 0, .i 0, .i 7] := by
  refine q69 rfl ?_; unfold p69
  have hq : i % 4 = 1 := by omega
  repeat (first | simp (disch := omega) only [↓qxs, ↓qxc, ↓qxa, ↓qxb] | refine p_call (shCheck_ok (by omega)) ?_ | refine p_call (nmo110 (by omega)) ?_)
  (try simp only [List.cons.injEq, Lf.i.injEq, and_true, true_and]); (try omega)
theorem namx111 {v i : Int} (h : (1 ≤ v ∧ v ≤ 5) ∧ (0 ≤ i ∧ i < 4 * 1 * v) ∧ i % 4 = 1) : Cc 69 [.i 1, .i v, .i i, .i 1] [.i 0, .i 0, .i 0, .i 7] := by
  refine q69 rfl ?_; unfold p69
  have hq : i % 4 = 1 := by omega
  first | (exfalso; omega) | (repeat (first | simp (disch := omega) only [↓qxs, ↓qxc, ↓qxa, ↓qxb] | refine p_call (shCheck_ok (by omega)) ?_ | refine p_call (nmi111 (by omega)) ?_ | refine p_call (shCell0 (by omega)) ?_); (try simp only [List.cons.injEq, Lf.i.injEq, and_true, true_and]); (try omega))
theorem nam112 {v i : Int} (h : (1 ≤ v ∧ v ≤ 5) ∧ (0 ≤ i ∧ i < 4 * 1 * v) ∧ i % 4 = 1) : Cc 69 [.i 1, .i v, .i i, .i 2] [.i (i / 4 % 1), .i (i / 4 / 1), .i 1, .i 0] := by
  refine q69 rfl ?_; unfold p69
  have hq : i % 4 = 1 := by omega
  repeat (first | simp (disch := omega) only [↓qxs, ↓qxc, ↓qxa, ↓qxb] | refine p_call (shCheck_ok (by omega)) ?_ | refine p_call (nmi112 (by omega)) ?_ | refine p_call (shCell0 (by omega)) ?_)
  (try simp only [List.cons.injEq, Lf.i.injEq, and_true, true_and]); (try omega)
theorem nam120 {v i : Int} (h : (1 ≤ v ∧ v ≤ 5) ∧ (0 ≤ i ∧ i < 4 * 1 * v) ∧ i % 4 = 2 ∧ i / 4 / 1 + 1 < v) : Cc 69 [.i 1, .i v, .i i, .i 0] [.i (i / 4 % 1), .i (i / 4 / 1), .i 2, .i 0] := by
  refine q69 rfl ?_; unfold p69
  have hq : i % 4 = 2 := by omega
  repeat (first | simp (disch := omega) only [↓qxs, ↓qxc, ↓qxa, ↓qxb] | refine p_call (shCheck_ok (by omega)) ?_ | refine p_call (nmi120 (by omega)) ?_ | refine p_call (shCell0 (by omega)) ?_)
  (try simp only [List.cons.injEq, Lf.i.injEq, and_true, true_and]); (try omega)
theorem namo120 {v i : Int} (h : (1 ≤ v ∧ v ≤ 5) ∧ (0 ≤ i ∧ i < 4 * 1 * v) ∧ i % 4 = 2 ∧ ¬ (i / 4 / 1 + 1 < v)) : Cc 69 [.i 1, .i v, .i i, .i 0] [.i 0, .i 0, .i 0, .i 7] := by
  refine q69 rfl ?_; unfold p69
  have hq : i % 4 = 2 := by omega
  repeat (first | simp (disch := omega) only [↓qxs, ↓qxc, ↓qxa, ↓qxb] | refine p_call (shCheck_ok (by omega)) ?_ | refine p_call (nmo120 (by omega)) ?_)
  (try simp only [List.cons.injEq, Lf.i.injEq, and_true, true_and]); (try omega)
theorem nam121 {v i : Int} (h : (1 ≤ v ∧ v ≤ 5) ∧ (0 ≤ i ∧ i < 4 * 1 * v) ∧ i % 4 = 2) : Cc 69 [.i 1, .i v, .i i, .i 1] [.i (i / 4 % 1), .i (i / 4 / 1), .i 2, .i 0] := by
  refine q69 rfl ?_; unfold p69
  have hq : i % 4 = 2 := by omega
  repeat (first | simp (disch := omega) only [↓qxs, ↓qxc, ↓qxa, ↓qxb] | refine p_call (shCheck_ok (by omega)) ?_ | refine p_call (nmi121 (by omega)) ?_ | refine p_call (shCell0 (by omega)) ?_)
  (try simp only [List.cons.injEq, Lf.i.injEq, and_true, true_and]); (try omega)
theorem namx122 {v i : Int} (h : (1 ≤ v ∧ v ≤ 5) ∧ (0 ≤ i ∧ i < 4 * 1 * v) ∧ i % 4 = 2) : Cc 69 [.i 1, .i v, .i i, .i 2] [.i 0, .i 0, .i 0, .i 7] := by
  refine q69 rfl ?_; unfold p69
  have hq : i % 4 = 2 := by omega
  first | (exfalso; omega) | (repeat (first | simp (disch := omega) only [↓qxs, ↓qxc, ↓qxa, ↓qxb] | refine p_call (shCheck_ok (by omega)) ?_ | refine p_call (nmi122 (by omega)) ?_ | refine p_call (shCell0 (by omega)) ?_); (try simp only [List.cons.injEq, Lf.i.injEq, and_true, true_and]); (try omega))
theorem namx130 {v i : Int} (h : (1 ≤ v ∧ v ≤ 5) ∧ (0 ≤ i ∧ i < 4 * 1 * v) ∧ i % 4 = 3 ∧ 1 ≤ i / 4 % 1) : Cc 69 [.i 1, .i v, .i i, .i 0] [.i 0, .i 0, .i 0, .i 7] := by
  refine q69 rfl ?_; unfold p69
  have hq : i % 4 = 3 := by omega
  first | (exfalso; omega) | (repeat (first | simp (disch := omega) only [↓qxs, ↓qxc, ↓qxa, ↓qxb] | refine p_call (shCheck_ok (by omega)) ?_ | refine p_call (nmi130 (by omega)) ?_ | refine p_call (shCell0 (by omega)) ?_); (try simp only [List.cons.injEq, Lf.i.injEq, and_true, true_and]); (try omega))
theorem namo130 {v i : Int} (h : (1 ≤ v ∧ v ≤ 5) ∧ (0 ≤ i ∧ i < 4 * 1 * v) ∧ i % 4 = 3 ∧ ¬ (1 ≤ i / 4 % 1)) : Cc 69 [.i 1, .i v, .i i, .i 0] [.i 0, .i 0, .i 0, .i 7] := by
  refine q69 rfl ?_; unfold p69
  have hq : i % 4 = 3 := by omega
  repeat (first | simp (disch := omega) only [↓qxs, ↓qxc, ↓qxa, ↓qxb] | refine p_call (shCheck_ok (by omega)) ?_ | refine p_call (nmo130 (by omega)) ?_)
  (try simp only [List.cons.injEq, Lf.i.injEq, and_true, true_and]); (try omega)
theorem namx131 {v i : Int} (h : (1 ≤ v ∧ v ≤ 5) ∧ (0 ≤ i ∧ i < 4 * 1 * v) ∧ i % 4 = 3) : Cc 69 [.i 1, .i v, .i i, .i 1] [.i 0, .i 0, .i 0, .i 7] := by
  refine q69 rfl ?_; unfold p69
  have hq : i % 4 = 3 := by omega
  first | (exfalso; omega) | (repeat (first | simp (disch := omega) only [↓qxs, ↓qxc, ↓qxa, ↓qxb] | refine p_call (shCheck_ok (by omega)) ?_ | refine p_call (nmi131 (by omega)) ?_ | refine p_call (shCell0 (by omega)) ?_); (try simp only [List.cons.injEq, Lf.i.injEq, and_true, true_and]); (try omega))
theorem namx132 {v i : Int} (h : (1 ≤ v ∧ v ≤ 5) ∧ (0 ≤ i ∧ i < 4 * 1 * v) ∧ i % 4 = 3) : Cc 69 [.i 1, .i v, .i i, .i 2] [.i 0, .i 0, .i 0, .i 7] := by
  refine q69 rfl ?_; unfold p69
  have hq : i % 4 = 3 := by omega
  first | (exfalso; omega) | (repeat (first | simp (disch := omega) only [↓qxs, ↓qxc, ↓qxa, ↓qxb] | refine p_call (shCheck_ok (by omega)) ?_ | refine p_call (nmi132 (by omega)) ?_ | refine p_call (shCell0 (by omega)) ?_); (try simp only [List.cons.injEq, Lf.i.injEq, and_true, true_and]); (try omega))
theorem namx200 {v i : Int} (h : (1 ≤ v ∧ v ≤ 5) ∧ (0 ≤ i ∧ i < 4 * 2 * v) ∧ i % 4 = 0 ∧ 8 ≤ i) : Cc 69 [.i 2, .i v, .i i, .i 0] [.i 0, .i 0, .i 0, .i 7] := by
  refine q69 rfl ?_; unfold p69
  have hq : i % 4 = 0 := by omega
  first | (exfalso; omega) | (repeat (first | simp (disch := omega) only [↓qxs, ↓qxc, ↓qxa, ↓qxb] | refine p_call (shCheck_ok (by omega)) ?_ | refine p_call (nmi200 (by omega)) ?_ | refine p_call (shCell0 (by omega)) ?_); (try simp only [List.cons.injEq, Lf.i.injEq, and_true, true_and]); (try omega))
theorem namo200 {v i : Int} (h : (1 ≤ v ∧ v ≤ 5) ∧ (0 ≤ i ∧ i < 4 * 2 * v) ∧ i % 4 = 0 ∧ ¬ (8 ≤ i)) : Cc 69 [.i 2, .i v, .i i, .i 0] [.i 0, .i 0, .i 0, .i 7] := by
  refine q69 rfl ?_; unfold p69
  have hq : i % 4 = 0 := by omega
  repeat (first | simp (disch := omega) only [↓qxs, ↓qxc, ↓qxa, ↓qxb] | refine p_call (shCheck_ok (by omega)) ?_ | refine p_call (nmo200 (by omega)) ?_)
  (try simp only [List.cons.injEq, Lf.i.injEq, and_true, true_and]); (try omega)
theorem nam201 {v i : Int} (h : (1 ≤ v ∧ v ≤ 5) ∧ (0 ≤ i ∧ i < 4 * 2 * v) ∧ i % 4 = 0) : Cc 69 [.i 2, .i v, .i i, .i 1] [.i (i / 4 % 2), .i (i / 4 / 2), .i 0, .i 0] := by
  refine q69 rfl ?_; unfold p69
  have hq : i % 4 = 0 := by omega
  repeat (first | simp (disch := omega) only [↓qxs, ↓qxc, ↓qxa, ↓qxb] | refine p_call (shCheck_ok (by omega)) ?_ | refine p_call (nmi201 (by omega)) ?_ | refine p_call (shCell0 (by omega)) ?_)
  (try simp only [List.cons.injEq, Lf.i.injEq, and_true, true_and]); (try omega)
theorem nam202 {v i : Int} (h : (1 ≤ v ∧ v ≤ 5) ∧ (0 ≤ i ∧ i < 4 * 2 * v) ∧ i % 4 = 0) : Cc 69 [.i 2, .i v, .i i, .i 2] [.i (i / 4 % 2), .i (i / 4 / 2), .i 0, .i 0] := by
  refine q69 rfl ?_; unfold p69
  have hq : i % 4 = 0 := by omega
  repeat (first | simp (disch := omega) only [↓qxs, ↓qxc, ↓qxa, ↓qxb] | refine p_call (shCheck_ok (by omega)) ?_ | refine p_call (nmi202 (by omega)) ?_ | refine p_call (shCell0 (by omega)) ?_)
  (try simp only [List.cons.injEq, Lf.i.injEq, and_true, true_and]); (try omega)
theorem nam210 {v i : Int} (h : (1 ≤ v ∧ v ≤ 5) ∧ (0 ≤ i ∧ i < 4 * 2 * v) ∧ i % 4 = 1 ∧ i / 4 % 2 + 1 < 2) : Cc 69 [.i 2, .i v, .i i, .i 0] [.i (i / 4 % 2), .i (i / 4 / 2), .i 1, .i 0] := by
  refine q69 rfl ?_; unfold p69
  have hq : i % 4 = 1 := by omega
  repeat (first | simp (disch := omega) only [↓qxs, ↓qxc, ↓qxa, ↓qxb] | refine p_call (shCheck_ok (by omega)) ?_ | refine p_call (nmi210 (by omega)) ?_ | refine p_call (shCell0 (by omega)) ?_)
  (try simp only [List.cons.injEq, Lf.i.injEq, and_true, true_and]); (try omega)
theorem namo210 {v i : Int} (h : (1 ≤ v ∧ v ≤ 5) ∧ (0 ≤ i ∧ i < 4 * 2 * v) ∧ i % 4 = 1 ∧ ¬ (i / 4 % 2 + 1 < 2)) : Cc 69 [.i 2, .i v, .i i, .i 0] [.i 0, .i 0, .i 0, .i 7] := by
  refine q69 rfl ?_; unfold p69
  have hq : i % 4 = 1 := by omega
  repeat (first | simp (disch := omega) only [↓qxs, ↓qxc, ↓qxa, ↓qxb] | refine p_call (shCheck_ok (by omega)) ?_ | refine p_call (nmo210 (by omega)) ?_)
  (try simp only [List.cons.injEq, Lf.i.injEq, and_true, true_and]); (try omega)
theorem namx211 {v i : Int} (h : (1 ≤ v ∧ v ≤ 5) ∧ (0 ≤ i ∧ i < 4 * 2 * v) ∧ i % 4 = 1) : Cc 69 [.i 2, .i v, .i i, .i 1] [.i 0, .i 0, .i 0, .i 7] := by
  refine q69 rfl ?_; unfold p69
  have hq : i % 4 = 1 := by omega
  first | (exfalso; omega) | (repeat (first | simp (disch := omega) only [↓qxs, ↓qxc, ↓qxa, ↓qxb] | refine p_call (shCheck_ok (by omega)) ?_ | refine p_call (nmi211 (by omega)) ?_ | refine p_call (shCell0 (by omega)) ?_); (try simp only [List.cons.injEq, Lf.i.injEq, and_true, true_and]); (try omega))
theorem nam212 {v i : Int} (h : (1 ≤ v ∧ v ≤ 5) ∧ (0 ≤ i ∧ i < 4 * 2 * v) ∧ i % 4 = 1) : Cc 69 [.i 2, .i v, .i i, .i 2] [.i (i / 4 % 2), .i (i / 4 / 2), .i 1, .i 0] := by
  refine q69 rfl ?_; unfold p69
  have hq : i % 4 = 1 := by omega
  repeat (first | simp (disch := omega) only [↓qxs, ↓qxc, ↓qxa, ↓qxb] | refine p_call (shCheck_ok (by omega)) ?_ | refine p_call (nmi212 (by omega)) ?_ | refine p_call (shCell0 (by omega)) ?_)
  (try simp only [List.cons.injEq, Lf.i.injEq, and_true, true_and]); (try omega)
theorem nam220 {v i : Int} (h : (1 ≤ v ∧ v ≤ 5) ∧ (0 ≤ i ∧ i < 4 * 2 * v) ∧ i % 4 = 2 ∧ i / 4 / 2 + 1 < v) : Cc 69 [.i 2, .i v, .i i, .i 0] [.i (i / 4 % 2), .i (i / 4 / 2), .i 2, .i 0] := by
  refine q69 rfl ?_; unfold p69
  have hq : i % 4 = 2 := by omega
  repeat (first | simp (disch := omega) only [↓qxs, ↓qxc, ↓qxa, ↓qxb] | refine p_call (shCheck_ok (by omega)) ?_ | refine p_call (nmi220 (by omega)) ?_ | refine p_call (shCell0 (by omega)) ?_)
  (try simp only [List.cons.injEq, Lf.i.injEq, and_true, true_and]); (try omega)
theorem namo220 {v i : Int} (h : (1 ≤ v ∧ v ≤ 5) ∧ (0 ≤ i ∧ i < 4 * 2 * v) ∧ i % 4 = 2 ∧ ¬ (i / 4 / 2 + 1 < v)) : Cc 69 [.i 2, .i v, .i i, .i 0] [.i 0, .i 0, .i 0, .i 7] := by
  refine q69 rfl ?_; unfold p69
  have hq : i % 4 = 2 := by omega
  repeat (first | simp (disch := omega) only [↓qxs, ↓qxc, ↓qxa, ↓qxb] | refine p_call (shCheck_ok (by omega)) ?_ | refine p_call (nmo220 (by omega)) ?_)
  (try simp only [List.cons.injEq, Lf.i.injEq, and_true, true_and]); (try omega)
theorem nam221 {v i : Int} (h : (1 ≤ v ∧ v ≤ 5) ∧ (0 ≤ i ∧ i < 4 * 2 * v) ∧ i % 4 = 2) : Cc 69 [.i 2, .i v, .i i, .i 1] [.i (i / 4 % 2), .i (i / 4 / 2), .i 2, .i 0] := by
  refine q69 rfl ?_; unfold p69
  have hq : i % 4 = 2 := by omega
  repeat (first | simp (disch := omega) only [↓qxs, ↓qxc, ↓qxa, ↓qxb] | refine p_call (shCheck_ok (by omega)) ?_ | refine p_call (nmi221 (by omega)) ?_ | refine p_call (shCell0 (by omega)) ?_)
  (try simp only [List.cons.injEq, Lf.i.injEq, and_true, true_and]); (try omega)
theorem namx222 {v i : Int} (h : (1 ≤ v ∧ v ≤ 5) ∧ (0 ≤ i ∧ i < 4 * 2 * v) ∧ i % 4 = 2) : Cc 69 [.i 2, .i v, .i i, .i 2] [.i 0, .i 0, .i 0, .i 7] := by
  refine q69 rfl ?_; unfold p69
  have hq : i % 4 = 2 := by omega
  first | (exfalso; omega) | (repeat (first | simp (disch := omega) only [↓qxs, ↓qxc, ↓qxa, ↓qxb] | refine p_call (shCheck_ok (by omega)) ?_ | refine p_call (nmi222 (by omega)) ?_ | refine p_call (shCell0 (by omega)) ?_); (try simp only [List.cons.injEq, Lf.i.injEq, and_true, true_and]); (try omega))
theorem namx230 {v i : Int} (h : (1 ≤ v ∧ v ≤ 5) ∧ (0 ≤ i ∧ i < 4 * 2 * v) ∧ i % 4 = 3 ∧ 1 ≤ i / 4 % 2) : Cc 69 [.i 2, .i v, .i i, .i 0] [.i 0, .i 0, .i 0, .i 7] := by
  refine q69 rfl ?_; unfold p69
  have hq : i % 4 = 3 := by omega
  first | (exfalso; omega) | (repeat (first | simp (disch := omega) only [↓qxs, ↓qxc, ↓qxa, ↓qxb] | refine p_call (shCheck_ok (by omega)) ?_ | refine p_call (nmi230 (by omega)) ?_ | refine p_call (shCell0 (by omega)) ?_); (try simp only [List.cons.injEq, Lf.i.injEq, and_true, true_and]); (try omega))
theorem namo230 {v i : Int} (h : (1 ≤ v ∧ v ≤ 5) ∧ (0 ≤ i ∧ i < 4 * 2 * v) ∧ i % 4 = 3 ∧ ¬ (1 ≤ i / 4 % 2)) : Cc 69 [.i 2, .i v, .i i, .i 0] [.i 0, .i 0, .i 0, .i 7] := by
  refine q69 rfl ?_; unfold p69
  have hq : i % 4 = 3 := by omega
  repeat (first | simp (disch := omega) only [↓qxs, ↓qxc, ↓qxa, ↓qxb] | refine p_call (shCheck_ok (by omega)) ?_ | refine p_call (nmo230 (by omega)) ?_)
  (try simp only [List.cons.injEq, Lf.i.injEq, and_true, true_and]); (try omega)
theorem namx231 {v i : Int} (h : (1 ≤ v ∧ v ≤ 5) ∧ (0 ≤ i ∧ i < 4 * 2 * v) ∧ i % 4 = 3) : Cc 69 [.i 2, .i v, .i i, .i 1] [.i 0, .i 0, .i 0, .i 7] := by
  refine q69 rfl ?_; unfold p69
  have hq : i % 4 = 3 := by omega
  first | (exfalso; omega) | (repeat (first | simp (disch := omega) only [↓qxs, ↓qxc, ↓qxa, ↓qxb] | refine p_call (shCheck_ok (by omega)) ?_ | refine p_call (nmi231 (by omega)) ?_ | refine p_call (shCell0 (by omega)) ?_); (try simp only [List.cons.injEq, Lf.i.injEq, and_true, true_and]); (try omega))
theorem namx232 {v i : Int} (h : (1 ≤ v ∧ v ≤ 5) ∧ (0 ≤ i ∧ i < 4 * 2 * v) ∧ i % 4 = 3) : Cc 69 [.i 2, .i v, .i i, .i 2] [.i 0, .i 0, .i 0, .i 7] := by
  refine q69 rfl ?_; unfold p69
  have hq : i % 4 = 3 := by omega
  first | (exfalso; omega) | (repeat (first | simp (disch := omega) only [↓qxs, ↓qxc, ↓qxa, ↓qxb] | refine p_call (shCheck_ok (by omega)) ?_ | refine p_call (nmi232 (by omega)) ?_ | refine p_call (shCell0 (by omega)) ?_); (try simp only [List.cons.injEq, Lf.i.injEq, and_true, true_and]); (try omega))
theorem namx300 {v i : Int} (h : (1 ≤ v ∧ v ≤ 5) ∧ (0 ≤ i ∧ i < 4 * 3 * v) ∧ i % 4 = 0 ∧ 12 ≤ i) : Cc 69 [.i 3, .i v, .i i, .i 0] [.i 0, .i 0, .i 0, .i 7] := by
  refine q69 rfl ?_; unfold p69
  have hq : i % 4 = 0 := by omega
  first | (exfalso; omega) | (repeat (first | simp (disch := omega) only [↓qxs, ↓qxc, ↓qxa, ↓qxb] | refine p_call (shCheck_ok (by omega)) ?_ | refine p_call (nmi300 (by omega)) ?_ | refine p_call (shCell0 (by omega)) ?_); (try simp only [List.cons.injEq, Lf.i.injEq, and_true, true_and]); (try omega))
theorem namo300 {v i : Int} (h : (1 ≤ v ∧ v ≤ 5) ∧ (0 ≤ i ∧ i < 4 * 3 * v) ∧ i % 4 = 0 ∧ ¬ (12 ≤ i)) : Cc 69 [.i 3, .i v, .i i, .i 0] [.i 0, .i 0, .i 0, .i 7] := by
  refine q69 rfl ?_; unfold p69
  have hq : i % 4 = 0 := by omega
  repeat (first | simp (disch := omega) only [↓qxs, ↓qxc, ↓qxa, ↓qxb] | refine p_call (shCheck_ok (by omega)) ?_ | refine p_call (nmo300 (by omega)) ?_)
  (try simp only [List.cons.injEq, Lf.i.injEq, and_true, true_and]); (try omega)
theorem nam301 {v i : Int} (h : (1 ≤ v ∧ v ≤ 5) ∧ (0 ≤ i ∧ i < 4 * 3 * v) ∧ i % 4 = 0) : Cc 69 [.i 3, .i v, .i i, .i 1] [.i (i / 4 % 3), .i (i / 4 / 3), .i 0, .i 0] := by
  refine q69 rfl ?_; unfold p69
  have hq : i % 4 = 0 := by omega
  repeat (first | simp (disch := omega) only [↓qxs, ↓qxc, ↓qxa, ↓qxb] | refine p_call (shCheck_ok (by omega)) ?_ | refine p_call (nmi301 (by omega)) ?_ | refine p_call (shCell0 (by omega)) ?_)
  (try simp only [List.cons.injEq, Lf.i.injEq, and_true, true_and]); (try omega)
theorem nam302 {v i : Int} (h : (1 ≤ v ∧ v ≤ 5) ∧ (0 ≤ i ∧ i < 4 * 3 * v) ∧ i % 4 = 0) : Cc 69 [.i 3, .i v, .i i, .i 2] [.i (i / 4 % 3), .i (i / 4 / 3), .i 0, .i 0] := by
  refine q69 rfl ?_; unfold p69
  have hq : i % 4 = 0 := by omega
  repeat (first | simp (disch := omega) only [↓qxs, ↓qxc, ↓qxa, ↓qxb] | refine p_call (shCheck_ok (by omega)) ?_ | refine p_call (nmi302 (by omega)) ?_ | refine p_call (shCell0 (by omega)) ?_)
  (try simp only [List.cons.injEq, Lf.i.injEq, and_true, true_and]); (try omega)
theorem nam310 {v i : Int} (h : (1 ≤ v ∧ v ≤ 5) ∧ (0 ≤ i ∧ i < 4 * 3 * v) ∧ i % 4 = 1 ∧ i / 4 % 3 + 1 < 3) : Cc 69 [.i 3, .i v, .i i, .i 0] [.i (i / 4 % 3), .i (i / 4 / 3), .i 1, .i 0] := by
  refine q69 rfl ?_; unfold p69
  have hq : i % 4 = 1 := by omega
  repeat (first | simp (disch := omega) only [↓qxs, ↓qxc, ↓qxa, ↓qxb] | refine p_call (shCheck_ok (by omega)) ?_ | refine p_call (nmi310 (by omega)) ?_ | refine p_call (shCell0 (by omega)) ?_)
  (try simp only [List.cons.injEq, Lf.i.injEq, and_true, true_and]); (try omega)
theorem namo310 {v i : Int} (h : (1 ≤ v ∧ v ≤ 5) ∧ (0 ≤ i ∧ i < 4 * 3 * v) ∧ i % 4 = 1 ∧ ¬ (i / 4 % 3 + 1 < 3)) : Cc 69 [.i 3, .i v, .i i, .i 0] [.i 0, .i 0, .i 0, .i 7] := by
  refine q69 rfl ?_; unfold p69
  have hq : i % 4 = 1 := by omega
  repeat (first | simp (disch := omega) only [↓qxs, ↓qxc, ↓qxa, ↓qxb] | refine p_call (shCheck_ok (by omega)) ?_ | refine p_call (nmo310 (by omega)) ?_)
  (try simp only [List.cons.injEq, Lf.i.injEq, and_true, true_and]); (try omega)
theorem namx311 {v i : Int} (h : (1 ≤ v ∧ v ≤ 5) ∧ (0 ≤ i ∧ i < 4 * 3 * v) ∧ i % 4 = 1) : Cc 69 [.i 3, .i v, .i i, .i 1] [.i 0, .i 0, .i 0, .i 7] := by
  refine q69 rfl ?_; unfold p69
  have hq : i % 4 = 1 := by omega
  first | (exfalso; omega) | (repeat (first | simp (disch := omega) only [↓qxs, ↓qxc, ↓qxa, ↓qxb] | refine p_call (shCheck_ok (by omega)) ?_ | refine p_call (nmi311 (by omega)) ?_ | refine p_call (shCell0 (by omega)) ?_); (try simp only [List.cons.injEq, Lf.i.injEq, and_true, true_and]); (try omega))
theorem nam312 {v i : Int} (h : (1 ≤ v ∧ v ≤ 5) ∧ (0 ≤ i ∧ i < 4 * 3 * v) ∧ i % 4 = 1) : Cc 69 [.i 3, .i v, .i i, .i 2] [.i (i / 4 % 3), .i (i / 4 / 3), .i 1, .i 0] := by
  refine q69 rfl ?_; unfold p69
  have hq : i % 4 = 1 := by omega
  repeat (first | simp (disch := omega) only [↓qxs, ↓qxc, ↓qxa, ↓qxb] | refine p_call (shCheck_ok (by omega)) ?_ | refine p_call (nmi312 (by omega)) ?_ | refine p_call (shCell0 (by omega)) ?_)
  (try simp only [List.cons.injEq, Lf.i.injEq, and_true, true_and]); (try omega)
theorem nam320 {v i : Int} (h : (1 ≤ v ∧ v ≤ 5) ∧ (0 ≤ i ∧ i < 4 * 3 * v) ∧ i % 4 = 2 ∧ i / 4 / 3 + 1 < v) : Cc 69 [.i 3, .i v, .i i, .i 0] [.i (i / 4 % 3), .i (i / 4 / 3), .i 2, .i 0] := by
  refine q69 rfl ?_; unfold p69
  have hq : i % 4 = 2 := by omega
  repeat (first | simp (disch := omega) only [↓qxs, ↓qxc, ↓qxa, ↓qxb] | refine p_call (shCheck_ok (by omega)) ?_ | refine p_call (nmi320 (by omega)) ?_ | refine p_call (shCell0 (by omega)) ?_)
  (try simp only [List.cons.injEq, Lf.i.injEq, and_true, true_and]); (try omega)
theorem namo320 {v i : Int} (h : (1 ≤ v ∧ v ≤ 5) ∧ (0 ≤ i ∧ i < 4 * 3 * v) ∧ i % 4 = 2 ∧ ¬ (i / 4 / 3 + 1 < v)) : Cc 69 [.i 3, .i v, .i i, .i 0] [.i 0, .i 0, .i 0, .i 7] := by
  refine q69 rfl ?_; unfold p69
  have hq : i % 4 = 2 := by omega
  repeat (first | simp (disch := omega) only [↓qxs, ↓qxc, ↓qxa, ↓qxb] | refine p_call (shCheck_ok (by omega)) ?_ | refine p_call (nmo320 (by omega)) ?_)
  (try simp only [List.cons.injEq, Lf.i.injEq, and_true, true_and]); (try omega)
theorem nam321 {v i : Int} (h : (1 ≤ v ∧ v ≤ 5) ∧ (0 ≤ i ∧ i < 4 * 3 * v) ∧ i % 4 = 2) : Cc 69 [.i 3, .i v, .i i, .i 1] [.i (i / 4 % 3), .i (i / 4 / 3), .i 2, .i 0] := by
  refine q69 rfl ?_; unfold p69
  have hq : i % 4 = 2 := by omega
  repeat (first | simp (disch := omega) only [↓qxs, ↓qxc, ↓qxa, ↓qxb] | refine p_call (shCheck_ok (by omega)) ?_ | refine p_call (nmi321 (by omega)) ?_ | refine p_call (shCell0 (by omega)) ?_)
  (try simp only [List.cons.injEq, Lf.i.injEq, and_true, true_and]); (try omega)
theorem namx322 {v i : Int} (h : (1 ≤ v ∧ v ≤ 5) ∧ (0 ≤ i ∧ i < 4 * 3 * v) ∧ i % 4 = 2) : Cc 69 [.i 3, .i v, .i i, .i 2] [.i 0, .i 0, .i 0, .i 7] := by
  refine q69 rfl ?_; unfold p69
  have hq : i % 4 = 2 := by omega
  first | (exfalso; omega) | (repeat (first | simp (disch := omega) only [↓qxs, ↓qxc, ↓qxa, ↓qxb] | refine p_call (shCheck_ok (by omega)) ?_ | refine p_call (nmi322 (by omega)) ?_ | refine p_call (shCell0 (by omega)) ?_); (try simp only [List.cons.injEq, Lf.i.injEq, and_true, true_and]); (try omega))
theorem namx330 {v i : Int} (h : (1 ≤ v ∧ v ≤ 5) ∧ (0 ≤ i ∧ i < 4 * 3 * v) ∧ i % 4 = 3 ∧ 1 ≤ i / 4 % 3) : Cc 69 [.i 3, .i v, .i i, .i 0] [.i 0, .i 0, .i 0, .i 7] := by
  refine q69 rfl ?_; unfold p69
  have hq : i % 4 = 3 := by omega
  first | (exfalso; omega) | (repeat (first | simp (disch := omega) only [↓qxs, ↓qxc, ↓qxa, ↓qxb] | refine p_call (shCheck_ok (by omega)) ?_ | refine p_call (nmi330 (by omega)) ?_ | refine p_call (shCell0 (by omega)) ?_); (try simp only [List.cons.injEq, Lf.i.injEq, and_true, true_and]); (try omega))
theorem namo330 {v i : Int} (h : (1 ≤ v ∧ v ≤ 5) ∧ (0 ≤ i ∧ i < 4 * 3 * v) ∧ i % 4 = 3 ∧ ¬ (1 ≤ i / 4 % 3)) : Cc 69 [.i 3, .i v, .i i, .i 0] [.i 0, .i 0, .i 0, .i 7] := by
  refine q69 rfl ?_; unfold p69
  have hq : i % 4 = 3 := by omega
  repeat (first | simp (disch := omega) only [↓qxs, ↓qxc, ↓qxa, ↓qxb] | refine p_call (shCheck_ok (by omega)) ?_ | refine p_call (nmo330 (by omega)) ?_)
  (try simp only [List.cons.injEq, Lf.i.injEq, and_true, true_and]); (try omega)
theorem namx331 {v i : Int} (h : (1 ≤ v ∧ v ≤ 5) ∧ (0 ≤ i ∧ i < 4 * 3 * v) ∧ i % 4 = 3) : Cc 69 [.i 3, .i v, .i i, .i 1] [.i 0, .i 0, .i 0, .i 7] := by
  refine q69 rfl ?_; unfold p69
  have hq : i % 4 = 3 := by omega
  first | (exfalso; omega) | (repeat (first | simp (disch := omega) only [↓qxs, ↓qxc, ↓qxa, ↓qxb] | refine p_call (shCheck_ok (by omega)) ?_ | refine p_call (nmi331 (by omega)) ?_ | refine p_call (shCell0 (by omega)) ?_); (try simp only [List.cons.injEq, Lf.i.injEq, and_true, true_and]); (try omega))
theorem namx332 {v i : Int} (h : (1 ≤ v ∧ v ≤ 5) ∧ (0 ≤ i ∧ i < 4 * 3 * v) ∧ i % 4 = 3) : Cc 69 [.i 3, .i v, .i i, .i 2] [.i 0, .i 0, .i 0, .i 7] := by
  refine q69 rfl ?_; unfold p69
  have hq : i % 4 = 3 := by omega
  first | (exfalso; omega) | (repeat (first | simp (disch := omega) only [↓qxs, ↓qxc, ↓qxa, ↓qxb] | refine p_call (shCheck_ok (by omega)) ?_ | refine p_call (nmi332 (by omega)) ?_ | refine p_call (shCell0 (by omega)) ?_); (try simp only [List.cons.injEq, Lf.i.injEq, and_true, true_and]); (try omega))
theorem namx400 {v i : Int} (h : (1 ≤ v ∧ v ≤ 5) ∧ (0 ≤ i ∧ i < 4 * 4 * v) ∧ i % 4 = 0 ∧ 16 ≤ i) : Cc 69 [.i 4, .i v, .i i, .i 0] [.i 0, .i 0, .i 0, .i 7] := by
  refine q69 rfl ?_; unfold p69
  have hq : i % 4 = 0 := by omega
  first | (exfalso; omega) | (repeat (first | simp (disch := omega) only [↓qxs, ↓qxc, ↓qxa, ↓qxb] | refine p_call (shCheck_ok (by omega)) ?_ | refine p_call (nmi400 (by omega)) ?_ | refine p_call (shCell0 (by omega)) ?_); (try simp only [List.cons.injEq, Lf.i.injEq, and_true, true_and]); (try omega))
theorem namo400 {v i : Int} (h : (1 ≤ v ∧ v ≤ 5) ∧ (0 ≤ i ∧ i < 4 * 4 * v) ∧ i % 4 = 0 ∧ ¬ (16 ≤ i)) : Cc 69 [.i 4, .i v, .i i, .i 0] [.i 0, .i 0, .i 0, .i 7] := by
  refine q69 rfl ?_; unfold p69
  have hq : i % 4 = 0 := by omega
  repeat (first | simp (disch := omega) only [↓qxs, ↓qxc, ↓qxa, ↓qxb] | refine p_call (shCheck_ok (by omega)) ?_ | refine p_call (nmo400 (by omega)) ?_)
  (try simp only [List.cons.injEq, Lf.i.injEq, and_true, true_and]); (try omega)
theorem nam401 {v i : Int} (h : (1 ≤ v ∧ v ≤ 5) ∧ (0 ≤ i ∧ i < 4 * 4 * v) ∧ i % 4 = 0) : Cc 69 [.i 4, .i v, .i i, .i 1] [.i (i / 4 % 4), .i (i / 4 / 4), .i 0, .i 0] := by
  refine q69 rfl ?_; unfold p69
  have hq : i % 4 = 0 := by omega
  repeat (first | simp (disch := omega) only [↓qxs, ↓qxc, ↓qxa, ↓qxb] | refine p_call (shCheck_ok (by omega)) ?_ | refine p_call (nmi401 (by omega)) ?_ | refine p_call (shCell0 (by omega)) ?_)
  (try simp only [List.cons.injEq, Lf.i.injEq, and_true, true_and]); (try omega)
theorem nam402 {v i : Int} (h : (1 ≤ v ∧ v ≤ 5) ∧ (0 ≤ i ∧ i < 4 * 4 * v) ∧ i % 4 = 0) : Cc 69 [.i 4, .i v, .i i, .i 2] [.i (i / 4 % 4), .i (i / 4 / 4), .i 0, .i 0] := by
  refine q69 rfl ?_; unfold p69
  have hq : i % 4 = 0 := by omega
  repeat (first | simp (disch := omega) only [↓qxs, ↓qxc, ↓qxa, ↓qxb] | refine p_call (shCheck_ok (by omega)) ?_ | refine p_call (nmi402 (by omega)) ?_ | refine p_call (shCell0 (by omega)) ?_)
  (try simp only [List.cons.injEq, Lf.i.injEq, and_true, true_and]); (try omega)
theorem nam410 {v i : Int} (h : (1 ≤ v ∧ v ≤ 5) ∧ (0 ≤ i ∧ i < 4 * 4 * v) ∧ i % 4 = 1 ∧ i / 4 % 4 + 1 < 4) : Cc 69 [.i 4, .i v, .i i, .i 0] [.i (i / 4 % 4), .i (i / 4 / 4), .i 1, .i 0] := by
  refine q69 rfl ?_; unfold p69
  have hq : i % 4 = 1 := by omega
  repeat (first | simp (disch := omega) only [↓qxs, ↓qxc, ↓qxa, ↓qxb] | refine p_call (shCheck_ok (by omega)) ?_ | refine p_call (nmi410 (by omega)) ?_ | refine p_call (shCell0 (by omega)) ?_)
  (try simp only [List.cons.injEq, Lf.i.injEq, and_true, true_and]); (try omega)
theorem namo410 {v i : Int} (h : (1 ≤ v ∧ v ≤ 5) ∧ (0 ≤ i ∧ i < 4 * 4 * v) ∧ i % 4 = 1 ∧ ¬ (i / 4 % 4 + 1 < 4)) : Cc 69 [.i 4, .i v, .i i, .i 0] [.i 0, .i 0, .i 0, .i 7] := by
  refine q69 rfl ?_; unfold p69
  have hq : i % 4 = 1 := by omega
  repeat (first | simp (disch := omega) only [↓qxs, ↓qxc, ↓qxa, ↓qxb] | refine p_call (shCheck_ok (by omega)) ?_ | refine p_call (nmo410 (by omega)) ?_)
  (try simp only [List.cons.injEq, Lf.i.injEq, and_true, true_and]); (try omega)
theorem namx411 {v i : Int} (h : (1 ≤ v ∧ v ≤ 5) ∧ (0 ≤ i ∧ i < 4 * 4 * v) ∧ i % 4 = 1) : Cc 69 [.i 4, .i v, .i i, .i 1] [.i 0, .i 0, .i 0, .i 7] := by
  refine q69 rfl ?_; unfold p69
  have hq : i % 4 = 1 := by omega
  first | (exfalso; omega) | (repeat (first | simp (disch := omega) only [↓qxs, ↓qxc, ↓qxa, ↓qxb] | refine p_call (shCheck_ok (by omega)) ?_ | refine p_call (nmi411 (by omega)) ?_ | refine p_call (shCell0 (by omega)) ?_); (try simp only [List.cons.injEq, Lf.i.injEq, and_true, true_and]); (try omega))
theorem nam412 {v i : Int} (h : (1 ≤ v ∧ v ≤ 5) ∧ (0 ≤ i ∧ i < 4 * 4 * v) ∧ i % 4 = 1) : Cc 69 [.i 4, .i v, .i i, .i 2] [.i (i / 4 % 4), .i (i / 4 / 4), .i 1, .i 0] := by
  refine q69 rfl ?_; unfold p69
  have hq : i % 4 = 1 := by omega
  repeat (first | simp (disch := omega) only [↓qxs, ↓qxc, ↓qxa, ↓qxb] | refine p_call (shCheck_ok (by omega)) ?_ | refine p_call (nmi412 (by omega)) ?_ | refine p_call (shCell0 (by omega)) ?_)
  (try simp only [List.cons.injEq, Lf.i.injEq, and_true, true_and]); (try omega)
theorem nam420 {v i : Int} (h : (1 ≤ v ∧ v ≤ 5) ∧ (0 ≤ i ∧ i < 4 * 4 * v) ∧ i % 4 = 2 ∧ i / 4 / 4 + 1 < v) : Cc 69 [.i 4, .i v, .i i, .i 0] [.i (i / 4 % 4), .i (i / 4 / 4), .i 2, .i 0] := by
  refine q69 rfl ?_; unfold p69
  have hq : i % 4 = 2 := by omega
  repeat (first | simp (disch := omega) only [↓qxs, ↓qxc, ↓qxa, ↓qxb] | refine p_call (shCheck_ok (by omega)) ?_ | refine p_call (nmi420 (by omega)) ?_ | refine p_call (shCell0 (by omega)) ?_)
  (try simp only [List.cons.injEq, Lf.i.injEq, and_true, true_and]); (try omega)
theorem namo420 {v i : Int} (h : (1 ≤ v ∧ v ≤ 5) ∧ (0 ≤ i ∧ i < 4 * 4 * v) ∧ i % 4 = 2 ∧ ¬ (i / 4 / 4 + 1 < v)) : Cc 69 [.i 4, .i v, .i i, .i 0] [.i 0, .i 0, .i 0, .i 7] := by
  refine q69 rfl ?_; unfold p69
  have hq : i % 4 = 2 := by omega
  repeat (first | simp (disch := omega) only [↓qxs, ↓qxc, ↓qxa, ↓qxb] | refine p_call (shCheck_ok (by omega)) ?_ | refine p_call (nmo420 (by omega)) ?_)
  (try simp only [List.cons.injEq, Lf.i.injEq, and_true, true_and]); (try omega)
theorem nam421 {v i : Int} (h : (1 ≤ v ∧ v ≤ 5) ∧ (0 ≤ i ∧ i < 4 * 4 * v) ∧ i % 4 = 2) : Cc 69 [.i 4, .i v, .i i, .i 1] [.i (i / 4 % 4), .i (i / 4 / 4), .i 2, .i 0] := by
  refine q69 rfl ?_; unfold p69
  have hq : i % 4 = 2 := by omega
  repeat (first | simp (disch := omega) only [↓qxs, ↓qxc, ↓qxa, ↓qxb] | refine p_call (shCheck_ok (by omega)) ?_ | refine p_call (nmi421 (by omega)) ?_ | refine p_call (shCell0 (by omega)) ?_)
  (try simp only [List.cons.injEq, Lf.i.injEq, and_true, true_and]); (try omega)
theorem namx422 {v i : Int} (h : (1 ≤ v ∧ v ≤ 5) ∧ (0 ≤ i ∧ i < 4 * 4 * v) ∧ i % 4 = 2) : Cc 69 [.i 4, .i v, .i i, .i 2] [.i 0, .i 0, .i 0, .i 7] := by
  refine q69 rfl ?_; unfold p69
  have hq : i % 4 = 2 := by omega
  first | (exfalso; omega) | (repeat (first | simp (disch := omega) only [↓qxs, ↓qxc, ↓qxa, ↓qxb] | refine p_call (shCheck_ok (by omega)) ?_ | refine p_call (nmi422 (by omega)) ?_ | refine p_call (shCell0 (by omega)) ?_); (try simp only [List.cons.injEq, Lf.i.injEq, and_true, true_and]); (try omega))
theorem namx430 {v i : Int} (h : (1 ≤ v ∧ v ≤ 5) ∧ (0 ≤ i ∧ i < 4 * 4 * v) ∧ i % 4 = 3 ∧ 1 ≤ i / 4 % 4) : Cc 69 [.i 4, .i v, .i i, .i 0] [.i 0, .i 0, .i 0, .i 7] := by
  refine q69 rfl ?_; unfold p69
  have hq : i % 4 = 3 := by omega
  first | (exfalso; omega) | (repeat (first | simp (disch := omega) only [↓qxs, ↓qxc, ↓qxa, ↓qxb] | refine p_call (shCheck_ok (by omega)) ?_ | refine p_call (nmi430 (by omega)) ?_ | refine p_call (shCell0 (by omega)) ?_); (try simp only [List.cons.injEq, Lf.i.injEq, and_true, true_and]); (try omega))
theorem namo430 {v i : Int} (h : (1 ≤ v ∧ v ≤ 5) ∧ (0 ≤ i ∧ i < 4 * 4 * v) ∧ i % 4 = 3 ∧ ¬ (1 ≤ i / 4 % 4)) : Cc 69 [.i 4, .i v, .i i, .i 0] [.i 0, .i 0, .i 0, .i 7] := by
  refine q69 rfl ?_; unfold p69
  have hq : i % 4 = 3 := by omega
  repeat (first | simp (disch := omega) only [↓qxs, ↓qxc, ↓qxa, ↓qxb] | refine p_call (shCheck_ok (by omega)) ?_ | refine p_call (nmo430 (by omega)) ?_)
  (try simp only [List.cons.injEq, Lf.i.injEq, and_true, true_and]); (try omega)
theorem namx431 {v i : Int} (h : (1 ≤ v ∧ v ≤ 5) ∧ (0 ≤ i ∧ i < 4 * 4 * v) ∧ i % 4 = 3) : Cc 69 [.i 4, .i v, .i i, .i 1] [.i 0, .i 0, .i 0, .i 7] := by
  refine q69 rfl ?_; unfold p69
  have hq : i % 4 = 3 := by omega
  first | (exfalso; omega) | (repeat (first | simp (disch := omega) only [↓qxs, ↓qxc, ↓qxa, ↓qxb] | refine p_call (shCheck_ok (by omega)) ?_ | refine p_call (nmi431 (by omega)) ?_ | refine p_call (shCell0 (by omega)) ?_); (try simp only [List.cons.injEq, Lf.i.injEq, and_true, true_and]); (try omega))
theorem namx432 {v i : Int} (h : (1 ≤ v ∧ v ≤ 5) ∧ (0 ≤ i ∧ i < 4 * 4 * v) ∧ i % 4 = 3) : Cc 69 [.i 4, .i v, .i i, .i 2] [.i 0, .i 0, .i 0, .i 7] := by
  refine q69 rfl ?_; unfold p69
  have hq : i % 4 = 3 := by omega
  first | (exfalso; omega) | (repeat (first | simp (disch := omega) only [↓qxs, ↓qxc, ↓qxa, ↓qxb] | refine p_call (shCheck_ok (by omega)) ?_ | refine p_call (nmi432 (by omega)) ?_ | refine p_call (shCell0 (by omega)) ?_); (try simp only [List.cons.injEq, Lf.i.injEq, and_true, true_and]); (try omega))
theorem namx500 {v i : Int} (h : (1 ≤ v ∧ v ≤ 5) ∧ (0 ≤ i ∧ i < 4 * 5 * v) ∧ i % 4 = 0 ∧ 20 ≤ i) : Cc 69 [.i 5, .i v, .i i, .i 0] [.i 0, .i 0, .i 0, .i 7] := by
  refine q69 rfl ?_; unfold p69
  have hq : i % 4 = 0 := by omega
  first | (exfalso; omega) | (repeat (first | simp (disch := omega) only [↓qxs, ↓qxc, ↓qxa, ↓qxb] | refine p_call (shCheck_ok (by omega)) ?_ | refine p_call (nmi500 (by omega)) ?_ | refine p_call (shCell0 (by omega)) ?_); (try simp only [List.cons.injEq, Lf.i.injEq, and_true, true_and]); (try omega))
theorem namo500 {v i : Int} (h : (1 ≤ v ∧ v ≤ 5) ∧ (0 ≤ i ∧ i < 4 * 5 * v) ∧ i % 4 = 0 ∧ ¬ (20 ≤ i)) : Cc 69 [.i 5, .i v, .i i, .i 0] [.i 0, .i 0, .i 0, .i 7] := by
  refine q69 rfl ?_; unfold p69
  have hq : i % 4 = 0 := by omega
  repeat (first | simp (disch := omega) only [↓qxs, ↓qxc, ↓qxa, ↓qxb] | refine p_call (shCheck_ok (by omega)) ?_ | refine p_call (nmo500 (by omega)) ?_)
  (try simp only [List.cons.injEq, Lf.i.injEq, and_true, true_and]); (try omega)
theorem nam501 {v i : Int} (h : (1 ≤ v ∧ v ≤ 5) ∧ (0 ≤ i ∧ i < 4 * 5 * v) ∧ i % 4 = 0) : Cc 69 [.i 5, .i v, .i i, .i 1] [.i (i / 4 % 5), .i (i / 4 / 5), .i 0, .i 0] := by
  refine q69 rfl ?_; unfold p69
  have hq : i % 4 = 0 := by omega
  repeat (first | simp (disch := omega) only [↓qxs, ↓qxc, ↓qxa, ↓qxb] | refine p_call (shCheck_ok (by omega)) ?_ | refine p_call (nmi501 (by omega)) ?_ | refine p_call (shCell0 (by omega)) ?_)
  (try simp only [List.cons.injEq, Lf.i.injEq, and_true, true_and]); (try omega)
theorem nam502 {v i : Int} (h : (1 ≤ v ∧ v ≤ 5) ∧ (0 ≤ i ∧ i < 4 * 5 * v) ∧ i % 4 = 0) : Cc 69 [.i 5, .i v, .i i, .i 2] [.i (i / 4 % 5), .i (i / 4 / 5), .i 0, .i 0] := by
  refine q69 rfl ?_; unfold p69
  have hq : i % 4 = 0 := by omega
  repeat (first | simp (disch := omega) only [↓qxs, ↓qxc, ↓qxa, ↓qxb] | refine p_call (shCheck_ok (by omega)) ?_ | refine p_call (nmi502 (by omega)) ?_ | refine p_call (shCell0 (by omega)) ?_)
  (try simp only [List.cons.injEq, Lf.i.injEq, and_true, true_and]); (try omega)
theorem nam510 {v i : Int} (h : (1 ≤ v ∧ v ≤ 5) ∧ (0 ≤ i ∧ i < 4 * 5 * v) ∧ i % 4 = 1 ∧ i / 4 % 5 + 1 < 5) : Cc 69 [.i 5, .i v, .i i, .i 0] [.i (i / 4 % 5), .i (i / 4 / 5), .i 1, .i 0] := by
  refine q69 rfl ?_; unfold p69
  have hq : i % 4 = 1 := by omega
  repeat (first | simp (disch := omega) only [↓qxs, ↓qxc, ↓qxa, ↓qxb] | refine p_call (shCheck_ok (by omega)) ?_ | refine p_call (nmi510 (by omega)) ?_ | refine p_call (shCell0 (by omega)) ?_)
  (try simp only [List.cons.injEq, Lf.i.injEq, and_true, true_and]); (try omega)
theorem namo510 {v i : Int} (h : (1 ≤ v ∧ v ≤ 5) ∧ (0 ≤ i ∧ i < 4 * 5 * v) ∧ i % 4 = 1 ∧ ¬ (i / 4 % 5 + 1 < 5)) : Cc 69 [.i 5, .i v, .i i, .i 0] [.i 0, .i 0, .i 0, .i 7] := by
  refine q69 rfl ?_; unfold p69
  have hq : i % 4 = 1 := by omega
  repeat (first | simp (disch := omega) only [↓qxs, ↓qxc, ↓qxa, ↓qxb] | refine p_call (shCheck_ok (by omega)) ?_ | refine p_call (nmo510 (by omega)) ?_)
  (try simp only [List.cons.injEq, Lf.i.injEq, and_true, true_and]); (try omega)
theorem namx511 {v i : Int} (h : (1 ≤ v ∧ v ≤ 5) ∧ (0 ≤ i ∧ i < 4 * 5 * v) ∧ i % 4 = 1) : Cc 69 [.i 5, .i v, .i i, .i 1] [.i 0, .i 0, .i 0, .i 7] := by
  refine q69 rfl ?_; unfold p69
  have hq : i % 4 = 1 := by omega
  first | (exfalso; omega) | (repeat (first | simp (disch := omega) only [↓qxs, ↓qxc, ↓qxa, ↓qxb] | refine p_call (shCheck_ok (by omega)) ?_ | refine p_call (nmi511 (by omega)) ?_ | refine p_call (shCell0 (by omega)) ?_); (try simp only [List.cons.injEq, Lf.i.injEq, and_true, true_and]); (try omega))
theorem nam512 {v i : Int} (h : (1 ≤ v ∧ v ≤ 5) ∧ (0 ≤ i ∧ i < 4 * 5 * v) ∧ i % 4 = 1) : Cc 69 [.i 5, .i v, .i i, .i 2] [.i (i / 4 % 5), .i (i / 4 / 5), .i 1, .i 0] := by
  refine q69 rfl ?_; unfold p69
  have hq : i % 4 = 1 := by omega
  repeat (first | simp (disch := omega) only [↓qxs, ↓qxc, ↓qxa, ↓qxb] | refine p_call (shCheck_ok (by omega)) ?_ | refine p_call (nmi512 (by omega)) ?_ | refine p_call (shCell0 (by omega)) ?_)
  (try simp only [List.cons.injEq, Lf.i.injEq, and_true, true_and]); (try omega)
theorem nam520 {v i : Int} (h : (1 ≤ v ∧ v ≤ 5) ∧ (0 ≤ i ∧ i < 4 * 5 * v) ∧ i % 4 = 2 ∧ i / 4 / 5 + 1 < v) : Cc 69 [.i 5, .i v, .i i, .i 0] [.i (i / 4 % 5), .i (i / 4 / 5), .i 2, .i 0] := by
  refine q69 rfl ?_; unfold p69
  have hq : i % 4 = 2 := by omega
  repeat (first | simp (disch := omega) only [↓qxs, ↓qxc, ↓qxa, ↓qxb] | refine p_call (shCheck_ok (by omega)) ?_ | refine p_call (nmi520 (by omega)) ?_ | refine p_call (shCell0 (by omega)) ?_)
  (try simp only [List.cons.injEq, Lf.i.injEq, and_true, true_and]); (try omega)
theorem namo520 {v i : Int} (h : (1 ≤ v ∧ v ≤ 5) ∧ (0 ≤ i ∧ i < 4 * 5 * v) ∧ i % 4 = 2 ∧ ¬ (i / 4 / 5 + 1 < v)) : Cc 69 [.i 5, .i v, .i i, .i 0] [.i 0, .i 0, .i 0, .i 7] := by
  refine q69 rfl ?_; unfold p69
  have hq : i % 4 = 2 := by omega
  repeat (first | simp (disch := omega) only [↓qxs, ↓qxc, ↓qxa, ↓qxb] | refine p_call (shCheck_ok (by omega)) ?_ | refine p_call (nmo520 (by omega)) ?_)
  (try simp only [List.cons.injEq, Lf.i.injEq, and_true, true_and]); (try omega)
theorem nam521 {v i : Int} (h : (1 ≤ v ∧ v ≤ 5) ∧ (0 ≤ i ∧ i < 4 * 5 * v) ∧ i % 4 = 2) : Cc 69 [.i 5, .i v, .i i, .i 1] [.i (i / 4 % 5), .i (i / 4 / 5), .i 2, .i 0] := by
  refine q69 rfl ?_; unfold p69
  have hq : i % 4 = 2 := by omega
  repeat (first | simp (disch := omega) only [↓qxs, ↓qxc, ↓qxa, ↓qxb] | refine p_call (shCheck_ok (by omega)) ?_ | refine p_call (nmi521 (by omega)) ?_ | refine p_call (shCell0 (by omega)) ?_)
  (try simp only [List.cons.injEq, Lf.i.injEq, and_true, true_and]); (try omega)
theorem namx522 {v i : Int} (h : (1 ≤ v ∧ v ≤ 5) ∧ (0 ≤ i ∧ i < 4 * 5 * v) ∧ i % 4 = 2) : Cc 69 [.i 5, .i v, .i i, .i 2] [.i 0, .i 0, .i 0, .i 7] := by
  refine q69 rfl ?_; unfold p69
  have hq : i % 4 = 2 := by omega
  first | (exfalso; omega) | (repeat (first | simp (disch := omega) only [↓qxs, ↓qxc, ↓qxa, ↓qxb] | refine p_call (shCheck_ok (by omega)) ?_ | refine p_call (nmi522 (by omega)) ?_ | refine p_call (shCell0 (by omega)) ?_); (try simp only [List.cons.injEq, Lf.i.injEq, and_true, true_and]); (try omega))
theorem namx530 {v i : Int} (h : (1 ≤ v ∧ v ≤ 5) ∧ (0 ≤ i ∧ i < 4 * 5 * v) ∧ i % 4 = 3 ∧ 1 ≤ i / 4 % 5) : Cc 69 [.i 5, .i v, .i i, .i 0] [.i 0, .i 0, .i 0, .i 7] := by
  refine q69 rfl ?_; unfold p69
  have hq : i % 4 = 3 := by omega
  first | (exfalso; omega) | (repeat (first | simp (disch := omega) only [↓qxs, ↓qxc, ↓qxa, ↓qxb] | refine p_call (shCheck_ok (by omega)) ?_ | refine p_call (nmi530 (by omega)) ?_ | refine p_call (shCell0 (by omega)) ?_); (try simp only [List.cons.injEq, Lf.i.injEq, and_true, true_and]); (try omega))
theorem namo530 {v i : Int} (h : (1 ≤ v ∧ v ≤ 5) ∧ (0 ≤ i ∧ i < 4 * 5 * v) ∧ i % 4 = 3 ∧ ¬ (1 ≤ i / 4 % 5)) : Cc 69 [.i 5, .i v, .i i, .i 0] [.i 0, .i 0, .i 0, .i 7] := by
  refine q69 rfl ?_; unfold p69
  have hq : i % 4 = 3 := by omega
  repeat (first | simp (disch := omega) only [↓qxs, ↓qxc, ↓qxa, ↓qxb] | refine p_call (shCheck_ok (by omega)) ?_ | refine p_call (nmo530 (by omega)) ?_)
  (try simp only [List.cons.injEq, Lf.i.injEq, and_true, true_and]); (try omega)
theorem namx531 {v i : Int} (h : (1 ≤ v ∧ v ≤ 5) ∧ (0 ≤ i ∧ i < 4 * 5 * v) ∧ i % 4 = 3) : Cc 69 [.i 5, .i v, .i i, .i 1] [.i 0, .i 0, .i 0, .i 7] := by
  refine q69 rfl ?_; unfold p69
  have hq : i % 4 = 3 := by omega
  first | (exfalso; omega) | (repeat (first | simp (disch := omega) only [↓qxs, ↓qxc, ↓qxa, ↓qxb] | refine p_call (shCheck_ok (by omega)) ?_ | refine p_call (nmi531 (by omega)) ?_ | refine p_call (shCell0 (by omega)) ?_); (try simp only [List.cons.injEq, Lf.i.injEq, and_true, true_and]); (try omega))
theorem namx532 {v i : Int} (h : (1 ≤ v ∧ v ≤ 5) ∧ (0 ≤ i ∧ i < 4 * 5 * v) ∧ i % 4 = 3) : Cc 69 [.i 5, .i v, .i i, .i 2] [.i 0, .i 0, .i 0, .i 7] := by
  refine q69 rfl ?_; unfold p69
  have hq : i % 4 = 3 := by omega
  first | (exfalso; omega) | (repeat (first | simp (disch := omega) only [↓qxs, ↓qxc, ↓qxa, ↓qxb] | refine p_call (shCheck_ok (by omega)) ?_ | refine p_call (nmi532 (by omega)) ?_ | refine p_call (shCell0 (by omega)) ?_); (try simp only [List.cons.injEq, Lf.i.injEq, and_true, true_and]); (try omega))
theorem nam_none {w v i e : Int} (h : (1 ≤ w ∧ w ≤ 5 ∧ 1 ≤ v ∧ v ≤ 5) ∧ ¬ ((0 ≤ i ∧ i < 4 * w * v) ∧ e ≤ 2)) : Cc 69 [.i w, .i v, .i i, .i e] [.i 0, .i 0, .i 0, .i 7] := by
  refine q69 rfl ?_; unfold p69
  by_cases hi : 0 ≤ i ∧ i < 4 * w * v
  · repeat (first | simp (disch := omega) only [↓qxs, ↓qxc, ↓qxa, ↓qxb] | refine p_call (shCheck_ok (by omega)) ?_ | refine p_call (shName_arg (by omega)) ?_); (try simp only [List.cons.injEq, Lf.i.injEq, and_true, true_and]); (try omega)
  repeat (first | simp (disch := omega) only [↓qxs, ↓qxc, ↓qxa, ↓qxb] | refine p_call (shCheck_ok (by omega)) ?_ | refine p_call (shName_none (by omega)) ?_)
  (try simp only [List.cons.injEq, Lf.i.injEq, and_true, true_and]); (try omega)
theorem lineN {w v i e : Int} (hn : Cc 69 [.i w, .i v, .i i, .i e] [.i 0, .i 0, .i 0, .i 7]) : Cc 26 [.i w, .i v, .i i, .i e] [.i 0, .i 0, .i 7] := by
  refine q26 rfl ?_; unfold p26
  simp (disch := omega) only [↓qxs, ↓qxc, ↓qxa, ↓qxb]
  refine p_call hn ?_
  simp (disch := omega) only [↓qxs, ↓qxc, ↓qxa, ↓qxb]
theorem endsN {w v i e : Int} (hn : Cc 69 [.i w, .i v, .i i, .i e] [.i 0, .i 0, .i 0, .i 7]) : Cc 25 [.i w, .i v, .i i, .i e] [.i 0, .i 0, .i 0, .i 0, .i 7] := by
  refine q25 rfl ?_; unfold p25
  simp (disch := omega) only [↓qxs, ↓qxc, ↓qxa, ↓qxb]
  refine p_call hn ?_
  simp (disch := omega) only [↓qxs, ↓qxc, ↓qxa, ↓qxb]
theorem lineT01 {w v i x y : Int} (h : -2000 ≤ x ∧ x ≤ 2000 ∧ -2000 ≤ y ∧ y ≤ 2000) (hn : Cc 69 [.i w, .i v, .i i, .i 1] [.i x, .i y, .i 0, .i 0]) : Cc 26 [.i w, .i v, .i i, .i 1] [.i 3, .i (x + y + 1), .i 0] := by
  refine q26 rfl ?_; unfold p26
  simp (disch := omega) only [↓qxs, ↓qxc, ↓qxa, ↓qxb]
  refine p_call hn ?_
  repeat (first | simp (disch := omega) only [↓qxs, ↓qxc, ↓qxa, ↓qxb] | refine p_call (cline01 (by omega)) ?_); (try simp only [List.cons.injEq, Lf.i.injEq, and_true, true_and]); (try omega)
theorem endsT01 {w v i x y : Int} (h : -2000 ≤ x ∧ x ≤ 2000 ∧ -2000 ≤ y ∧ y ≤ 2000) (hn : Cc 69 [.i w, .i v, .i i, .i 1] [.i x, .i y, .i 0, .i 0]) : Cc 25 [.i w, .i v, .i i, .i 1] [.i (2 * x + 1), .i (2 * y + 1), .i (2 * x + 2), .i (2 * y), .i 0] := by
  refine q25 rfl ?_; unfold p25
  simp (disch := omega) only [↓qxs, ↓qxc, ↓qxa, ↓qxb]
  refine p_call hn ?_
  repeat (first | simp (disch := omega) only [↓qxs, ↓qxc, ↓qxa, ↓qxb] | refine p_opt_r (by simp only [pickL, putL, offX, Int.reduceToNat, Int.reduceAdd, Int.reduceMul, Int.reduceMod, Int.reduceSub, Int.reduceNeg, Int.reduceDiv, Nat.reduceAdd, Nat.reduceMul, Nat.reduceLeDiff, List.length_cons, List.length_nil, ↓reduceIte, List.drop_succ_cons, List.drop_zero, List.take_succ_cons, List.take_zero, List.cons_append, List.nil_append, Nat.zero_add, Int.toNat_zero, Nat.zero_mul, Nat.add_zero, Int.zero_add]; exact rfl) ?_ | refine p_call (ccorn0 (by omega)) ?_); (try simp only [List.cons.injEq, Lf.i.injEq, and_true, true_and]); (try omega)
theorem lineT02 {w v i x y : Int} (h : -2000 ≤ x ∧ x ≤ 2000 ∧ -2000 ≤ y ∧ y ≤ 2000) (hn : Cc 69 [.i w, .i v, .i i, .i 2] [.i x, .i y, .i 0, .i 0]) : Cc 26 [.i w, .i v, .i i, .i 2] [.i 4, .i (y - x), .i 0] := by
  refine q26 rfl ?_; unfold p26
  simp (disch := omega) only [↓qxs, ↓qxc, ↓qxa, ↓qxb]
  refine p_call hn ?_
  repeat (first | simp (disch := omega) only [↓qxs, ↓qxc, ↓qxa, ↓qxb] | refine p_call (cline02 (by omega)) ?_); (try simp only [List.cons.injEq, Lf.i.injEq, and_true, true_and]); (try omega)
theorem endsT02 {w v i x y : Int} (h : -2000 ≤ x ∧ x ≤ 2000 ∧ -2000 ≤ y ∧ y ≤ 2000) (hn : Cc 69 [.i w, .i v, .i i, .i 2] [.i x, .i y, .i 0, .i 0]) : Cc 25 [.i w, .i v, .i i, .i 2] [.i (2 * x), .i (2 * y), .i (2 * x + 1), .i (2 * y + 1), .i 0] := by
  refine q25 rfl ?_; unfold p25
  simp (disch := omega) only [↓qxs, ↓qxc, ↓qxa, ↓qxb]
  refine p_call hn ?_
  repeat (first | simp (disch := omega) only [↓qxs, ↓qxc, ↓qxa, ↓qxb] | refine p_opt_r (by simp only [pickL, putL, offX, Int.reduceToNat, Int.reduceAdd, Int.reduceMul, Int.reduceMod, Int.reduceSub, Int.reduceNeg, Int.reduceDiv, Nat.reduceAdd, Nat.reduceMul, Nat.reduceLeDiff, List.length_cons, List.length_nil, ↓reduceIte, List.drop_succ_cons, List.drop_zero, List.take_succ_cons, List.take_zero, List.cons_append, List.nil_append, Nat.zero_add, Int.toNat_zero, Nat.zero_mul, Nat.add_zero, Int.zero_add]; exact rfl) ?_ | refine p_call (ccorn0 (by omega)) ?_); (try simp only [List.cons.injEq, Lf.i.injEq, and_true, true_and]); (try omega)
theorem lineT10 {w v i x y : Int} (h : -2000 ≤ x ∧ x ≤ 2000 ∧ -2000 ≤ y ∧ y ≤ 2000) (hn : Cc 69 [.i w, .i v, .i i, .i 0] [.i x, .i y, .i 1, .i 0]) : Cc 26 [.i w, .i v, .i i, .i 0] [.i 1, .i (x + 1), .i 0] := by
  refine q26 rfl ?_; unfold p26
  simp (disch := omega) only [↓qxs, ↓qxc, ↓qxa, ↓qxb]
  refine p_call hn ?_
  repeat (first | simp (disch := omega) only [↓qxs, ↓qxc, ↓qxa, ↓qxb] | refine p_call (cline10 (by omega)) ?_); (try simp only [List.cons.injEq, Lf.i.injEq, and_true, true_and]); (try omega)
theorem endsT10 {w v i x y : Int} (h : -2000 ≤ x ∧ x ≤ 2000 ∧ -2000 ≤ y ∧ y ≤ 2000) (hn : Cc 69 [.i w, .i v, .i i, .i 0] [.i x, .i y, .i 1, .i 0]) : Cc 25 [.i w, .i v, .i i, .i 0] [.i (2 * x + 2), .i (2 * y), .i (2 * x + 2), .i (2 * y + 2), .i 0] := by
  refine q25 rfl ?_; unfold p25
  simp (disch := omega) only [↓qxs, ↓qxc, ↓qxa, ↓qxb]
  refine p_call hn ?_
  repeat (first | simp (disch := omega) only [↓qxs, ↓qxc, ↓qxa, ↓qxb] | refine p_opt_r (by simp only [pickL, putL, offX, Int.reduceToNat, Int.reduceAdd, Int.reduceMul, Int.reduceMod, Int.reduceSub, Int.reduceNeg, Int.reduceDiv, Nat.reduceAdd, Nat.reduceMul, Nat.reduceLeDiff, List.length_cons, List.length_nil, ↓reduceIte, List.drop_succ_cons, List.drop_zero, List.take_succ_cons, List.take_zero, List.cons_append, List.nil_append, Nat.zero_add, Int.toNat_zero, Nat.zero_mul, Nat.add_zero, Int.zero_add]; exact rfl) ?_ | refine p_call (ccorn1 (by omega)) ?_); (try simp only [List.cons.injEq, Lf.i.injEq, and_true, true_and]); (try omega)
theorem lineT12 {w v i x y : Int} (h : -2000 ≤ x ∧ x ≤ 2000 ∧ -2000 ≤ y ∧ y ≤ 2000) (hn : Cc 69 [.i w, .i v, .i i, .i 2] [.i x, .i y, .i 1, .i 0]) : Cc 26 [.i w, .i v, .i i, .i 2] [.i 4, .i (y - x), .i 0] := by
  refine q26 rfl ?_; unfold p26
  simp (disch := omega) only [↓qxs, ↓qxc, ↓qxa, ↓qxb]
  refine p_call hn ?_
  repeat (first | simp (disch := omega) only [↓qxs, ↓qxc, ↓qxa, ↓qxb] | refine p_call (cline12 (by omega)) ?_); (try simp only [List.cons.injEq, Lf.i.injEq, and_true, true_and]); (try omega)
theorem endsT12 {w v i x y : Int} (h : -2000 ≤ x ∧ x ≤ 2000 ∧ -2000 ≤ y ∧ y ≤ 2000) (hn : Cc 69 [.i w, .i v, .i i, .i 2] [.i x, .i y, .i 1, .i 0]) : Cc 25 [.i w, .i v, .i i, .i 2] [.i (2 * x + 1), .i (2 * y + 1), .i (2 * x + 2), .i (2 * y + 2), .i 0] := by
  refine q25 rfl ?_; unfold p25
  simp (disch := omega) only [↓qxs, ↓qxc, ↓qxa, ↓qxb]
  refine p_call hn ?_
  repeat (first | simp (disch := omega) only [↓qxs, ↓qxc, ↓qxa, ↓qxb] | refine p_opt_r (by simp only [pickL, putL, offX, Int.reduceToNat, Int.reduceAdd, Int.reduceMul, Int.reduceMod, Int.reduceSub, Int.reduceNeg, Int.reduceDiv, Nat.reduceAdd, Nat.reduceMul, Nat.reduceLeDiff, List.length_cons, List.length_nil, ↓reduceIte, List.drop_succ_cons, List.drop_zero, List.take_succ_cons, List.take_zero, List.cons_append, List.nil_append, Nat.zero_add, Int.toNat_zero, Nat.zero_mul, Nat.add_zero, Int.zero_add]; exact rfl) ?_ | refine p_call (ccorn1 (by omega)) ?_); (try simp only [List.cons.injEq, Lf.i.injEq, and_true, true_and]); (try omega)
theorem lineT20 {w v i x y : Int} (h : -2000 ≤ x ∧ x ≤ 2000 ∧ -2000 ≤ y ∧ y ≤ 2000) (hn : Cc 69 [.i w, .i v, .i i, .i 0] [.i x, .i y, .i 2, .i 0]) : Cc 26 [.i w, .i v, .i i, .i 0] [.i 2, .i (y + 1), .i 0] := by
  refine q26 rfl ?_; unfold p26
  simp (disch := omega) only [↓qxs, ↓qxc, ↓qxa, ↓qxb]
  refine p_call hn ?_
  repeat (first | simp (disch := omega) only [↓qxs, ↓qxc, ↓qxa, ↓qxb] | refine p_call (cline20 (by omega)) ?_); (try simp only [List.cons.injEq, Lf.i.injEq, and_true, true_and]); (try omega)
theorem endsT20 {w v i x y : Int} (h : -2000 ≤ x ∧ x ≤ 2000 ∧ -2000 ≤ y ∧ y ≤ 2000) (hn : Cc 69 [.i w, .i v, .i i, .i 0] [.i x, .i y, .i 2, .i 0]) : Cc 25 [.i w, .i v, .i i, .i 0] [.i (2 * x), .i (2 * y + 2), .i (2 * x + 2), .i (2 * y + 2), .i 0] := by
  refine q25 rfl ?_; unfold p25
  simp (disch := omega) only [↓qxs, ↓qxc, ↓qxa, ↓qxb]
  refine p_call hn ?_
  repeat (first | simp (disch := omega) only [↓qxs, ↓qxc, ↓qxa, ↓qxb] | refine p_opt_r (by simp only [pickL, putL, offX, Int.reduceToNat, Int.reduceAdd, Int.reduceMul, Int.reduceMod, Int.reduceSub, Int.reduceNeg, Int.reduceDiv, Nat.reduceAdd, Nat.reduceMul, Nat.reduceLeDiff, List.length_cons, List.length_nil, ↓reduceIte, List.drop_succ_cons, List.drop_zero, List.take_succ_cons, List.take_zero, List.cons_append, List.nil_append, Nat.zero_add, Int.toNat_zero, Nat.zero_mul, Nat.add_zero, Int.zero_add]; exact rfl) ?_ | refine p_call (ccorn2 (by omega)) ?_); (try simp only [List.cons.injEq, Lf.i.injEq, and_true, true_and]); (try omega)
theorem lineT21 {w v i x y : Int} (h : -2000 ≤ x ∧ x ≤ 2000 ∧ -2000 ≤ y ∧ y ≤ 2000) (hn : Cc 69 [.i w, .i v, .i i, .i 1] [.i x, .i y, .i 2, .i 0]) : Cc 26 [.i w, .i v, .i i, .i 1] [.i 3, .i (x + y + 1), .i 0] := by
  refine q26 rfl ?_; unfold p26
  simp (disch := omega) only [↓qxs, ↓qxc, ↓qxa, ↓qxb]
  refine p_call hn ?_
  repeat (first | simp (disch := omega) only [↓qxs, ↓qxc, ↓qxa, ↓qxb] | refine p_call (cline21 (by omega)) ?_); (try simp only [List.cons.injEq, Lf.i.injEq, and_true, true_and]); (try omega)
theorem endsT21 {w v i x y : Int} (h : -2000 ≤ x ∧ x ≤ 2000 ∧ -2000 ≤ y ∧ y ≤ 2000) (hn : Cc 69 [.i w, .i v, .i i, .i 1] [.i x, .i y, .i 2, .i 0]) : Cc 25 [.i w, .i v, .i i, .i 1] [.i (2 * x), .i (2 * y + 2), .i (2 * x + 1), .i (2 * y + 1), .i 0] := by
  refine q25 rfl ?_; unfold p25
  simp (disch := omega) only [↓qxs, ↓qxc, ↓qxa, ↓qxb]
  refine p_call hn ?_
  repeat (first | simp (disch := omega) only [↓qxs, ↓qxc, ↓qxa, ↓qxb] | refine p_opt_r (by simp only [pickL, putL, offX, Int.reduceToNat, Int.reduceAdd, Int.reduceMul, Int.reduceMod, Int.reduceSub, Int.reduceNeg, Int.reduceDiv, Nat.reduceAdd, Nat.reduceMul, Nat.reduceLeDiff, List.length_cons, List.length_nil, ↓reduceIte, List.drop_succ_cons, List.drop_zero, List.take_succ_cons, List.take_zero, List.cons_append, List.nil_append, Nat.zero_add, Int.toNat_zero, Nat.zero_mul, Nat.add_zero, Int.zero_add]; exact rfl) ?_ | refine p_call (ccorn2 (by omega)) ?_); (try simp only [List.cons.injEq, Lf.i.injEq, and_true, true_and]); (try omega)
end Go.Am
/-
  SheetsNone: the loop over the units, and what comes behind it.
-/
set_option maxRecDepth 100000
set_option maxHeartbeats 4000000
namespace Go.Am
open Sx Go.Proofs

theorem hid3 {F : (List Lf → HL → Prop) → List Lf → HL → Prop} {s : List Lf → HL → Prop} {l : List Lf} {h : HL} (hf : F s l h) : @hid _ ⟨F⟩ s l h := hf

theorem loop5 {i e : Int} {s : Value} {g : HL} {n : Nat} {E : Bool → HL → Prop} {K : List Lf → HL → Prop} (hs : lenS s = some (.ofNat n)) (hb : n ≤ 1000000)
    (hL : ∀ j : Nat, j < n → ∃ p c d, idS 2 s (.ofNat j) = some p ∧ ldP 2 p (getH siteTab g) = some [.int .i64 c, .int .u8 d] ∧ unitAt s g j = some (c, d))
    (hE : ∀ t : Bool, (t = true ↔ ∃ j, j < n ∧ unitAt s g j = some (i, e)) → E t g) : pt5e P1 i e s g E K := by
  unfold pt5e
  refine loopH_rule (m := n) (fun m ls h => ∃ (t : Bool) (j : Nat), ls = [.b t, .i (.ofNat j)] ∧ h = g ∧ j ≤ n ∧ m = n - j ∧ (t = true ↔ ∃ k, k < j ∧ unitAt s g k = some (i, e))) ⟨false, 0, rfl, rfl, Nat.zero_le _, rfl, by simp⟩ ?_
  rintro m ls h ⟨t, j, rfl, rfl, hj, rfl, ht⟩ self hself
  refine hid3 ?_
  simp (disch := omega) only [↓qxs, ↓qxc, ↓qxa, ↓qxb]
  refine p_opt_r hs ?_
  by_cases hjn : j < n
  · have h1 : (Int.ofNat j) < (Int.ofNat n) := by show (j : Int) < n; omega
    rw [p_lss_t h1]
    simp (disch := omega) only [↓qxs, ↓qxc, ↓qxa, ↓qxb]
    obtain ⟨p, c, d, a1, a2, a3⟩ := hL j hjn
    have hj2 : -9223372036854775808 ≤ Int.ofNat j + 1 ∧ Int.ofNat j + 1 ≤ 9223372036854775807 := by
      show -9223372036854775808 ≤ (j : Int) + 1 ∧ (j : Int) + 1 ≤ 9223372036854775807
      omega
    have fin : ∀ t' : Bool, (t' = true ↔ ∃ k, k < j + 1 ∧ unitAt s h k = some (i, e)) → self [.b t', .i (Int.ofNat j + 1)] h := by
      intro t' ht'
      exact hself (n - (j + 1)) _ _ (by omega) ⟨t', j + 1, rfl, rfl, by omega, rfl, ht'⟩
    cases t with
    | true =>
      simp (disch := omega) only [↓qxs, ↓qxc, ↓qxa, ↓qxb]
      (try rw [p_add hj2.1 hj2.2])
      refine fin true ⟨fun _ => ?_, fun _ => rfl⟩
      obtain ⟨k, hk, hu⟩ := ht.1 rfl
      exact ⟨k, by omega, hu⟩
    | false =>
      simp (disch := omega) only [↓qxs, ↓qxc, ↓qxa, ↓qxb]
      refine p_opt_r a1 ?_
      refine p_peek_r a2 ?_
      have hno : ¬ ∃ k, k < j ∧ unitAt s h k = some (i, e) := fun hk => by
        have := ht.2 hk
        cases this
      by_cases hce : c = i ∧ d = e
      · obtain ⟨rfl, rfl⟩ := hce
        simp (disch := omega) only [↓qxs, ↓qxc, ↓qxa, ↓qxb]
        (try rw [p_add hj2.1 hj2.2])
        exact fin true ⟨fun _ => ⟨j, by omega, a3⟩, fun _ => rfl⟩
      · have hce' : ¬ (c = i ∧ d = e) := hce
        simp (disch := omega) only [↓qxs, ↓qxc, ↓qxa, ↓qxb]
        (try rw [p_add hj2.1 hj2.2])
        refine fin false ⟨fun h => (by cases h), fun ⟨k, hk, hu⟩ => ?_⟩
        rcases Nat.lt_or_ge k j with h | h
        · exact absurd ⟨k, h, hu⟩ hno
        · obtain rfl : k = j := by omega
          rw [a3] at hu
          cases hu
          exact absurd ⟨rfl, rfl⟩ hce
  · obtain rfl : j = n := by omega
    rw [p_lss_f (Int.le_refl _)]
    simp (disch := omega) only [↓qxs, ↓qxc, ↓qxa, ↓qxb]
    exact hE t ht

theorem rest5_f {i e w v : Int} {g : HL} (hn : Cc 69 [.i w, .i v, .i i, .i e] [.i 0, .i 0, .i 0, .i 7]) : pt5r P1 i e w v false g (fun rs _ => rs = [.b true]) := by
  unfold pt5r
  refine p_call (lineN hn) ?_
  simp (disch := omega) only [↓qxs, ↓qxc, ↓qxa, ↓qxb]
  refine p_call (endsN hn) ?_
  simp (disch := omega) only [↓qxs, ↓qxc, ↓qxa, ↓qxb]
  refine p_call lives5 ?_
  simp (disch := omega) only [↓qxs, ↓qxc, ↓qxa, ↓qxb]
theorem rest5_t {i e w v x y q k c a1 a2 a3 a4 : Int} {g g2 : HL} {s2 p : Value} (he : 0 ≤ e ∧ e ≤ 2)
    (hl : Cc 26 [.i w, .i v, .i i, .i e] [.i k, .i c, .i 0]) (hd : Cc 25 [.i w, .i v, .i i, .i e] [.i a1, .i a2, .i a3, .i a4, .i 0])
    (hc : CallL cc sgTab 30 [.i w, .i v] (absH siteTab g) [.v s2] (absH siteTab g2)) (hp : idS 3 s2 i = some p) (hv : ldP 3 p (getH siteTab g2) = some [.int .i64 x, .int .i64 y, .int .u8 q])
    (hr : Cc 31 [.i x, .i y, .i q, .i e] [.i k, .i c]) : pt5r P1 i e w v true g (fun rs _ => rs = [.b true]) := by
  unfold pt5r
  refine p_call hl ?_
  simp (disch := omega) only [↓qxs, ↓qxc, ↓qxa, ↓qxb]
  refine p_call hd ?_
  simp (disch := omega) only [↓qxs, ↓qxc, ↓qxa, ↓qxb]
  refine p_callH hc ?_
  simp (disch := omega) only [↓qxs, ↓qxc, ↓qxa, ↓qxb]
  refine p_opt_r hp ?_
  refine p_peek_r hv ?_
  simp (disch := omega) only [↓qxs, ↓qxc, ↓qxa, ↓qxb]
  refine p_call hr ?_
  simp (disch := omega) only [↓qxs, ↓qxc, ↓qxa, ↓qxb]
  refine p_call lives5 ?_
  simp (disch := omega) only [↓qxs, ↓qxc, ↓qxa, ↓qxb]
end Go.Am

/-
  CONTRACTS, BY PROGRAM: SheetsNone: units within the sheet.
-/
set_option maxRecDepth 100000
set_option maxHeartbeats 4000000
namespace Go.Am
open Sx Go.Proofs

theorem none100 {v k : Nat} (h : 1 ≤ v ∧ v ≤ 5 ∧ k < 4 * 1 * v ∧ k % 4 = 0) {s : Value} {g : HL} (hf : F5 1 v s g) : pt5e P1 (k : Int) 0 s g (fun t h => pt5r P1 (k : Int) 0 1 (v : Int) t h KT) KT := by
  obtain ⟨⟨n, h0, h1, h2, h3⟩, s2, g2, h4, h5⟩ := hf
  refine loop5 h1 (by omega) (fun j hj => by obtain ⟨p, c, d, a1, a2, a3, _⟩ := h2 j hj; exact ⟨p, c, d, a1, a2, a3⟩) (fun t ht => ?_)
  have ht' : t = true ↔ isU 1 v k 0 = true := ht.trans (h3 k 0 h.2.2.1 (by omega))
  obtain ⟨p, p1, p2⟩ := h5 k h.2.2.1
  rw [h.2.2.2] at p2
  have ex : (k : Int) / 4 % 1 = ((k / 4 % 1 : Nat) : Int) := by omega
  have ey : (k : Int) / 4 / 1 = ((k / 4 / 1 : Nat) : Int) := by omega
  have hu : isU 1 v k 0 = false := by unfold isU; rw [h.2.2.2]; rfl
  cases t with
  | true => rw [hu] at ht'; exact absurd (ht'.1 rfl) (by decide)
  | false =>
    by_cases hc : 4 ≤ (k : Int)
    · first | (exfalso; omega) | exact rest5_f (namx100 (by omega))
    · exact rest5_f (namo100 (by omega))
theorem none101 {v k : Nat} (h : 1 ≤ v ∧ v ≤ 5 ∧ k < 4 * 1 * v ∧ k % 4 = 0) {s : Value} {g : HL} (hf : F5 1 v s g) : pt5e P1 (k : Int) 1 s g (fun t h => pt5r P1 (k : Int) 1 1 (v : Int) t h KT) KT := by
  obtain ⟨⟨n, h0, h1, h2, h3⟩, s2, g2, h4, h5⟩ := hf
  refine loop5 h1 (by omega) (fun j hj => by obtain ⟨p, c, d, a1, a2, a3, _⟩ := h2 j hj; exact ⟨p, c, d, a1, a2, a3⟩) (fun t ht => ?_)
  have ht' : t = true ↔ isU 1 v k 1 = true := ht.trans (h3 k 1 h.2.2.1 (by omega))
  obtain ⟨p, p1, p2⟩ := h5 k h.2.2.1
  rw [h.2.2.2] at p2
  have ex : (k : Int) / 4 % 1 = ((k / 4 % 1 : Nat) : Int) := by omega
  have ey : (k : Int) / 4 / 1 = ((k / 4 / 1 : Nat) : Int) := by omega
  obtain rfl : t = true := ht'.2 (by unfold isU; rw [h.2.2.2]; rfl)
  have hm := nam101 (v := v) (i := k) (by omega)
  rw [ex, ey] at hm
  exact rest5_t (by omega) (lineT01 (by omega) hm) (endsT01 (by omega) hm) h4 p1 p2 (rline01 (x := ((k / 4 % 1 : Nat) : Int)) (y := ((k / 4 / 1 : Nat) : Int)) (by omega))
theorem none102 {v k : Nat} (h : 1 ≤ v ∧ v ≤ 5 ∧ k < 4 * 1 * v ∧ k % 4 = 0) {s : Value} {g : HL} (hf : F5 1 v s g) : pt5e P1 (k : Int) 2 s g (fun t h => pt5r P1 (k : Int) 2 1 (v : Int) t h KT) KT := by
  obtain ⟨⟨n, h0, h1, h2, h3⟩, s2, g2, h4, h5⟩ := hf
  refine loop5 h1 (by omega) (fun j hj => by obtain ⟨p, c, d, a1, a2, a3, _⟩ := h2 j hj; exact ⟨p, c, d, a1, a2, a3⟩) (fun t ht => ?_)
  have ht' : t = true ↔ isU 1 v k 2 = true := ht.trans (h3 k 2 h.2.2.1 (by omega))
  obtain ⟨p, p1, p2⟩ := h5 k h.2.2.1
  rw [h.2.2.2] at p2
  have ex : (k : Int) / 4 % 1 = ((k / 4 % 1 : Nat) : Int) := by omega
  have ey : (k : Int) / 4 / 1 = ((k / 4 / 1 : Nat) : Int) := by omega
  obtain rfl : t = true := ht'.2 (by unfold isU; rw [h.2.2.2]; rfl)
  have hm := nam102 (v := v) (i := k) (by omega)
  rw [ex, ey] at hm
  exact rest5_t (by omega) (lineT02 (by omega) hm) (endsT02 (by omega) hm) h4 p1 p2 (rline02 (x := ((k / 4 % 1 : Nat) : Int)) (y := ((k / 4 / 1 : Nat) : Int)) (by omega))
theorem none110 {v k : Nat} (h : 1 ≤ v ∧ v ≤ 5 ∧ k < 4 * 1 * v ∧ k % 4 = 1) {s : Value} {g : HL} (hf : F5 1 v s g) : pt5e P1 (k : Int) 0 s g (fun t h => pt5r P1 (k : Int) 0 1 (v : Int) t h KT) KT := by
  obtain ⟨⟨n, h0, h1, h2, h3⟩, s2, g2, h4, h5⟩ := hf
  refine loop5 h1 (by omega) (fun j hj => by obtain ⟨p, c, d, a1, a2, a3, _⟩ := h2 j hj; exact ⟨p, c, d, a1, a2, a3⟩) (fun t ht => ?_)
  have ht' : t = true ↔ isU 1 v k 0 = true := ht.trans (h3 k 0 h.2.2.1 (by omega))
  obtain ⟨p, p1, p2⟩ := h5 k h.2.2.1
  rw [h.2.2.2] at p2
  have ex : (k : Int) / 4 % 1 = ((k / 4 % 1 : Nat) : Int) := by omega
  have ey : (k : Int) / 4 / 1 = ((k / 4 / 1 : Nat) : Int) := by omega
  have hu : isU 1 v k 0 = true ↔ k / 4 % 1 + 1 < 1 := by unfold isU; rw [h.2.2.2]; show Nat.blt _ _ = true ↔ _; rw [Nat.blt_eq]
  by_cases hc : k / 4 % 1 + 1 < 1
  · obtain rfl : t = true := ht'.2 (hu.2 hc)
    exfalso; omega
  · cases t with
    | true => exact absurd (hu.1 (ht'.1 rfl)) hc
    | false => exact rest5_f (namo110 (by omega))
theorem none111 {v k : Nat} (h : 1 ≤ v ∧ v ≤ 5 ∧ k < 4 * 1 * v ∧ k % 4 = 1) {s : Value} {g : HL} (hf : F5 1 v s g) : pt5e P1 (k : Int) 1 s g (fun t h => pt5r P1 (k : Int) 1 1 (v : Int) t h KT) KT := by
  obtain ⟨⟨n, h0, h1, h2, h3⟩, s2, g2, h4, h5⟩ := hf
  refine loop5 h1 (by omega) (fun j hj => by obtain ⟨p, c, d, a1, a2, a3, _⟩ := h2 j hj; exact ⟨p, c, d, a1, a2, a3⟩) (fun t ht => ?_)
  have ht' : t = true ↔ isU 1 v k 1 = true := ht.trans (h3 k 1 h.2.2.1 (by omega))
  obtain ⟨p, p1, p2⟩ := h5 k h.2.2.1
  rw [h.2.2.2] at p2
  have ex : (k : Int) / 4 % 1 = ((k / 4 % 1 : Nat) : Int) := by omega
  have ey : (k : Int) / 4 / 1 = ((k / 4 / 1 : Nat) : Int) := by omega
  have hu : isU 1 v k 1 = false := by unfold isU; rw [h.2.2.2]; rfl
  cases t with
  | true => rw [hu] at ht'; exact absurd (ht'.1 rfl) (by decide)
  | false =>
    exact rest5_f (namx111 (by omega))
theorem none112 {v k : Nat} (h : 1 ≤ v ∧ v ≤ 5 ∧ k < 4 * 1 * v ∧ k % 4 = 1) {s : Value} {g : HL} (hf : F5 1 v s g) : pt5e P1 (k : Int) 2 s g (fun t h => pt5r P1 (k : Int) 2 1 (v : Int) t h KT) KT := by
  obtain ⟨⟨n, h0, h1, h2, h3⟩, s2, g2, h4, h5⟩ := hf
  refine loop5 h1 (by omega) (fun j hj => by obtain ⟨p, c, d, a1, a2, a3, _⟩ := h2 j hj; exact ⟨p, c, d, a1, a2, a3⟩) (fun t ht => ?_)
  have ht' : t = true ↔ isU 1 v k 2 = true := ht.trans (h3 k 2 h.2.2.1 (by omega))
  obtain ⟨p, p1, p2⟩ := h5 k h.2.2.1
  rw [h.2.2.2] at p2
  have ex : (k : Int) / 4 % 1 = ((k / 4 % 1 : Nat) : Int) := by omega
  have ey : (k : Int) / 4 / 1 = ((k / 4 / 1 : Nat) : Int) := by omega
  obtain rfl : t = true := ht'.2 (by unfold isU; rw [h.2.2.2]; rfl)
  have hm := nam112 (v := v) (i := k) (by omega)
  rw [ex, ey] at hm
  exact rest5_t (by omega) (lineT12 (by omega) hm) (endsT12 (by omega) hm) h4 p1 p2 (rline12 (x := ((k / 4 % 1 : Nat) : Int)) (y := ((k / 4 / 1 : Nat) : Int)) (by omega))
theorem none120 {v k : Nat} (h : 1 ≤ v ∧ v ≤ 5 ∧ k < 4 * 1 * v ∧ k % 4 = 2) {s : Value} {g : HL} (hf : F5 1 v s g) : pt5e P1 (k : Int) 0 s g (fun t h => pt5r P1 (k : Int) 0 1 (v : Int) t h KT) KT := by
  obtain ⟨⟨n, h0, h1, h2, h3⟩, s2, g2, h4, h5⟩ := hf
  refine loop5 h1 (by omega) (fun j hj => by obtain ⟨p, c, d, a1, a2, a3, _⟩ := h2 j hj; exact ⟨p, c, d, a1, a2, a3⟩) (fun t ht => ?_)
  have ht' : t = true ↔ isU 1 v k 0 = true := ht.trans (h3 k 0 h.2.2.1 (by omega))
  obtain ⟨p, p1, p2⟩ := h5 k h.2.2.1
  rw [h.2.2.2] at p2
  have ex : (k : Int) / 4 % 1 = ((k / 4 % 1 : Nat) : Int) := by omega
  have ey : (k : Int) / 4 / 1 = ((k / 4 / 1 : Nat) : Int) := by omega
  have hu : isU 1 v k 0 = true ↔ k / 4 / 1 + 1 < v := by unfold isU; rw [h.2.2.2]; show Nat.blt _ _ = true ↔ _; rw [Nat.blt_eq]
  by_cases hc : k / 4 / 1 + 1 < v
  · obtain rfl : t = true := ht'.2 (hu.2 hc)
    have hm := nam120 (v := v) (i := k) (by omega)
    rw [ex, ey] at hm
    exact rest5_t (by omega) (lineT20 (by omega) hm) (endsT20 (by omega) hm) h4 p1 p2 (rline20 (x := ((k / 4 % 1 : Nat) : Int)) (y := ((k / 4 / 1 : Nat) : Int)) (by omega))
  · cases t with
    | true => exact absurd (hu.1 (ht'.1 rfl)) hc
    | false => exact rest5_f (namo120 (by omega))
theorem none121 {v k : Nat} (h : 1 ≤ v ∧ v ≤ 5 ∧ k < 4 * 1 * v ∧ k % 4 = 2) {s : Value} {g : HL} (hf : F5 1 v s g) : pt5e P1 (k : Int) 1 s g (fun t h => pt5r P1 (k : Int) 1 1 (v : Int) t h KT) KT := by
  obtain ⟨⟨n, h0, h1, h2, h3⟩, s2, g2, h4, h5⟩ := hf
  refine loop5 h1 (by omega) (fun j hj => by obtain ⟨p, c, d, a1, a2, a3, _⟩ := h2 j hj; exact ⟨p, c, d, a1, a2, a3⟩) (fun t ht => ?_)
  have ht' : t = true ↔ isU 1 v k 1 = true := ht.trans (h3 k 1 h.2.2.1 (by omega))
  obtain ⟨p, p1, p2⟩ := h5 k h.2.2.1
  rw [h.2.2.2] at p2
  have ex : (k : Int) / 4 % 1 = ((k / 4 % 1 : Nat) : Int) := by omega
  have ey : (k : Int) / 4 / 1 = ((k / 4 / 1 : Nat) : Int) := by omega
  obtain rfl : t = true := ht'.2 (by unfold isU; rw [h.2.2.2]; rfl)
  have hm := nam121 (v := v) (i := k) (by omega)
  rw [ex, ey] at hm
  exact rest5_t (by omega) (lineT21 (by omega) hm) (endsT21 (by omega) hm) h4 p1 p2 (rline21 (x := ((k / 4 % 1 : Nat) : Int)) (y := ((k / 4 / 1 : Nat) : Int)) (by omega))
theorem none122 {v k : Nat} (h : 1 ≤ v ∧ v ≤ 5 ∧ k < 4 * 1 * v ∧ k % 4 = 2) {s : Value} {g : HL} (hf : F5 1 v s g) : pt5e P1 (k : Int) 2 s g (fun t h => pt5r P1 (k : Int) 2 1 (v : Int) t h KT) KT := by
  obtain ⟨⟨n, h0, h1, h2, h3⟩, s2, g2, h4, h5⟩ := hf
  refine loop5 h1 (by omega) (fun j hj => by obtain ⟨p, c, d, a1, a2, a3, _⟩ := h2 j hj; exact ⟨p, c, d, a1, a2, a3⟩) (fun t ht => ?_)
  have ht' : t = true ↔ isU 1 v k 2 = true := ht.trans (h3 k 2 h.2.2.1 (by omega))
  obtain ⟨p, p1, p2⟩ := h5 k h.2.2.1
  rw [h.2.2.2] at p2
  have ex : (k : Int) / 4 % 1 = ((k / 4 % 1 : Nat) : Int) := by omega
  have ey : (k : Int) / 4 / 1 = ((k / 4 / 1 : Nat) : Int) := by omega
  have hu : isU 1 v k 2 = false := by unfold isU; rw [h.2.2.2]; rfl
  cases t with
  | true => rw [hu] at ht'; exact absurd (ht'.1 rfl) (by decide)
  | false =>
    exact rest5_f (namx122 (by omega))
theorem none130 {v k : Nat} (h : 1 ≤ v ∧ v ≤ 5 ∧ k < 4 * 1 * v ∧ k % 4 = 3) {s : Value} {g : HL} (hf : F5 1 v s g) : pt5e P1 (k : Int) 0 s g (fun t h => pt5r P1 (k : Int) 0 1 (v : Int) t h KT) KT := by
  obtain ⟨⟨n, h0, h1, h2, h3⟩, s2, g2, h4, h5⟩ := hf
  refine loop5 h1 (by omega) (fun j hj => by obtain ⟨p, c, d, a1, a2, a3, _⟩ := h2 j hj; exact ⟨p, c, d, a1, a2, a3⟩) (fun t ht => ?_)
  have ht' : t = true ↔ isU 1 v k 0 = true := ht.trans (h3 k 0 h.2.2.1 (by omega))
  obtain ⟨p, p1, p2⟩ := h5 k h.2.2.1
  rw [h.2.2.2] at p2
  have ex : (k : Int) / 4 % 1 = ((k / 4 % 1 : Nat) : Int) := by omega
  have ey : (k : Int) / 4 / 1 = ((k / 4 / 1 : Nat) : Int) := by omega
  have hu : isU 1 v k 0 = false := by unfold isU; rw [h.2.2.2]; rfl
  cases t with
  | true => rw [hu] at ht'; exact absurd (ht'.1 rfl) (by decide)
  | false =>
    by_cases hc : 1 ≤ (k : Int) / 4 % 1
    · first | (exfalso; omega) | exact rest5_f (namx130 (by omega))
    · exact rest5_f (namo130 (by omega))
theorem none131 {v k : Nat} (h : 1 ≤ v ∧ v ≤ 5 ∧ k < 4 * 1 * v ∧ k % 4 = 3) {s : Value} {g : HL} (hf : F5 1 v s g) : pt5e P1 (k : Int) 1 s g (fun t h => pt5r P1 (k : Int) 1 1 (v : Int) t h KT) KT := by
  obtain ⟨⟨n, h0, h1, h2, h3⟩, s2, g2, h4, h5⟩ := hf
  refine loop5 h1 (by omega) (fun j hj => by obtain ⟨p, c, d, a1, a2, a3, _⟩ := h2 j hj; exact ⟨p, c, d, a1, a2, a3⟩) (fun t ht => ?_)
  have ht' : t = true ↔ isU 1 v k 1 = true := ht.trans (h3 k 1 h.2.2.1 (by omega))
  obtain ⟨p, p1, p2⟩ := h5 k h.2.2.1
  rw [h.2.2.2] at p2
  have ex : (k : Int) / 4 % 1 = ((k / 4 % 1 : Nat) : Int) := by omega
  have ey : (k : Int) / 4 / 1 = ((k / 4 / 1 : Nat) : Int) := by omega
  have hu : isU 1 v k 1 = false := by unfold isU; rw [h.2.2.2]; rfl
  cases t with
  | true => rw [hu] at ht'; exact absurd (ht'.1 rfl) (by decide)
  | false =>
    exact rest5_f (namx131 (by omega))
theorem none132 {v k : Nat} (h : 1 ≤ v ∧ v ≤ 5 ∧ k < 4 * 1 * v ∧ k % 4 = 3) {s : Value} {g : HL} (hf : F5 1 v s g) : pt5e P1 (k : Int) 2 s g (fun t h => pt5r P1 (k : Int) 2 1 (v : Int) t h KT) KT := by
  obtain ⟨⟨n, h0, h1, h2, h3⟩, s2, g2, h4, h5⟩ := hf
  refine loop5 h1 (by omega) (fun j hj => by obtain ⟨p, c, d, a1, a2, a3, _⟩ := h2 j hj; exact ⟨p, c, d, a1, a2, a3⟩) (fun t ht => ?_)
  have ht' : t = true ↔ isU 1 v k 2 = true := ht.trans (h3 k 2 h.2.2.1 (by omega))
  obtain ⟨p, p1, p2⟩ := h5 k h.2.2.1
  rw [h.2.2.2] at p2
  have ex : (k : Int) / 4 % 1 = ((k / 4 % 1 : Nat) : Int) := by omega
  have ey : (k : Int) / 4 / 1 = ((k / 4 / 1 : Nat) : Int) := by omega
  have hu : isU 1 v k 2 = false := by unfold isU; rw [h.2.2.2]; rfl
  cases t with
  | true => rw [hu] at ht'; exact absurd (ht'.1 rfl) (by decide)
  | false =>
    exact rest5_f (namx132 (by omega))
theorem none200 {v k : Nat} (h : 1 ≤ v ∧ v ≤ 5 ∧ k < 4 * 2 * v ∧ k % 4 = 0) {s : Value} {g : HL} (hf : F5 2 v s g) : pt5e P1 (k : Int) 0 s g (fun t h => pt5r P1 (k : Int) 0 2 (v : Int) t h KT) KT := by
  obtain ⟨⟨n, h0, h1, h2, h3⟩, s2, g2, h4, h5⟩ := hf
  refine loop5 h1 (by omega) (fun j hj => by obtain ⟨p, c, d, a1, a2, a3, _⟩ := h2 j hj; exact ⟨p, c, d, a1, a2, a3⟩) (fun t ht => ?_)
  have ht' : t = true ↔ isU 2 v k 0 = true := ht.trans (h3 k 0 h.2.2.1 (by omega))
  obtain ⟨p, p1, p2⟩ := h5 k h.2.2.1
  rw [h.2.2.2] at p2
  have ex : (k : Int) / 4 % 2 = ((k / 4 % 2 : Nat) : Int) := by omega
  have ey : (k : Int) / 4 / 2 = ((k / 4 / 2 : Nat) : Int) := by omega
  have hu : isU 2 v k 0 = false := by unfold isU; rw [h.2.2.2]; rfl
  cases t with
  | true => rw [hu] at ht'; exact absurd (ht'.1 rfl) (by decide)
  | false =>
    by_cases hc : 8 ≤ (k : Int)
    · first | (exfalso; omega) | exact rest5_f (namx200 (by omega))
    · exact rest5_f (namo200 (by omega))
theorem none201 {v k : Nat} (h : 1 ≤ v ∧ v ≤ 5 ∧ k < 4 * 2 * v ∧ k % 4 = 0) {s : Value} {g : HL} (hf : F5 2 v s g) : pt5e P1 (k : Int) 1 s g (fun t h => pt5r P1 (k : Int) 1 2 (v : Int) t h KT) KT := by
  obtain ⟨⟨n, h0, h1, h2, h3⟩, s2, g2, h4, h5⟩ := hf
  refine loop5 h1 (by omega) (fun j hj => by obtain ⟨p, c, d, a1, a2, a3, _⟩ := h2 j hj; exact ⟨p, c, d, a1, a2, a3⟩) (fun t ht => ?_)
  have ht' : t = true ↔ isU 2 v k 1 = true := ht.trans (h3 k 1 h.2.2.1 (by omega))
  obtain ⟨p, p1, p2⟩ := h5 k h.2.2.1
  rw [h.2.2.2] at p2
  have ex : (k : Int) / 4 % 2 = ((k / 4 % 2 : Nat) : Int) := by omega
  have ey : (k : Int) / 4 / 2 = ((k / 4 / 2 : Nat) : Int) := by omega
  obtain rfl : t = true := ht'.2 (by unfold isU; rw [h.2.2.2]; rfl)
  have hm := nam201 (v := v) (i := k) (by omega)
  rw [ex, ey] at hm
  exact rest5_t (by omega) (lineT01 (by omega) hm) (endsT01 (by omega) hm) h4 p1 p2 (rline01 (x := ((k / 4 % 2 : Nat) : Int)) (y := ((k / 4 / 2 : Nat) : Int)) (by omega))
theorem none202 {v k : Nat} (h : 1 ≤ v ∧ v ≤ 5 ∧ k < 4 * 2 * v ∧ k % 4 = 0) {s : Value} {g : HL} (hf : F5 2 v s g) : pt5e P1 (k : Int) 2 s g (fun t h => pt5r P1 (k : Int) 2 2 (v : Int) t h KT) KT := by
  obtain ⟨⟨n, h0, h1, h2, h3⟩, s2, g2, h4, h5⟩ := hf
  refine loop5 h1 (by omega) (fun j hj => by obtain ⟨p, c, d, a1, a2, a3, _⟩ := h2 j hj; exact ⟨p, c, d, a1, a2, a3⟩) (fun t ht => ?_)
  have ht' : t = true ↔ isU 2 v k 2 = true := ht.trans (h3 k 2 h.2.2.1 (by omega))
  obtain ⟨p, p1, p2⟩ := h5 k h.2.2.1
  rw [h.2.2.2] at p2
  have ex : (k : Int) / 4 % 2 = ((k / 4 % 2 : Nat) : Int) := by omega
  have ey : (k : Int) / 4 / 2 = ((k / 4 / 2 : Nat) : Int) := by omega
  obtain rfl : t = true := ht'.2 (by unfold isU; rw [h.2.2.2]; rfl)
  have hm := nam202 (v := v) (i := k) (by omega)
  rw [ex, ey] at hm
  exact rest5_t (by omega) (lineT02 (by omega) hm) (endsT02 (by omega) hm) h4 p1 p2 (rline02 (x := ((k / 4 % 2 : Nat) : Int)) (y := ((k / 4 / 2 : Nat) : Int)) (by omega))
theorem none210 {v k : Nat} (h : 1 ≤ v ∧ v ≤ 5 ∧ k < 4 * 2 * v ∧ k % 4 = 1) {s : Value} {g : HL} (hf : F5 2 v s g) : pt5e P1 (k : Int) 0 s g (fun t h => pt5r P1 (k : Int) 0 2 (v : Int) t h KT) KT := by
  obtain ⟨⟨n, h0, h1, h2, h3⟩, s2, g2, h4, h5⟩ := hf
  refine loop5 h1 (by omega) (fun j hj => by obtain ⟨p, c, d, a1, a2, a3, _⟩ := h2 j hj; exact ⟨p, c, d, a1, a2, a3⟩) (fun t ht => ?_)
  have ht' : t = true ↔ isU 2 v k 0 = true := ht.trans (h3 k 0 h.2.2.1 (by omega))
  obtain ⟨p, p1, p2⟩ := h5 k h.2.2.1
  rw [h.2.2.2] at p2
  have ex : (k : Int) / 4 % 2 = ((k / 4 % 2 : Nat) : Int) := by omega
  have ey : (k : Int) / 4 / 2 = ((k / 4 / 2 : Nat) : Int) := by omega
  have hu : isU 2 v k 0 = true ↔ k / 4 % 2 + 1 < 2 := by unfold isU; rw [h.2.2.2]; show Nat.blt _ _ = true ↔ _; rw [Nat.blt_eq]
  by_cases hc : k / 4 % 2 + 1 < 2
  · obtain rfl : t = true := ht'.2 (hu.2 hc)
    have hm := nam210 (v := v) (i := k) (by omega)
    rw [ex, ey] at hm
    exact rest5_t (by omega) (lineT10 (by omega) hm) (endsT10 (by omega) hm) h4 p1 p2 (rline10 (x := ((k / 4 % 2 : Nat) : Int)) (y := ((k / 4 / 2 : Nat) : Int)) (by omega))
  · cases t with
    | true => exact absurd (hu.1 (ht'.1 rfl)) hc
    | false => exact rest5_f (namo210 (by omega))
theorem none211 {v k : Nat} (h : 1 ≤ v ∧ v ≤ 5 ∧ k < 4 * 2 * v ∧ k % 4 = 1) {s : Value} {g : HL} (hf : F5 2 v s g) : pt5e P1 (k : Int) 1 s g (fun t h => pt5r P1 (k : Int) 1 2 (v : Int) t h KT) KT := by
  obtain ⟨⟨n, h0, h1, h2, h3⟩, s2, g2, h4, h5⟩ := hf
  refine loop5 h1 (by omega) (fun j hj => by obtain ⟨p, c, d, a1, a2, a3, _⟩ := h2 j hj; exact ⟨p, c, d, a1, a2, a3⟩) (fun t ht => ?_)
  have ht' : t = true ↔ isU 2 v k 1 = true := ht.trans (h3 k 1 h.2.2.1 (by omega))
  obtain ⟨p, p1, p2⟩ := h5 k h.2.2.1
  rw [h.2.2.2] at p2
  have ex : (k : Int) / 4 % 2 = ((k / 4 % 2 : Nat) : Int) := by omega
  have ey : (k : Int) / 4 / 2 = ((k / 4 / 2 : Nat) : Int) := by omega
  have hu : isU 2 v k 1 = false := by unfold isU; rw [h.2.2.2]; rfl
  cases t with
  | true => rw [hu] at ht'; exact absurd (ht'.1 rfl) (by decide)
  | false =>
    exact rest5_f (namx211 (by omega))
theorem none212 {v k : Nat} (h : 1 ≤ v ∧ v ≤ 5 ∧ k < 4 * 2 * v ∧ k % 4 = 1) {s : Value} {g : HL} (hf : F5 2 v s g) : pt5e P1 (k : Int) 2 s g (fun t h => pt5r P1 (k : Int) 2 2 (v : Int) t h KT) KT := by
  obtain ⟨⟨n, h0, h1, h2, h3⟩, s2, g2, h4, h5⟩ := hf
  refine loop5 h1 (by omega) (fun j hj => by obtain ⟨p, c, d, a1, a2, a3, _⟩ := h2 j hj; exact ⟨p, c, d, a1, a2, a3⟩) (fun t ht => ?_)
  have ht' : t = true ↔ isU 2 v k 2 = true := ht.trans (h3 k 2 h.2.2.1 (by omega))
  obtain ⟨p, p1, p2⟩ := h5 k h.2.2.1
  rw [h.2.2.2] at p2
  have ex : (k : Int) / 4 % 2 = ((k / 4 % 2 : Nat) : Int) := by omega
  have ey : (k : Int) / 4 / 2 = ((k / 4 / 2 : Nat) : Int) := by omega
  obtain rfl : t = true := ht'.2 (by unfold isU; rw [h.2.2.2]; rfl)
  have hm := nam212 (v := v) (i := k) (by omega)
  rw [ex, ey] at hm
  exact rest5_t (by omega) (lineT12 (by omega) hm) (endsT12 (by omega) hm) h4 p1 p2 (rline12 (x := ((k / 4 % 2 : Nat) : Int)) (y := ((k / 4 / 2 : Nat) : Int)) (by omega))
theorem none220 {v k : Nat} (h : 1 ≤ v ∧ v ≤ 5 ∧ k < 4 * 2 * v ∧ k % 4 = 2) {s : Value} {g : HL} (hf : F5 2 v s g) : pt5e P1 (k : Int) 0 s g (fun t h => pt5r P1 (k : Int) 0 2 (v : Int) t h KT) KT := by
  obtain ⟨⟨n, h0, h1, h2, h3⟩, s2, g2, h4, h5⟩ := hf
  refine loop5 h1 (by omega) (fun j hj => by obtain ⟨p, c, d, a1, a2, a3, _⟩ := h2 j hj; exact ⟨p, c, d, a1, a2, a3⟩) (fun t ht => ?_)
  have ht' : t = true ↔ isU 2 v k 0 = true := ht.trans (h3 k 0 h.2.2.1 (by omega))
  obtain ⟨p, p1, p2⟩ := h5 k h.2.2.1
  rw [h.2.2.2] at p2
  have ex : (k : Int) / 4 % 2 = ((k / 4 % 2 : Nat) : Int) := by omega
  have ey : (k : Int) / 4 / 2 = ((k / 4 / 2 : Nat) : Int) := by omega
  have hu : isU 2 v k 0 = true ↔ k / 4 / 2 + 1 < v := by unfold isU; rw [h.2.2.2]; show Nat.blt _ _ = true ↔ _; rw [Nat.blt_eq]
  by_cases hc : k / 4 / 2 + 1 < v
  · obtain rfl : t = true := ht'.2 (hu.2 hc)
    have hm := nam220 (v := v) (i := k) (by omega)
    rw [ex, ey] at hm
    exact rest5_t (by omega) (lineT20 (by omega) hm) (endsT20 (by omega) hm) h4 p1 p2 (rline20 (x := ((k / 4 % 2 : Nat) : Int)) (y := ((k / 4 / 2 : Nat) : Int)) (by omega))
  · cases t with
    | true => exact absurd (hu.1 (ht'.1 rfl)) hc
    | false => exact rest5_f (namo220 (by omega))
theorem none221 {v k : Nat} (h : 1 ≤ v ∧ v ≤ 5 ∧ k < 4 * 2 * v ∧ k % 4 = 2) {s : Value} {g : HL} (hf : F5 2 v s g) : pt5e P1 (k : Int) 1 s g (fun t h => pt5r P1 (k : Int) 1 2 (v : Int) t h KT) KT := by
  obtain ⟨⟨n, h0, h1, h2, h3⟩, s2, g2, h4, h5⟩ := hf
  refine loop5 h1 (by omega) (fun j hj => by obtain ⟨p, c, d, a1, a2, a3, _⟩ := h2 j hj; exact ⟨p, c, d, a1, a2, a3⟩) (fun t ht => ?_)
  have ht' : t = true ↔ isU 2 v k 1 = true := ht.trans (h3 k 1 h.2.2.1 (by omega))
  obtain ⟨p, p1, p2⟩ := h5 k h.2.2.1
  rw [h.2.2.2] at p2
  have ex : (k : Int) / 4 % 2 = ((k / 4 % 2 : Nat) : Int) := by omega
  have ey : (k : Int) / 4 / 2 = ((k / 4 / 2 : Nat) : Int) := by omega
  obtain rfl : t = true := ht'.2 (by unfold isU; rw [h.2.2.2]; rfl)
  have hm := nam221 (v := v) (i := k) (by omega)
  rw [ex, ey] at hm
  exact rest5_t (by omega) (lineT21 (by omega) hm) (endsT21 (by omega) hm) h4 p1 p2 (rline21 (x := ((k / 4 % 2 : Nat) : Int)) (y := ((k / 4 / 2 : Nat) : Int)) (by omega))
theorem none222 {v k : Nat} (h : 1 ≤ v ∧ v ≤ 5 ∧ k < 4 * 2 * v ∧ k % 4 = 2) {s : Value} {g : HL} (hf : F5 2 v s g) : pt5e P1 (k : Int) 2 s g (fun t h => pt5r P1 (k : Int) 2 2 (v : Int) t h KT) KT := by
  obtain ⟨⟨n, h0, h1, h2, h3⟩, s2, g2, h4, h5⟩ := hf
  refine loop5 h1 (by omega) (fun j hj => by obtain ⟨p, c, d, a1, a2, a3, _⟩ := h2 j hj; exact ⟨p, c, d, a1, a2, a3⟩) (fun t ht => ?_)
  have ht' : t = true ↔ isU 2 v k 2 = true := ht.trans (h3 k 2 h.2.2.1 (by omega))
  obtain ⟨p, p1, p2⟩ := h5 k h.2.2.1
  rw [h.2.2.2] at p2
  have ex : (k : Int) / 4 % 2 = ((k / 4 % 2 : Nat) : Int) := by omega
  have ey : (k : Int) / 4 / 2 = ((k / 4 / 2 : Nat) : Int) := by omega
  have hu : isU 2 v k 2 = false := by unfold isU; rw [h.2.2.2]; rfl
  cases t with
  | true => rw [hu] at ht'; exact absurd (ht'.1 rfl) (by decide)
  | false =>
    exact rest5_f (namx222 (by omega))
theorem none230 {v k : Nat} (h : 1 ≤ v ∧ v ≤ 5 ∧ k < 4 * 2 * v ∧ k % 4 = 3) {s : Value} {g : HL} (hf : F5 2 v s g) : pt5e P1 (k : Int) 0 s g (fun t h => pt5r P1 (k : Int) 0 2 (v : Int) t h KT) KT := by
  obtain ⟨⟨n, h0, h1, h2, h3⟩, s2, g2, h4, h5⟩ := hf
  refine loop5 h1 (by omega) (fun j hj => by obtain ⟨p, c, d, a1, a2, a3, _⟩ := h2 j hj; exact ⟨p, c, d, a1, a2, a3⟩) (fun t ht => ?_)
  have ht' : t = true ↔ isU 2 v k 0 = true := ht.trans (h3 k 0 h.2.2.1 (by omega))
  obtain ⟨p, p1, p2⟩ := h5 k h.2.2.1
  rw [h.2.2.2] at p2
  have ex : (k : Int) / 4 % 2 = ((k / 4 % 2 : Nat) : Int) := by omega
  have ey : (k : Int) / 4 / 2 = ((k / 4 / 2 : Nat) : Int) := by omega
  have hu : isU 2 v k 0 = false := by unfold isU; rw [h.2.2.2]; rfl
  cases t with
  | true => rw [hu] at ht'; exact absurd (ht'.1 rfl) (by decide)
  | false =>
    by_cases hc : 1 ≤ (k : Int) / 4 % 2
    · first | (exfalso; omega) | exact rest5_f (namx230 (by omega))
    · exact rest5_f (namo230 (by omega))
theorem none231 {v k : Nat} (h : 1 ≤ v ∧ v ≤ 5 ∧ k < 4 * 2 * v ∧ k % 4 = 3) {s : Value} {g : HL} (hf : F5 2 v s g) : pt5e P1 (k : Int) 1 s g (fun t h => pt5r P1 (k : Int) 1 2 (v : Int) t h KT) KT := by
  obtain ⟨⟨n, h0, h1, h2, h3⟩, s2, g2, h4, h5⟩ := hf
  refine loop5 h1 (by omega) (fun j hj => by obtain ⟨p, c, d, a1, a2, a3, _⟩ := h2 j hj; exact ⟨p, c, d, a1, a2, a3⟩) (fun t ht => ?_)
  have ht' : t = true ↔ isU 2 v k 1 = true := ht.trans (h3 k 1 h.2.2.1 (by omega))
  obtain ⟨p, p1, p2⟩ := h5 k h.2.2.1
  rw [h.2.2.2] at p2
  have ex : (k : Int) / 4 % 2 = ((k / 4 % 2 : Nat) : Int) := by omega
  have ey : (k : Int) / 4 / 2 = ((k / 4 / 2 : Nat) : Int) := by omega
  have hu : isU 2 v k 1 = false := by unfold isU; rw [h.2.2.2]; rfl
  cases t with
  | true => rw [hu] at ht'; exact absurd (ht'.1 rfl) (by decide)
  | false =>
    exact rest5_f (namx231 (by omega))
theorem none232 {v k : Nat} (h : 1 ≤ v ∧ v ≤ 5 ∧ k < 4 * 2 * v ∧ k % 4 = 3) {s : Value} {g : HL} (hf : F5 2 v s g) : pt5e P1 (k : Int) 2 s g (fun t h => pt5r P1 (k : Int) 2 2 (v : Int) t h KT) KT := by
  obtain ⟨⟨n, h0, h1, h2, h3⟩, s2, g2, h4, h5⟩ := hf
  refine loop5 h1 (by omega) (fun j hj => by obtain ⟨p, c, d, a1, a2, a3, _⟩ := h2 j hj; exact ⟨p, c, d, a1, a2, a3⟩) (fun t ht => ?_)
  have ht' : t = true ↔ isU 2 v k 2 = true := ht.trans (h3 k 2 h.2.2.1 (by omega))
  obtain ⟨p, p1, p2⟩ := h5 k h.2.2.1
  rw [h.2.2.2] at p2
  have ex : (k : Int) / 4 % 2 = ((k / 4 % 2 : Nat) : Int) := by omega
  have ey : (k : Int) / 4 / 2 = ((k / 4 / 2 : Nat) : Int) := by omega
  have hu : isU 2 v k 2 = false := by unfold isU; rw [h.2.2.2]; rfl
  cases t with
  | true => rw [hu] at ht'; exact absurd (ht'.1 rfl) (by decide)
  | false =>
    exact rest5_f (namx232 (by omega))
theorem none300 {v k : Nat} (h : 1 ≤ v ∧ v ≤ 5 ∧ k < 4 * 3 * v ∧ k % 4 = 0) {s : Value} {g : HL} (hf : F5 3 v s g) : pt5e P1 (k : Int) 0 s g (fun t h => pt5r P1 (k : Int) 0 3 (v : Int) t h KT) KT := by
  obtain ⟨⟨n, h0, h1, h2, h3⟩, s2, g2, h4, h5⟩ := hf
  refine loop5 h1 (by omega) (fun j hj => by obtain ⟨p, c, d, a1, a2, a3, _⟩ := h2 j hj; exact ⟨p, c, d, a1, a2, a3⟩) (fun t ht => ?_)
  have ht' : t = true ↔ isU 3 v k 0 = true := ht.trans (h3 k 0 h.2.2.1 (by omega))
  obtain ⟨p, p1, p2⟩ := h5 k h.2.2.1
  rw [h.2.2.2] at p2
  have ex : (k : Int) / 4 % 3 = ((k / 4 % 3 : Nat) : Int) := by omega
  have ey : (k : Int) / 4 / 3 = ((k / 4 / 3 : Nat) : Int) := by omega
  have hu : isU 3 v k 0 = false := by unfold isU; rw [h.2.2.2]; rfl
  cases t with
  | true => rw [hu] at ht'; exact absurd (ht'.1 rfl) (by decide)
  | false =>
    by_cases hc : 12 ≤ (k : Int)
    · first | (exfalso; omega) | exact rest5_f (namx300 (by omega))
    · exact rest5_f (namo300 (by omega))
theorem none301 {v k : Nat} (h : 1 ≤ v ∧ v ≤ 5 ∧ k < 4 * 3 * v ∧ k % 4 = 0) {s : Value} {g : HL} (hf : F5 3 v s g) : pt5e P1 (k : Int) 1 s g (fun t h => pt5r P1 (k : Int) 1 3 (v : Int) t h KT) KT := by
  obtain ⟨⟨n, h0, h1, h2, h3⟩, s2, g2, h4, h5⟩ := hf
  refine loop5 h1 (by omega) (fun j hj => by obtain ⟨p, c, d, a1, a2, a3, _⟩ := h2 j hj; exact ⟨p, c, d, a1, a2, a3⟩) (fun t ht => ?_)
  have ht' : t = true ↔ isU 3 v k 1 = true := ht.trans (h3 k 1 h.2.2.1 (by omega))
  obtain ⟨p, p1, p2⟩ := h5 k h.2.2.1
  rw [h.2.2.2] at p2
  have ex : (k : Int) / 4 % 3 = ((k / 4 % 3 : Nat) : Int) := by omega
  have ey : (k : Int) / 4 / 3 = ((k / 4 / 3 : Nat) : Int) := by omega
  obtain rfl : t = true := ht'.2 (by unfold isU; rw [h.2.2.2]; rfl)
  have hm := nam301 (v := v) (i := k) (by omega)
  rw [ex, ey] at hm
  exact rest5_t (by omega) (lineT01 (by omega) hm) (endsT01 (by omega) hm) h4 p1 p2 (rline01 (x := ((k / 4 % 3 : Nat) : Int)) (y := ((k / 4 / 3 : Nat) : Int)) (by omega))
theorem none302 {v k : Nat} (h : 1 ≤ v ∧ v ≤ 5 ∧ k < 4 * 3 * v ∧ k % 4 = 0) {s : Value} {g : HL} (hf : F5 3 v s g) : pt5e P1 (k : Int) 2 s g (fun t h => pt5r P1 (k : Int) 2 3 (v : Int) t h KT) KT := by
  obtain ⟨⟨n, h0, h1, h2, h3⟩, s2, g2, h4, h5⟩ := hf
  refine loop5 h1 (by omega) (fun j hj => by obtain ⟨p, c, d, a1, a2, a3, _⟩ := h2 j hj; exact ⟨p, c, d, a1, a2, a3⟩) (fun t ht => ?_)
  have ht' : t = true ↔ isU 3 v k 2 = true := ht.trans (h3 k 2 h.2.2.1 (by omega))
  obtain ⟨p, p1, p2⟩ := h5 k h.2.2.1
  rw [h.2.2.2] at p2
  have ex : (k : Int) / 4 % 3 = ((k / 4 % 3 : Nat) : Int) := by omega
  have ey : (k : Int) / 4 / 3 = ((k / 4 / 3 : Nat) : Int) := by omega
  obtain rfl : t = true := ht'.2 (by unfold isU; rw [h.2.2.2]; rfl)
  have hm := nam302 (v := v) (i := k) (by omega)
  rw [ex, ey] at hm
  exact rest5_t (by omega) (lineT02 (by omega) hm) (endsT02 (by omega) hm) h4 p1 p2 (rline02 (x := ((k / 4 % 3 : Nat) : Int)) (y := ((k / 4 / 3 : Nat) : Int)) (by omega))
theorem none310 {v k : Nat} (h : 1 ≤ v ∧ v ≤ 5 ∧ k < 4 * 3 * v ∧ k % 4 = 1) {s : Value} {g : HL} (hf : F5 3 v s g) : pt5e P1 (k : Int) 0 s g (fun t h => pt5r P1 (k : Int) 0 3 (v : Int) t h KT) KT := by
  obtain ⟨⟨n, h0, h1, h2, h3⟩, s2, g2, h4, h5⟩ := hf
  refine loop5 h1 (by omega) (fun j hj => by obtain ⟨p, c, d, a1, a2, a3, _⟩ := h2 j hj; exact ⟨p, c, d, a1, a2, a3⟩) (fun t ht => ?_)
  have ht' : t = true ↔ isU 3 v k 0 = true := ht.trans (h3 k 0 h.2.2.1 (by omega))
  obtain ⟨p, p1, p2⟩ := h5 k h.2.2.1
  rw [h.2.2.2] at p2
  have ex : (k : Int) / 4 % 3 = ((k / 4 % 3 : Nat) : Int) := by omega
  have ey : (k : Int) / 4 / 3 = ((k / 4 / 3 : Nat) : Int) := by omega
  have hu : isU 3 v k 0 = true ↔ k / 4 % 3 + 1 < 3 := by unfold isU; rw [h.2.2.2]; show Nat.blt _ _ = true ↔ _; rw [Nat.blt_eq]
  by_cases hc : k / 4 % 3 + 1 < 3
  · obtain rfl : t = true := ht'.2 (hu.2 hc)
    have hm := nam310 (v := v) (i := k) (by omega)
    rw [ex, ey] at hm
    exact rest5_t (by omega) (lineT10 (by omega) hm) (endsT10 (by omega) hm) h4 p1 p2 (rline10 (x := ((k / 4 % 3 : Nat) : Int)) (y := ((k / 4 / 3 : Nat) : Int)) (by omega))
  · cases t with
    | true => exact absurd (hu.1 (ht'.1 rfl)) hc
    | false => exact rest5_f (namo310 (by omega))
theorem none311 {v k : Nat} (h : 1 ≤ v ∧ v ≤ 5 ∧ k < 4 * 3 * v ∧ k % 4 = 1) {s : Value} {g : HL} (hf : F5 3 v s g) : pt5e P1 (k : Int) 1 s g (fun t h => pt5r P1 (k : Int) 1 3 (v : Int) t h KT) KT := by
  obtain ⟨⟨n, h0, h1, h2, h3⟩, s2, g2, h4, h5⟩ := hf
  refine loop5 h1 (by omega) (fun j hj => by obtain ⟨p, c, d, a1, a2, a3, _⟩ := h2 j hj; exact ⟨p, c, d, a1, a2, a3⟩) (fun t ht => ?_)
  have ht' : t = true ↔ isU 3 v k 1 = true := ht.trans (h3 k 1 h.2.2.1 (by omega))
  obtain ⟨p, p1, p2⟩ := h5 k h.2.2.1
  rw [h.2.2.2] at p2
  have ex : (k : Int) / 4 % 3 = ((k / 4 % 3 : Nat) : Int) := by omega
  have ey : (k : Int) / 4 / 3 = ((k / 4 / 3 : Nat) : Int) := by omega
  have hu : isU 3 v k 1 = false := by unfold isU; rw [h.2.2.2]; rfl
  cases t with
  | true => rw [hu] at ht'; exact absurd (ht'.1 rfl) (by decide)
  | false =>
    exact rest5_f (namx311 (by omega))
theorem none312 {v k : Nat} (h : 1 ≤ v ∧ v ≤ 5 ∧ k < 4 * 3 * v ∧ k % 4 = 1) {s : Value} {g : HL} (hf : F5 3 v s g) : pt5e P1 (k : Int) 2 s g (fun t h => pt5r P1 (k : Int) 2 3 (v : Int) t h KT) KT := by
  obtain ⟨⟨n, h0, h1, h2, h3⟩, s2, g2, h4, h5⟩ := hf
  refine loop5 h1 (by omega) (fun j hj => by obtain ⟨p, c, d, a1, a2, a3, _⟩ := h2 j hj; exact ⟨p, c, d, a1, a2, a3⟩) (fun t ht => ?_)
  have ht' : t = true ↔ isU 3 v k 2 = true := ht.trans (h3 k 2 h.2.2.1 (by omega))
  obtain ⟨p, p1, p2⟩ := h5 k h.2.2.1
  rw [h.2.2.2] at p2
  have ex : (k : Int) / 4 % 3 = ((k / 4 % 3 : Nat) : Int) := by omega
  have ey : (k : Int) / 4 / 3 = ((k / 4 / 3 : Nat) : Int) := by omega
  obtain rfl : t = true := ht'.2 (by unfold isU; rw [h.2.2.2]; rfl)
  have hm := nam312 (v := v) (i := k) (by omega)
  rw [ex, ey] at hm
  exact rest5_t (by omega) (lineT12 (by omega) hm) (endsT12 (by omega) hm) h4 p1 p2 (rline12 (x := ((k / 4 % 3 : Nat) : Int)) (y := ((k / 4 / 3 : Nat) : Int)) (by omega))
theorem none320 {v k : Nat} (h : 1 ≤ v ∧ v ≤ 5 ∧ k < 4 * 3 * v ∧ k % 4 = 2) {s : Value} {g : HL} (hf : F5 3 v s g) : pt5e P1 (k : Int) 0 s g (fun t h => pt5r P1 (k : Int) 0 3 (v : Int) t h KT) KT := by
  obtain ⟨⟨n, h0, h1, h2, h3⟩, s2, g2, h4, h5⟩ := hf
  refine loop5 h1 (by omega) (fun j hj => by obtain ⟨p, c, d, a1, a2, a3, _⟩ := h2 j hj; exact ⟨p, c, d, a1, a2, a3⟩) (fun t ht => ?_)
  have ht' : t = true ↔ isU 3 v k 0 = true := ht.trans (h3 k 0 h.2.2.1 (by omega))
  obtain ⟨p, p1, p2⟩ := h5 k h.2.2.1
  rw [h.2.2.2] at p2
  have ex : (k : Int) / 4 % 3 = ((k / 4 % 3 : Nat) : Int) := by omega
  have ey : (k : Int) / 4 / 3 = ((k / 4 / 3 : Nat) : Int) := by omega
  have hu : isU 3 v k 0 = true ↔ k / 4 / 3 + 1 < v := by unfold isU; rw [h.2.2.2]; show Nat.blt _ _ = true ↔ _; rw [Nat.blt_eq]
  by_cases hc : k / 4 / 3 + 1 < v
  · obtain rfl : t = true := ht'.2 (hu.2 hc)
    have hm := nam320 (v := v) (i := k) (by omega)
    rw [ex, ey] at hm
    exact rest5_t (by omega) (lineT20 (by omega) hm) (endsT20 (by omega) hm) h4 p1 p2 (rline20 (x := ((k / 4 % 3 : Nat) : Int)) (y := ((k / 4 / 3 : Nat) : Int)) (by omega))
  · cases t with
    | true => exact absurd (hu.1 (ht'.1 rfl)) hc
    | false => exact rest5_f (namo320 (by omega))
theorem none321 {v k : Nat} (h : 1 ≤ v ∧ v ≤ 5 ∧ k < 4 * 3 * v ∧ k % 4 = 2) {s : Value} {g : HL} (hf : F5 3 v s g) : pt5e P1 (k : Int) 1 s g (fun t h => pt5r P1 (k : Int) 1 3 (v : Int) t h KT) KT := by
  obtain ⟨⟨n, h0, h1, h2, h3⟩, s2, g2, h4, h5⟩ := hf
  refine loop5 h1 (by omega) (fun j hj => by obtain ⟨p, c, d, a1, a2, a3, _⟩ := h2 j hj; exact ⟨p, c, d, a1, a2, a3⟩) (fun t ht => ?_)
  have ht' : t = true ↔ isU 3 v k 1 = true := ht.trans (h3 k 1 h.2.2.1 (by omega))
  obtain ⟨p, p1, p2⟩ := h5 k h.2.2.1
  rw [h.2.2.2] at p2
  have ex : (k : Int) / 4 % 3 = ((k / 4 % 3 : Nat) : Int) := by omega
  have ey : (k : Int) / 4 / 3 = ((k / 4 / 3 : Nat) : Int) := by omega
  obtain rfl : t = true := ht'.2 (by unfold isU; rw [h.2.2.2]; rfl)
  have hm := nam321 (v := v) (i := k) (by omega)
  rw [ex, ey] at hm
  exact rest5_t (by omega) (lineT21 (by omega) hm) (endsT21 (by omega) hm) h4 p1 p2 (rline21 (x := ((k / 4 % 3 : Nat) : Int)) (y := ((k / 4 / 3 : Nat) : Int)) (by omega))
theorem none322 {v k : Nat} (h : 1 ≤ v ∧ v ≤ 5 ∧ k < 4 * 3 * v ∧ k % 4 = 2) {s : Value} {g : HL} (hf : F5 3 v s g) : pt5e P1 (k : Int) 2 s g (fun t h => pt5r P1 (k : Int) 2 3 (v : Int) t h KT) KT := by
  obtain ⟨⟨n, h0, h1, h2, h3⟩, s2, g2, h4, h5⟩ := hf
  refine loop5 h1 (by omega) (fun j hj => by obtain ⟨p, c, d, a1, a2, a3, _⟩ := h2 j hj; exact ⟨p, c, d, a1, a2, a3⟩) (fun t ht => ?_)
  have ht' : t = true ↔ isU 3 v k 2 = true := ht.trans (h3 k 2 h.2.2.1 (by omega))
  obtain ⟨p, p1, p2⟩ := h5 k h.2.2.1
  rw [h.2.2.2] at p2
  have ex : (k : Int) / 4 % 3 = ((k / 4 % 3 : Nat) : Int) := by omega
  have ey : (k : Int) / 4 / 3 = ((k / 4 / 3 : Nat) : Int) := by omega
  have hu : isU 3 v k 2 = false := by unfold isU; rw [h.2.2.2]; rfl
  cases t with
  | true => rw [hu] at ht'; exact absurd (ht'.1 rfl) (by decide)
  | false =>
    exact rest5_f (namx322 (by omega))
theorem none330 {v k : Nat} (h : 1 ≤ v ∧ v ≤ 5 ∧ k < 4 * 3 * v ∧ k % 4 = 3) {s : Value} {g : HL} (hf : F5 3 v s g) : pt5e P1 (k : Int) 0 s g (fun t h => pt5r P1 (k : Int) 0 3 (v : Int) t h KT) KT := by
  obtain ⟨⟨n, h0, h1, h2, h3⟩, s2, g2, h4, h5⟩ := hf
  refine loop5 h1 (by omega) (fun j hj => by obtain ⟨p, c, d, a1, a2, a3, _⟩ := h2 j hj; exact ⟨p, c, d, a1, a2, a3⟩) (fun t ht => ?_)
  have ht' : t = true ↔ isU 3 v k 0 = true := ht.trans (h3 k 0 h.2.2.1 (by omega))
  obtain ⟨p, p1, p2⟩ := h5 k h.2.2.1
  rw [h.2.2.2] at p2
  have ex : (k : Int) / 4 % 3 = ((k / 4 % 3 : Nat) : Int) := by omega
  have ey : (k : Int) / 4 / 3 = ((k / 4 / 3 : Nat) : Int) := by omega
  have hu : isU 3 v k 0 = false := by unfold isU; rw [h.2.2.2]; rfl
  cases t with
  | true => rw [hu] at ht'; exact absurd (ht'.1 rfl) (by decide)
  | false =>
    by_cases hc : 1 ≤ (k : Int) / 4 % 3
    · first | (exfalso; omega) | exact rest5_f (namx330 (by omega))
    · exact rest5_f (namo330 (by omega))
theorem none331 {v k : Nat} (h : 1 ≤ v ∧ v ≤ 5 ∧ k < 4 * 3 * v ∧ k % 4 = 3) {s : Value} {g : HL} (hf : F5 3 v s g) : pt5e P1 (k : Int) 1 s g (fun t h => pt5r P1 (k : Int) 1 3 (v : Int) t h KT) KT := by
  obtain ⟨⟨n, h0, h1, h2, h3⟩, s2, g2, h4, h5⟩ := hf
  refine loop5 h1 (by omega) (fun j hj => by obtain ⟨p, c, d, a1, a2, a3, _⟩ := h2 j hj; exact ⟨p, c, d, a1, a2, a3⟩) (fun t ht => ?_)
  have ht' : t = true ↔ isU 3 v k 1 = true := ht.trans (h3 k 1 h.2.2.1 (by omega))
  obtain ⟨p, p1, p2⟩ := h5 k h.2.2.1
  rw [h.2.2.2] at p2
  have ex : (k : Int) / 4 % 3 = ((k / 4 % 3 : Nat) : Int) := by omega
  have ey : (k : Int) / 4 / 3 = ((k / 4 / 3 : Nat) : Int) := by omega
  have hu : isU 3 v k 1 = false := by unfold isU; rw [h.2.2.2]; rfl
  cases t with
  | true => rw [hu] at ht'; exact absurd (ht'.1 rfl) (by decide)
  | false =>
    exact rest5_f (namx331 (by omega))
theorem none332 {v k : Nat} (h : 1 ≤ v ∧ v ≤ 5 ∧ k < 4 * 3 * v ∧ k % 4 = 3) {s : Value} {g : HL} (hf : F5 3 v s g) : pt5e P1 (k : Int) 2 s g (fun t h => pt5r P1 (k : Int) 2 3 (v : Int) t h KT) KT := by
  obtain ⟨⟨n, h0, h1, h2, h3⟩, s2, g2, h4, h5⟩ := hf
  refine loop5 h1 (by omega) (fun j hj => by obtain ⟨p, c, d, a1, a2, a3, _⟩ := h2 j hj; exact ⟨p, c, d, a1, a2, a3⟩) (fun t ht => ?_)
  have ht' : t = true ↔ isU 3 v k 2 = true := ht.trans (h3 k 2 h.2.2.1 (by omega))
  obtain ⟨p, p1, p2⟩ := h5 k h.2.2.1
  rw [h.2.2.2] at p2
  have ex : (k : Int) / 4 % 3 = ((k / 4 % 3 : Nat) : Int) := by omega
  have ey : (k : Int) / 4 / 3 = ((k / 4 / 3 : Nat) : Int) := by omega
  have hu : isU 3 v k 2 = false := by unfold isU; rw [h.2.2.2]; rfl
  cases t with
  | true => rw [hu] at ht'; exact absurd (ht'.1 rfl) (by decide)
  | false =>
    exact rest5_f (namx332 (by omega))
theorem none400 {v k : Nat} (h : 1 ≤ v ∧ v ≤ 5 ∧ k < 4 * 4 * v ∧ k % 4 = 0) {s : Value} {g : HL} (hf : F5 4 v s g) : pt5e P1 (k : Int) 0 s g (fun t h => pt5r P1 (k : Int) 0 4 (v : Int) t h KT) KT := by
  obtain ⟨⟨n, h0, h1, h2, h3⟩, s2, g2, h4, h5⟩ := hf
  refine loop5 h1 (by omega) (fun j hj => by obtain ⟨p, c, d, a1, a2, a3, _⟩ := h2 j hj; exact ⟨p, c, d, a1, a2, a3⟩) (fun t ht => ?_)
  have ht' : t = true ↔ isU 4 v k 0 = true := ht.trans (h3 k 0 h.2.2.1 (by omega))
  obtain ⟨p, p1, p2⟩ := h5 k h.2.2.1
  rw [h.2.2.2] at p2
  have ex : (k : Int) / 4 % 4 = ((k / 4 % 4 : Nat) : Int) := by omega
  have ey : (k : Int) / 4 / 4 = ((k / 4 / 4 : Nat) : Int) := by omega
  have hu : isU 4 v k 0 = false := by unfold isU; rw [h.2.2.2]; rfl
  cases t with
  | true => rw [hu] at ht'; exact absurd (ht'.1 rfl) (by decide)
  | false =>
    by_cases hc : 16 ≤ (k : Int)
    · first | (exfalso; omega) | exact rest5_f (namx400 (by omega))
    · exact rest5_f (namo400 (by omega))
theorem none401 {v k : Nat} (h : 1 ≤ v ∧ v ≤ 5 ∧ k < 4 * 4 * v ∧ k % 4 = 0) {s : Value} {g : HL} (hf : F5 4 v s g) : pt5e P1 (k : Int) 1 s g (fun t h => pt5r P1 (k : Int) 1 4 (v : Int) t h KT) KT := by
  obtain ⟨⟨n, h0, h1, h2, h3⟩, s2, g2, h4, h5⟩ := hf
  refine loop5 h1 (by omega) (fun j hj => by obtain ⟨p, c, d, a1, a2, a3, _⟩ := h2 j hj; exact ⟨p, c, d, a1, a2, a3⟩) (fun t ht => ?_)
  have ht' : t = true ↔ isU 4 v k 1 = true := ht.trans (h3 k 1 h.2.2.1 (by omega))
  obtain ⟨p, p1, p2⟩ := h5 k h.2.2.1
  rw [h.2.2.2] at p2
  have ex : (k : Int) / 4 % 4 = ((k / 4 % 4 : Nat) : Int) := by omega
  have ey : (k : Int) / 4 / 4 = ((k / 4 / 4 : Nat) : Int) := by omega
  obtain rfl : t = true := ht'.2 (by unfold isU; rw [h.2.2.2]; rfl)
  have hm := nam401 (v := v) (i := k) (by omega)
  rw [ex, ey] at hm
  exact rest5_t (by omega) (lineT01 (by omega) hm) (endsT01 (by omega) hm) h4 p1 p2 (rline01 (x := ((k / 4 % 4 : Nat) : Int)) (y := ((k / 4 / 4 : Nat) : Int)) (by omega))
theorem none402 {v k : Nat} (h : 1 ≤ v ∧ v ≤ 5 ∧ k < 4 * 4 * v ∧ k % 4 = 0) {s : Value} {g : HL} (hf : F5 4 v s g) : pt5e P1 (k : Int) 2 s g (fun t h => pt5r P1 (k : Int) 2 4 (v : Int) t h KT) KT := by
  obtain ⟨⟨n, h0, h1, h2, h3⟩, s2, g2, h4, h5⟩ := hf
  refine loop5 h1 (by omega) (fun j hj => by obtain ⟨p, c, d, a1, a2, a3, _⟩ := h2 j hj; exact ⟨p, c, d, a1, a2, a3⟩) (fun t ht => ?_)
  have ht' : t = true ↔ isU 4 v k 2 = true := ht.trans (h3 k 2 h.2.2.1 (by omega))
  obtain ⟨p, p1, p2⟩ := h5 k h.2.2.1
  rw [h.2.2.2] at p2
  have ex : (k : Int) / 4 % 4 = ((k / 4 % 4 : Nat) : Int) := by omega
  have ey : (k : Int) / 4 / 4 = ((k / 4 / 4 : Nat) : Int) := by omega
  obtain rfl : t = true := ht'.2 (by unfold isU; rw [h.2.2.2]; rfl)
  have hm := nam402 (v := v) (i := k) (by omega)
  rw [ex, ey] at hm
  exact rest5_t (by omega) (lineT02 (by omega) hm) (endsT02 (by omega) hm) h4 p1 p2 (rline02 (x := ((k / 4 % 4 : Nat) : Int)) (y := ((k / 4 / 4 : Nat) : Int)) (by omega))
theorem none410 {v k : Nat} (h : 1 ≤ v ∧ v ≤ 5 ∧ k < 4 * 4 * v ∧ k % 4 = 1) {s : Value} {g : HL} (hf : F5 4 v s g) : pt5e P1 (k : Int) 0 s g (fun t h => pt5r P1 (k : Int) 0 4 (v : Int) t h KT) KT := by
  obtain ⟨⟨n, h0, h1, h2, h3⟩, s2, g2, h4, h5⟩ := hf
  refine loop5 h1 (by omega) (fun j hj => by obtain ⟨p, c, d, a1, a2, a3, _⟩ := h2 j hj; exact ⟨p, c, d, a1, a2, a3⟩) (fun t ht => ?_)
  have ht' : t = true ↔ isU 4 v k 0 = true := ht.trans (h3 k 0 h.2.2.1 (by omega))
  obtain ⟨p, p1, p2⟩ := h5 k h.2.2.1
  rw [h.2.2.2] at p2
  have ex : (k : Int) / 4 % 4 = ((k / 4 % 4 : Nat) : Int) := by omega
  have ey : (k : Int) / 4 / 4 = ((k / 4 / 4 : Nat) : Int) := by omega
  have hu : isU 4 v k 0 = true ↔ k / 4 % 4 + 1 < 4 := by unfold isU; rw [h.2.2.2]; show Nat.blt _ _ = true ↔ _; rw [Nat.blt_eq]
  by_cases hc : k / 4 % 4 + 1 < 4
  · obtain rfl : t = true := ht'.2 (hu.2 hc)
    have hm := nam410 (v := v) (i := k) (by omega)
    rw [ex, ey] at hm
    exact rest5_t (by omega) (lineT10 (by omega) hm) (endsT10 (by omega) hm) h4 p1 p2 (rline10 (x := ((k / 4 % 4 : Nat) : Int)) (y := ((k / 4 / 4 : Nat) : Int)) (by omega))
  · cases t with
    | true => exact absurd (hu.1 (ht'.1 rfl)) hc
    | false => exact rest5_f (namo410 (by omega))
theorem none411 {v k : Nat} (h : 1 ≤ v ∧ v ≤ 5 ∧ k < 4 * 4 * v ∧ k % 4 = 1) {s : Value} {g : HL} (hf : F5 4 v s g) : pt5e P1 (k : Int) 1 s g (fun t h => pt5r P1 (k : Int) 1 4 (v : Int) t h KT) KT := by
  obtain ⟨⟨n, h0, h1, h2, h3⟩, s2, g2, h4, h5⟩ := hf
  refine loop5 h1 (by omega) (fun j hj => by obtain ⟨p, c, d, a1, a2, a3, _⟩ := h2 j hj; exact ⟨p, c, d, a1, a2, a3⟩) (fun t ht => ?_)
  have ht' : t = true ↔ isU 4 v k 1 = true := ht.trans (h3 k 1 h.2.2.1 (by omega))
  obtain ⟨p, p1, p2⟩ := h5 k h.2.2.1
  rw [h.2.2.2] at p2
  have ex : (k : Int) / 4 % 4 = ((k / 4 % 4 : Nat) : Int) := by omega
  have ey : (k : Int) / 4 / 4 = ((k / 4 / 4 : Nat) : Int) := by omega
  have hu : isU 4 v k 1 = false := by unfold isU; rw [h.2.2.2]; rfl
  cases t with
  | true => rw [hu] at ht'; exact absurd (ht'.1 rfl) (by decide)
  | false =>
    exact rest5_f (namx411 (by omega))
theorem none412 {v k : Nat} (h : 1 ≤ v ∧ v ≤ 5 ∧ k < 4 * 4 * v ∧ k % 4 = 1) {s : Value} {g : HL} (hf : F5 4 v s g) : pt5e P1 (k : Int) 2 s g (fun t h => pt5r P1 (k : Int) 2 4 (v : Int) t h KT) KT := by
  obtain ⟨⟨n, h0, h1, h2, h3⟩, s2, g2, h4, h5⟩ := hf
  refine loop5 h1 (by omega) (fun j hj => by obtain ⟨p, c, d, a1, a2, a3, _⟩ := h2 j hj; exact ⟨p, c, d, a1, a2, a3⟩) (fun t ht => ?_)
  have ht' : t = true ↔ isU 4 v k 2 = true := ht.trans (h3 k 2 h.2.2.1 (by omega))
  obtain ⟨p, p1, p2⟩ := h5 k h.2.2.1
  rw [h.2.2.2] at p2
  have ex : (k : Int) / 4 % 4 = ((k / 4 % 4 : Nat) : Int) := by omega
  have ey : (k : Int) / 4 / 4 = ((k / 4 / 4 : Nat) : Int) := by omega
  obtain rfl : t = true := ht'.2 (by unfold isU; rw [h.2.2.2]; rfl)
  have hm := nam412 (v := v) (i := k) (by omega)
  rw [ex, ey] at hm
  exact rest5_t (by omega) (lineT12 (by omega) hm) (endsT12 (by omega) hm) h4 p1 p2 (rline12 (x := ((k / 4 % 4 : Nat) : Int)) (y := ((k / 4 / 4 : Nat) : Int)) (by omega))
theorem none420 {v k : Nat} (h : 1 ≤ v ∧ v ≤ 5 ∧ k < 4 * 4 * v ∧ k % 4 = 2) {s : Value} {g : HL} (hf : F5 4 v s g) : pt5e P1 (k : Int) 0 s g (fun t h => pt5r P1 (k : Int) 0 4 (v : Int) t h KT) KT := by
  obtain ⟨⟨n, h0, h1, h2, h3⟩, s2, g2, h4, h5⟩ := hf
  refine loop5 h1 (by omega) (fun j hj => by obtain ⟨p, c, d, a1, a2, a3, _⟩ := h2 j hj; exact ⟨p, c, d, a1, a2, a3⟩) (fun t ht => ?_)
  have ht' : t = true ↔ isU 4 v k 0 = true := ht.trans (h3 k 0 h.2.2.1 (by omega))
  obtain ⟨p, p1, p2⟩ := h5 k h.2.2.1
  rw [h.2.2.2] at p2
  have ex : (k : Int) / 4 % 4 = ((k / 4 % 4 : Nat) : Int) := by omega
  have ey : (k : Int) / 4 / 4 = ((k / 4 / 4 : Nat) : Int) := by omega
  have hu : isU 4 v k 0 = true ↔ k / 4 / 4 + 1 < v := by unfold isU; rw [h.2.2.2]; show Nat.blt _ _ = true ↔ _; rw [Nat.blt_eq]
  by_cases hc : k / 4 / 4 + 1 < v
  · obtain rfl : t = true := ht'.2 (hu.2 hc)
    have hm := nam420 (v := v) (i := k) (by omega)
    rw [ex, ey] at hm
    exact rest5_t (by omega) (lineT20 (by omega) hm) (endsT20 (by omega) hm) h4 p1 p2 (rline20 (x := ((k / 4 % 4 : Nat) : Int)) (y := ((k / 4 / 4 : Nat) : Int)) (by omega))
  · cases t with
    | true => exact absurd (hu.1 (ht'.1 rfl)) hc
    | false => exact rest5_f (namo420 (by omega))
theorem none421 {v k : Nat} (h : 1 ≤ v ∧ v ≤ 5 ∧ k < 4 * 4 * v ∧ k % 4 = 2) {s : Value} {g : HL} (hf : F5 4 v s g) : pt5e P1 (k : Int) 1 s g (fun t h => pt5r P1 (k : Int) 1 4 (v : Int) t h KT) KT := by
  obtain ⟨⟨n, h0, h1, h2, h3⟩, s2, g2, h4, h5⟩ := hf
  refine loop5 h1 (by omega) (fun j hj => by obtain ⟨p, c, d, a1, a2, a3, _⟩ := h2 j hj; exact ⟨p, c, d, a1, a2, a3⟩) (fun t ht => ?_)
  have ht' : t = true ↔ isU 4 v k 1 = true := ht.trans (h3 k 1 h.2.2.1 (by omega))
  obtain ⟨p, p1, p2⟩ := h5 k h.2.2.1
  rw [h.2.2.2] at p2
  have ex : (k : Int) / 4 % 4 = ((k / 4 % 4 : Nat) : Int) := by omega
  have ey : (k : Int) / 4 / 4 = ((k / 4 / 4 : Nat) : Int) := by omega
  obtain rfl : t = true := ht'.2 (by unfold isU; rw [h.2.2.2]; rfl)
  have hm := nam421 (v := v) (i := k) (by omega)
  rw [ex, ey] at hm
  exact rest5_t (by omega) (lineT21 (by omega) hm) (endsT21 (by omega) hm) h4 p1 p2 (rline21 (x := ((k / 4 % 4 : Nat) : Int)) (y := ((k / 4 / 4 : Nat) : Int)) (by omega))
theorem none422 {v k : Nat} (h : 1 ≤ v ∧ v ≤ 5 ∧ k < 4 * 4 * v ∧ k % 4 = 2) {s : Value} {g : HL} (hf : F5 4 v s g) : pt5e P1 (k : Int) 2 s g (fun t h => pt5r P1 (k : Int) 2 4 (v : Int) t h KT) KT := by
  obtain ⟨⟨n, h0, h1, h2, h3⟩, s2, g2, h4, h5⟩ := hf
  refine loop5 h1 (by omega) (fun j hj => by obtain ⟨p, c, d, a1, a2, a3, _⟩ := h2 j hj; exact ⟨p, c, d, a1, a2, a3⟩) (fun t ht => ?_)
  have ht' : t = true ↔ isU 4 v k 2 = true := ht.trans (h3 k 2 h.2.2.1 (by omega))
  obtain ⟨p, p1, p2⟩ := h5 k h.2.2.1
  rw [h.2.2.2] at p2
  have ex : (k : Int) / 4 % 4 = ((k / 4 % 4 : Nat) : Int) := by omega
  have ey : (k : Int) / 4 / 4 = ((k / 4 / 4 : Nat) : Int) := by omega
  have hu : isU 4 v k 2 = false := by unfold isU; rw [h.2.2.2]; rfl
  cases t with
  | true => rw [hu] at ht'; exact absurd (ht'.1 rfl) (by decide)
  | false =>
    exact rest5_f (namx422 (by omega))
theorem none430 {v k : Nat} (h : 1 ≤ v ∧ v ≤ 5 ∧ k < 4 * 4 * v ∧ k % 4 = 3) {s : Value} {g : HL} (hf : F5 4 v s g) : pt5e P1 (k : Int) 0 s g (fun t h => pt5r P1 (k : Int) 0 4 (v : Int) t h KT) KT := by
  obtain ⟨⟨n, h0, h1, h2, h3⟩, s2, g2, h4, h5⟩ := hf
  refine loop5 h1 (by omega) (fun j hj => by obtain ⟨p, c, d, a1, a2, a3, _⟩ := h2 j hj; exact ⟨p, c, d, a1, a2, a3⟩) (fun t ht => ?_)
  have ht' : t = true ↔ isU 4 v k 0 = true := ht.trans (h3 k 0 h.2.2.1 (by omega))
  obtain ⟨p, p1, p2⟩ := h5 k h.2.2.1
  rw [h.2.2.2] at p2
  have ex : (k : Int) / 4 % 4 = ((k / 4 % 4 : Nat) : Int) := by omega
  have ey : (k : Int) / 4 / 4 = ((k / 4 / 4 : Nat) : Int) := by omega
  have hu : isU 4 v k 0 = false := by unfold isU; rw [h.2.2.2]; rfl
  cases t with
  | true => rw [hu] at ht'; exact absurd (ht'.1 rfl) (by decide)
  | false =>
    by_cases hc : 1 ≤ (k : Int) / 4 % 4
    · first | (exfalso; omega) | exact rest5_f (namx430 (by omega))
    · exact rest5_f (namo430 (by omega))
theorem none431 {v k : Nat} (h : 1 ≤ v ∧ v ≤ 5 ∧ k < 4 * 4 * v ∧ k % 4 = 3) {s : Value} {g : HL} (hf : F5 4 v s g) : pt5e P1 (k : Int) 1 s g (fun t h => pt5r P1 (k : Int) 1 4 (v : Int) t h KT) KT := by
  obtain ⟨⟨n, h0, h1, h2, h3⟩, s2, g2, h4, h5⟩ := hf
  refine loop5 h1 (by omega) (fun j hj => by obtain ⟨p, c, d, a1, a2, a3, _⟩ := h2 j hj; exact ⟨p, c, d, a1, a2, a3⟩) (fun t ht => ?_)
  have ht' : t = true ↔ isU 4 v k 1 = true := ht.trans (h3 k 1 h.2.2.1 (by omega))
  obtain ⟨p, p1, p2⟩ := h5 k h.2.2.1
  rw [h.2.2.2] at p2
  have ex : (k : Int) / 4 % 4 = ((k / 4 % 4 : Nat) : Int) := by omega
  have ey : (k : Int) / 4 / 4 = ((k / 4 / 4 : Nat) : Int) := by omega
  have hu : isU 4 v k 1 = false := by unfold isU; rw [h.2.2.2]; rfl
  cases t with
  | true => rw [hu] at ht'; exact absurd (ht'.1 rfl) (by decide)
  | false =>
    exact rest5_f (namx431 (by omega))
theorem none432 {v k : Nat} (h : 1 ≤ v ∧ v ≤ 5 ∧ k < 4 * 4 * v ∧ k % 4 = 3) {s : Value} {g : HL} (hf : F5 4 v s g) : pt5e P1 (k : Int) 2 s g (fun t h => pt5r P1 (k : Int) 2 4 (v : Int) t h KT) KT := by
  obtain ⟨⟨n, h0, h1, h2, h3⟩, s2, g2, h4, h5⟩ := hf
  refine loop5 h1 (by omega) (fun j hj => by obtain ⟨p, c, d, a1, a2, a3, _⟩ := h2 j hj; exact ⟨p, c, d, a1, a2, a3⟩) (fun t ht => ?_)
  have ht' : t = true ↔ isU 4 v k 2 = true := ht.trans (h3 k 2 h.2.2.1 (by omega))
  obtain ⟨p, p1, p2⟩ := h5 k h.2.2.1
  rw [h.2.2.2] at p2
  have ex : (k : Int) / 4 % 4 = ((k / 4 % 4 : Nat) : Int) := by omega
  have ey : (k : Int) / 4 / 4 = ((k / 4 / 4 : Nat) : Int) := by omega
  have hu : isU 4 v k 2 = false := by unfold isU; rw [h.2.2.2]; rfl
  cases t with
  | true => rw [hu] at ht'; exact absurd (ht'.1 rfl) (by decide)
  | false =>
    exact rest5_f (namx432 (by omega))
theorem none500 {v k : Nat} (h : 1 ≤ v ∧ v ≤ 5 ∧ k < 4 * 5 * v ∧ k % 4 = 0) {s : Value} {g : HL} (hf : F5 5 v s g) : pt5e P1 (k : Int) 0 s g (fun t h => pt5r P1 (k : Int) 0 5 (v : Int) t h KT) KT := by
  obtain ⟨⟨n, h0, h1, h2, h3⟩, s2, g2, h4, h5⟩ := hf
  refine loop5 h1 (by omega) (fun j hj => by obtain ⟨p, c, d, a1, a2, a3, _⟩ := h2 j hj; exact ⟨p, c, d, a1, a2, a3⟩) (fun t ht => ?_)
  have ht' : t = true ↔ isU 5 v k 0 = true := ht.trans (h3 k 0 h.2.2.1 (by omega))
  obtain ⟨p, p1, p2⟩ := h5 k h.2.2.1
  rw [h.2.2.2] at p2
  have ex : (k : Int) / 4 % 5 = ((k / 4 % 5 : Nat) : Int) := by omega
  have ey : (k : Int) / 4 / 5 = ((k / 4 / 5 : Nat) : Int) := by omega
  have hu : isU 5 v k 0 = false := by unfold isU; rw [h.2.2.2]; rfl
  cases t with
  | true => rw [hu] at ht'; exact absurd (ht'.1 rfl) (by decide)
  | false =>
    by_cases hc : 20 ≤ (k : Int)
    · first | (exfalso; omega) | exact rest5_f (namx500 (by omega))
    · exact rest5_f (namo500 (by omega))
theorem none501 {v k : Nat} (h : 1 ≤ v ∧ v ≤ 5 ∧ k < 4 * 5 * v ∧ k % 4 = 0) {s : Value} {g : HL} (hf : F5 5 v s g) : pt5e P1 (k : Int) 1 s g (fun t h => pt5r P1 (k : Int) 1 5 (v : Int) t h KT) KT := by
  obtain ⟨⟨n, h0, h1, h2, h3⟩, s2, g2, h4, h5⟩ := hf
  refine loop5 h1 (by omega) (fun j hj => by obtain ⟨p, c, d, a1, a2, a3, _⟩ := h2 j hj; exact ⟨p, c, d, a1, a2, a3⟩) (fun t ht => ?_)
  have ht' : t = true ↔ isU 5 v k 1 = true := ht.trans (h3 k 1 h.2.2.1 (by omega))
  obtain ⟨p, p1, p2⟩ := h5 k h.2.2.1
  rw [h.2.2.2] at p2
  have ex : (k : Int) / 4 % 5 = ((k / 4 % 5 : Nat) : Int) := by omega
  have ey : (k : Int) / 4 / 5 = ((k / 4 / 5 : Nat) : Int) := by omega
  obtain rfl : t = true := ht'.2 (by unfold isU; rw [h.2.2.2]; rfl)
  have hm := nam501 (v := v) (i := k) (by omega)
  rw [ex, ey] at hm
  exact rest5_t (by omega) (lineT01 (by omega) hm) (endsT01 (by omega) hm) h4 p1 p2 (rline01 (x := ((k / 4 % 5 : Nat) : Int)) (y := ((k / 4 / 5 : Nat) : Int)) (by omega))
theorem none502 {v k : Nat} (h : 1 ≤ v ∧ v ≤ 5 ∧ k < 4 * 5 * v ∧ k % 4 = 0) {s : Value} {g : HL} (hf : F5 5 v s g) : pt5e P1 (k : Int) 2 s g (fun t h => pt5r P1 (k : Int) 2 5 (v : Int) t h KT) KT := by
  obtain ⟨⟨n, h0, h1, h2, h3⟩, s2, g2, h4, h5⟩ := hf
  refine loop5 h1 (by omega) (fun j hj => by obtain ⟨p, c, d, a1, a2, a3, _⟩ := h2 j hj; exact ⟨p, c, d, a1, a2, a3⟩) (fun t ht => ?_)
  have ht' : t = true ↔ isU 5 v k 2 = true := ht.trans (h3 k 2 h.2.2.1 (by omega))
  obtain ⟨p, p1, p2⟩ := h5 k h.2.2.1
  rw [h.2.2.2] at p2
  have ex : (k : Int) / 4 % 5 = ((k / 4 % 5 : Nat) : Int) := by omega
  have ey : (k : Int) / 4 / 5 = ((k / 4 / 5 : Nat) : Int) := by omega
  obtain rfl : t = true := ht'.2 (by unfold isU; rw [h.2.2.2]; rfl)
  have hm := nam502 (v := v) (i := k) (by omega)
  rw [ex, ey] at hm
  exact rest5_t (by omega) (lineT02 (by omega) hm) (endsT02 (by omega) hm) h4 p1 p2 (rline02 (x := ((k / 4 % 5 : Nat) : Int)) (y := ((k / 4 / 5 : Nat) : Int)) (by omega))
theorem none510 {v k : Nat} (h : 1 ≤ v ∧ v ≤ 5 ∧ k < 4 * 5 * v ∧ k % 4 = 1) {s : Value} {g : HL} (hf : F5 5 v s g) : pt5e P1 (k : Int) 0 s g (fun t h => pt5r P1 (k : Int) 0 5 (v : Int) t h KT) KT := by
  obtain ⟨⟨n, h0, h1, h2, h3⟩, s2, g2, h4, h5⟩ := hf
  refine loop5 h1 (by omega) (fun j hj => by obtain ⟨p, c, d, a1, a2, a3, _⟩ := h2 j hj; exact ⟨p, c, d, a1, a2, a3⟩) (fun t ht => ?_)
  have ht' : t = true ↔ isU 5 v k 0 = true := ht.trans (h3 k 0 h.2.2.1 (by omega))
  obtain ⟨p, p1, p2⟩ := h5 k h.2.2.1
  rw [h.2.2.2] at p2
  have ex : (k : Int) / 4 % 5 = ((k / 4 % 5 : Nat) : Int) := by omega
  have ey : (k : Int) / 4 / 5 = ((k / 4 / 5 : Nat) : Int) := by omega
  have hu : isU 5 v k 0 = true ↔ k / 4 % 5 + 1 < 5 := by unfold isU; rw [h.2.2.2]; show Nat.blt _ _ = true ↔ _; rw [Nat.blt_eq]
  by_cases hc : k / 4 % 5 + 1 < 5
  · obtain rfl : t = true := ht'.2 (hu.2 hc)
    have hm := nam510 (v := v) (i := k) (by omega)
    rw [ex, ey] at hm
    exact rest5_t (by omega) (lineT10 (by omega) hm) (endsT10 (by omega) hm) h4 p1 p2 (rline10 (x := ((k / 4 % 5 : Nat) : Int)) (y := ((k / 4 / 5 : Nat) : Int)) (by omega))
  · cases t with
    | true => exact absurd (hu.1 (ht'.1 rfl)) hc
    | false => exact rest5_f (namo510 (by omega))
theorem none511 {v k : Nat} (h : 1 ≤ v ∧ v ≤ 5 ∧ k < 4 * 5 * v ∧ k % 4 = 1) {s : Value} {g : HL} (hf : F5 5 v s g) : pt5e P1 (k : Int) 1 s g (fun t h => pt5r P1 (k : Int) 1 5 (v : Int) t h KT) KT := by
  obtain ⟨⟨n, h0, h1, h2, h3⟩, s2, g2, h4, h5⟩ := hf
  refine loop5 h1 (by omega) (fun j hj => by obtain ⟨p, c, d, a1, a2, a3, _⟩ := h2 j hj; exact ⟨p, c, d, a1, a2, a3⟩) (fun t ht => ?_)
  have ht' : t = true ↔ isU 5 v k 1 = true := ht.trans (h3 k 1 h.2.2.1 (by omega))
  obtain ⟨p, p1, p2⟩ := h5 k h.2.2.1
  rw [h.2.2.2] at p2
  have ex : (k : Int) / 4 % 5 = ((k / 4 % 5 : Nat) : Int) := by omega
  have ey : (k : Int) / 4 / 5 = ((k / 4 / 5 : Nat) : Int) := by omega
  have hu : isU 5 v k 1 = false := by unfold isU; rw [h.2.2.2]; rfl
  cases t with
  | true => rw [hu] at ht'; exact absurd (ht'.1 rfl) (by decide)
  | false =>
    exact rest5_f (namx511 (by omega))
theorem none512 {v k : Nat} (h : 1 ≤ v ∧ v ≤ 5 ∧ k < 4 * 5 * v ∧ k % 4 = 1) {s : Value} {g : HL} (hf : F5 5 v s g) : pt5e P1 (k : Int) 2 s g (fun t h => pt5r P1 (k : Int) 2 5 (v : Int) t h KT) KT := by
  obtain ⟨⟨n, h0, h1, h2, h3⟩, s2, g2, h4, h5⟩ := hf
  refine loop5 h1 (by omega) (fun j hj => by obtain ⟨p, c, d, a1, a2, a3, _⟩ := h2 j hj; exact ⟨p, c, d, a1, a2, a3⟩) (fun t ht => ?_)
  have ht' : t = true ↔ isU 5 v k 2 = true := ht.trans (h3 k 2 h.2.2.1 (by omega))
  obtain ⟨p, p1, p2⟩ := h5 k h.2.2.1
  rw [h.2.2.2] at p2
  have ex : (k : Int) / 4 % 5 = ((k / 4 % 5 : Nat) : Int) := by omega
  have ey : (k : Int) / 4 / 5 = ((k / 4 / 5 : Nat) : Int) := by omega
  obtain rfl : t = true := ht'.2 (by unfold isU; rw [h.2.2.2]; rfl)
  have hm := nam512 (v := v) (i := k) (by omega)
  rw [ex, ey] at hm
  exact rest5_t (by omega) (lineT12 (by omega) hm) (endsT12 (by omega) hm) h4 p1 p2 (rline12 (x := ((k / 4 % 5 : Nat) : Int)) (y := ((k / 4 / 5 : Nat) : Int)) (by omega))
theorem none520 {v k : Nat} (h : 1 ≤ v ∧ v ≤ 5 ∧ k < 4 * 5 * v ∧ k % 4 = 2) {s : Value} {g : HL} (hf : F5 5 v s g) : pt5e P1 (k : Int) 0 s g (fun t h => pt5r P1 (k : Int) 0 5 (v : Int) t h KT) KT := by
  obtain ⟨⟨n, h0, h1, h2, h3⟩, s2, g2, h4, h5⟩ := hf
  refine loop5 h1 (by omega) (fun j hj => by obtain ⟨p, c, d, a1, a2, a3, _⟩ := h2 j hj; exact ⟨p, c, d, a1, a2, a3⟩) (fun t ht => ?_)
  have ht' : t = true ↔ isU 5 v k 0 = true := ht.trans (h3 k 0 h.2.2.1 (by omega))
  obtain ⟨p, p1, p2⟩ := h5 k h.2.2.1
  rw [h.2.2.2] at p2
  have ex : (k : Int) / 4 % 5 = ((k / 4 % 5 : Nat) : Int) := by omega
  have ey : (k : Int) / 4 / 5 = ((k / 4 / 5 : Nat) : Int) := by omega
  have hu : isU 5 v k 0 = true ↔ k / 4 / 5 + 1 < v := by unfold isU; rw [h.2.2.2]; show Nat.blt _ _ = true ↔ _; rw [Nat.blt_eq]
  by_cases hc : k / 4 / 5 + 1 < v
  · obtain rfl : t = true := ht'.2 (hu.2 hc)
    have hm := nam520 (v := v) (i := k) (by omega)
    rw [ex, ey] at hm
    exact rest5_t (by omega) (lineT20 (by omega) hm) (endsT20 (by omega) hm) h4 p1 p2 (rline20 (x := ((k / 4 % 5 : Nat) : Int)) (y := ((k / 4 / 5 : Nat) : Int)) (by omega))
  · cases t with
    | true => exact absurd (hu.1 (ht'.1 rfl)) hc
    | false => exact rest5_f (namo520 (by omega))
theorem none521 {v k : Nat} (h : 1 ≤ v ∧ v ≤ 5 ∧ k < 4 * 5 * v ∧ k % 4 = 2) {s : Value} {g : HL} (hf : F5 5 v s g) : pt5e P1 (k : Int) 1 s g (fun t h => pt5r P1 (k : Int) 1 5 (v : Int) t h KT) KT := by
  obtain ⟨⟨n, h0, h1, h2, h3⟩, s2, g2, h4, h5⟩ := hf
  refine loop5 h1 (by omega) (fun j hj => by obtain ⟨p, c, d, a1, a2, a3, _⟩ := h2 j hj; exact ⟨p, c, d, a1, a2, a3⟩) (fun t ht => ?_)
  have ht' : t = true ↔ isU 5 v k 1 = true := ht.trans (h3 k 1 h.2.2.1 (by omega))
  obtain ⟨p, p1, p2⟩ := h5 k h.2.2.1
  rw [h.2.2.2] at p2
  have ex : (k : Int) / 4 % 5 = ((k / 4 % 5 : Nat) : Int) := by omega
  have ey : (k : Int) / 4 / 5 = ((k / 4 / 5 : Nat) : Int) := by omega
  obtain rfl : t = true := ht'.2 (by unfold isU; rw [h.2.2.2]; rfl)
  have hm := nam521 (v := v) (i := k) (by omega)
  rw [ex, ey] at hm
  exact rest5_t (by omega) (lineT21 (by omega) hm) (endsT21 (by omega) hm) h4 p1 p2 (rline21 (x := ((k / 4 % 5 : Nat) : Int)) (y := ((k / 4 / 5 : Nat) : Int)) (by omega))
theorem none522 {v k : Nat} (h : 1 ≤ v ∧ v ≤ 5 ∧ k < 4 * 5 * v ∧ k % 4 = 2) {s : Value} {g : HL} (hf : F5 5 v s g) : pt5e P1 (k : Int) 2 s g (fun t h => pt5r P1 (k : Int) 2 5 (v : Int) t h KT) KT := by
  obtain ⟨⟨n, h0, h1, h2, h3⟩, s2, g2, h4, h5⟩ := hf
  refine loop5 h1 (by omega) (fun j hj => by obtain ⟨p, c, d, a1, a2, a3, _⟩ := h2 j hj; exact ⟨p, c, d, a1, a2, a3⟩) (fun t ht => ?_)
  have ht' : t = true ↔ isU 5 v k 2 = true := ht.trans (h3 k 2 h.2.2.1 (by omega))
  obtain ⟨p, p1, p2⟩ := h5 k h.2.2.1
  rw [h.2.2.2] at p2
  have ex : (k : Int) / 4 % 5 = ((k / 4 % 5 : Nat) : Int) := by omega
  have ey : (k : Int) / 4 / 5 = ((k / 4 / 5 : Nat) : Int) := by omega
  have hu : isU 5 v k 2 = false := by unfold isU; rw [h.2.2.2]; rfl
  cases t with
  | true => rw [hu] at ht'; exact absurd (ht'.1 rfl) (by decide)
  | false =>
    exact rest5_f (namx522 (by omega))
theorem none530 {v k : Nat} (h : 1 ≤ v ∧ v ≤ 5 ∧ k < 4 * 5 * v ∧ k % 4 = 3) {s : Value} {g : HL} (hf : F5 5 v s g) : pt5e P1 (k : Int) 0 s g (fun t h => pt5r P1 (k : Int) 0 5 (v : Int) t h KT) KT := by
  obtain ⟨⟨n, h0, h1, h2, h3⟩, s2, g2, h4, h5⟩ := hf
  refine loop5 h1 (by omega) (fun j hj => by obtain ⟨p, c, d, a1, a2, a3, _⟩ := h2 j hj; exact ⟨p, c, d, a1, a2, a3⟩) (fun t ht => ?_)
  have ht' : t = true ↔ isU 5 v k 0 = true := ht.trans (h3 k 0 h.2.2.1 (by omega))
  obtain ⟨p, p1, p2⟩ := h5 k h.2.2.1
  rw [h.2.2.2] at p2
  have ex : (k : Int) / 4 % 5 = ((k / 4 % 5 : Nat) : Int) := by omega
  have ey : (k : Int) / 4 / 5 = ((k / 4 / 5 : Nat) : Int) := by omega
  have hu : isU 5 v k 0 = false := by unfold isU; rw [h.2.2.2]; rfl
  cases t with
  | true => rw [hu] at ht'; exact absurd (ht'.1 rfl) (by decide)
  | false =>
    by_cases hc : 1 ≤ (k : Int) / 4 % 5
    · first | (exfalso; omega) | exact rest5_f (namx530 (by omega))
    · exact rest5_f (namo530 (by omega))
theorem none531 {v k : Nat} (h : 1 ≤ v ∧ v ≤ 5 ∧ k < 4 * 5 * v ∧ k % 4 = 3) {s : Value} {g : HL} (hf : F5 5 v s g) : pt5e P1 (k : Int) 1 s g (fun t h => pt5r P1 (k : Int) 1 5 (v : Int) t h KT) KT := by
  obtain ⟨⟨n, h0, h1, h2, h3⟩, s2, g2, h4, h5⟩ := hf
  refine loop5 h1 (by omega) (fun j hj => by obtain ⟨p, c, d, a1, a2, a3, _⟩ := h2 j hj; exact ⟨p, c, d, a1, a2, a3⟩) (fun t ht => ?_)
  have ht' : t = true ↔ isU 5 v k 1 = true := ht.trans (h3 k 1 h.2.2.1 (by omega))
  obtain ⟨p, p1, p2⟩ := h5 k h.2.2.1
  rw [h.2.2.2] at p2
  have ex : (k : Int) / 4 % 5 = ((k / 4 % 5 : Nat) : Int) := by omega
  have ey : (k : Int) / 4 / 5 = ((k / 4 / 5 : Nat) : Int) := by omega
  have hu : isU 5 v k 1 = false := by unfold isU; rw [h.2.2.2]; rfl
  cases t with
  | true => rw [hu] at ht'; exact absurd (ht'.1 rfl) (by decide)
  | false =>
    exact rest5_f (namx531 (by omega))
theorem none532 {v k : Nat} (h : 1 ≤ v ∧ v ≤ 5 ∧ k < 4 * 5 * v ∧ k % 4 = 3) {s : Value} {g : HL} (hf : F5 5 v s g) : pt5e P1 (k : Int) 2 s g (fun t h => pt5r P1 (k : Int) 2 5 (v : Int) t h KT) KT := by
  obtain ⟨⟨n, h0, h1, h2, h3⟩, s2, g2, h4, h5⟩ := hf
  refine loop5 h1 (by omega) (fun j hj => by obtain ⟨p, c, d, a1, a2, a3, _⟩ := h2 j hj; exact ⟨p, c, d, a1, a2, a3⟩) (fun t ht => ?_)
  have ht' : t = true ↔ isU 5 v k 2 = true := ht.trans (h3 k 2 h.2.2.1 (by omega))
  obtain ⟨p, p1, p2⟩ := h5 k h.2.2.1
  rw [h.2.2.2] at p2
  have ex : (k : Int) / 4 % 5 = ((k / 4 % 5 : Nat) : Int) := by omega
  have ey : (k : Int) / 4 / 5 = ((k / 4 / 5 : Nat) : Int) := by omega
  have hu : isU 5 v k 2 = false := by unfold isU; rw [h.2.2.2]; rfl
  cases t with
  | true => rw [hu] at ht'; exact absurd (ht'.1 rfl) (by decide)
  | false =>
    exact rest5_f (namx532 (by omega))
end Go.Am
/-
  CONTRACTS, BY PROGRAM: SheetsNone.
-/
set_option maxRecDepth 100000
set_option maxHeartbeats 4000000
namespace Go.Am
open Sx Go.Proofs

theorem none_out {W v : Nat} {i e : Int} (h : 1 ≤ W ∧ W ≤ 5 ∧ 1 ≤ v ∧ v ≤ 5) (ho : ¬ (0 ≤ i ∧ i < 4 * W * v ∧ 0 ≤ e ∧ e < 3)) (he : 0 ≤ e) {s : Value} {g : HL} (hf : F5 W v s g) : pt5e P1 i e s g (fun t h => pt5r P1 i e (W : Int) (v : Int) t h KT) KT := by
  obtain ⟨⟨n, h0, h1, h2, h3⟩, _⟩ := hf
  refine loop5 h1 (by omega) (fun j hj => by obtain ⟨p, c, d, a1, a2, a3, _⟩ := h2 j hj; exact ⟨p, c, d, a1, a2, a3⟩) (fun t ht => ?_)
  cases t with
  | true =>
    exfalso
    obtain ⟨j, hj, hu⟩ := ht.1 rfl
    obtain ⟨p, c, d, _, _, a3, b1, b2, b3, b4⟩ := h2 j hj
    rw [a3] at hu
    cases hu
    exact ho ⟨b1, b2, b3, b4⟩
  | false =>
    exact rest5_f (nam_none ⟨by omega, fun hh => ho ⟨hh.1.1, hh.1.2, he, by omega⟩⟩)
theorem none_in1 {v : Nat} {i e : Int} (h : 1 ≤ v ∧ v ≤ 5) (he : 0 ≤ e) {s : Value} {g : HL} (hf : F5 1 v s g) : pt5e P1 i e s g (fun t h => pt5r P1 i e 1 (v : Int) t h KT) KT := by
  by_cases hi : 0 ≤ i ∧ i < 4 * (1 : Nat) * v ∧ 0 ≤ e ∧ e < 3
  · obtain ⟨k, rfl⟩ := Int.eq_ofNat_of_zero_le hi.1
    obtain rfl | rfl | rfl : e = 0 ∨ e = 1 ∨ e = 2 := by omega
    all_goals (obtain hq | hq | hq | hq : k % 4 = 0 ∨ k % 4 = 1 ∨ k % 4 = 2 ∨ k % 4 = 3 := by omega)
    · exact none100 (by omega) hf
    · exact none110 (by omega) hf
    · exact none120 (by omega) hf
    · exact none130 (by omega) hf
    · exact none101 (by omega) hf
    · exact none111 (by omega) hf
    · exact none121 (by omega) hf
    · exact none131 (by omega) hf
    · exact none102 (by omega) hf
    · exact none112 (by omega) hf
    · exact none122 (by omega) hf
    · exact none132 (by omega) hf
  · exact none_out (W := 1) (by omega) hi he hf
theorem none_in2 {v : Nat} {i e : Int} (h : 1 ≤ v ∧ v ≤ 5) (he : 0 ≤ e) {s : Value} {g : HL} (hf : F5 2 v s g) : pt5e P1 i e s g (fun t h => pt5r P1 i e 2 (v : Int) t h KT) KT := by
  by_cases hi : 0 ≤ i ∧ i < 4 * (2 : Nat) * v ∧ 0 ≤ e ∧ e < 3
  · obtain ⟨k, rfl⟩ := Int.eq_ofNat_of_zero_le hi.1
    obtain rfl | rfl | rfl : e = 0 ∨ e = 1 ∨ e = 2 := by omega
    all_goals (obtain hq | hq | hq | hq : k % 4 = 0 ∨ k % 4 = 1 ∨ k % 4 = 2 ∨ k % 4 = 3 := by omega)
    · exact none200 (by omega) hf
    · exact none210 (by omega) hf
    · exact none220 (by omega) hf
    · exact none230 (by omega) hf
    · exact none201 (by omega) hf
    · exact none211 (by omega) hf
    · exact none221 (by omega) hf
    · exact none231 (by omega) hf
    · exact none202 (by omega) hf
    · exact none212 (by omega) hf
    · exact none222 (by omega) hf
    · exact none232 (by omega) hf
  · exact none_out (W := 2) (by omega) hi he hf
theorem none_in3 {v : Nat} {i e : Int} (h : 1 ≤ v ∧ v ≤ 5) (he : 0 ≤ e) {s : Value} {g : HL} (hf : F5 3 v s g) : pt5e P1 i e s g (fun t h => pt5r P1 i e 3 (v : Int) t h KT) KT := by
  by_cases hi : 0 ≤ i ∧ i < 4 * (3 : Nat) * v ∧ 0 ≤ e ∧ e < 3
  · obtain ⟨k, rfl⟩ := Int.eq_ofNat_of_zero_le hi.1
    obtain rfl | rfl | rfl : e = 0 ∨ e = 1 ∨ e = 2 := by omega
    all_goals (obtain hq | hq | hq | hq : k % 4 = 0 ∨ k % 4 = 1 ∨ k % 4 = 2 ∨ k % 4 = 3 := by omega)
    · exact none300 (by omega) hf
    · exact none310 (by omega) hf
    · exact none320 (by omega) hf
    · exact none330 (by omega) hf
    · exact none301 (by omega) hf
    · exact none311 (by omega) hf
    · exact none321 (by omega) hf
    · exact none331 (by omega) hf
    · exact none302 (by omega) hf
    · exact none312 (by omega) hf
    · exact none322 (by omega) hf
    · exact none332 (by omega) hf
  · exact none_out (W := 3) (by omega) hi he hf
theorem none_in4 {v : Nat} {i e : Int} (h : 1 ≤ v ∧ v ≤ 5) (he : 0 ≤ e) {s : Value} {g : HL} (hf : F5 4 v s g) : pt5e P1 i e s g (fun t h => pt5r P1 i e 4 (v : Int) t h KT) KT := by
  by_cases hi : 0 ≤ i ∧ i < 4 * (4 : Nat) * v ∧ 0 ≤ e ∧ e < 3
  · obtain ⟨k, rfl⟩ := Int.eq_ofNat_of_zero_le hi.1
    obtain rfl | rfl | rfl : e = 0 ∨ e = 1 ∨ e = 2 := by omega
    all_goals (obtain hq | hq | hq | hq : k % 4 = 0 ∨ k % 4 = 1 ∨ k % 4 = 2 ∨ k % 4 = 3 := by omega)
    · exact none400 (by omega) hf
    · exact none410 (by omega) hf
    · exact none420 (by omega) hf
    · exact none430 (by omega) hf
    · exact none401 (by omega) hf
    · exact none411 (by omega) hf
    · exact none421 (by omega) hf
    · exact none431 (by omega) hf
    · exact none402 (by omega) hf
    · exact none412 (by omega) hf
    · exact none422 (by omega) hf
    · exact none432 (by omega) hf
  · exact none_out (W := 4) (by omega) hi he hf
theorem none_in5 {v : Nat} {i e : Int} (h : 1 ≤ v ∧ v ≤ 5) (he : 0 ≤ e) {s : Value} {g : HL} (hf : F5 5 v s g) : pt5e P1 i e s g (fun t h => pt5r P1 i e 5 (v : Int) t h KT) KT := by
  by_cases hi : 0 ≤ i ∧ i < 4 * (5 : Nat) * v ∧ 0 ≤ e ∧ e < 3
  · obtain ⟨k, rfl⟩ := Int.eq_ofNat_of_zero_le hi.1
    obtain rfl | rfl | rfl : e = 0 ∨ e = 1 ∨ e = 2 := by omega
    all_goals (obtain hq | hq | hq | hq : k % 4 = 0 ∨ k % 4 = 1 ∨ k % 4 = 2 ∨ k % 4 = 3 := by omega)
    · exact none500 (by omega) hf
    · exact none510 (by omega) hf
    · exact none520 (by omega) hf
    · exact none530 (by omega) hf
    · exact none501 (by omega) hf
    · exact none511 (by omega) hf
    · exact none521 (by omega) hf
    · exact none531 (by omega) hf
    · exact none502 (by omega) hf
    · exact none512 (by omega) hf
    · exact none522 (by omega) hf
    · exact none532 (by omega) hf
  · exact none_out (W := 5) (by omega) hi he hf
theorem shO1 {a b v i e : Int} (h : 0 ≤ a ∧ a ≤ 255 ∧ 0 ≤ b ∧ b ≤ 255 ∧ 1 = 1 + a % 5 ∧ v = 1 + b % 5) (hb : -9223372036854775808 ≤ i ∧ i ≤ 9223372036854775807 ∧ 0 ≤ e ∧ e ≤ 255) : Cc 5 [.i a, .i b, .i i, .i e] [.b true] := by
  refine q5 rfl ?_; unfold p5
  simp (disch := omega) only [↓qxs, ↓qxc, ↓qxa, ↓qxb]
  refine p_call (ofW (w := 1) (v := v) (by omega)) ?_
  have hv : 1 ≤ v ∧ v ≤ 5 := by omega
  show pt5 P1 [.i 1, .i v] [] (fun a b s g => pt5e P1 i e s g (fun t h => pt5r P1 i e a b t h KT) KT) KT
  clear h
  obtain rfl | rfl | rfl | rfl | rfl : v = 1 ∨ v = 2 ∨ v = 3 ∨ v = 4 ∨ v = 5 := by omega
  · exact in5 ok5_11 (fun s g hf => none_in1 (v := 1) (by omega) (by omega) hf)
  · exact in5 ok5_12 (fun s g hf => none_in1 (v := 2) (by omega) (by omega) hf)
  · exact in5 ok5_13 (fun s g hf => none_in1 (v := 3) (by omega) (by omega) hf)
  · exact in5 ok5_14 (fun s g hf => none_in1 (v := 4) (by omega) (by omega) hf)
  · exact in5 ok5_15 (fun s g hf => none_in1 (v := 5) (by omega) (by omega) hf)
theorem shO2 {a b v i e : Int} (h : 0 ≤ a ∧ a ≤ 255 ∧ 0 ≤ b ∧ b ≤ 255 ∧ 2 = 1 + a % 5 ∧ v = 1 + b % 5) (hb : -9223372036854775808 ≤ i ∧ i ≤ 9223372036854775807 ∧ 0 ≤ e ∧ e ≤ 255) : Cc 5 [.i a, .i b, .i i, .i e] [.b true] := by
  refine q5 rfl ?_; unfold p5
  simp (disch := omega) only [↓qxs, ↓qxc, ↓qxa, ↓qxb]
  refine p_call (ofW (w := 2) (v := v) (by omega)) ?_
  have hv : 1 ≤ v ∧ v ≤ 5 := by omega
  show pt5 P1 [.i 2, .i v] [] (fun a b s g => pt5e P1 i e s g (fun t h => pt5r P1 i e a b t h KT) KT) KT
  clear h
  obtain rfl | rfl | rfl | rfl | rfl : v = 1 ∨ v = 2 ∨ v = 3 ∨ v = 4 ∨ v = 5 := by omega
  · exact in5 ok5_21 (fun s g hf => none_in2 (v := 1) (by omega) (by omega) hf)
  · exact in5 ok5_22 (fun s g hf => none_in2 (v := 2) (by omega) (by omega) hf)
  · exact in5 ok5_23 (fun s g hf => none_in2 (v := 3) (by omega) (by omega) hf)
  · exact in5 ok5_24 (fun s g hf => none_in2 (v := 4) (by omega) (by omega) hf)
  · exact in5 ok5_25 (fun s g hf => none_in2 (v := 5) (by omega) (by omega) hf)
theorem shO3 {a b v i e : Int} (h : 0 ≤ a ∧ a ≤ 255 ∧ 0 ≤ b ∧ b ≤ 255 ∧ 3 = 1 + a % 5 ∧ v = 1 + b % 5) (hb : -9223372036854775808 ≤ i ∧ i ≤ 9223372036854775807 ∧ 0 ≤ e ∧ e ≤ 255) : Cc 5 [.i a, .i b, .i i, .i e] [.b true] := by
  refine q5 rfl ?_; unfold p5
  simp (disch := omega) only [↓qxs, ↓qxc, ↓qxa, ↓qxb]
  refine p_call (ofW (w := 3) (v := v) (by omega)) ?_
  have hv : 1 ≤ v ∧ v ≤ 5 := by omega
  show pt5 P1 [.i 3, .i v] [] (fun a b s g => pt5e P1 i e s g (fun t h => pt5r P1 i e a b t h KT) KT) KT
  clear h
  obtain rfl | rfl | rfl | rfl | rfl : v = 1 ∨ v = 2 ∨ v = 3 ∨ v = 4 ∨ v = 5 := by omega
  · exact in5 ok5_31 (fun s g hf => none_in3 (v := 1) (by omega) (by omega) hf)
  · exact in5 ok5_32 (fun s g hf => none_in3 (v := 2) (by omega) (by omega) hf)
  · exact in5 ok5_33 (fun s g hf => none_in3 (v := 3) (by omega) (by omega) hf)
  · exact in5 ok5_34 (fun s g hf => none_in3 (v := 4) (by omega) (by omega) hf)
  · exact in5 ok5_35 (fun s g hf => none_in3 (v := 5) (by omega) (by omega) hf)
theorem shO4 {a b v i e : Int} (h : 0 ≤ a ∧ a ≤ 255 ∧ 0 ≤ b ∧ b ≤ 255 ∧ 4 = 1 + a % 5 ∧ v = 1 + b % 5) (hb : -9223372036854775808 ≤ i ∧ i ≤ 9223372036854775807 ∧ 0 ≤ e ∧ e ≤ 255) : Cc 5 [.i a, .i b, .i i, .i e] [.b true] := by
  refine q5 rfl ?_; unfold p5
  simp (disch := omega) only [↓qxs, ↓qxc, ↓qxa, ↓qxb]
  refine p_call (ofW (w := 4) (v := v) (by omega)) ?_
  have hv : 1 ≤ v ∧ v ≤ 5 := by omega
  show pt5 P1 [.i 4, .i v] [] (fun a b s g => pt5e P1 i e s g (fun t h => pt5r P1 i e a b t h KT) KT) KT
  clear h
  obtain rfl | rfl | rfl | rfl | rfl : v = 1 ∨ v = 2 ∨ v = 3 ∨ v = 4 ∨ v = 5 := by omega
  · exact in5 ok5_41 (fun s g hf => none_in4 (v := 1) (by omega) (by omega) hf)
  · exact in5 ok5_42 (fun s g hf => none_in4 (v := 2) (by omega) (by omega) hf)
  · exact in5 ok5_43 (fun s g hf => none_in4 (v := 3) (by omega) (by omega) hf)
  · exact in5 ok5_44 (fun s g hf => none_in4 (v := 4) (by omega) (by omega) hf)
  · exact in5 ok5_45 (fun s g hf => none_in4 (v := 5) (by omega) (by omega) hf)
theorem shO5 {a b v i e : Int} (h : 0 ≤ a ∧ a ≤ 255 ∧ 0 ≤ b ∧ b ≤ 255 ∧ 5 = 1 + a % 5 ∧ v = 1 + b % 5) (hb : -9223372036854775808 ≤ i ∧ i ≤ 9223372036854775807 ∧ 0 ≤ e ∧ e ≤ 255) : Cc 5 [.i a, .i b, .i i, .i e] [.b true] := by
  refine q5 rfl ?_; unfold p5
  simp (disch := omega) only [↓qxs, ↓qxc, ↓qxa, ↓qxb]
  refine p_call (ofW (w := 5) (v := v) (by omega)) ?_
  have hv : 1 ≤ v ∧ v ≤ 5 := by omega
  show pt5 P1 [.i 5, .i v] [] (fun a b s g => pt5e P1 i e s g (fun t h => pt5r P1 i e a b t h KT) KT) KT
  clear h
  obtain rfl | rfl | rfl | rfl | rfl : v = 1 ∨ v = 2 ∨ v = 3 ∨ v = 4 ∨ v = 5 := by omega
  · exact in5 ok5_51 (fun s g hf => none_in5 (v := 1) (by omega) (by omega) hf)
  · exact in5 ok5_52 (fun s g hf => none_in5 (v := 2) (by omega) (by omega) hf)
  · exact in5 ok5_53 (fun s g hf => none_in5 (v := 3) (by omega) (by omega) hf)
  · exact in5 ok5_54 (fun s g hf => none_in5 (v := 4) (by omega) (by omega) hf)
  · exact in5 ok5_55 (fun s g hf => none_in5 (v := 5) (by omega) (by omega) hf)
theorem sheetsNone_any {a b i e : Int} (h : 0 ≤ a ∧ a ≤ 255 ∧ 0 ≤ b ∧ b ≤ 255 ∧ -9223372036854775808 ≤ i ∧ i ≤ 9223372036854775807 ∧ 0 ≤ e ∧ e ≤ 255) : Cc 5 [.i a, .i b, .i i, .i e] [.b true] := by
  obtain ⟨v, hv⟩ : ∃ v, v = 1 + b % 5 := ⟨_, rfl⟩
  obtain hw | hw | hw | hw | hw : 1 = 1 + a % 5 ∨ 2 = 1 + a % 5 ∨ 3 = 1 + a % 5 ∨ 4 = 1 + a % 5 ∨ 5 = 1 + a % 5 := by omega
  · exact shO1 (v := v) (by omega) (by omega)
  · exact shO2 (v := v) (by omega) (by omega)
  · exact shO3 (v := v) (by omega) (by omega)
  · exact shO4 (v := v) (by omega) (by omega)
  · exact shO5 (v := v) (by omega) (by omega)
end Go.Am
/-
  WHAT THE ROW SAYS OF THE LISTED VARIABLES: the table of the quarters.
-/
set_option maxRecDepth 100000
namespace Go.Proofs.YtdngmncaohgacaaDoor
open Go Go.Am Go.Am.Sx
open Go.ChangeShapes Go.WideShapes Go.ChangeAt Go.WideMaps Go.WideElems Go.RowKit

abbrev laidC : List (String × DataW Unit) := [("crimp/cells.quarters", Rows.laid_crimp_cells_quarters)]
theorem name0 : Tryd.prog.globalNamed "crimp/cells.quarters" = some 0 := by kernel_rfl
/-- What the list gives. -/
theorem of_laid {W : World} (h : laidMetH Tryd.prog laidC W) (g : Nat) (vs : List Value) (hg : cc.G g = some vs) :
    g < W.heap.size ∧ vs.all cellOk = true ∧ vs.all flat = true ∧ ∃ c e fr, W.heap[g]? = some (.cells c e fr) ∧ c.toList = vs := by
  rw [MakeChecks.laidMetH_plain _ _ _ (by kernel_rfl)] at h
  obtain ⟨ps, h, _, _⟩ := h
  have main : ∃ c e fr, W.heap[g]? = some (.cells c e fr) ∧ c.toList = vs := by
    unfold cc at hg
    simp only at hg
    split at hg
    · cases hg
      exact laid_cells h "crimp/cells.quarters" Rows.laid_crimp_cells_quarters List.mem_cons_self 0 137 8 gl0 name0 (by kernel_rfl) (by kernel_rfl)
    · cases hg
  refine ⟨?_, gl_cell g vs hg, gl_flat g vs hg, main⟩
  obtain ⟨c, e, fr, h1, _⟩ := main
  rcases Nat.lt_or_ge g W.heap.size with h | h
  · exact h
  · rw [Array.getElem?_eq_none h] at h1; cases h1
theorem own : ownKnob Tryd.prog.godebug = none := by kernel_rfl
theorem door_met (os : Os) (args : Array Value) : laidMetH Tryd.prog laidC ((World.doorLaid Tryd.prog 400 os).forCall (fun _ _ => 0) ⟨#[], args, []⟩).memory :=
  laidMetH_of_parts3 (fuel := 8) (laidMet_of_run' 8 (by kernel_rfl) (by kernel_rfl)) (by kernel_rfl) (by kernel_rfl)
end Go.Proofs.YtdngmncaohgacaaDoor

