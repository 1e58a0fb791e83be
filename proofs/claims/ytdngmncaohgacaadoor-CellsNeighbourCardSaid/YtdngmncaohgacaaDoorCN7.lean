/-
  PART 7 OF THE PROOF: L10c L10d L10 Cd1 Cd2 (no conditions).
-/
import Derived.Test.YtdngmncaohgacaaDoorCN6
import Derived.SevenTiedAt
import Derived.Test.YtdngmncaohgacaaDoorCards
import Derived.Test.YtdngmncaohgacaaDoorTie
set_option linter.unusedSectionVars false
set_option linter.unusedSimpArgs false
set_option linter.unusedVariables false
set_option linter.constructorNameAsVariable false
set_option linter.defProp false
/-
  CONTRACTS, BY PROGRAM: CellsNeighbour, by quarter.
-/
set_option maxRecDepth 100000
set_option maxHeartbeats 4000000
namespace Go.Am
open Sx Go.Proofs

theorem cellsNb2g0 {x y u v e : Int} (h : -4096 ≤ x ∧ x ≤ 4096 ∧ -4096 ≤ y ∧ y ≤ 4096 ∧ -9223372036854775808 ≤ u ∧ u ≤ 9223372036854775807 ∧ -9223372036854775808 ≤ v ∧ v ≤ 9223372036854775807 ∧ 2 < e ∧ e ≤ 255 ∧ -4096 ≤ u ∧ u ≤ 4096 ∧ -4096 ≤ v ∧ v ≤ 4096 ∧ u = x ∧ v = y + 1) : Cc 10 [.i x, .i y, .i 2, .i e, .i u, .i v, .i 0] [.b true] := by
  refine q10 rfl ?_; unfold p10
  first | (exfalso; omega) | (repeat (first | simp (disch := omega) only [↓qxs, ↓qxc, ↓qxa, ↓qxb] | refine p_loop 5 ?_ | refine p_call (cnb_no (by omega)) ?_ | refine p_call (touch20 (by omega)) ?_ | refine p_call (touch21 (by omega)) ?_ | refine p_call (touch22 (by omega)) ?_ | refine p_call (touchn2 (by omega)) ?_ | refine p_call (touch_no2 (by omega)) ?_ | refine p_call (v3_ok (by omega)) ?_ | refine p_call (v3_no (by omega)) ?_ | refine p_call (rnb20 (by omega)) ?_ | refine p_call (rnb21 (by omega)) ?_ | refine p_call (rnb22 (by omega)) ?_ | refine p_call lives ?_ | refine p_call (v3_ok (by omega)) ?_ | refine p_call (v3_no (by omega)) ?_ | refine p_call (cellCheck_ok (by omega)) ?_ | refine p_call (cellCheck_no (by omega)) ?_))
theorem cellsNb2g1 {x y u v e : Int} (h : -4096 ≤ x ∧ x ≤ 4096 ∧ -4096 ≤ y ∧ y ≤ 4096 ∧ -9223372036854775808 ≤ u ∧ u ≤ 9223372036854775807 ∧ -9223372036854775808 ≤ v ∧ v ≤ 9223372036854775807 ∧ 2 < e ∧ e ≤ 255 ∧ -4096 ≤ u ∧ u ≤ 4096 ∧ -4096 ≤ v ∧ v ≤ 4096 ∧ u = x ∧ v = y) : Cc 10 [.i x, .i y, .i 2, .i e, .i u, .i v, .i 3] [.b true] := by
  refine q10 rfl ?_; unfold p10
  first | (exfalso; omega) | (repeat (first | simp (disch := omega) only [↓qxs, ↓qxc, ↓qxa, ↓qxb] | refine p_loop 5 ?_ | refine p_call (cnb_no (by omega)) ?_ | refine p_call (touch20 (by omega)) ?_ | refine p_call (touch21 (by omega)) ?_ | refine p_call (touch22 (by omega)) ?_ | refine p_call (touchn2 (by omega)) ?_ | refine p_call (touch_no2 (by omega)) ?_ | refine p_call (v3_ok (by omega)) ?_ | refine p_call (v3_no (by omega)) ?_ | refine p_call (rnb20 (by omega)) ?_ | refine p_call (rnb21 (by omega)) ?_ | refine p_call (rnb22 (by omega)) ?_ | refine p_call lives ?_ | refine p_call (v3_ok (by omega)) ?_ | refine p_call (v3_no (by omega)) ?_ | refine p_call (cellCheck_ok (by omega)) ?_ | refine p_call (cellCheck_no (by omega)) ?_))
theorem cellsNb2g2 {x y u v e : Int} (h : -4096 ≤ x ∧ x ≤ 4096 ∧ -4096 ≤ y ∧ y ≤ 4096 ∧ -9223372036854775808 ≤ u ∧ u ≤ 9223372036854775807 ∧ -9223372036854775808 ≤ v ∧ v ≤ 9223372036854775807 ∧ 2 < e ∧ e ≤ 255 ∧ -4096 ≤ u ∧ u ≤ 4096 ∧ -4096 ≤ v ∧ v ≤ 4096 ∧ u = x ∧ v = y) : Cc 10 [.i x, .i y, .i 2, .i e, .i u, .i v, .i 1] [.b true] := by
  refine q10 rfl ?_; unfold p10
  first | (exfalso; omega) | (repeat (first | simp (disch := omega) only [↓qxs, ↓qxc, ↓qxa, ↓qxb] | refine p_loop 5 ?_ | refine p_call (cnb_no (by omega)) ?_ | refine p_call (touch20 (by omega)) ?_ | refine p_call (touch21 (by omega)) ?_ | refine p_call (touch22 (by omega)) ?_ | refine p_call (touchn2 (by omega)) ?_ | refine p_call (touch_no2 (by omega)) ?_ | refine p_call (v3_ok (by omega)) ?_ | refine p_call (v3_no (by omega)) ?_ | refine p_call (rnb20 (by omega)) ?_ | refine p_call (rnb21 (by omega)) ?_ | refine p_call (rnb22 (by omega)) ?_ | refine p_call lives ?_ | refine p_call (v3_ok (by omega)) ?_ | refine p_call (v3_no (by omega)) ?_ | refine p_call (cellCheck_ok (by omega)) ?_ | refine p_call (cellCheck_no (by omega)) ?_))
theorem cellsNb2g3 {x y u v r e : Int} (h : -4096 ≤ x ∧ x ≤ 4096 ∧ -4096 ≤ y ∧ y ≤ 4096 ∧ -9223372036854775808 ≤ u ∧ u ≤ 9223372036854775807 ∧ -9223372036854775808 ≤ v ∧ v ≤ 9223372036854775807 ∧ 0 ≤ r ∧ r ≤ 255 ∧ 2 < e ∧ e ≤ 255 ∧ (-4096 ≤ u ∧ u ≤ 4096 ∧ -4096 ≤ v ∧ v ≤ 4096 ∧ r ≤ 3) ∧ ¬ (u = x ∧ v = y + 1 ∧ r = 0) ∧ ¬ (u = x ∧ v = y ∧ r = 3) ∧ ¬ (u = x ∧ v = y ∧ r = 1)) : Cc 10 [.i x, .i y, .i 2, .i e, .i u, .i v, .i r] [.b true] := by
  refine q10 rfl ?_; unfold p10
  first | (exfalso; omega) | (repeat (first | simp (disch := omega) only [↓qxs, ↓qxc, ↓qxa, ↓qxb] | refine p_loop 5 ?_ | refine p_call (cnb_no (by omega)) ?_ | refine p_call (touch20 (by omega)) ?_ | refine p_call (touch21 (by omega)) ?_ | refine p_call (touch22 (by omega)) ?_ | refine p_call (touchn2 (by omega)) ?_ | refine p_call (touch_no2 (by omega)) ?_ | refine p_call (v3_ok (by omega)) ?_ | refine p_call (v3_no (by omega)) ?_ | refine p_call (rnb20 (by omega)) ?_ | refine p_call (rnb21 (by omega)) ?_ | refine p_call (rnb22 (by omega)) ?_ | refine p_call lives ?_ | refine p_call (v3_ok (by omega)) ?_ | refine p_call (v3_no (by omega)) ?_ | refine p_call (cellCheck_ok (by omega)) ?_ | refine p_call (cellCheck_no (by omega)) ?_))
theorem cellsNb2g4 {x y u v r e : Int} (h : -4096 ≤ x ∧ x ≤ 4096 ∧ -4096 ≤ y ∧ y ≤ 4096 ∧ -9223372036854775808 ≤ u ∧ u ≤ 9223372036854775807 ∧ -9223372036854775808 ≤ v ∧ v ≤ 9223372036854775807 ∧ 0 ≤ r ∧ r ≤ 255 ∧ 2 < e ∧ e ≤ 255 ∧ ¬ (-4096 ≤ u ∧ u ≤ 4096 ∧ -4096 ≤ v ∧ v ≤ 4096 ∧ r ≤ 3)) : Cc 10 [.i x, .i y, .i 2, .i e, .i u, .i v, .i r] [.b true] := by
  refine q10 rfl ?_; unfold p10
  first | (exfalso; omega) | (repeat (first | simp (disch := omega) only [↓qxs, ↓qxc, ↓qxa, ↓qxb] | refine p_loop 5 ?_ | refine p_call (cnb_no (by omega)) ?_ | refine p_call (touch20 (by omega)) ?_ | refine p_call (touch21 (by omega)) ?_ | refine p_call (touch22 (by omega)) ?_ | refine p_call (touchn2 (by omega)) ?_ | refine p_call (touch_no2 (by omega)) ?_ | refine p_call (v3_ok (by omega)) ?_ | refine p_call (v3_no (by omega)) ?_ | refine p_call (rnb20 (by omega)) ?_ | refine p_call (rnb21 (by omega)) ?_ | refine p_call (rnb22 (by omega)) ?_ | refine p_call lives ?_ | refine p_call (v3_ok (by omega)) ?_ | refine p_call (v3_no (by omega)) ?_ | refine p_call (cellCheck_ok (by omega)) ?_ | refine p_call (cellCheck_no (by omega)) ?_))
theorem cellsNb200 {x y u v : Int} (h : -4096 ≤ x ∧ x ≤ 4096 ∧ -4096 ≤ y ∧ y ≤ 4096 ∧ -9223372036854775808 ≤ u ∧ u ≤ 9223372036854775807 ∧ -9223372036854775808 ≤ v ∧ v ≤ 9223372036854775807 ∧ -4096 ≤ u ∧ u ≤ 4096 ∧ -4096 ≤ v ∧ v ≤ 4096 ∧ u = x ∧ v = y + 1) : Cc 10 [.i x, .i y, .i 2, .i 0, .i u, .i v, .i 0] [.b true] := by
  refine q10 rfl ?_; unfold p10
  by_cases hn : -4096 ≤ x ∧ x ≤ 4096 ∧ -4096 ≤ y + 1 ∧ y + 1 ≤ 4096
  · by_cases hc : -4096 ≤ y + 1 ∧ y + 1 ≤ 4096
    · first | (exfalso; omega) | (repeat (first | simp (disch := omega) only [↓qxs, ↓qxc, ↓qxa, ↓qxb] | refine p_loop 5 ?_ | refine p_call (touch20 (by omega)) ?_ | refine p_call (touch21 (by omega)) ?_ | refine p_call (touch22 (by omega)) ?_ | refine p_call (touchn2 (by omega)) ?_ | refine p_call (touch_no2 (by omega)) ?_ | refine p_call (v3_ok (by omega)) ?_ | refine p_call (v3_no (by omega)) ?_ | refine p_call (rnb20 (by omega)) ?_ | refine p_call (rnb21 (by omega)) ?_ | refine p_call (rnb22 (by omega)) ?_ | refine p_call (cnb20 (by omega)) ?_ | refine p_call (cnbl20 (by omega)) ?_ | refine p_call (cnb00 (by omega)) ?_ | refine p_call (rline20 (by omega)) ?_ | refine p_call (v1_ok (by omega)) ?_ | refine p_call (v1_no (by omega)) ?_ | refine p_call (csideh22 (by omega)) ?_ | refine p_call (csidel22 (by omega)) ?_ | refine p_call (csideh20 (by omega)) ?_ | refine p_call (csidel20 (by omega)) ?_ | refine p_call lives ?_ | refine p_call (v3_ok (by omega)) ?_ | refine p_call (v3_no (by omega)) ?_ | refine p_call (cellCheck_ok (by omega)) ?_ | refine p_call (cellCheck_no (by omega)) ?_))
    first | (exfalso; omega) | (repeat (first | simp (disch := omega) only [↓qxs, ↓qxc, ↓qxa, ↓qxb] | refine p_loop 5 ?_ | refine p_call (touch20 (by omega)) ?_ | refine p_call (touch21 (by omega)) ?_ | refine p_call (touch22 (by omega)) ?_ | refine p_call (touchn2 (by omega)) ?_ | refine p_call (touch_no2 (by omega)) ?_ | refine p_call (v3_ok (by omega)) ?_ | refine p_call (v3_no (by omega)) ?_ | refine p_call (rnb20 (by omega)) ?_ | refine p_call (rnb21 (by omega)) ?_ | refine p_call (rnb22 (by omega)) ?_ | refine p_call (cnb20 (by omega)) ?_ | refine p_call (cnbl20 (by omega)) ?_ | refine p_call (cnb00 (by omega)) ?_ | refine p_call (rline20 (by omega)) ?_ | refine p_call (v1_ok (by omega)) ?_ | refine p_call (v1_no (by omega)) ?_ | refine p_call (csideh22 (by omega)) ?_ | refine p_call (csidel22 (by omega)) ?_ | refine p_call (csideh20 (by omega)) ?_ | refine p_call (csidel20 (by omega)) ?_ | refine p_call lives ?_ | refine p_call (v3_ok (by omega)) ?_ | refine p_call (v3_no (by omega)) ?_ | refine p_call (cellCheck_ok (by omega)) ?_ | refine p_call (cellCheck_no (by omega)) ?_))
  first | (exfalso; omega) | (repeat (first | simp (disch := omega) only [↓qxs, ↓qxc, ↓qxa, ↓qxb] | refine p_loop 5 ?_ | refine p_call (touch20 (by omega)) ?_ | refine p_call (touch21 (by omega)) ?_ | refine p_call (touch22 (by omega)) ?_ | refine p_call (touchn2 (by omega)) ?_ | refine p_call (touch_no2 (by omega)) ?_ | refine p_call (v3_ok (by omega)) ?_ | refine p_call (v3_no (by omega)) ?_ | refine p_call (rnb20 (by omega)) ?_ | refine p_call (rnb21 (by omega)) ?_ | refine p_call (rnb22 (by omega)) ?_ | refine p_call (cnb20 (by omega)) ?_ | refine p_call (cnbl20 (by omega)) ?_ | refine p_call (cnb00 (by omega)) ?_ | refine p_call (rline20 (by omega)) ?_ | refine p_call (v1_ok (by omega)) ?_ | refine p_call (v1_no (by omega)) ?_ | refine p_call (csideh22 (by omega)) ?_ | refine p_call (csidel22 (by omega)) ?_ | refine p_call (csideh20 (by omega)) ?_ | refine p_call (csidel20 (by omega)) ?_ | refine p_call lives ?_ | refine p_call (v3_ok (by omega)) ?_ | refine p_call (v3_no (by omega)) ?_ | refine p_call (cellCheck_ok (by omega)) ?_ | refine p_call (cellCheck_no (by omega)) ?_))
theorem cellsNb201 {x y u v : Int} (h : -4096 ≤ x ∧ x ≤ 4096 ∧ -4096 ≤ y ∧ y ≤ 4096 ∧ -9223372036854775808 ≤ u ∧ u ≤ 9223372036854775807 ∧ -9223372036854775808 ≤ v ∧ v ≤ 9223372036854775807 ∧ -4096 ≤ u ∧ u ≤ 4096 ∧ -4096 ≤ v ∧ v ≤ 4096 ∧ u = x ∧ v = y) : Cc 10 [.i x, .i y, .i 2, .i 0, .i u, .i v, .i 3] [.b true] := by
  refine q10 rfl ?_; unfold p10
  by_cases hn : -4096 ≤ x ∧ x ≤ 4096 ∧ -4096 ≤ y + 1 ∧ y + 1 ≤ 4096
  · by_cases hc : -4096 ≤ y + 1 ∧ y + 1 ≤ 4096
    · first | (exfalso; omega) | (repeat (first | simp (disch := omega) only [↓qxs, ↓qxc, ↓qxa, ↓qxb] | refine p_loop 5 ?_ | refine p_call (touch20 (by omega)) ?_ | refine p_call (touch21 (by omega)) ?_ | refine p_call (touch22 (by omega)) ?_ | refine p_call (touchn2 (by omega)) ?_ | refine p_call (touch_no2 (by omega)) ?_ | refine p_call (v3_ok (by omega)) ?_ | refine p_call (v3_no (by omega)) ?_ | refine p_call (rnb20 (by omega)) ?_ | refine p_call (rnb21 (by omega)) ?_ | refine p_call (rnb22 (by omega)) ?_ | refine p_call (cnb20 (by omega)) ?_ | refine p_call (cnbl20 (by omega)) ?_ | refine p_call (cnb00 (by omega)) ?_ | refine p_call (rline20 (by omega)) ?_ | refine p_call (v1_ok (by omega)) ?_ | refine p_call (v1_no (by omega)) ?_ | refine p_call (csideh22 (by omega)) ?_ | refine p_call (csidel22 (by omega)) ?_ | refine p_call (csideh20 (by omega)) ?_ | refine p_call (csidel20 (by omega)) ?_ | refine p_call lives ?_ | refine p_call (v3_ok (by omega)) ?_ | refine p_call (v3_no (by omega)) ?_ | refine p_call (cellCheck_ok (by omega)) ?_ | refine p_call (cellCheck_no (by omega)) ?_))
    first | (exfalso; omega) | (repeat (first | simp (disch := omega) only [↓qxs, ↓qxc, ↓qxa, ↓qxb] | refine p_loop 5 ?_ | refine p_call (touch20 (by omega)) ?_ | refine p_call (touch21 (by omega)) ?_ | refine p_call (touch22 (by omega)) ?_ | refine p_call (touchn2 (by omega)) ?_ | refine p_call (touch_no2 (by omega)) ?_ | refine p_call (v3_ok (by omega)) ?_ | refine p_call (v3_no (by omega)) ?_ | refine p_call (rnb20 (by omega)) ?_ | refine p_call (rnb21 (by omega)) ?_ | refine p_call (rnb22 (by omega)) ?_ | refine p_call (cnb20 (by omega)) ?_ | refine p_call (cnbl20 (by omega)) ?_ | refine p_call (cnb00 (by omega)) ?_ | refine p_call (rline20 (by omega)) ?_ | refine p_call (v1_ok (by omega)) ?_ | refine p_call (v1_no (by omega)) ?_ | refine p_call (csideh22 (by omega)) ?_ | refine p_call (csidel22 (by omega)) ?_ | refine p_call (csideh20 (by omega)) ?_ | refine p_call (csidel20 (by omega)) ?_ | refine p_call lives ?_ | refine p_call (v3_ok (by omega)) ?_ | refine p_call (v3_no (by omega)) ?_ | refine p_call (cellCheck_ok (by omega)) ?_ | refine p_call (cellCheck_no (by omega)) ?_))
  first | (exfalso; omega) | (repeat (first | simp (disch := omega) only [↓qxs, ↓qxc, ↓qxa, ↓qxb] | refine p_loop 5 ?_ | refine p_call (touch20 (by omega)) ?_ | refine p_call (touch21 (by omega)) ?_ | refine p_call (touch22 (by omega)) ?_ | refine p_call (touchn2 (by omega)) ?_ | refine p_call (touch_no2 (by omega)) ?_ | refine p_call (v3_ok (by omega)) ?_ | refine p_call (v3_no (by omega)) ?_ | refine p_call (rnb20 (by omega)) ?_ | refine p_call (rnb21 (by omega)) ?_ | refine p_call (rnb22 (by omega)) ?_ | refine p_call (cnb20 (by omega)) ?_ | refine p_call (cnbl20 (by omega)) ?_ | refine p_call (cnb00 (by omega)) ?_ | refine p_call (rline20 (by omega)) ?_ | refine p_call (v1_ok (by omega)) ?_ | refine p_call (v1_no (by omega)) ?_ | refine p_call (csideh22 (by omega)) ?_ | refine p_call (csidel22 (by omega)) ?_ | refine p_call (csideh20 (by omega)) ?_ | refine p_call (csidel20 (by omega)) ?_ | refine p_call lives ?_ | refine p_call (v3_ok (by omega)) ?_ | refine p_call (v3_no (by omega)) ?_ | refine p_call (cellCheck_ok (by omega)) ?_ | refine p_call (cellCheck_no (by omega)) ?_))
theorem cellsNb202 {x y u v : Int} (h : -4096 ≤ x ∧ x ≤ 4096 ∧ -4096 ≤ y ∧ y ≤ 4096 ∧ -9223372036854775808 ≤ u ∧ u ≤ 9223372036854775807 ∧ -9223372036854775808 ≤ v ∧ v ≤ 9223372036854775807 ∧ -4096 ≤ u ∧ u ≤ 4096 ∧ -4096 ≤ v ∧ v ≤ 4096 ∧ u = x ∧ v = y) : Cc 10 [.i x, .i y, .i 2, .i 0, .i u, .i v, .i 1] [.b true] := by
  refine q10 rfl ?_; unfold p10
  by_cases hn : -4096 ≤ x ∧ x ≤ 4096 ∧ -4096 ≤ y + 1 ∧ y + 1 ≤ 4096
  · by_cases hc : -4096 ≤ y + 1 ∧ y + 1 ≤ 4096
    · first | (exfalso; omega) | (repeat (first | simp (disch := omega) only [↓qxs, ↓qxc, ↓qxa, ↓qxb] | refine p_loop 5 ?_ | refine p_call (touch20 (by omega)) ?_ | refine p_call (touch21 (by omega)) ?_ | refine p_call (touch22 (by omega)) ?_ | refine p_call (touchn2 (by omega)) ?_ | refine p_call (touch_no2 (by omega)) ?_ | refine p_call (v3_ok (by omega)) ?_ | refine p_call (v3_no (by omega)) ?_ | refine p_call (rnb20 (by omega)) ?_ | refine p_call (rnb21 (by omega)) ?_ | refine p_call (rnb22 (by omega)) ?_ | refine p_call (cnb20 (by omega)) ?_ | refine p_call (cnbl20 (by omega)) ?_ | refine p_call (cnb00 (by omega)) ?_ | refine p_call (rline20 (by omega)) ?_ | refine p_call (v1_ok (by omega)) ?_ | refine p_call (v1_no (by omega)) ?_ | refine p_call (csideh22 (by omega)) ?_ | refine p_call (csidel22 (by omega)) ?_ | refine p_call (csideh20 (by omega)) ?_ | refine p_call (csidel20 (by omega)) ?_ | refine p_call lives ?_ | refine p_call (v3_ok (by omega)) ?_ | refine p_call (v3_no (by omega)) ?_ | refine p_call (cellCheck_ok (by omega)) ?_ | refine p_call (cellCheck_no (by omega)) ?_))
    first | (exfalso; omega) | (repeat (first | simp (disch := omega) only [↓qxs, ↓qxc, ↓qxa, ↓qxb] | refine p_loop 5 ?_ | refine p_call (touch20 (by omega)) ?_ | refine p_call (touch21 (by omega)) ?_ | refine p_call (touch22 (by omega)) ?_ | refine p_call (touchn2 (by omega)) ?_ | refine p_call (touch_no2 (by omega)) ?_ | refine p_call (v3_ok (by omega)) ?_ | refine p_call (v3_no (by omega)) ?_ | refine p_call (rnb20 (by omega)) ?_ | refine p_call (rnb21 (by omega)) ?_ | refine p_call (rnb22 (by omega)) ?_ | refine p_call (cnb20 (by omega)) ?_ | refine p_call (cnbl20 (by omega)) ?_ | refine p_call (cnb00 (by omega)) ?_ | refine p_call (rline20 (by omega)) ?_ | refine p_call (v1_ok (by omega)) ?_ | refine p_call (v1_no (by omega)) ?_ | refine p_call (csideh22 (by omega)) ?_ | refine p_call (csidel22 (by omega)) ?_ | refine p_call (csideh20 (by omega)) ?_ | refine p_call (csidel20 (by omega)) ?_ | refine p_call lives ?_ | refine p_call (v3_ok (by omega)) ?_ | refine p_call (v3_no (by omega)) ?_ | refine p_call (cellCheck_ok (by omega)) ?_ | refine p_call (cellCheck_no (by omega)) ?_))
  first | (exfalso; omega) | (repeat (first | simp (disch := omega) only [↓qxs, ↓qxc, ↓qxa, ↓qxb] | refine p_loop 5 ?_ | refine p_call (touch20 (by omega)) ?_ | refine p_call (touch21 (by omega)) ?_ | refine p_call (touch22 (by omega)) ?_ | refine p_call (touchn2 (by omega)) ?_ | refine p_call (touch_no2 (by omega)) ?_ | refine p_call (v3_ok (by omega)) ?_ | refine p_call (v3_no (by omega)) ?_ | refine p_call (rnb20 (by omega)) ?_ | refine p_call (rnb21 (by omega)) ?_ | refine p_call (rnb22 (by omega)) ?_ | refine p_call (cnb20 (by omega)) ?_ | refine p_call (cnbl20 (by omega)) ?_ | refine p_call (cnb00 (by omega)) ?_ | refine p_call (rline20 (by omega)) ?_ | refine p_call (v1_ok (by omega)) ?_ | refine p_call (v1_no (by omega)) ?_ | refine p_call (csideh22 (by omega)) ?_ | refine p_call (csidel22 (by omega)) ?_ | refine p_call (csideh20 (by omega)) ?_ | refine p_call (csidel20 (by omega)) ?_ | refine p_call lives ?_ | refine p_call (v3_ok (by omega)) ?_ | refine p_call (v3_no (by omega)) ?_ | refine p_call (cellCheck_ok (by omega)) ?_ | refine p_call (cellCheck_no (by omega)) ?_))
theorem cellsNb203 {x y u v r : Int} (h : -4096 ≤ x ∧ x ≤ 4096 ∧ -4096 ≤ y ∧ y ≤ 4096 ∧ -9223372036854775808 ≤ u ∧ u ≤ 9223372036854775807 ∧ -9223372036854775808 ≤ v ∧ v ≤ 9223372036854775807 ∧ 0 ≤ r ∧ r ≤ 255 ∧ (-4096 ≤ u ∧ u ≤ 4096 ∧ -4096 ≤ v ∧ v ≤ 4096 ∧ r ≤ 3) ∧ ¬ (u = x ∧ v = y + 1 ∧ r = 0) ∧ ¬ (u = x ∧ v = y ∧ r = 3) ∧ ¬ (u = x ∧ v = y ∧ r = 1)) : Cc 10 [.i x, .i y, .i 2, .i 0, .i u, .i v, .i r] [.b true] := by
  refine q10 rfl ?_; unfold p10
  by_cases hn : -4096 ≤ x ∧ x ≤ 4096 ∧ -4096 ≤ y + 1 ∧ y + 1 ≤ 4096
  · by_cases hc : -4096 ≤ y + 1 ∧ y + 1 ≤ 4096
    · first | (exfalso; omega) | (repeat (first | simp (disch := omega) only [↓qxs, ↓qxc, ↓qxa, ↓qxb] | refine p_loop 5 ?_ | refine p_call (touch20 (by omega)) ?_ | refine p_call (touch21 (by omega)) ?_ | refine p_call (touch22 (by omega)) ?_ | refine p_call (touchn2 (by omega)) ?_ | refine p_call (touch_no2 (by omega)) ?_ | refine p_call (v3_ok (by omega)) ?_ | refine p_call (v3_no (by omega)) ?_ | refine p_call (rnb20 (by omega)) ?_ | refine p_call (rnb21 (by omega)) ?_ | refine p_call (rnb22 (by omega)) ?_ | refine p_call (cnb20 (by omega)) ?_ | refine p_call (cnbl20 (by omega)) ?_ | refine p_call (cnb00 (by omega)) ?_ | refine p_call (rline20 (by omega)) ?_ | refine p_call (v1_ok (by omega)) ?_ | refine p_call (v1_no (by omega)) ?_ | refine p_call (csideh22 (by omega)) ?_ | refine p_call (csidel22 (by omega)) ?_ | refine p_call (csideh20 (by omega)) ?_ | refine p_call (csidel20 (by omega)) ?_ | refine p_call lives ?_ | refine p_call (v3_ok (by omega)) ?_ | refine p_call (v3_no (by omega)) ?_ | refine p_call (cellCheck_ok (by omega)) ?_ | refine p_call (cellCheck_no (by omega)) ?_))
    first | (exfalso; omega) | (repeat (first | simp (disch := omega) only [↓qxs, ↓qxc, ↓qxa, ↓qxb] | refine p_loop 5 ?_ | refine p_call (touch20 (by omega)) ?_ | refine p_call (touch21 (by omega)) ?_ | refine p_call (touch22 (by omega)) ?_ | refine p_call (touchn2 (by omega)) ?_ | refine p_call (touch_no2 (by omega)) ?_ | refine p_call (v3_ok (by omega)) ?_ | refine p_call (v3_no (by omega)) ?_ | refine p_call (rnb20 (by omega)) ?_ | refine p_call (rnb21 (by omega)) ?_ | refine p_call (rnb22 (by omega)) ?_ | refine p_call (cnb20 (by omega)) ?_ | refine p_call (cnbl20 (by omega)) ?_ | refine p_call (cnb00 (by omega)) ?_ | refine p_call (rline20 (by omega)) ?_ | refine p_call (v1_ok (by omega)) ?_ | refine p_call (v1_no (by omega)) ?_ | refine p_call (csideh22 (by omega)) ?_ | refine p_call (csidel22 (by omega)) ?_ | refine p_call (csideh20 (by omega)) ?_ | refine p_call (csidel20 (by omega)) ?_ | refine p_call lives ?_ | refine p_call (v3_ok (by omega)) ?_ | refine p_call (v3_no (by omega)) ?_ | refine p_call (cellCheck_ok (by omega)) ?_ | refine p_call (cellCheck_no (by omega)) ?_))
  first | (exfalso; omega) | (repeat (first | simp (disch := omega) only [↓qxs, ↓qxc, ↓qxa, ↓qxb] | refine p_loop 5 ?_ | refine p_call (touch20 (by omega)) ?_ | refine p_call (touch21 (by omega)) ?_ | refine p_call (touch22 (by omega)) ?_ | refine p_call (touchn2 (by omega)) ?_ | refine p_call (touch_no2 (by omega)) ?_ | refine p_call (v3_ok (by omega)) ?_ | refine p_call (v3_no (by omega)) ?_ | refine p_call (rnb20 (by omega)) ?_ | refine p_call (rnb21 (by omega)) ?_ | refine p_call (rnb22 (by omega)) ?_ | refine p_call (cnb20 (by omega)) ?_ | refine p_call (cnbl20 (by omega)) ?_ | refine p_call (cnb00 (by omega)) ?_ | refine p_call (rline20 (by omega)) ?_ | refine p_call (v1_ok (by omega)) ?_ | refine p_call (v1_no (by omega)) ?_ | refine p_call (csideh22 (by omega)) ?_ | refine p_call (csidel22 (by omega)) ?_ | refine p_call (csideh20 (by omega)) ?_ | refine p_call (csidel20 (by omega)) ?_ | refine p_call lives ?_ | refine p_call (v3_ok (by omega)) ?_ | refine p_call (v3_no (by omega)) ?_ | refine p_call (cellCheck_ok (by omega)) ?_ | refine p_call (cellCheck_no (by omega)) ?_))
theorem cellsNb204 {x y u v r : Int} (h : -4096 ≤ x ∧ x ≤ 4096 ∧ -4096 ≤ y ∧ y ≤ 4096 ∧ -9223372036854775808 ≤ u ∧ u ≤ 9223372036854775807 ∧ -9223372036854775808 ≤ v ∧ v ≤ 9223372036854775807 ∧ 0 ≤ r ∧ r ≤ 255 ∧ ¬ (-4096 ≤ u ∧ u ≤ 4096 ∧ -4096 ≤ v ∧ v ≤ 4096 ∧ r ≤ 3)) : Cc 10 [.i x, .i y, .i 2, .i 0, .i u, .i v, .i r] [.b true] := by
  refine q10 rfl ?_; unfold p10
  by_cases hn : -4096 ≤ x ∧ x ≤ 4096 ∧ -4096 ≤ y + 1 ∧ y + 1 ≤ 4096
  · by_cases hc : -4096 ≤ y + 1 ∧ y + 1 ≤ 4096
    · first | (exfalso; omega) | (repeat (first | simp (disch := omega) only [↓qxs, ↓qxc, ↓qxa, ↓qxb] | refine p_loop 5 ?_ | refine p_call (touch20 (by omega)) ?_ | refine p_call (touch21 (by omega)) ?_ | refine p_call (touch22 (by omega)) ?_ | refine p_call (touchn2 (by omega)) ?_ | refine p_call (touch_no2 (by omega)) ?_ | refine p_call (v3_ok (by omega)) ?_ | refine p_call (v3_no (by omega)) ?_ | refine p_call (rnb20 (by omega)) ?_ | refine p_call (rnb21 (by omega)) ?_ | refine p_call (rnb22 (by omega)) ?_ | refine p_call (cnb20 (by omega)) ?_ | refine p_call (cnbl20 (by omega)) ?_ | refine p_call (cnb00 (by omega)) ?_ | refine p_call (rline20 (by omega)) ?_ | refine p_call (v1_ok (by omega)) ?_ | refine p_call (v1_no (by omega)) ?_ | refine p_call (csideh22 (by omega)) ?_ | refine p_call (csidel22 (by omega)) ?_ | refine p_call (csideh20 (by omega)) ?_ | refine p_call (csidel20 (by omega)) ?_ | refine p_call lives ?_ | refine p_call (v3_ok (by omega)) ?_ | refine p_call (v3_no (by omega)) ?_ | refine p_call (cellCheck_ok (by omega)) ?_ | refine p_call (cellCheck_no (by omega)) ?_))
    first | (exfalso; omega) | (repeat (first | simp (disch := omega) only [↓qxs, ↓qxc, ↓qxa, ↓qxb] | refine p_loop 5 ?_ | refine p_call (touch20 (by omega)) ?_ | refine p_call (touch21 (by omega)) ?_ | refine p_call (touch22 (by omega)) ?_ | refine p_call (touchn2 (by omega)) ?_ | refine p_call (touch_no2 (by omega)) ?_ | refine p_call (v3_ok (by omega)) ?_ | refine p_call (v3_no (by omega)) ?_ | refine p_call (rnb20 (by omega)) ?_ | refine p_call (rnb21 (by omega)) ?_ | refine p_call (rnb22 (by omega)) ?_ | refine p_call (cnb20 (by omega)) ?_ | refine p_call (cnbl20 (by omega)) ?_ | refine p_call (cnb00 (by omega)) ?_ | refine p_call (rline20 (by omega)) ?_ | refine p_call (v1_ok (by omega)) ?_ | refine p_call (v1_no (by omega)) ?_ | refine p_call (csideh22 (by omega)) ?_ | refine p_call (csidel22 (by omega)) ?_ | refine p_call (csideh20 (by omega)) ?_ | refine p_call (csidel20 (by omega)) ?_ | refine p_call lives ?_ | refine p_call (v3_ok (by omega)) ?_ | refine p_call (v3_no (by omega)) ?_ | refine p_call (cellCheck_ok (by omega)) ?_ | refine p_call (cellCheck_no (by omega)) ?_))
  first | (exfalso; omega) | (repeat (first | simp (disch := omega) only [↓qxs, ↓qxc, ↓qxa, ↓qxb] | refine p_loop 5 ?_ | refine p_call (touch20 (by omega)) ?_ | refine p_call (touch21 (by omega)) ?_ | refine p_call (touch22 (by omega)) ?_ | refine p_call (touchn2 (by omega)) ?_ | refine p_call (touch_no2 (by omega)) ?_ | refine p_call (v3_ok (by omega)) ?_ | refine p_call (v3_no (by omega)) ?_ | refine p_call (rnb20 (by omega)) ?_ | refine p_call (rnb21 (by omega)) ?_ | refine p_call (rnb22 (by omega)) ?_ | refine p_call (cnb20 (by omega)) ?_ | refine p_call (cnbl20 (by omega)) ?_ | refine p_call (cnb00 (by omega)) ?_ | refine p_call (rline20 (by omega)) ?_ | refine p_call (v1_ok (by omega)) ?_ | refine p_call (v1_no (by omega)) ?_ | refine p_call (csideh22 (by omega)) ?_ | refine p_call (csidel22 (by omega)) ?_ | refine p_call (csideh20 (by omega)) ?_ | refine p_call (csidel20 (by omega)) ?_ | refine p_call lives ?_ | refine p_call (v3_ok (by omega)) ?_ | refine p_call (v3_no (by omega)) ?_ | refine p_call (cellCheck_ok (by omega)) ?_ | refine p_call (cellCheck_no (by omega)) ?_))
theorem cellsNb210 {x y u v : Int} (h : -4096 ≤ x ∧ x ≤ 4096 ∧ -4096 ≤ y ∧ y ≤ 4096 ∧ -9223372036854775808 ≤ u ∧ u ≤ 9223372036854775807 ∧ -9223372036854775808 ≤ v ∧ v ≤ 9223372036854775807 ∧ -4096 ≤ u ∧ u ≤ 4096 ∧ -4096 ≤ v ∧ v ≤ 4096 ∧ u = x ∧ v = y + 1) : Cc 10 [.i x, .i y, .i 2, .i 1, .i u, .i v, .i 0] [.b true] := by
  refine q10 rfl ?_; unfold p10
  by_cases hc : -4096 ≤ x + y + 1 ∧ x + y + 1 ≤ 4096
  · first | (exfalso; omega) | (repeat (first | simp (disch := omega) only [↓qxs, ↓qxc, ↓qxa, ↓qxb] | refine p_loop 5 ?_ | refine p_call (touch20 (by omega)) ?_ | refine p_call (touch21 (by omega)) ?_ | refine p_call (touch22 (by omega)) ?_ | refine p_call (touchn2 (by omega)) ?_ | refine p_call (touch_no2 (by omega)) ?_ | refine p_call (v3_ok (by omega)) ?_ | refine p_call (v3_no (by omega)) ?_ | refine p_call (rnb20 (by omega)) ?_ | refine p_call (rnb21 (by omega)) ?_ | refine p_call (rnb22 (by omega)) ?_ | refine p_call (cnb21 (by omega)) ?_ | refine p_call (cnb31 (by omega)) ?_ | refine p_call (rline21 (by omega)) ?_ | refine p_call (v1_ok (by omega)) ?_ | refine p_call (v1_no (by omega)) ?_ | refine p_call (csideh32 (by omega)) ?_ | refine p_call (csidel32 (by omega)) ?_ | refine p_call (csideh33 (by omega)) ?_ | refine p_call (csidel33 (by omega)) ?_ | refine p_call lives ?_ | refine p_call (v3_ok (by omega)) ?_ | refine p_call (v3_no (by omega)) ?_ | refine p_call (cellCheck_ok (by omega)) ?_ | refine p_call (cellCheck_no (by omega)) ?_))
  first | (exfalso; omega) | (repeat (first | simp (disch := omega) only [↓qxs, ↓qxc, ↓qxa, ↓qxb] | refine p_loop 5 ?_ | refine p_call (touch20 (by omega)) ?_ | refine p_call (touch21 (by omega)) ?_ | refine p_call (touch22 (by omega)) ?_ | refine p_call (touchn2 (by omega)) ?_ | refine p_call (touch_no2 (by omega)) ?_ | refine p_call (v3_ok (by omega)) ?_ | refine p_call (v3_no (by omega)) ?_ | refine p_call (rnb20 (by omega)) ?_ | refine p_call (rnb21 (by omega)) ?_ | refine p_call (rnb22 (by omega)) ?_ | refine p_call (cnb21 (by omega)) ?_ | refine p_call (cnb31 (by omega)) ?_ | refine p_call (rline21 (by omega)) ?_ | refine p_call (v1_ok (by omega)) ?_ | refine p_call (v1_no (by omega)) ?_ | refine p_call (csideh32 (by omega)) ?_ | refine p_call (csidel32 (by omega)) ?_ | refine p_call (csideh33 (by omega)) ?_ | refine p_call (csidel33 (by omega)) ?_ | refine p_call lives ?_ | refine p_call (v3_ok (by omega)) ?_ | refine p_call (v3_no (by omega)) ?_ | refine p_call (cellCheck_ok (by omega)) ?_ | refine p_call (cellCheck_no (by omega)) ?_))
theorem cellsNb211 {x y u v : Int} (h : -4096 ≤ x ∧ x ≤ 4096 ∧ -4096 ≤ y ∧ y ≤ 4096 ∧ -9223372036854775808 ≤ u ∧ u ≤ 9223372036854775807 ∧ -9223372036854775808 ≤ v ∧ v ≤ 9223372036854775807 ∧ -4096 ≤ u ∧ u ≤ 4096 ∧ -4096 ≤ v ∧ v ≤ 4096 ∧ u = x ∧ v = y) : Cc 10 [.i x, .i y, .i 2, .i 1, .i u, .i v, .i 3] [.b true] := by
  refine q10 rfl ?_; unfold p10
  by_cases hc : -4096 ≤ x + y + 1 ∧ x + y + 1 ≤ 4096
  · first | (exfalso; omega) | (repeat (first | simp (disch := omega) only [↓qxs, ↓qxc, ↓qxa, ↓qxb] | refine p_loop 5 ?_ | refine p_call (touch20 (by omega)) ?_ | refine p_call (touch21 (by omega)) ?_ | refine p_call (touch22 (by omega)) ?_ | refine p_call (touchn2 (by omega)) ?_ | refine p_call (touch_no2 (by omega)) ?_ | refine p_call (v3_ok (by omega)) ?_ | refine p_call (v3_no (by omega)) ?_ | refine p_call (rnb20 (by omega)) ?_ | refine p_call (rnb21 (by omega)) ?_ | refine p_call (rnb22 (by omega)) ?_ | refine p_call (cnb21 (by omega)) ?_ | refine p_call (cnb31 (by omega)) ?_ | refine p_call (rline21 (by omega)) ?_ | refine p_call (v1_ok (by omega)) ?_ | refine p_call (v1_no (by omega)) ?_ | refine p_call (csideh32 (by omega)) ?_ | refine p_call (csidel32 (by omega)) ?_ | refine p_call (csideh33 (by omega)) ?_ | refine p_call (csidel33 (by omega)) ?_ | refine p_call lives ?_ | refine p_call (v3_ok (by omega)) ?_ | refine p_call (v3_no (by omega)) ?_ | refine p_call (cellCheck_ok (by omega)) ?_ | refine p_call (cellCheck_no (by omega)) ?_))
  first | (exfalso; omega) | (repeat (first | simp (disch := omega) only [↓qxs, ↓qxc, ↓qxa, ↓qxb] | refine p_loop 5 ?_ | refine p_call (touch20 (by omega)) ?_ | refine p_call (touch21 (by omega)) ?_ | refine p_call (touch22 (by omega)) ?_ | refine p_call (touchn2 (by omega)) ?_ | refine p_call (touch_no2 (by omega)) ?_ | refine p_call (v3_ok (by omega)) ?_ | refine p_call (v3_no (by omega)) ?_ | refine p_call (rnb20 (by omega)) ?_ | refine p_call (rnb21 (by omega)) ?_ | refine p_call (rnb22 (by omega)) ?_ | refine p_call (cnb21 (by omega)) ?_ | refine p_call (cnb31 (by omega)) ?_ | refine p_call (rline21 (by omega)) ?_ | refine p_call (v1_ok (by omega)) ?_ | refine p_call (v1_no (by omega)) ?_ | refine p_call (csideh32 (by omega)) ?_ | refine p_call (csidel32 (by omega)) ?_ | refine p_call (csideh33 (by omega)) ?_ | refine p_call (csidel33 (by omega)) ?_ | refine p_call lives ?_ | refine p_call (v3_ok (by omega)) ?_ | refine p_call (v3_no (by omega)) ?_ | refine p_call (cellCheck_ok (by omega)) ?_ | refine p_call (cellCheck_no (by omega)) ?_))
theorem cellsNb212 {x y u v : Int} (h : -4096 ≤ x ∧ x ≤ 4096 ∧ -4096 ≤ y ∧ y ≤ 4096 ∧ -9223372036854775808 ≤ u ∧ u ≤ 9223372036854775807 ∧ -9223372036854775808 ≤ v ∧ v ≤ 9223372036854775807 ∧ -4096 ≤ u ∧ u ≤ 4096 ∧ -4096 ≤ v ∧ v ≤ 4096 ∧ u = x ∧ v = y) : Cc 10 [.i x, .i y, .i 2, .i 1, .i u, .i v, .i 1] [.b true] := by
  refine q10 rfl ?_; unfold p10
  by_cases hc : -4096 ≤ x + y + 1 ∧ x + y + 1 ≤ 4096
  · first | (exfalso; omega) | (repeat (first | simp (disch := omega) only [↓qxs, ↓qxc, ↓qxa, ↓qxb] | refine p_loop 5 ?_ | refine p_call (touch20 (by omega)) ?_ | refine p_call (touch21 (by omega)) ?_ | refine p_call (touch22 (by omega)) ?_ | refine p_call (touchn2 (by omega)) ?_ | refine p_call (touch_no2 (by omega)) ?_ | refine p_call (v3_ok (by omega)) ?_ | refine p_call (v3_no (by omega)) ?_ | refine p_call (rnb20 (by omega)) ?_ | refine p_call (rnb21 (by omega)) ?_ | refine p_call (rnb22 (by omega)) ?_ | refine p_call (cnb21 (by omega)) ?_ | refine p_call (cnb31 (by omega)) ?_ | refine p_call (rline21 (by omega)) ?_ | refine p_call (v1_ok (by omega)) ?_ | refine p_call (v1_no (by omega)) ?_ | refine p_call (csideh32 (by omega)) ?_ | refine p_call (csidel32 (by omega)) ?_ | refine p_call (csideh33 (by omega)) ?_ | refine p_call (csidel33 (by omega)) ?_ | refine p_call lives ?_ | refine p_call (v3_ok (by omega)) ?_ | refine p_call (v3_no (by omega)) ?_ | refine p_call (cellCheck_ok (by omega)) ?_ | refine p_call (cellCheck_no (by omega)) ?_))
  first | (exfalso; omega) | (repeat (first | simp (disch := omega) only [↓qxs, ↓qxc, ↓qxa, ↓qxb] | refine p_loop 5 ?_ | refine p_call (touch20 (by omega)) ?_ | refine p_call (touch21 (by omega)) ?_ | refine p_call (touch22 (by omega)) ?_ | refine p_call (touchn2 (by omega)) ?_ | refine p_call (touch_no2 (by omega)) ?_ | refine p_call (v3_ok (by omega)) ?_ | refine p_call (v3_no (by omega)) ?_ | refine p_call (rnb20 (by omega)) ?_ | refine p_call (rnb21 (by omega)) ?_ | refine p_call (rnb22 (by omega)) ?_ | refine p_call (cnb21 (by omega)) ?_ | refine p_call (cnb31 (by omega)) ?_ | refine p_call (rline21 (by omega)) ?_ | refine p_call (v1_ok (by omega)) ?_ | refine p_call (v1_no (by omega)) ?_ | refine p_call (csideh32 (by omega)) ?_ | refine p_call (csidel32 (by omega)) ?_ | refine p_call (csideh33 (by omega)) ?_ | refine p_call (csidel33 (by omega)) ?_ | refine p_call lives ?_ | refine p_call (v3_ok (by omega)) ?_ | refine p_call (v3_no (by omega)) ?_ | refine p_call (cellCheck_ok (by omega)) ?_ | refine p_call (cellCheck_no (by omega)) ?_))
theorem cellsNb213 {x y u v r : Int} (h : -4096 ≤ x ∧ x ≤ 4096 ∧ -4096 ≤ y ∧ y ≤ 4096 ∧ -9223372036854775808 ≤ u ∧ u ≤ 9223372036854775807 ∧ -9223372036854775808 ≤ v ∧ v ≤ 9223372036854775807 ∧ 0 ≤ r ∧ r ≤ 255 ∧ (-4096 ≤ u ∧ u ≤ 4096 ∧ -4096 ≤ v ∧ v ≤ 4096 ∧ r ≤ 3) ∧ ¬ (u = x ∧ v = y + 1 ∧ r = 0) ∧ ¬ (u = x ∧ v = y ∧ r = 3) ∧ ¬ (u = x ∧ v = y ∧ r = 1)) : Cc 10 [.i x, .i y, .i 2, .i 1, .i u, .i v, .i r] [.b true] := by
  refine q10 rfl ?_; unfold p10
  by_cases hc : -4096 ≤ x + y + 1 ∧ x + y + 1 ≤ 4096
  · first | (exfalso; omega) | (repeat (first | simp (disch := omega) only [↓qxs, ↓qxc, ↓qxa, ↓qxb] | refine p_loop 5 ?_ | refine p_call (touch20 (by omega)) ?_ | refine p_call (touch21 (by omega)) ?_ | refine p_call (touch22 (by omega)) ?_ | refine p_call (touchn2 (by omega)) ?_ | refine p_call (touch_no2 (by omega)) ?_ | refine p_call (v3_ok (by omega)) ?_ | refine p_call (v3_no (by omega)) ?_ | refine p_call (rnb20 (by omega)) ?_ | refine p_call (rnb21 (by omega)) ?_ | refine p_call (rnb22 (by omega)) ?_ | refine p_call (cnb21 (by omega)) ?_ | refine p_call (cnb31 (by omega)) ?_ | refine p_call (rline21 (by omega)) ?_ | refine p_call (v1_ok (by omega)) ?_ | refine p_call (v1_no (by omega)) ?_ | refine p_call (csideh32 (by omega)) ?_ | refine p_call (csidel32 (by omega)) ?_ | refine p_call (csideh33 (by omega)) ?_ | refine p_call (csidel33 (by omega)) ?_ | refine p_call lives ?_ | refine p_call (v3_ok (by omega)) ?_ | refine p_call (v3_no (by omega)) ?_ | refine p_call (cellCheck_ok (by omega)) ?_ | refine p_call (cellCheck_no (by omega)) ?_))
  first | (exfalso; omega) | (repeat (first | simp (disch := omega) only [↓qxs, ↓qxc, ↓qxa, ↓qxb] | refine p_loop 5 ?_ | refine p_call (touch20 (by omega)) ?_ | refine p_call (touch21 (by omega)) ?_ | refine p_call (touch22 (by omega)) ?_ | refine p_call (touchn2 (by omega)) ?_ | refine p_call (touch_no2 (by omega)) ?_ | refine p_call (v3_ok (by omega)) ?_ | refine p_call (v3_no (by omega)) ?_ | refine p_call (rnb20 (by omega)) ?_ | refine p_call (rnb21 (by omega)) ?_ | refine p_call (rnb22 (by omega)) ?_ | refine p_call (cnb21 (by omega)) ?_ | refine p_call (cnb31 (by omega)) ?_ | refine p_call (rline21 (by omega)) ?_ | refine p_call (v1_ok (by omega)) ?_ | refine p_call (v1_no (by omega)) ?_ | refine p_call (csideh32 (by omega)) ?_ | refine p_call (csidel32 (by omega)) ?_ | refine p_call (csideh33 (by omega)) ?_ | refine p_call (csidel33 (by omega)) ?_ | refine p_call lives ?_ | refine p_call (v3_ok (by omega)) ?_ | refine p_call (v3_no (by omega)) ?_ | refine p_call (cellCheck_ok (by omega)) ?_ | refine p_call (cellCheck_no (by omega)) ?_))
theorem cellsNb214 {x y u v r : Int} (h : -4096 ≤ x ∧ x ≤ 4096 ∧ -4096 ≤ y ∧ y ≤ 4096 ∧ -9223372036854775808 ≤ u ∧ u ≤ 9223372036854775807 ∧ -9223372036854775808 ≤ v ∧ v ≤ 9223372036854775807 ∧ 0 ≤ r ∧ r ≤ 255 ∧ ¬ (-4096 ≤ u ∧ u ≤ 4096 ∧ -4096 ≤ v ∧ v ≤ 4096 ∧ r ≤ 3)) : Cc 10 [.i x, .i y, .i 2, .i 1, .i u, .i v, .i r] [.b true] := by
  refine q10 rfl ?_; unfold p10
  by_cases hc : -4096 ≤ x + y + 1 ∧ x + y + 1 ≤ 4096
  · first | (exfalso; omega) | (repeat (first | simp (disch := omega) only [↓qxs, ↓qxc, ↓qxa, ↓qxb] | refine p_loop 5 ?_ | refine p_call (touch20 (by omega)) ?_ | refine p_call (touch21 (by omega)) ?_ | refine p_call (touch22 (by omega)) ?_ | refine p_call (touchn2 (by omega)) ?_ | refine p_call (touch_no2 (by omega)) ?_ | refine p_call (v3_ok (by omega)) ?_ | refine p_call (v3_no (by omega)) ?_ | refine p_call (rnb20 (by omega)) ?_ | refine p_call (rnb21 (by omega)) ?_ | refine p_call (rnb22 (by omega)) ?_ | refine p_call (cnb21 (by omega)) ?_ | refine p_call (cnb31 (by omega)) ?_ | refine p_call (rline21 (by omega)) ?_ | refine p_call (v1_ok (by omega)) ?_ | refine p_call (v1_no (by omega)) ?_ | refine p_call (csideh32 (by omega)) ?_ | refine p_call (csidel32 (by omega)) ?_ | refine p_call (csideh33 (by omega)) ?_ | refine p_call (csidel33 (by omega)) ?_ | refine p_call lives ?_ | refine p_call (v3_ok (by omega)) ?_ | refine p_call (v3_no (by omega)) ?_ | refine p_call (cellCheck_ok (by omega)) ?_ | refine p_call (cellCheck_no (by omega)) ?_))
  first | (exfalso; omega) | (repeat (first | simp (disch := omega) only [↓qxs, ↓qxc, ↓qxa, ↓qxb] | refine p_loop 5 ?_ | refine p_call (touch20 (by omega)) ?_ | refine p_call (touch21 (by omega)) ?_ | refine p_call (touch22 (by omega)) ?_ | refine p_call (touchn2 (by omega)) ?_ | refine p_call (touch_no2 (by omega)) ?_ | refine p_call (v3_ok (by omega)) ?_ | refine p_call (v3_no (by omega)) ?_ | refine p_call (rnb20 (by omega)) ?_ | refine p_call (rnb21 (by omega)) ?_ | refine p_call (rnb22 (by omega)) ?_ | refine p_call (cnb21 (by omega)) ?_ | refine p_call (cnb31 (by omega)) ?_ | refine p_call (rline21 (by omega)) ?_ | refine p_call (v1_ok (by omega)) ?_ | refine p_call (v1_no (by omega)) ?_ | refine p_call (csideh32 (by omega)) ?_ | refine p_call (csidel32 (by omega)) ?_ | refine p_call (csideh33 (by omega)) ?_ | refine p_call (csidel33 (by omega)) ?_ | refine p_call lives ?_ | refine p_call (v3_ok (by omega)) ?_ | refine p_call (v3_no (by omega)) ?_ | refine p_call (cellCheck_ok (by omega)) ?_ | refine p_call (cellCheck_no (by omega)) ?_))
theorem cellsNb220 {x y u v : Int} (h : -4096 ≤ x ∧ x ≤ 4096 ∧ -4096 ≤ y ∧ y ≤ 4096 ∧ -9223372036854775808 ≤ u ∧ u ≤ 9223372036854775807 ∧ -9223372036854775808 ≤ v ∧ v ≤ 9223372036854775807 ∧ -4096 ≤ u ∧ u ≤ 4096 ∧ -4096 ≤ v ∧ v ≤ 4096 ∧ u = x ∧ v = y + 1) : Cc 10 [.i x, .i y, .i 2, .i 2, .i u, .i v, .i 0] [.b true] := by
  refine q10 rfl ?_; unfold p10
  by_cases hc : -4096 ≤ y - x ∧ y - x ≤ 4096
  · first | (exfalso; omega) | (repeat (first | simp (disch := omega) only [↓qxs, ↓qxc, ↓qxa, ↓qxb] | refine p_loop 5 ?_ | refine p_call (touch20 (by omega)) ?_ | refine p_call (touch21 (by omega)) ?_ | refine p_call (touch22 (by omega)) ?_ | refine p_call (touchn2 (by omega)) ?_ | refine p_call (touch_no2 (by omega)) ?_ | refine p_call (v3_ok (by omega)) ?_ | refine p_call (v3_no (by omega)) ?_ | refine p_call (rnb20 (by omega)) ?_ | refine p_call (rnb21 (by omega)) ?_ | refine p_call (rnb22 (by omega)) ?_ | refine p_call (cnb22 (by omega)) ?_ | refine p_call (cnb12 (by omega)) ?_ | refine p_call (rline22 (by omega)) ?_ | refine p_call (v1_ok (by omega)) ?_ | refine p_call (v1_no (by omega)) ?_ | refine p_call (csideh42 (by omega)) ?_ | refine p_call (csidel42 (by omega)) ?_ | refine p_call (csideh41 (by omega)) ?_ | refine p_call (csidel41 (by omega)) ?_ | refine p_call lives ?_ | refine p_call (v3_ok (by omega)) ?_ | refine p_call (v3_no (by omega)) ?_ | refine p_call (cellCheck_ok (by omega)) ?_ | refine p_call (cellCheck_no (by omega)) ?_))
  first | (exfalso; omega) | (repeat (first | simp (disch := omega) only [↓qxs, ↓qxc, ↓qxa, ↓qxb] | refine p_loop 5 ?_ | refine p_call (touch20 (by omega)) ?_ | refine p_call (touch21 (by omega)) ?_ | refine p_call (touch22 (by omega)) ?_ | refine p_call (touchn2 (by omega)) ?_ | refine p_call (touch_no2 (by omega)) ?_ | refine p_call (v3_ok (by omega)) ?_ | refine p_call (v3_no (by omega)) ?_ | refine p_call (rnb20 (by omega)) ?_ | refine p_call (rnb21 (by omega)) ?_ | refine p_call (rnb22 (by omega)) ?_ | refine p_call (cnb22 (by omega)) ?_ | refine p_call (cnb12 (by omega)) ?_ | refine p_call (rline22 (by omega)) ?_ | refine p_call (v1_ok (by omega)) ?_ | refine p_call (v1_no (by omega)) ?_ | refine p_call (csideh42 (by omega)) ?_ | refine p_call (csidel42 (by omega)) ?_ | refine p_call (csideh41 (by omega)) ?_ | refine p_call (csidel41 (by omega)) ?_ | refine p_call lives ?_ | refine p_call (v3_ok (by omega)) ?_ | refine p_call (v3_no (by omega)) ?_ | refine p_call (cellCheck_ok (by omega)) ?_ | refine p_call (cellCheck_no (by omega)) ?_))
theorem cellsNb221 {x y u v : Int} (h : -4096 ≤ x ∧ x ≤ 4096 ∧ -4096 ≤ y ∧ y ≤ 4096 ∧ -9223372036854775808 ≤ u ∧ u ≤ 9223372036854775807 ∧ -9223372036854775808 ≤ v ∧ v ≤ 9223372036854775807 ∧ -4096 ≤ u ∧ u ≤ 4096 ∧ -4096 ≤ v ∧ v ≤ 4096 ∧ u = x ∧ v = y) : Cc 10 [.i x, .i y, .i 2, .i 2, .i u, .i v, .i 3] [.b true] := by
  refine q10 rfl ?_; unfold p10
  by_cases hc : -4096 ≤ y - x ∧ y - x ≤ 4096
  · first | (exfalso; omega) | (repeat (first | simp (disch := omega) only [↓qxs, ↓qxc, ↓qxa, ↓qxb] | refine p_loop 5 ?_ | refine p_call (touch20 (by omega)) ?_ | refine p_call (touch21 (by omega)) ?_ | refine p_call (touch22 (by omega)) ?_ | refine p_call (touchn2 (by omega)) ?_ | refine p_call (touch_no2 (by omega)) ?_ | refine p_call (v3_ok (by omega)) ?_ | refine p_call (v3_no (by omega)) ?_ | refine p_call (rnb20 (by omega)) ?_ | refine p_call (rnb21 (by omega)) ?_ | refine p_call (rnb22 (by omega)) ?_ | refine p_call (cnb22 (by omega)) ?_ | refine p_call (cnb12 (by omega)) ?_ | refine p_call (rline22 (by omega)) ?_ | refine p_call (v1_ok (by omega)) ?_ | refine p_call (v1_no (by omega)) ?_ | refine p_call (csideh42 (by omega)) ?_ | refine p_call (csidel42 (by omega)) ?_ | refine p_call (csideh41 (by omega)) ?_ | refine p_call (csidel41 (by omega)) ?_ | refine p_call lives ?_ | refine p_call (v3_ok (by omega)) ?_ | refine p_call (v3_no (by omega)) ?_ | refine p_call (cellCheck_ok (by omega)) ?_ | refine p_call (cellCheck_no (by omega)) ?_))
  first | (exfalso; omega) | (repeat (first | simp (disch := omega) only [↓qxs, ↓qxc, ↓qxa, ↓qxb] | refine p_loop 5 ?_ | refine p_call (touch20 (by omega)) ?_ | refine p_call (touch21 (by omega)) ?_ | refine p_call (touch22 (by omega)) ?_ | refine p_call (touchn2 (by omega)) ?_ | refine p_call (touch_no2 (by omega)) ?_ | refine p_call (v3_ok (by omega)) ?_ | refine p_call (v3_no (by omega)) ?_ | refine p_call (rnb20 (by omega)) ?_ | refine p_call (rnb21 (by omega)) ?_ | refine p_call (rnb22 (by omega)) ?_ | refine p_call (cnb22 (by omega)) ?_ | refine p_call (cnb12 (by omega)) ?_ | refine p_call (rline22 (by omega)) ?_ | refine p_call (v1_ok (by omega)) ?_ | refine p_call (v1_no (by omega)) ?_ | refine p_call (csideh42 (by omega)) ?_ | refine p_call (csidel42 (by omega)) ?_ | refine p_call (csideh41 (by omega)) ?_ | refine p_call (csidel41 (by omega)) ?_ | refine p_call lives ?_ | refine p_call (v3_ok (by omega)) ?_ | refine p_call (v3_no (by omega)) ?_ | refine p_call (cellCheck_ok (by omega)) ?_ | refine p_call (cellCheck_no (by omega)) ?_))
theorem cellsNb222 {x y u v : Int} (h : -4096 ≤ x ∧ x ≤ 4096 ∧ -4096 ≤ y ∧ y ≤ 4096 ∧ -9223372036854775808 ≤ u ∧ u ≤ 9223372036854775807 ∧ -9223372036854775808 ≤ v ∧ v ≤ 9223372036854775807 ∧ -4096 ≤ u ∧ u ≤ 4096 ∧ -4096 ≤ v ∧ v ≤ 4096 ∧ u = x ∧ v = y) : Cc 10 [.i x, .i y, .i 2, .i 2, .i u, .i v, .i 1] [.b true] := by
  refine q10 rfl ?_; unfold p10
  by_cases hc : -4096 ≤ y - x ∧ y - x ≤ 4096
  · first | (exfalso; omega) | (repeat (first | simp (disch := omega) only [↓qxs, ↓qxc, ↓qxa, ↓qxb] | refine p_loop 5 ?_ | refine p_call (touch20 (by omega)) ?_ | refine p_call (touch21 (by omega)) ?_ | refine p_call (touch22 (by omega)) ?_ | refine p_call (touchn2 (by omega)) ?_ | refine p_call (touch_no2 (by omega)) ?_ | refine p_call (v3_ok (by omega)) ?_ | refine p_call (v3_no (by omega)) ?_ | refine p_call (rnb20 (by omega)) ?_ | refine p_call (rnb21 (by omega)) ?_ | refine p_call (rnb22 (by omega)) ?_ | refine p_call (cnb22 (by omega)) ?_ | refine p_call (cnb12 (by omega)) ?_ | refine p_call (rline22 (by omega)) ?_ | refine p_call (v1_ok (by omega)) ?_ | refine p_call (v1_no (by omega)) ?_ | refine p_call (csideh42 (by omega)) ?_ | refine p_call (csidel42 (by omega)) ?_ | refine p_call (csideh41 (by omega)) ?_ | refine p_call (csidel41 (by omega)) ?_ | refine p_call lives ?_ | refine p_call (v3_ok (by omega)) ?_ | refine p_call (v3_no (by omega)) ?_ | refine p_call (cellCheck_ok (by omega)) ?_ | refine p_call (cellCheck_no (by omega)) ?_))
  first | (exfalso; omega) | (repeat (first | simp (disch := omega) only [↓qxs, ↓qxc, ↓qxa, ↓qxb] | refine p_loop 5 ?_ | refine p_call (touch20 (by omega)) ?_ | refine p_call (touch21 (by omega)) ?_ | refine p_call (touch22 (by omega)) ?_ | refine p_call (touchn2 (by omega)) ?_ | refine p_call (touch_no2 (by omega)) ?_ | refine p_call (v3_ok (by omega)) ?_ | refine p_call (v3_no (by omega)) ?_ | refine p_call (rnb20 (by omega)) ?_ | refine p_call (rnb21 (by omega)) ?_ | refine p_call (rnb22 (by omega)) ?_ | refine p_call (cnb22 (by omega)) ?_ | refine p_call (cnb12 (by omega)) ?_ | refine p_call (rline22 (by omega)) ?_ | refine p_call (v1_ok (by omega)) ?_ | refine p_call (v1_no (by omega)) ?_ | refine p_call (csideh42 (by omega)) ?_ | refine p_call (csidel42 (by omega)) ?_ | refine p_call (csideh41 (by omega)) ?_ | refine p_call (csidel41 (by omega)) ?_ | refine p_call lives ?_ | refine p_call (v3_ok (by omega)) ?_ | refine p_call (v3_no (by omega)) ?_ | refine p_call (cellCheck_ok (by omega)) ?_ | refine p_call (cellCheck_no (by omega)) ?_))
theorem cellsNb223 {x y u v r : Int} (h : -4096 ≤ x ∧ x ≤ 4096 ∧ -4096 ≤ y ∧ y ≤ 4096 ∧ -9223372036854775808 ≤ u ∧ u ≤ 9223372036854775807 ∧ -9223372036854775808 ≤ v ∧ v ≤ 9223372036854775807 ∧ 0 ≤ r ∧ r ≤ 255 ∧ (-4096 ≤ u ∧ u ≤ 4096 ∧ -4096 ≤ v ∧ v ≤ 4096 ∧ r ≤ 3) ∧ ¬ (u = x ∧ v = y + 1 ∧ r = 0) ∧ ¬ (u = x ∧ v = y ∧ r = 3) ∧ ¬ (u = x ∧ v = y ∧ r = 1)) : Cc 10 [.i x, .i y, .i 2, .i 2, .i u, .i v, .i r] [.b true] := by
  refine q10 rfl ?_; unfold p10
  by_cases hc : -4096 ≤ y - x ∧ y - x ≤ 4096
  · first | (exfalso; omega) | (repeat (first | simp (disch := omega) only [↓qxs, ↓qxc, ↓qxa, ↓qxb] | refine p_loop 5 ?_ | refine p_call (touch20 (by omega)) ?_ | refine p_call (touch21 (by omega)) ?_ | refine p_call (touch22 (by omega)) ?_ | refine p_call (touchn2 (by omega)) ?_ | refine p_call (touch_no2 (by omega)) ?_ | refine p_call (v3_ok (by omega)) ?_ | refine p_call (v3_no (by omega)) ?_ | refine p_call (rnb20 (by omega)) ?_ | refine p_call (rnb21 (by omega)) ?_ | refine p_call (rnb22 (by omega)) ?_ | refine p_call (cnb22 (by omega)) ?_ | refine p_call (cnb12 (by omega)) ?_ | refine p_call (rline22 (by omega)) ?_ | refine p_call (v1_ok (by omega)) ?_ | refine p_call (v1_no (by omega)) ?_ | refine p_call (csideh42 (by omega)) ?_ | refine p_call (csidel42 (by omega)) ?_ | refine p_call (csideh41 (by omega)) ?_ | refine p_call (csidel41 (by omega)) ?_ | refine p_call lives ?_ | refine p_call (v3_ok (by omega)) ?_ | refine p_call (v3_no (by omega)) ?_ | refine p_call (cellCheck_ok (by omega)) ?_ | refine p_call (cellCheck_no (by omega)) ?_))
  first | (exfalso; omega) | (repeat (first | simp (disch := omega) only [↓qxs, ↓qxc, ↓qxa, ↓qxb] | refine p_loop 5 ?_ | refine p_call (touch20 (by omega)) ?_ | refine p_call (touch21 (by omega)) ?_ | refine p_call (touch22 (by omega)) ?_ | refine p_call (touchn2 (by omega)) ?_ | refine p_call (touch_no2 (by omega)) ?_ | refine p_call (v3_ok (by omega)) ?_ | refine p_call (v3_no (by omega)) ?_ | refine p_call (rnb20 (by omega)) ?_ | refine p_call (rnb21 (by omega)) ?_ | refine p_call (rnb22 (by omega)) ?_ | refine p_call (cnb22 (by omega)) ?_ | refine p_call (cnb12 (by omega)) ?_ | refine p_call (rline22 (by omega)) ?_ | refine p_call (v1_ok (by omega)) ?_ | refine p_call (v1_no (by omega)) ?_ | refine p_call (csideh42 (by omega)) ?_ | refine p_call (csidel42 (by omega)) ?_ | refine p_call (csideh41 (by omega)) ?_ | refine p_call (csidel41 (by omega)) ?_ | refine p_call lives ?_ | refine p_call (v3_ok (by omega)) ?_ | refine p_call (v3_no (by omega)) ?_ | refine p_call (cellCheck_ok (by omega)) ?_ | refine p_call (cellCheck_no (by omega)) ?_))
theorem cellsNb224 {x y u v r : Int} (h : -4096 ≤ x ∧ x ≤ 4096 ∧ -4096 ≤ y ∧ y ≤ 4096 ∧ -9223372036854775808 ≤ u ∧ u ≤ 9223372036854775807 ∧ -9223372036854775808 ≤ v ∧ v ≤ 9223372036854775807 ∧ 0 ≤ r ∧ r ≤ 255 ∧ ¬ (-4096 ≤ u ∧ u ≤ 4096 ∧ -4096 ≤ v ∧ v ≤ 4096 ∧ r ≤ 3)) : Cc 10 [.i x, .i y, .i 2, .i 2, .i u, .i v, .i r] [.b true] := by
  refine q10 rfl ?_; unfold p10
  by_cases hc : -4096 ≤ y - x ∧ y - x ≤ 4096
  · first | (exfalso; omega) | (repeat (first | simp (disch := omega) only [↓qxs, ↓qxc, ↓qxa, ↓qxb] | refine p_loop 5 ?_ | refine p_call (touch20 (by omega)) ?_ | refine p_call (touch21 (by omega)) ?_ | refine p_call (touch22 (by omega)) ?_ | refine p_call (touchn2 (by omega)) ?_ | refine p_call (touch_no2 (by omega)) ?_ | refine p_call (v3_ok (by omega)) ?_ | refine p_call (v3_no (by omega)) ?_ | refine p_call (rnb20 (by omega)) ?_ | refine p_call (rnb21 (by omega)) ?_ | refine p_call (rnb22 (by omega)) ?_ | refine p_call (cnb22 (by omega)) ?_ | refine p_call (cnb12 (by omega)) ?_ | refine p_call (rline22 (by omega)) ?_ | refine p_call (v1_ok (by omega)) ?_ | refine p_call (v1_no (by omega)) ?_ | refine p_call (csideh42 (by omega)) ?_ | refine p_call (csidel42 (by omega)) ?_ | refine p_call (csideh41 (by omega)) ?_ | refine p_call (csidel41 (by omega)) ?_ | refine p_call lives ?_ | refine p_call (v3_ok (by omega)) ?_ | refine p_call (v3_no (by omega)) ?_ | refine p_call (cellCheck_ok (by omega)) ?_ | refine p_call (cellCheck_no (by omega)) ?_))
  first | (exfalso; omega) | (repeat (first | simp (disch := omega) only [↓qxs, ↓qxc, ↓qxa, ↓qxb] | refine p_loop 5 ?_ | refine p_call (touch20 (by omega)) ?_ | refine p_call (touch21 (by omega)) ?_ | refine p_call (touch22 (by omega)) ?_ | refine p_call (touchn2 (by omega)) ?_ | refine p_call (touch_no2 (by omega)) ?_ | refine p_call (v3_ok (by omega)) ?_ | refine p_call (v3_no (by omega)) ?_ | refine p_call (rnb20 (by omega)) ?_ | refine p_call (rnb21 (by omega)) ?_ | refine p_call (rnb22 (by omega)) ?_ | refine p_call (cnb22 (by omega)) ?_ | refine p_call (cnb12 (by omega)) ?_ | refine p_call (rline22 (by omega)) ?_ | refine p_call (v1_ok (by omega)) ?_ | refine p_call (v1_no (by omega)) ?_ | refine p_call (csideh42 (by omega)) ?_ | refine p_call (csidel42 (by omega)) ?_ | refine p_call (csideh41 (by omega)) ?_ | refine p_call (csidel41 (by omega)) ?_ | refine p_call lives ?_ | refine p_call (v3_ok (by omega)) ?_ | refine p_call (v3_no (by omega)) ?_ | refine p_call (cellCheck_ok (by omega)) ?_ | refine p_call (cellCheck_no (by omega)) ?_))
theorem cellsNb2 {x y e u v r : Int} (h : -4096 ≤ x ∧ x ≤ 4096 ∧ -4096 ≤ y ∧ y ≤ 4096 ∧ -9223372036854775808 ≤ u ∧ u ≤ 9223372036854775807 ∧ -9223372036854775808 ≤ v ∧ v ≤ 9223372036854775807 ∧ 0 ≤ r ∧ r ≤ 255 ∧ 0 ≤ e ∧ e ≤ 255) : Cc 10 [.i x, .i y, .i 2, .i e, .i u, .i v, .i r] [.b true] := by
  obtain he | rfl | rfl | rfl : 2 < e ∨ e = 0 ∨ e = 1 ∨ e = 2 := by omega
  · by_cases hv : -4096 ≤ u ∧ u ≤ 4096 ∧ -4096 ≤ v ∧ v ≤ 4096 ∧ r ≤ 3
    · by_cases h0 : u = x ∧ v = y + 1 ∧ r = 0
      · obtain ⟨h1, h2, rfl⟩ := h0; exact cellsNb2g0 (by omega)
      by_cases h1 : u = x ∧ v = y ∧ r = 3
      · obtain ⟨h1, h2, rfl⟩ := h1; exact cellsNb2g1 (by omega)
      by_cases h2 : u = x ∧ v = y ∧ r = 1
      · obtain ⟨h1, h2, rfl⟩ := h2; exact cellsNb2g2 (by omega)
      exact cellsNb2g3 (by omega)
    · exact cellsNb2g4 (by omega)
  · by_cases hv : -4096 ≤ u ∧ u ≤ 4096 ∧ -4096 ≤ v ∧ v ≤ 4096 ∧ r ≤ 3
    · by_cases h0 : u = x ∧ v = y + 1 ∧ r = 0
      · obtain ⟨h1, h2, rfl⟩ := h0; exact cellsNb200 (by omega)
      by_cases h1 : u = x ∧ v = y ∧ r = 3
      · obtain ⟨h1, h2, rfl⟩ := h1; exact cellsNb201 (by omega)
      by_cases h2 : u = x ∧ v = y ∧ r = 1
      · obtain ⟨h1, h2, rfl⟩ := h2; exact cellsNb202 (by omega)
      exact cellsNb203 (by omega)
    · exact cellsNb204 (by omega)
  · by_cases hv : -4096 ≤ u ∧ u ≤ 4096 ∧ -4096 ≤ v ∧ v ≤ 4096 ∧ r ≤ 3
    · by_cases h0 : u = x ∧ v = y + 1 ∧ r = 0
      · obtain ⟨h1, h2, rfl⟩ := h0; exact cellsNb210 (by omega)
      by_cases h1 : u = x ∧ v = y ∧ r = 3
      · obtain ⟨h1, h2, rfl⟩ := h1; exact cellsNb211 (by omega)
      by_cases h2 : u = x ∧ v = y ∧ r = 1
      · obtain ⟨h1, h2, rfl⟩ := h2; exact cellsNb212 (by omega)
      exact cellsNb213 (by omega)
    · exact cellsNb214 (by omega)
  · by_cases hv : -4096 ≤ u ∧ u ≤ 4096 ∧ -4096 ≤ v ∧ v ≤ 4096 ∧ r ≤ 3
    · by_cases h0 : u = x ∧ v = y + 1 ∧ r = 0
      · obtain ⟨h1, h2, rfl⟩ := h0; exact cellsNb220 (by omega)
      by_cases h1 : u = x ∧ v = y ∧ r = 3
      · obtain ⟨h1, h2, rfl⟩ := h1; exact cellsNb221 (by omega)
      by_cases h2 : u = x ∧ v = y ∧ r = 1
      · obtain ⟨h1, h2, rfl⟩ := h2; exact cellsNb222 (by omega)
      exact cellsNb223 (by omega)
    · exact cellsNb224 (by omega)
end Go.Am
/-
  CONTRACTS, BY PROGRAM: CellsNeighbour, by quarter.
-/
set_option maxRecDepth 100000
set_option maxHeartbeats 4000000
namespace Go.Am
open Sx Go.Proofs

theorem cellsNb3g0 {x y u v e : Int} (h : -4096 ≤ x ∧ x ≤ 4096 ∧ -4096 ≤ y ∧ y ≤ 4096 ∧ -9223372036854775808 ≤ u ∧ u ≤ 9223372036854775807 ∧ -9223372036854775808 ≤ v ∧ v ≤ 9223372036854775807 ∧ 2 < e ∧ e ≤ 255 ∧ -4096 ≤ u ∧ u ≤ 4096 ∧ -4096 ≤ v ∧ v ≤ 4096 ∧ u = x - 1 ∧ v = y) : Cc 10 [.i x, .i y, .i 3, .i e, .i u, .i v, .i 1] [.b true] := by
  refine q10 rfl ?_; unfold p10
  first | (exfalso; omega) | (repeat (first | simp (disch := omega) only [↓qxs, ↓qxc, ↓qxa, ↓qxb] | refine p_loop 5 ?_ | refine p_call (cnb_no (by omega)) ?_ | refine p_call (touch30 (by omega)) ?_ | refine p_call (touch31 (by omega)) ?_ | refine p_call (touch32 (by omega)) ?_ | refine p_call (touchn3 (by omega)) ?_ | refine p_call (touch_no2 (by omega)) ?_ | refine p_call (v3_ok (by omega)) ?_ | refine p_call (v3_no (by omega)) ?_ | refine p_call (rnb30 (by omega)) ?_ | refine p_call (rnb31 (by omega)) ?_ | refine p_call (rnb32 (by omega)) ?_ | refine p_call lives ?_ | refine p_call (v3_ok (by omega)) ?_ | refine p_call (v3_no (by omega)) ?_ | refine p_call (cellCheck_ok (by omega)) ?_ | refine p_call (cellCheck_no (by omega)) ?_))
theorem cellsNb3g1 {x y u v e : Int} (h : -4096 ≤ x ∧ x ≤ 4096 ∧ -4096 ≤ y ∧ y ≤ 4096 ∧ -9223372036854775808 ≤ u ∧ u ≤ 9223372036854775807 ∧ -9223372036854775808 ≤ v ∧ v ≤ 9223372036854775807 ∧ 2 < e ∧ e ≤ 255 ∧ -4096 ≤ u ∧ u ≤ 4096 ∧ -4096 ≤ v ∧ v ≤ 4096 ∧ u = x ∧ v = y) : Cc 10 [.i x, .i y, .i 3, .i e, .i u, .i v, .i 2] [.b true] := by
  refine q10 rfl ?_; unfold p10
  first | (exfalso; omega) | (repeat (first | simp (disch := omega) only [↓qxs, ↓qxc, ↓qxa, ↓qxb] | refine p_loop 5 ?_ | refine p_call (cnb_no (by omega)) ?_ | refine p_call (touch30 (by omega)) ?_ | refine p_call (touch31 (by omega)) ?_ | refine p_call (touch32 (by omega)) ?_ | refine p_call (touchn3 (by omega)) ?_ | refine p_call (touch_no2 (by omega)) ?_ | refine p_call (v3_ok (by omega)) ?_ | refine p_call (v3_no (by omega)) ?_ | refine p_call (rnb30 (by omega)) ?_ | refine p_call (rnb31 (by omega)) ?_ | refine p_call (rnb32 (by omega)) ?_ | refine p_call lives ?_ | refine p_call (v3_ok (by omega)) ?_ | refine p_call (v3_no (by omega)) ?_ | refine p_call (cellCheck_ok (by omega)) ?_ | refine p_call (cellCheck_no (by omega)) ?_))
theorem cellsNb3g2 {x y u v e : Int} (h : -4096 ≤ x ∧ x ≤ 4096 ∧ -4096 ≤ y ∧ y ≤ 4096 ∧ -9223372036854775808 ≤ u ∧ u ≤ 9223372036854775807 ∧ -9223372036854775808 ≤ v ∧ v ≤ 9223372036854775807 ∧ 2 < e ∧ e ≤ 255 ∧ -4096 ≤ u ∧ u ≤ 4096 ∧ -4096 ≤ v ∧ v ≤ 4096 ∧ u = x ∧ v = y) : Cc 10 [.i x, .i y, .i 3, .i e, .i u, .i v, .i 0] [.b true] := by
  refine q10 rfl ?_; unfold p10
  first | (exfalso; omega) | (repeat (first | simp (disch := omega) only [↓qxs, ↓qxc, ↓qxa, ↓qxb] | refine p_loop 5 ?_ | refine p_call (cnb_no (by omega)) ?_ | refine p_call (touch30 (by omega)) ?_ | refine p_call (touch31 (by omega)) ?_ | refine p_call (touch32 (by omega)) ?_ | refine p_call (touchn3 (by omega)) ?_ | refine p_call (touch_no2 (by omega)) ?_ | refine p_call (v3_ok (by omega)) ?_ | refine p_call (v3_no (by omega)) ?_ | refine p_call (rnb30 (by omega)) ?_ | refine p_call (rnb31 (by omega)) ?_ | refine p_call (rnb32 (by omega)) ?_ | refine p_call lives ?_ | refine p_call (v3_ok (by omega)) ?_ | refine p_call (v3_no (by omega)) ?_ | refine p_call (cellCheck_ok (by omega)) ?_ | refine p_call (cellCheck_no (by omega)) ?_))
theorem cellsNb3g3 {x y u v r e : Int} (h : -4096 ≤ x ∧ x ≤ 4096 ∧ -4096 ≤ y ∧ y ≤ 4096 ∧ -9223372036854775808 ≤ u ∧ u ≤ 9223372036854775807 ∧ -9223372036854775808 ≤ v ∧ v ≤ 9223372036854775807 ∧ 0 ≤ r ∧ r ≤ 255 ∧ 2 < e ∧ e ≤ 255 ∧ (-4096 ≤ u ∧ u ≤ 4096 ∧ -4096 ≤ v ∧ v ≤ 4096 ∧ r ≤ 3) ∧ ¬ (u = x - 1 ∧ v = y ∧ r = 1) ∧ ¬ (u = x ∧ v = y ∧ r = 2) ∧ ¬ (u = x ∧ v = y ∧ r = 0)) : Cc 10 [.i x, .i y, .i 3, .i e, .i u, .i v, .i r] [.b true] := by
  refine q10 rfl ?_; unfold p10
  first | (exfalso; omega) | (repeat (first | simp (disch := omega) only [↓qxs, ↓qxc, ↓qxa, ↓qxb] | refine p_loop 5 ?_ | refine p_call (cnb_no (by omega)) ?_ | refine p_call (touch30 (by omega)) ?_ | refine p_call (touch31 (by omega)) ?_ | refine p_call (touch32 (by omega)) ?_ | refine p_call (touchn3 (by omega)) ?_ | refine p_call (touch_no2 (by omega)) ?_ | refine p_call (v3_ok (by omega)) ?_ | refine p_call (v3_no (by omega)) ?_ | refine p_call (rnb30 (by omega)) ?_ | refine p_call (rnb31 (by omega)) ?_ | refine p_call (rnb32 (by omega)) ?_ | refine p_call lives ?_ | refine p_call (v3_ok (by omega)) ?_ | refine p_call (v3_no (by omega)) ?_ | refine p_call (cellCheck_ok (by omega)) ?_ | refine p_call (cellCheck_no (by omega)) ?_))
theorem cellsNb3g4 {x y u v r e : Int} (h : -4096 ≤ x ∧ x ≤ 4096 ∧ -4096 ≤ y ∧ y ≤ 4096 ∧ -9223372036854775808 ≤ u ∧ u ≤ 9223372036854775807 ∧ -9223372036854775808 ≤ v ∧ v ≤ 9223372036854775807 ∧ 0 ≤ r ∧ r ≤ 255 ∧ 2 < e ∧ e ≤ 255 ∧ ¬ (-4096 ≤ u ∧ u ≤ 4096 ∧ -4096 ≤ v ∧ v ≤ 4096 ∧ r ≤ 3)) : Cc 10 [.i x, .i y, .i 3, .i e, .i u, .i v, .i r] [.b true] := by
  refine q10 rfl ?_; unfold p10
  first | (exfalso; omega) | (repeat (first | simp (disch := omega) only [↓qxs, ↓qxc, ↓qxa, ↓qxb] | refine p_loop 5 ?_ | refine p_call (cnb_no (by omega)) ?_ | refine p_call (touch30 (by omega)) ?_ | refine p_call (touch31 (by omega)) ?_ | refine p_call (touch32 (by omega)) ?_ | refine p_call (touchn3 (by omega)) ?_ | refine p_call (touch_no2 (by omega)) ?_ | refine p_call (v3_ok (by omega)) ?_ | refine p_call (v3_no (by omega)) ?_ | refine p_call (rnb30 (by omega)) ?_ | refine p_call (rnb31 (by omega)) ?_ | refine p_call (rnb32 (by omega)) ?_ | refine p_call lives ?_ | refine p_call (v3_ok (by omega)) ?_ | refine p_call (v3_no (by omega)) ?_ | refine p_call (cellCheck_ok (by omega)) ?_ | refine p_call (cellCheck_no (by omega)) ?_))
theorem cellsNb300 {x y u v : Int} (h : -4096 ≤ x ∧ x ≤ 4096 ∧ -4096 ≤ y ∧ y ≤ 4096 ∧ -9223372036854775808 ≤ u ∧ u ≤ 9223372036854775807 ∧ -9223372036854775808 ≤ v ∧ v ≤ 9223372036854775807 ∧ -4096 ≤ u ∧ u ≤ 4096 ∧ -4096 ≤ v ∧ v ≤ 4096 ∧ u = x - 1 ∧ v = y) : Cc 10 [.i x, .i y, .i 3, .i 0, .i u, .i v, .i 1] [.b true] := by
  refine q10 rfl ?_; unfold p10
  by_cases hn : -4096 ≤ x - 1 ∧ x - 1 ≤ 4096 ∧ -4096 ≤ y ∧ y ≤ 4096
  · first | (exfalso; omega) | (repeat (first | simp (disch := omega) only [↓qxs, ↓qxc, ↓qxa, ↓qxb] | refine p_loop 5 ?_ | refine p_call (touch30 (by omega)) ?_ | refine p_call (touch31 (by omega)) ?_ | refine p_call (touch32 (by omega)) ?_ | refine p_call (touchn3 (by omega)) ?_ | refine p_call (touch_no2 (by omega)) ?_ | refine p_call (v3_ok (by omega)) ?_ | refine p_call (v3_no (by omega)) ?_ | refine p_call (rnb30 (by omega)) ?_ | refine p_call (rnb31 (by omega)) ?_ | refine p_call (rnb32 (by omega)) ?_ | refine p_call (cnb30 (by omega)) ?_ | refine p_call (cnbl30 (by omega)) ?_ | refine p_call (cnb10 (by omega)) ?_ | refine p_call (rline30 (by omega)) ?_ | refine p_call (v1_ok (by omega)) ?_ | refine p_call (v1_no (by omega)) ?_ | refine p_call (csideh13 (by omega)) ?_ | refine p_call (csidel13 (by omega)) ?_ | refine p_call (csideh11 (by omega)) ?_ | refine p_call (csidel11 (by omega)) ?_ | refine p_call lives ?_ | refine p_call (v3_ok (by omega)) ?_ | refine p_call (v3_no (by omega)) ?_ | refine p_call (cellCheck_ok (by omega)) ?_ | refine p_call (cellCheck_no (by omega)) ?_))
  first | (exfalso; omega) | (repeat (first | simp (disch := omega) only [↓qxs, ↓qxc, ↓qxa, ↓qxb] | refine p_loop 5 ?_ | refine p_call (touch30 (by omega)) ?_ | refine p_call (touch31 (by omega)) ?_ | refine p_call (touch32 (by omega)) ?_ | refine p_call (touchn3 (by omega)) ?_ | refine p_call (touch_no2 (by omega)) ?_ | refine p_call (v3_ok (by omega)) ?_ | refine p_call (v3_no (by omega)) ?_ | refine p_call (rnb30 (by omega)) ?_ | refine p_call (rnb31 (by omega)) ?_ | refine p_call (rnb32 (by omega)) ?_ | refine p_call (cnb30 (by omega)) ?_ | refine p_call (cnbl30 (by omega)) ?_ | refine p_call (cnb10 (by omega)) ?_ | refine p_call (rline30 (by omega)) ?_ | refine p_call (v1_ok (by omega)) ?_ | refine p_call (v1_no (by omega)) ?_ | refine p_call (csideh13 (by omega)) ?_ | refine p_call (csidel13 (by omega)) ?_ | refine p_call (csideh11 (by omega)) ?_ | refine p_call (csidel11 (by omega)) ?_ | refine p_call lives ?_ | refine p_call (v3_ok (by omega)) ?_ | refine p_call (v3_no (by omega)) ?_ | refine p_call (cellCheck_ok (by omega)) ?_ | refine p_call (cellCheck_no (by omega)) ?_))
theorem cellsNb301 {x y u v : Int} (h : -4096 ≤ x ∧ x ≤ 4096 ∧ -4096 ≤ y ∧ y ≤ 4096 ∧ -9223372036854775808 ≤ u ∧ u ≤ 9223372036854775807 ∧ -9223372036854775808 ≤ v ∧ v ≤ 9223372036854775807 ∧ -4096 ≤ u ∧ u ≤ 4096 ∧ -4096 ≤ v ∧ v ≤ 4096 ∧ u = x ∧ v = y) : Cc 10 [.i x, .i y, .i 3, .i 0, .i u, .i v, .i 2] [.b true] := by
  refine q10 rfl ?_; unfold p10
  by_cases hn : -4096 ≤ x - 1 ∧ x - 1 ≤ 4096 ∧ -4096 ≤ y ∧ y ≤ 4096
  · first | (exfalso; omega) | (repeat (first | simp (disch := omega) only [↓qxs, ↓qxc, ↓qxa, ↓qxb] | refine p_loop 5 ?_ | refine p_call (touch30 (by omega)) ?_ | refine p_call (touch31 (by omega)) ?_ | refine p_call (touch32 (by omega)) ?_ | refine p_call (touchn3 (by omega)) ?_ | refine p_call (touch_no2 (by omega)) ?_ | refine p_call (v3_ok (by omega)) ?_ | refine p_call (v3_no (by omega)) ?_ | refine p_call (rnb30 (by omega)) ?_ | refine p_call (rnb31 (by omega)) ?_ | refine p_call (rnb32 (by omega)) ?_ | refine p_call (cnb30 (by omega)) ?_ | refine p_call (cnbl30 (by omega)) ?_ | refine p_call (cnb10 (by omega)) ?_ | refine p_call (rline30 (by omega)) ?_ | refine p_call (v1_ok (by omega)) ?_ | refine p_call (v1_no (by omega)) ?_ | refine p_call (csideh13 (by omega)) ?_ | refine p_call (csidel13 (by omega)) ?_ | refine p_call (csideh11 (by omega)) ?_ | refine p_call (csidel11 (by omega)) ?_ | refine p_call lives ?_ | refine p_call (v3_ok (by omega)) ?_ | refine p_call (v3_no (by omega)) ?_ | refine p_call (cellCheck_ok (by omega)) ?_ | refine p_call (cellCheck_no (by omega)) ?_))
  first | (exfalso; omega) | (repeat (first | simp (disch := omega) only [↓qxs, ↓qxc, ↓qxa, ↓qxb] | refine p_loop 5 ?_ | refine p_call (touch30 (by omega)) ?_ | refine p_call (touch31 (by omega)) ?_ | refine p_call (touch32 (by omega)) ?_ | refine p_call (touchn3 (by omega)) ?_ | refine p_call (touch_no2 (by omega)) ?_ | refine p_call (v3_ok (by omega)) ?_ | refine p_call (v3_no (by omega)) ?_ | refine p_call (rnb30 (by omega)) ?_ | refine p_call (rnb31 (by omega)) ?_ | refine p_call (rnb32 (by omega)) ?_ | refine p_call (cnb30 (by omega)) ?_ | refine p_call (cnbl30 (by omega)) ?_ | refine p_call (cnb10 (by omega)) ?_ | refine p_call (rline30 (by omega)) ?_ | refine p_call (v1_ok (by omega)) ?_ | refine p_call (v1_no (by omega)) ?_ | refine p_call (csideh13 (by omega)) ?_ | refine p_call (csidel13 (by omega)) ?_ | refine p_call (csideh11 (by omega)) ?_ | refine p_call (csidel11 (by omega)) ?_ | refine p_call lives ?_ | refine p_call (v3_ok (by omega)) ?_ | refine p_call (v3_no (by omega)) ?_ | refine p_call (cellCheck_ok (by omega)) ?_ | refine p_call (cellCheck_no (by omega)) ?_))
theorem cellsNb302 {x y u v : Int} (h : -4096 ≤ x ∧ x ≤ 4096 ∧ -4096 ≤ y ∧ y ≤ 4096 ∧ -9223372036854775808 ≤ u ∧ u ≤ 9223372036854775807 ∧ -9223372036854775808 ≤ v ∧ v ≤ 9223372036854775807 ∧ -4096 ≤ u ∧ u ≤ 4096 ∧ -4096 ≤ v ∧ v ≤ 4096 ∧ u = x ∧ v = y) : Cc 10 [.i x, .i y, .i 3, .i 0, .i u, .i v, .i 0] [.b true] := by
  refine q10 rfl ?_; unfold p10
  by_cases hn : -4096 ≤ x - 1 ∧ x - 1 ≤ 4096 ∧ -4096 ≤ y ∧ y ≤ 4096
  · first | (exfalso; omega) | (repeat (first | simp (disch := omega) only [↓qxs, ↓qxc, ↓qxa, ↓qxb] | refine p_loop 5 ?_ | refine p_call (touch30 (by omega)) ?_ | refine p_call (touch31 (by omega)) ?_ | refine p_call (touch32 (by omega)) ?_ | refine p_call (touchn3 (by omega)) ?_ | refine p_call (touch_no2 (by omega)) ?_ | refine p_call (v3_ok (by omega)) ?_ | refine p_call (v3_no (by omega)) ?_ | refine p_call (rnb30 (by omega)) ?_ | refine p_call (rnb31 (by omega)) ?_ | refine p_call (rnb32 (by omega)) ?_ | refine p_call (cnb30 (by omega)) ?_ | refine p_call (cnbl30 (by omega)) ?_ | refine p_call (cnb10 (by omega)) ?_ | refine p_call (rline30 (by omega)) ?_ | refine p_call (v1_ok (by omega)) ?_ | refine p_call (v1_no (by omega)) ?_ | refine p_call (csideh13 (by omega)) ?_ | refine p_call (csidel13 (by omega)) ?_ | refine p_call (csideh11 (by omega)) ?_ | refine p_call (csidel11 (by omega)) ?_ | refine p_call lives ?_ | refine p_call (v3_ok (by omega)) ?_ | refine p_call (v3_no (by omega)) ?_ | refine p_call (cellCheck_ok (by omega)) ?_ | refine p_call (cellCheck_no (by omega)) ?_))
  first | (exfalso; omega) | (repeat (first | simp (disch := omega) only [↓qxs, ↓qxc, ↓qxa, ↓qxb] | refine p_loop 5 ?_ | refine p_call (touch30 (by omega)) ?_ | refine p_call (touch31 (by omega)) ?_ | refine p_call (touch32 (by omega)) ?_ | refine p_call (touchn3 (by omega)) ?_ | refine p_call (touch_no2 (by omega)) ?_ | refine p_call (v3_ok (by omega)) ?_ | refine p_call (v3_no (by omega)) ?_ | refine p_call (rnb30 (by omega)) ?_ | refine p_call (rnb31 (by omega)) ?_ | refine p_call (rnb32 (by omega)) ?_ | refine p_call (cnb30 (by omega)) ?_ | refine p_call (cnbl30 (by omega)) ?_ | refine p_call (cnb10 (by omega)) ?_ | refine p_call (rline30 (by omega)) ?_ | refine p_call (v1_ok (by omega)) ?_ | refine p_call (v1_no (by omega)) ?_ | refine p_call (csideh13 (by omega)) ?_ | refine p_call (csidel13 (by omega)) ?_ | refine p_call (csideh11 (by omega)) ?_ | refine p_call (csidel11 (by omega)) ?_ | refine p_call lives ?_ | refine p_call (v3_ok (by omega)) ?_ | refine p_call (v3_no (by omega)) ?_ | refine p_call (cellCheck_ok (by omega)) ?_ | refine p_call (cellCheck_no (by omega)) ?_))
theorem cellsNb303 {x y u v r : Int} (h : -4096 ≤ x ∧ x ≤ 4096 ∧ -4096 ≤ y ∧ y ≤ 4096 ∧ -9223372036854775808 ≤ u ∧ u ≤ 9223372036854775807 ∧ -9223372036854775808 ≤ v ∧ v ≤ 9223372036854775807 ∧ 0 ≤ r ∧ r ≤ 255 ∧ (-4096 ≤ u ∧ u ≤ 4096 ∧ -4096 ≤ v ∧ v ≤ 4096 ∧ r ≤ 3) ∧ ¬ (u = x - 1 ∧ v = y ∧ r = 1) ∧ ¬ (u = x ∧ v = y ∧ r = 2) ∧ ¬ (u = x ∧ v = y ∧ r = 0)) : Cc 10 [.i x, .i y, .i 3, .i 0, .i u, .i v, .i r] [.b true] := by
  refine q10 rfl ?_; unfold p10
  by_cases hn : -4096 ≤ x - 1 ∧ x - 1 ≤ 4096 ∧ -4096 ≤ y ∧ y ≤ 4096
  · first | (exfalso; omega) | (repeat (first | simp (disch := omega) only [↓qxs, ↓qxc, ↓qxa, ↓qxb] | refine p_loop 5 ?_ | refine p_call (touch30 (by omega)) ?_ | refine p_call (touch31 (by omega)) ?_ | refine p_call (touch32 (by omega)) ?_ | refine p_call (touchn3 (by omega)) ?_ | refine p_call (touch_no2 (by omega)) ?_ | refine p_call (v3_ok (by omega)) ?_ | refine p_call (v3_no (by omega)) ?_ | refine p_call (rnb30 (by omega)) ?_ | refine p_call (rnb31 (by omega)) ?_ | refine p_call (rnb32 (by omega)) ?_ | refine p_call (cnb30 (by omega)) ?_ | refine p_call (cnbl30 (by omega)) ?_ | refine p_call (cnb10 (by omega)) ?_ | refine p_call (rline30 (by omega)) ?_ | refine p_call (v1_ok (by omega)) ?_ | refine p_call (v1_no (by omega)) ?_ | refine p_call (csideh13 (by omega)) ?_ | refine p_call (csidel13 (by omega)) ?_ | refine p_call (csideh11 (by omega)) ?_ | refine p_call (csidel11 (by omega)) ?_ | refine p_call lives ?_ | refine p_call (v3_ok (by omega)) ?_ | refine p_call (v3_no (by omega)) ?_ | refine p_call (cellCheck_ok (by omega)) ?_ | refine p_call (cellCheck_no (by omega)) ?_))
  first | (exfalso; omega) | (repeat (first | simp (disch := omega) only [↓qxs, ↓qxc, ↓qxa, ↓qxb] | refine p_loop 5 ?_ | refine p_call (touch30 (by omega)) ?_ | refine p_call (touch31 (by omega)) ?_ | refine p_call (touch32 (by omega)) ?_ | refine p_call (touchn3 (by omega)) ?_ | refine p_call (touch_no2 (by omega)) ?_ | refine p_call (v3_ok (by omega)) ?_ | refine p_call (v3_no (by omega)) ?_ | refine p_call (rnb30 (by omega)) ?_ | refine p_call (rnb31 (by omega)) ?_ | refine p_call (rnb32 (by omega)) ?_ | refine p_call (cnb30 (by omega)) ?_ | refine p_call (cnbl30 (by omega)) ?_ | refine p_call (cnb10 (by omega)) ?_ | refine p_call (rline30 (by omega)) ?_ | refine p_call (v1_ok (by omega)) ?_ | refine p_call (v1_no (by omega)) ?_ | refine p_call (csideh13 (by omega)) ?_ | refine p_call (csidel13 (by omega)) ?_ | refine p_call (csideh11 (by omega)) ?_ | refine p_call (csidel11 (by omega)) ?_ | refine p_call lives ?_ | refine p_call (v3_ok (by omega)) ?_ | refine p_call (v3_no (by omega)) ?_ | refine p_call (cellCheck_ok (by omega)) ?_ | refine p_call (cellCheck_no (by omega)) ?_))
theorem cellsNb304 {x y u v r : Int} (h : -4096 ≤ x ∧ x ≤ 4096 ∧ -4096 ≤ y ∧ y ≤ 4096 ∧ -9223372036854775808 ≤ u ∧ u ≤ 9223372036854775807 ∧ -9223372036854775808 ≤ v ∧ v ≤ 9223372036854775807 ∧ 0 ≤ r ∧ r ≤ 255 ∧ ¬ (-4096 ≤ u ∧ u ≤ 4096 ∧ -4096 ≤ v ∧ v ≤ 4096 ∧ r ≤ 3)) : Cc 10 [.i x, .i y, .i 3, .i 0, .i u, .i v, .i r] [.b true] := by
  refine q10 rfl ?_; unfold p10
  by_cases hn : -4096 ≤ x - 1 ∧ x - 1 ≤ 4096 ∧ -4096 ≤ y ∧ y ≤ 4096
  · first | (exfalso; omega) | (repeat (first | simp (disch := omega) only [↓qxs, ↓qxc, ↓qxa, ↓qxb] | refine p_loop 5 ?_ | refine p_call (touch30 (by omega)) ?_ | refine p_call (touch31 (by omega)) ?_ | refine p_call (touch32 (by omega)) ?_ | refine p_call (touchn3 (by omega)) ?_ | refine p_call (touch_no2 (by omega)) ?_ | refine p_call (v3_ok (by omega)) ?_ | refine p_call (v3_no (by omega)) ?_ | refine p_call (rnb30 (by omega)) ?_ | refine p_call (rnb31 (by omega)) ?_ | refine p_call (rnb32 (by omega)) ?_ | refine p_call (cnb30 (by omega)) ?_ | refine p_call (cnbl30 (by omega)) ?_ | refine p_call (cnb10 (by omega)) ?_ | refine p_call (rline30 (by omega)) ?_ | refine p_call (v1_ok (by omega)) ?_ | refine p_call (v1_no (by omega)) ?_ | refine p_call (csideh13 (by omega)) ?_ | refine p_call (csidel13 (by omega)) ?_ | refine p_call (csideh11 (by omega)) ?_ | refine p_call (csidel11 (by omega)) ?_ | refine p_call lives ?_ | refine p_call (v3_ok (by omega)) ?_ | refine p_call (v3_no (by omega)) ?_ | refine p_call (cellCheck_ok (by omega)) ?_ | refine p_call (cellCheck_no (by omega)) ?_))
  first | (exfalso; omega) | (repeat (first | simp (disch := omega) only [↓qxs, ↓qxc, ↓qxa, ↓qxb] | refine p_loop 5 ?_ | refine p_call (touch30 (by omega)) ?_ | refine p_call (touch31 (by omega)) ?_ | refine p_call (touch32 (by omega)) ?_ | refine p_call (touchn3 (by omega)) ?_ | refine p_call (touch_no2 (by omega)) ?_ | refine p_call (v3_ok (by omega)) ?_ | refine p_call (v3_no (by omega)) ?_ | refine p_call (rnb30 (by omega)) ?_ | refine p_call (rnb31 (by omega)) ?_ | refine p_call (rnb32 (by omega)) ?_ | refine p_call (cnb30 (by omega)) ?_ | refine p_call (cnbl30 (by omega)) ?_ | refine p_call (cnb10 (by omega)) ?_ | refine p_call (rline30 (by omega)) ?_ | refine p_call (v1_ok (by omega)) ?_ | refine p_call (v1_no (by omega)) ?_ | refine p_call (csideh13 (by omega)) ?_ | refine p_call (csidel13 (by omega)) ?_ | refine p_call (csideh11 (by omega)) ?_ | refine p_call (csidel11 (by omega)) ?_ | refine p_call lives ?_ | refine p_call (v3_ok (by omega)) ?_ | refine p_call (v3_no (by omega)) ?_ | refine p_call (cellCheck_ok (by omega)) ?_ | refine p_call (cellCheck_no (by omega)) ?_))
theorem cellsNb310 {x y u v : Int} (h : -4096 ≤ x ∧ x ≤ 4096 ∧ -4096 ≤ y ∧ y ≤ 4096 ∧ -9223372036854775808 ≤ u ∧ u ≤ 9223372036854775807 ∧ -9223372036854775808 ≤ v ∧ v ≤ 9223372036854775807 ∧ -4096 ≤ u ∧ u ≤ 4096 ∧ -4096 ≤ v ∧ v ≤ 4096 ∧ u = x - 1 ∧ v = y) : Cc 10 [.i x, .i y, .i 3, .i 1, .i u, .i v, .i 1] [.b true] := by
  refine q10 rfl ?_; unfold p10
  by_cases hc : -4096 ≤ x + y + 1 ∧ x + y + 1 ≤ 4096
  · first | (exfalso; omega) | (repeat (first | simp (disch := omega) only [↓qxs, ↓qxc, ↓qxa, ↓qxb] | refine p_loop 5 ?_ | refine p_call (touch30 (by omega)) ?_ | refine p_call (touch31 (by omega)) ?_ | refine p_call (touch32 (by omega)) ?_ | refine p_call (touchn3 (by omega)) ?_ | refine p_call (touch_no2 (by omega)) ?_ | refine p_call (v3_ok (by omega)) ?_ | refine p_call (v3_no (by omega)) ?_ | refine p_call (rnb30 (by omega)) ?_ | refine p_call (rnb31 (by omega)) ?_ | refine p_call (rnb32 (by omega)) ?_ | refine p_call (cnb31 (by omega)) ?_ | refine p_call (cnb21 (by omega)) ?_ | refine p_call (rline31 (by omega)) ?_ | refine p_call (v1_ok (by omega)) ?_ | refine p_call (v1_no (by omega)) ?_ | refine p_call (csideh33 (by omega)) ?_ | refine p_call (csidel33 (by omega)) ?_ | refine p_call (csideh32 (by omega)) ?_ | refine p_call (csidel32 (by omega)) ?_ | refine p_call lives ?_ | refine p_call (v3_ok (by omega)) ?_ | refine p_call (v3_no (by omega)) ?_ | refine p_call (cellCheck_ok (by omega)) ?_ | refine p_call (cellCheck_no (by omega)) ?_))
  first | (exfalso; omega) | (repeat (first | simp (disch := omega) only [↓qxs, ↓qxc, ↓qxa, ↓qxb] | refine p_loop 5 ?_ | refine p_call (touch30 (by omega)) ?_ | refine p_call (touch31 (by omega)) ?_ | refine p_call (touch32 (by omega)) ?_ | refine p_call (touchn3 (by omega)) ?_ | refine p_call (touch_no2 (by omega)) ?_ | refine p_call (v3_ok (by omega)) ?_ | refine p_call (v3_no (by omega)) ?_ | refine p_call (rnb30 (by omega)) ?_ | refine p_call (rnb31 (by omega)) ?_ | refine p_call (rnb32 (by omega)) ?_ | refine p_call (cnb31 (by omega)) ?_ | refine p_call (cnb21 (by omega)) ?_ | refine p_call (rline31 (by omega)) ?_ | refine p_call (v1_ok (by omega)) ?_ | refine p_call (v1_no (by omega)) ?_ | refine p_call (csideh33 (by omega)) ?_ | refine p_call (csidel33 (by omega)) ?_ | refine p_call (csideh32 (by omega)) ?_ | refine p_call (csidel32 (by omega)) ?_ | refine p_call lives ?_ | refine p_call (v3_ok (by omega)) ?_ | refine p_call (v3_no (by omega)) ?_ | refine p_call (cellCheck_ok (by omega)) ?_ | refine p_call (cellCheck_no (by omega)) ?_))
theorem cellsNb311 {x y u v : Int} (h : -4096 ≤ x ∧ x ≤ 4096 ∧ -4096 ≤ y ∧ y ≤ 4096 ∧ -9223372036854775808 ≤ u ∧ u ≤ 9223372036854775807 ∧ -9223372036854775808 ≤ v ∧ v ≤ 9223372036854775807 ∧ -4096 ≤ u ∧ u ≤ 4096 ∧ -4096 ≤ v ∧ v ≤ 4096 ∧ u = x ∧ v = y) : Cc 10 [.i x, .i y, .i 3, .i 1, .i u, .i v, .i 2] [.b true] := by
  refine q10 rfl ?_; unfold p10
  by_cases hc : -4096 ≤ x + y + 1 ∧ x + y + 1 ≤ 4096
  · first | (exfalso; omega) | (repeat (first | simp (disch := omega) only [↓qxs, ↓qxc, ↓qxa, ↓qxb] | refine p_loop 5 ?_ | refine p_call (touch30 (by omega)) ?_ | refine p_call (touch31 (by omega)) ?_ | refine p_call (touch32 (by omega)) ?_ | refine p_call (touchn3 (by omega)) ?_ | refine p_call (touch_no2 (by omega)) ?_ | refine p_call (v3_ok (by omega)) ?_ | refine p_call (v3_no (by omega)) ?_ | refine p_call (rnb30 (by omega)) ?_ | refine p_call (rnb31 (by omega)) ?_ | refine p_call (rnb32 (by omega)) ?_ | refine p_call (cnb31 (by omega)) ?_ | refine p_call (cnb21 (by omega)) ?_ | refine p_call (rline31 (by omega)) ?_ | refine p_call (v1_ok (by omega)) ?_ | refine p_call (v1_no (by omega)) ?_ | refine p_call (csideh33 (by omega)) ?_ | refine p_call (csidel33 (by omega)) ?_ | refine p_call (csideh32 (by omega)) ?_ | refine p_call (csidel32 (by omega)) ?_ | refine p_call lives ?_ | refine p_call (v3_ok (by omega)) ?_ | refine p_call (v3_no (by omega)) ?_ | refine p_call (cellCheck_ok (by omega)) ?_ | refine p_call (cellCheck_no (by omega)) ?_))
  first | (exfalso; omega) | (repeat (first | simp (disch := omega) only [↓qxs, ↓qxc, ↓qxa, ↓qxb] | refine p_loop 5 ?_ | refine p_call (touch30 (by omega)) ?_ | refine p_call (touch31 (by omega)) ?_ | refine p_call (touch32 (by omega)) ?_ | refine p_call (touchn3 (by omega)) ?_ | refine p_call (touch_no2 (by omega)) ?_ | refine p_call (v3_ok (by omega)) ?_ | refine p_call (v3_no (by omega)) ?_ | refine p_call (rnb30 (by omega)) ?_ | refine p_call (rnb31 (by omega)) ?_ | refine p_call (rnb32 (by omega)) ?_ | refine p_call (cnb31 (by omega)) ?_ | refine p_call (cnb21 (by omega)) ?_ | refine p_call (rline31 (by omega)) ?_ | refine p_call (v1_ok (by omega)) ?_ | refine p_call (v1_no (by omega)) ?_ | refine p_call (csideh33 (by omega)) ?_ | refine p_call (csidel33 (by omega)) ?_ | refine p_call (csideh32 (by omega)) ?_ | refine p_call (csidel32 (by omega)) ?_ | refine p_call lives ?_ | refine p_call (v3_ok (by omega)) ?_ | refine p_call (v3_no (by omega)) ?_ | refine p_call (cellCheck_ok (by omega)) ?_ | refine p_call (cellCheck_no (by omega)) ?_))
theorem cellsNb312 {x y u v : Int} (h : -4096 ≤ x ∧ x ≤ 4096 ∧ -4096 ≤ y ∧ y ≤ 4096 ∧ -9223372036854775808 ≤ u ∧ u ≤ 9223372036854775807 ∧ -9223372036854775808 ≤ v ∧ v ≤ 9223372036854775807 ∧ -4096 ≤ u ∧ u ≤ 4096 ∧ -4096 ≤ v ∧ v ≤ 4096 ∧ u = x ∧ v = y) : Cc 10 [.i x, .i y, .i 3, .i 1, .i u, .i v, .i 0] [.b true] := by
  refine q10 rfl ?_; unfold p10
  by_cases hc : -4096 ≤ x + y + 1 ∧ x + y + 1 ≤ 4096
  · first | (exfalso; omega) | (repeat (first | simp (disch := omega) only [↓qxs, ↓qxc, ↓qxa, ↓qxb] | refine p_loop 5 ?_ | refine p_call (touch30 (by omega)) ?_ | refine p_call (touch31 (by omega)) ?_ | refine p_call (touch32 (by omega)) ?_ | refine p_call (touchn3 (by omega)) ?_ | refine p_call (touch_no2 (by omega)) ?_ | refine p_call (v3_ok (by omega)) ?_ | refine p_call (v3_no (by omega)) ?_ | refine p_call (rnb30 (by omega)) ?_ | refine p_call (rnb31 (by omega)) ?_ | refine p_call (rnb32 (by omega)) ?_ | refine p_call (cnb31 (by omega)) ?_ | refine p_call (cnb21 (by omega)) ?_ | refine p_call (rline31 (by omega)) ?_ | refine p_call (v1_ok (by omega)) ?_ | refine p_call (v1_no (by omega)) ?_ | refine p_call (csideh33 (by omega)) ?_ | refine p_call (csidel33 (by omega)) ?_ | refine p_call (csideh32 (by omega)) ?_ | refine p_call (csidel32 (by omega)) ?_ | refine p_call lives ?_ | refine p_call (v3_ok (by omega)) ?_ | refine p_call (v3_no (by omega)) ?_ | refine p_call (cellCheck_ok (by omega)) ?_ | refine p_call (cellCheck_no (by omega)) ?_))
  first | (exfalso; omega) | (repeat (first | simp (disch := omega) only [↓qxs, ↓qxc, ↓qxa, ↓qxb] | refine p_loop 5 ?_ | refine p_call (touch30 (by omega)) ?_ | refine p_call (touch31 (by omega)) ?_ | refine p_call (touch32 (by omega)) ?_ | refine p_call (touchn3 (by omega)) ?_ | refine p_call (touch_no2 (by omega)) ?_ | refine p_call (v3_ok (by omega)) ?_ | refine p_call (v3_no (by omega)) ?_ | refine p_call (rnb30 (by omega)) ?_ | refine p_call (rnb31 (by omega)) ?_ | refine p_call (rnb32 (by omega)) ?_ | refine p_call (cnb31 (by omega)) ?_ | refine p_call (cnb21 (by omega)) ?_ | refine p_call (rline31 (by omega)) ?_ | refine p_call (v1_ok (by omega)) ?_ | refine p_call (v1_no (by omega)) ?_ | refine p_call (csideh33 (by omega)) ?_ | refine p_call (csidel33 (by omega)) ?_ | refine p_call (csideh32 (by omega)) ?_ | refine p_call (csidel32 (by omega)) ?_ | refine p_call lives ?_ | refine p_call (v3_ok (by omega)) ?_ | refine p_call (v3_no (by omega)) ?_ | refine p_call (cellCheck_ok (by omega)) ?_ | refine p_call (cellCheck_no (by omega)) ?_))
theorem cellsNb313 {x y u v r : Int} (h : -4096 ≤ x ∧ x ≤ 4096 ∧ -4096 ≤ y ∧ y ≤ 4096 ∧ -9223372036854775808 ≤ u ∧ u ≤ 9223372036854775807 ∧ -9223372036854775808 ≤ v ∧ v ≤ 9223372036854775807 ∧ 0 ≤ r ∧ r ≤ 255 ∧ (-4096 ≤ u ∧ u ≤ 4096 ∧ -4096 ≤ v ∧ v ≤ 4096 ∧ r ≤ 3) ∧ ¬ (u = x - 1 ∧ v = y ∧ r = 1) ∧ ¬ (u = x ∧ v = y ∧ r = 2) ∧ ¬ (u = x ∧ v = y ∧ r = 0)) : Cc 10 [.i x, .i y, .i 3, .i 1, .i u, .i v, .i r] [.b true] := by
  refine q10 rfl ?_; unfold p10
  by_cases hc : -4096 ≤ x + y + 1 ∧ x + y + 1 ≤ 4096
  · first | (exfalso; omega) | (repeat (first | simp (disch := omega) only [↓qxs, ↓qxc, ↓qxa, ↓qxb] | refine p_loop 5 ?_ | refine p_call (touch30 (by omega)) ?_ | refine p_call (touch31 (by omega)) ?_ | refine p_call (touch32 (by omega)) ?_ | refine p_call (touchn3 (by omega)) ?_ | refine p_call (touch_no2 (by omega)) ?_ | refine p_call (v3_ok (by omega)) ?_ | refine p_call (v3_no (by omega)) ?_ | refine p_call (rnb30 (by omega)) ?_ | refine p_call (rnb31 (by omega)) ?_ | refine p_call (rnb32 (by omega)) ?_ | refine p_call (cnb31 (by omega)) ?_ | refine p_call (cnb21 (by omega)) ?_ | refine p_call (rline31 (by omega)) ?_ | refine p_call (v1_ok (by omega)) ?_ | refine p_call (v1_no (by omega)) ?_ | refine p_call (csideh33 (by omega)) ?_ | refine p_call (csidel33 (by omega)) ?_ | refine p_call (csideh32 (by omega)) ?_ | refine p_call (csidel32 (by omega)) ?_ | refine p_call lives ?_ | refine p_call (v3_ok (by omega)) ?_ | refine p_call (v3_no (by omega)) ?_ | refine p_call (cellCheck_ok (by omega)) ?_ | refine p_call (cellCheck_no (by omega)) ?_))
  first | (exfalso; omega) | (repeat (first | simp (disch := omega) only [↓qxs, ↓qxc, ↓qxa, ↓qxb] | refine p_loop 5 ?_ | refine p_call (touch30 (by omega)) ?_ | refine p_call (touch31 (by omega)) ?_ | refine p_call (touch32 (by omega)) ?_ | refine p_call (touchn3 (by omega)) ?_ | refine p_call (touch_no2 (by omega)) ?_ | refine p_call (v3_ok (by omega)) ?_ | refine p_call (v3_no (by omega)) ?_ | refine p_call (rnb30 (by omega)) ?_ | refine p_call (rnb31 (by omega)) ?_ | refine p_call (rnb32 (by omega)) ?_ | refine p_call (cnb31 (by omega)) ?_ | refine p_call (cnb21 (by omega)) ?_ | refine p_call (rline31 (by omega)) ?_ | refine p_call (v1_ok (by omega)) ?_ | refine p_call (v1_no (by omega)) ?_ | refine p_call (csideh33 (by omega)) ?_ | refine p_call (csidel33 (by omega)) ?_ | refine p_call (csideh32 (by omega)) ?_ | refine p_call (csidel32 (by omega)) ?_ | refine p_call lives ?_ | refine p_call (v3_ok (by omega)) ?_ | refine p_call (v3_no (by omega)) ?_ | refine p_call (cellCheck_ok (by omega)) ?_ | refine p_call (cellCheck_no (by omega)) ?_))
theorem cellsNb314 {x y u v r : Int} (h : -4096 ≤ x ∧ x ≤ 4096 ∧ -4096 ≤ y ∧ y ≤ 4096 ∧ -9223372036854775808 ≤ u ∧ u ≤ 9223372036854775807 ∧ -9223372036854775808 ≤ v ∧ v ≤ 9223372036854775807 ∧ 0 ≤ r ∧ r ≤ 255 ∧ ¬ (-4096 ≤ u ∧ u ≤ 4096 ∧ -4096 ≤ v ∧ v ≤ 4096 ∧ r ≤ 3)) : Cc 10 [.i x, .i y, .i 3, .i 1, .i u, .i v, .i r] [.b true] := by
  refine q10 rfl ?_; unfold p10
  by_cases hc : -4096 ≤ x + y + 1 ∧ x + y + 1 ≤ 4096
  · first | (exfalso; omega) | (repeat (first | simp (disch := omega) only [↓qxs, ↓qxc, ↓qxa, ↓qxb] | refine p_loop 5 ?_ | refine p_call (touch30 (by omega)) ?_ | refine p_call (touch31 (by omega)) ?_ | refine p_call (touch32 (by omega)) ?_ | refine p_call (touchn3 (by omega)) ?_ | refine p_call (touch_no2 (by omega)) ?_ | refine p_call (v3_ok (by omega)) ?_ | refine p_call (v3_no (by omega)) ?_ | refine p_call (rnb30 (by omega)) ?_ | refine p_call (rnb31 (by omega)) ?_ | refine p_call (rnb32 (by omega)) ?_ | refine p_call (cnb31 (by omega)) ?_ | refine p_call (cnb21 (by omega)) ?_ | refine p_call (rline31 (by omega)) ?_ | refine p_call (v1_ok (by omega)) ?_ | refine p_call (v1_no (by omega)) ?_ | refine p_call (csideh33 (by omega)) ?_ | refine p_call (csidel33 (by omega)) ?_ | refine p_call (csideh32 (by omega)) ?_ | refine p_call (csidel32 (by omega)) ?_ | refine p_call lives ?_ | refine p_call (v3_ok (by omega)) ?_ | refine p_call (v3_no (by omega)) ?_ | refine p_call (cellCheck_ok (by omega)) ?_ | refine p_call (cellCheck_no (by omega)) ?_))
  first | (exfalso; omega) | (repeat (first | simp (disch := omega) only [↓qxs, ↓qxc, ↓qxa, ↓qxb] | refine p_loop 5 ?_ | refine p_call (touch30 (by omega)) ?_ | refine p_call (touch31 (by omega)) ?_ | refine p_call (touch32 (by omega)) ?_ | refine p_call (touchn3 (by omega)) ?_ | refine p_call (touch_no2 (by omega)) ?_ | refine p_call (v3_ok (by omega)) ?_ | refine p_call (v3_no (by omega)) ?_ | refine p_call (rnb30 (by omega)) ?_ | refine p_call (rnb31 (by omega)) ?_ | refine p_call (rnb32 (by omega)) ?_ | refine p_call (cnb31 (by omega)) ?_ | refine p_call (cnb21 (by omega)) ?_ | refine p_call (rline31 (by omega)) ?_ | refine p_call (v1_ok (by omega)) ?_ | refine p_call (v1_no (by omega)) ?_ | refine p_call (csideh33 (by omega)) ?_ | refine p_call (csidel33 (by omega)) ?_ | refine p_call (csideh32 (by omega)) ?_ | refine p_call (csidel32 (by omega)) ?_ | refine p_call lives ?_ | refine p_call (v3_ok (by omega)) ?_ | refine p_call (v3_no (by omega)) ?_ | refine p_call (cellCheck_ok (by omega)) ?_ | refine p_call (cellCheck_no (by omega)) ?_))
theorem cellsNb320 {x y u v : Int} (h : -4096 ≤ x ∧ x ≤ 4096 ∧ -4096 ≤ y ∧ y ≤ 4096 ∧ -9223372036854775808 ≤ u ∧ u ≤ 9223372036854775807 ∧ -9223372036854775808 ≤ v ∧ v ≤ 9223372036854775807 ∧ -4096 ≤ u ∧ u ≤ 4096 ∧ -4096 ≤ v ∧ v ≤ 4096 ∧ u = x - 1 ∧ v = y) : Cc 10 [.i x, .i y, .i 3, .i 2, .i u, .i v, .i 1] [.b true] := by
  refine q10 rfl ?_; unfold p10
  by_cases hc : -4096 ≤ y - x ∧ y - x ≤ 4096
  · first | (exfalso; omega) | (repeat (first | simp (disch := omega) only [↓qxs, ↓qxc, ↓qxa, ↓qxb] | refine p_loop 5 ?_ | refine p_call (touch30 (by omega)) ?_ | refine p_call (touch31 (by omega)) ?_ | refine p_call (touch32 (by omega)) ?_ | refine p_call (touchn3 (by omega)) ?_ | refine p_call (touch_no2 (by omega)) ?_ | refine p_call (v3_ok (by omega)) ?_ | refine p_call (v3_no (by omega)) ?_ | refine p_call (rnb30 (by omega)) ?_ | refine p_call (rnb31 (by omega)) ?_ | refine p_call (rnb32 (by omega)) ?_ | refine p_call (cnb32 (by omega)) ?_ | refine p_call (cnb02 (by omega)) ?_ | refine p_call (rline32 (by omega)) ?_ | refine p_call (v1_ok (by omega)) ?_ | refine p_call (v1_no (by omega)) ?_ | refine p_call (csideh43 (by omega)) ?_ | refine p_call (csidel43 (by omega)) ?_ | refine p_call (csideh40 (by omega)) ?_ | refine p_call (csidel40 (by omega)) ?_ | refine p_call lives ?_ | refine p_call (v3_ok (by omega)) ?_ | refine p_call (v3_no (by omega)) ?_ | refine p_call (cellCheck_ok (by omega)) ?_ | refine p_call (cellCheck_no (by omega)) ?_))
  first | (exfalso; omega) | (repeat (first | simp (disch := omega) only [↓qxs, ↓qxc, ↓qxa, ↓qxb] | refine p_loop 5 ?_ | refine p_call (touch30 (by omega)) ?_ | refine p_call (touch31 (by omega)) ?_ | refine p_call (touch32 (by omega)) ?_ | refine p_call (touchn3 (by omega)) ?_ | refine p_call (touch_no2 (by omega)) ?_ | refine p_call (v3_ok (by omega)) ?_ | refine p_call (v3_no (by omega)) ?_ | refine p_call (rnb30 (by omega)) ?_ | refine p_call (rnb31 (by omega)) ?_ | refine p_call (rnb32 (by omega)) ?_ | refine p_call (cnb32 (by omega)) ?_ | refine p_call (cnb02 (by omega)) ?_ | refine p_call (rline32 (by omega)) ?_ | refine p_call (v1_ok (by omega)) ?_ | refine p_call (v1_no (by omega)) ?_ | refine p_call (csideh43 (by omega)) ?_ | refine p_call (csidel43 (by omega)) ?_ | refine p_call (csideh40 (by omega)) ?_ | refine p_call (csidel40 (by omega)) ?_ | refine p_call lives ?_ | refine p_call (v3_ok (by omega)) ?_ | refine p_call (v3_no (by omega)) ?_ | refine p_call (cellCheck_ok (by omega)) ?_ | refine p_call (cellCheck_no (by omega)) ?_))
theorem cellsNb321 {x y u v : Int} (h : -4096 ≤ x ∧ x ≤ 4096 ∧ -4096 ≤ y ∧ y ≤ 4096 ∧ -9223372036854775808 ≤ u ∧ u ≤ 9223372036854775807 ∧ -9223372036854775808 ≤ v ∧ v ≤ 9223372036854775807 ∧ -4096 ≤ u ∧ u ≤ 4096 ∧ -4096 ≤ v ∧ v ≤ 4096 ∧ u = x ∧ v = y) : Cc 10 [.i x, .i y, .i 3, .i 2, .i u, .i v, .i 2] [.b true] := by
  refine q10 rfl ?_; unfold p10
  by_cases hc : -4096 ≤ y - x ∧ y - x ≤ 4096
  · first | (exfalso; omega) | (repeat (first | simp (disch := omega) only [↓qxs, ↓qxc, ↓qxa, ↓qxb] | refine p_loop 5 ?_ | refine p_call (touch30 (by omega)) ?_ | refine p_call (touch31 (by omega)) ?_ | refine p_call (touch32 (by omega)) ?_ | refine p_call (touchn3 (by omega)) ?_ | refine p_call (touch_no2 (by omega)) ?_ | refine p_call (v3_ok (by omega)) ?_ | refine p_call (v3_no (by omega)) ?_ | refine p_call (rnb30 (by omega)) ?_ | refine p_call (rnb31 (by omega)) ?_ | refine p_call (rnb32 (by omega)) ?_ | refine p_call (cnb32 (by omega)) ?_ | refine p_call (cnb02 (by omega)) ?_ | refine p_call (rline32 (by omega)) ?_ | refine p_call (v1_ok (by omega)) ?_ | refine p_call (v1_no (by omega)) ?_ | refine p_call (csideh43 (by omega)) ?_ | refine p_call (csidel43 (by omega)) ?_ | refine p_call (csideh40 (by omega)) ?_ | refine p_call (csidel40 (by omega)) ?_ | refine p_call lives ?_ | refine p_call (v3_ok (by omega)) ?_ | refine p_call (v3_no (by omega)) ?_ | refine p_call (cellCheck_ok (by omega)) ?_ | refine p_call (cellCheck_no (by omega)) ?_))
  first | (exfalso; omega) | (repeat (first | simp (disch := omega) only [↓qxs, ↓qxc, ↓qxa, ↓qxb] | refine p_loop 5 ?_ | refine p_call (touch30 (by omega)) ?_ | refine p_call (touch31 (by omega)) ?_ | refine p_call (touch32 (by omega)) ?_ | refine p_call (touchn3 (by omega)) ?_ | refine p_call (touch_no2 (by omega)) ?_ | refine p_call (v3_ok (by omega)) ?_ | refine p_call (v3_no (by omega)) ?_ | refine p_call (rnb30 (by omega)) ?_ | refine p_call (rnb31 (by omega)) ?_ | refine p_call (rnb32 (by omega)) ?_ | refine p_call (cnb32 (by omega)) ?_ | refine p_call (cnb02 (by omega)) ?_ | refine p_call (rline32 (by omega)) ?_ | refine p_call (v1_ok (by omega)) ?_ | refine p_call (v1_no (by omega)) ?_ | refine p_call (csideh43 (by omega)) ?_ | refine p_call (csidel43 (by omega)) ?_ | refine p_call (csideh40 (by omega)) ?_ | refine p_call (csidel40 (by omega)) ?_ | refine p_call lives ?_ | refine p_call (v3_ok (by omega)) ?_ | refine p_call (v3_no (by omega)) ?_ | refine p_call (cellCheck_ok (by omega)) ?_ | refine p_call (cellCheck_no (by omega)) ?_))
theorem cellsNb322 {x y u v : Int} (h : -4096 ≤ x ∧ x ≤ 4096 ∧ -4096 ≤ y ∧ y ≤ 4096 ∧ -9223372036854775808 ≤ u ∧ u ≤ 9223372036854775807 ∧ -9223372036854775808 ≤ v ∧ v ≤ 9223372036854775807 ∧ -4096 ≤ u ∧ u ≤ 4096 ∧ -4096 ≤ v ∧ v ≤ 4096 ∧ u = x ∧ v = y) : Cc 10 [.i x, .i y, .i 3, .i 2, .i u, .i v, .i 0] [.b true] := by
  refine q10 rfl ?_; unfold p10
  by_cases hc : -4096 ≤ y - x ∧ y - x ≤ 4096
  · first | (exfalso; omega) | (repeat (first | simp (disch := omega) only [↓qxs, ↓qxc, ↓qxa, ↓qxb] | refine p_loop 5 ?_ | refine p_call (touch30 (by omega)) ?_ | refine p_call (touch31 (by omega)) ?_ | refine p_call (touch32 (by omega)) ?_ | refine p_call (touchn3 (by omega)) ?_ | refine p_call (touch_no2 (by omega)) ?_ | refine p_call (v3_ok (by omega)) ?_ | refine p_call (v3_no (by omega)) ?_ | refine p_call (rnb30 (by omega)) ?_ | refine p_call (rnb31 (by omega)) ?_ | refine p_call (rnb32 (by omega)) ?_ | refine p_call (cnb32 (by omega)) ?_ | refine p_call (cnb02 (by omega)) ?_ | refine p_call (rline32 (by omega)) ?_ | refine p_call (v1_ok (by omega)) ?_ | refine p_call (v1_no (by omega)) ?_ | refine p_call (csideh43 (by omega)) ?_ | refine p_call (csidel43 (by omega)) ?_ | refine p_call (csideh40 (by omega)) ?_ | refine p_call (csidel40 (by omega)) ?_ | refine p_call lives ?_ | refine p_call (v3_ok (by omega)) ?_ | refine p_call (v3_no (by omega)) ?_ | refine p_call (cellCheck_ok (by omega)) ?_ | refine p_call (cellCheck_no (by omega)) ?_))
  first | (exfalso; omega) | (repeat (first | simp (disch := omega) only [↓qxs, ↓qxc, ↓qxa, ↓qxb] | refine p_loop 5 ?_ | refine p_call (touch30 (by omega)) ?_ | refine p_call (touch31 (by omega)) ?_ | refine p_call (touch32 (by omega)) ?_ | refine p_call (touchn3 (by omega)) ?_ | refine p_call (touch_no2 (by omega)) ?_ | refine p_call (v3_ok (by omega)) ?_ | refine p_call (v3_no (by omega)) ?_ | refine p_call (rnb30 (by omega)) ?_ | refine p_call (rnb31 (by omega)) ?_ | refine p_call (rnb32 (by omega)) ?_ | refine p_call (cnb32 (by omega)) ?_ | refine p_call (cnb02 (by omega)) ?_ | refine p_call (rline32 (by omega)) ?_ | refine p_call (v1_ok (by omega)) ?_ | refine p_call (v1_no (by omega)) ?_ | refine p_call (csideh43 (by omega)) ?_ | refine p_call (csidel43 (by omega)) ?_ | refine p_call (csideh40 (by omega)) ?_ | refine p_call (csidel40 (by omega)) ?_ | refine p_call lives ?_ | refine p_call (v3_ok (by omega)) ?_ | refine p_call (v3_no (by omega)) ?_ | refine p_call (cellCheck_ok (by omega)) ?_ | refine p_call (cellCheck_no (by omega)) ?_))
theorem cellsNb323 {x y u v r : Int} (h : -4096 ≤ x ∧ x ≤ 4096 ∧ -4096 ≤ y ∧ y ≤ 4096 ∧ -9223372036854775808 ≤ u ∧ u ≤ 9223372036854775807 ∧ -9223372036854775808 ≤ v ∧ v ≤ 9223372036854775807 ∧ 0 ≤ r ∧ r ≤ 255 ∧ (-4096 ≤ u ∧ u ≤ 4096 ∧ -4096 ≤ v ∧ v ≤ 4096 ∧ r ≤ 3) ∧ ¬ (u = x - 1 ∧ v = y ∧ r = 1) ∧ ¬ (u = x ∧ v = y ∧ r = 2) ∧ ¬ (u = x ∧ v = y ∧ r = 0)) : Cc 10 [.i x, .i y, .i 3, .i 2, .i u, .i v, .i r] [.b true] := by
  refine q10 rfl ?_; unfold p10
  by_cases hc : -4096 ≤ y - x ∧ y - x ≤ 4096
  · first | (exfalso; omega) | (repeat (first | simp (disch := omega) only [↓qxs, ↓qxc, ↓qxa, ↓qxb] | refine p_loop 5 ?_ | refine p_call (touch30 (by omega)) ?_ | refine p_call (touch31 (by omega)) ?_ | refine p_call (touch32 (by omega)) ?_ | refine p_call (touchn3 (by omega)) ?_ | refine p_call (touch_no2 (by omega)) ?_ | refine p_call (v3_ok (by omega)) ?_ | refine p_call (v3_no (by omega)) ?_ | refine p_call (rnb30 (by omega)) ?_ | refine p_call (rnb31 (by omega)) ?_ | refine p_call (rnb32 (by omega)) ?_ | refine p_call (cnb32 (by omega)) ?_ | refine p_call (cnb02 (by omega)) ?_ | refine p_call (rline32 (by omega)) ?_ | refine p_call (v1_ok (by omega)) ?_ | refine p_call (v1_no (by omega)) ?_ | refine p_call (csideh43 (by omega)) ?_ | refine p_call (csidel43 (by omega)) ?_ | refine p_call (csideh40 (by omega)) ?_ | refine p_call (csidel40 (by omega)) ?_ | refine p_call lives ?_ | refine p_call (v3_ok (by omega)) ?_ | refine p_call (v3_no (by omega)) ?_ | refine p_call (cellCheck_ok (by omega)) ?_ | refine p_call (cellCheck_no (by omega)) ?_))
  first | (exfalso; omega) | (repeat (first | simp (disch := omega) only [↓qxs, ↓qxc, ↓qxa, ↓qxb] | refine p_loop 5 ?_ | refine p_call (touch30 (by omega)) ?_ | refine p_call (touch31 (by omega)) ?_ | refine p_call (touch32 (by omega)) ?_ | refine p_call (touchn3 (by omega)) ?_ | refine p_call (touch_no2 (by omega)) ?_ | refine p_call (v3_ok (by omega)) ?_ | refine p_call (v3_no (by omega)) ?_ | refine p_call (rnb30 (by omega)) ?_ | refine p_call (rnb31 (by omega)) ?_ | refine p_call (rnb32 (by omega)) ?_ | refine p_call (cnb32 (by omega)) ?_ | refine p_call (cnb02 (by omega)) ?_ | refine p_call (rline32 (by omega)) ?_ | refine p_call (v1_ok (by omega)) ?_ | refine p_call (v1_no (by omega)) ?_ | refine p_call (csideh43 (by omega)) ?_ | refine p_call (csidel43 (by omega)) ?_ | refine p_call (csideh40 (by omega)) ?_ | refine p_call (csidel40 (by omega)) ?_ | refine p_call lives ?_ | refine p_call (v3_ok (by omega)) ?_ | refine p_call (v3_no (by omega)) ?_ | refine p_call (cellCheck_ok (by omega)) ?_ | refine p_call (cellCheck_no (by omega)) ?_))
theorem cellsNb324 {x y u v r : Int} (h : -4096 ≤ x ∧ x ≤ 4096 ∧ -4096 ≤ y ∧ y ≤ 4096 ∧ -9223372036854775808 ≤ u ∧ u ≤ 9223372036854775807 ∧ -9223372036854775808 ≤ v ∧ v ≤ 9223372036854775807 ∧ 0 ≤ r ∧ r ≤ 255 ∧ ¬ (-4096 ≤ u ∧ u ≤ 4096 ∧ -4096 ≤ v ∧ v ≤ 4096 ∧ r ≤ 3)) : Cc 10 [.i x, .i y, .i 3, .i 2, .i u, .i v, .i r] [.b true] := by
  refine q10 rfl ?_; unfold p10
  by_cases hc : -4096 ≤ y - x ∧ y - x ≤ 4096
  · first | (exfalso; omega) | (repeat (first | simp (disch := omega) only [↓qxs, ↓qxc, ↓qxa, ↓qxb] | refine p_loop 5 ?_ | refine p_call (touch30 (by omega)) ?_ | refine p_call (touch31 (by omega)) ?_ | refine p_call (touch32 (by omega)) ?_ | refine p_call (touchn3 (by omega)) ?_ | refine p_call (touch_no2 (by omega)) ?_ | refine p_call (v3_ok (by omega)) ?_ | refine p_call (v3_no (by omega)) ?_ | refine p_call (rnb30 (by omega)) ?_ | refine p_call (rnb31 (by omega)) ?_ | refine p_call (rnb32 (by omega)) ?_ | refine p_call (cnb32 (by omega)) ?_ | refine p_call (cnb02 (by omega)) ?_ | refine p_call (rline32 (by omega)) ?_ | refine p_call (v1_ok (by omega)) ?_ | refine p_call (v1_no (by omega)) ?_ | refine p_call (csideh43 (by omega)) ?_ | refine p_call (csidel43 (by omega)) ?_ | refine p_call (csideh40 (by omega)) ?_ | refine p_call (csidel40 (by omega)) ?_ | refine p_call lives ?_ | refine p_call (v3_ok (by omega)) ?_ | refine p_call (v3_no (by omega)) ?_ | refine p_call (cellCheck_ok (by omega)) ?_ | refine p_call (cellCheck_no (by omega)) ?_))
  first | (exfalso; omega) | (repeat (first | simp (disch := omega) only [↓qxs, ↓qxc, ↓qxa, ↓qxb] | refine p_loop 5 ?_ | refine p_call (touch30 (by omega)) ?_ | refine p_call (touch31 (by omega)) ?_ | refine p_call (touch32 (by omega)) ?_ | refine p_call (touchn3 (by omega)) ?_ | refine p_call (touch_no2 (by omega)) ?_ | refine p_call (v3_ok (by omega)) ?_ | refine p_call (v3_no (by omega)) ?_ | refine p_call (rnb30 (by omega)) ?_ | refine p_call (rnb31 (by omega)) ?_ | refine p_call (rnb32 (by omega)) ?_ | refine p_call (cnb32 (by omega)) ?_ | refine p_call (cnb02 (by omega)) ?_ | refine p_call (rline32 (by omega)) ?_ | refine p_call (v1_ok (by omega)) ?_ | refine p_call (v1_no (by omega)) ?_ | refine p_call (csideh43 (by omega)) ?_ | refine p_call (csidel43 (by omega)) ?_ | refine p_call (csideh40 (by omega)) ?_ | refine p_call (csidel40 (by omega)) ?_ | refine p_call lives ?_ | refine p_call (v3_ok (by omega)) ?_ | refine p_call (v3_no (by omega)) ?_ | refine p_call (cellCheck_ok (by omega)) ?_ | refine p_call (cellCheck_no (by omega)) ?_))
theorem cellsNb3 {x y e u v r : Int} (h : -4096 ≤ x ∧ x ≤ 4096 ∧ -4096 ≤ y ∧ y ≤ 4096 ∧ -9223372036854775808 ≤ u ∧ u ≤ 9223372036854775807 ∧ -9223372036854775808 ≤ v ∧ v ≤ 9223372036854775807 ∧ 0 ≤ r ∧ r ≤ 255 ∧ 0 ≤ e ∧ e ≤ 255) : Cc 10 [.i x, .i y, .i 3, .i e, .i u, .i v, .i r] [.b true] := by
  obtain he | rfl | rfl | rfl : 2 < e ∨ e = 0 ∨ e = 1 ∨ e = 2 := by omega
  · by_cases hv : -4096 ≤ u ∧ u ≤ 4096 ∧ -4096 ≤ v ∧ v ≤ 4096 ∧ r ≤ 3
    · by_cases h0 : u = x - 1 ∧ v = y ∧ r = 1
      · obtain ⟨h1, h2, rfl⟩ := h0; exact cellsNb3g0 (by omega)
      by_cases h1 : u = x ∧ v = y ∧ r = 2
      · obtain ⟨h1, h2, rfl⟩ := h1; exact cellsNb3g1 (by omega)
      by_cases h2 : u = x ∧ v = y ∧ r = 0
      · obtain ⟨h1, h2, rfl⟩ := h2; exact cellsNb3g2 (by omega)
      exact cellsNb3g3 (by omega)
    · exact cellsNb3g4 (by omega)
  · by_cases hv : -4096 ≤ u ∧ u ≤ 4096 ∧ -4096 ≤ v ∧ v ≤ 4096 ∧ r ≤ 3
    · by_cases h0 : u = x - 1 ∧ v = y ∧ r = 1
      · obtain ⟨h1, h2, rfl⟩ := h0; exact cellsNb300 (by omega)
      by_cases h1 : u = x ∧ v = y ∧ r = 2
      · obtain ⟨h1, h2, rfl⟩ := h1; exact cellsNb301 (by omega)
      by_cases h2 : u = x ∧ v = y ∧ r = 0
      · obtain ⟨h1, h2, rfl⟩ := h2; exact cellsNb302 (by omega)
      exact cellsNb303 (by omega)
    · exact cellsNb304 (by omega)
  · by_cases hv : -4096 ≤ u ∧ u ≤ 4096 ∧ -4096 ≤ v ∧ v ≤ 4096 ∧ r ≤ 3
    · by_cases h0 : u = x - 1 ∧ v = y ∧ r = 1
      · obtain ⟨h1, h2, rfl⟩ := h0; exact cellsNb310 (by omega)
      by_cases h1 : u = x ∧ v = y ∧ r = 2
      · obtain ⟨h1, h2, rfl⟩ := h1; exact cellsNb311 (by omega)
      by_cases h2 : u = x ∧ v = y ∧ r = 0
      · obtain ⟨h1, h2, rfl⟩ := h2; exact cellsNb312 (by omega)
      exact cellsNb313 (by omega)
    · exact cellsNb314 (by omega)
  · by_cases hv : -4096 ≤ u ∧ u ≤ 4096 ∧ -4096 ≤ v ∧ v ≤ 4096 ∧ r ≤ 3
    · by_cases h0 : u = x - 1 ∧ v = y ∧ r = 1
      · obtain ⟨h1, h2, rfl⟩ := h0; exact cellsNb320 (by omega)
      by_cases h1 : u = x ∧ v = y ∧ r = 2
      · obtain ⟨h1, h2, rfl⟩ := h1; exact cellsNb321 (by omega)
      by_cases h2 : u = x ∧ v = y ∧ r = 0
      · obtain ⟨h1, h2, rfl⟩ := h2; exact cellsNb322 (by omega)
      exact cellsNb323 (by omega)
    · exact cellsNb324 (by omega)
end Go.Am
/-
  CONTRACTS, BY PROGRAM: CellsNeighbour.
-/
set_option maxRecDepth 100000
set_option maxHeartbeats 4000000
namespace Go.Am
open Sx Go.Proofs

theorem cellsNeighbour_any {x y q e u v r : Int} (h : -9223372036854775808 ≤ x ∧ x ≤ 9223372036854775807 ∧ -9223372036854775808 ≤ y ∧ y ≤ 9223372036854775807 ∧ 0 ≤ q ∧ q ≤ 255 ∧ 0 ≤ e ∧ e ≤ 255 ∧ -9223372036854775808 ≤ u ∧ u ≤ 9223372036854775807 ∧ -9223372036854775808 ≤ v ∧ v ≤ 9223372036854775807 ∧ 0 ≤ r ∧ r ≤ 255) : Cc 10 [.i x, .i y, .i q, .i e, .i u, .i v, .i r] [.b true] := by
  by_cases ha : -4096 ≤ x ∧ x ≤ 4096 ∧ -4096 ≤ y ∧ y ≤ 4096 ∧ q ≤ 3
  · obtain rfl | rfl | rfl | rfl : q = 0 ∨ q = 1 ∨ q = 2 ∨ q = 3 := by omega
    · exact cellsNb0 (by omega)
    · exact cellsNb1 (by omega)
    · exact cellsNb2 (by omega)
    · exact cellsNb3 (by omega)
  · refine q10 rfl ?_; unfold p10
    first | (exfalso; omega) | (repeat (first | simp (disch := omega) only [↓qxs, ↓qxc, ↓qxa, ↓qxb] | refine p_call (cnb_no (by omega)) ?_ | refine p_call (touch_no1 (by omega)) ?_ | refine p_call (v3_no (by omega)) ?_ | refine p_call lives ?_ | refine p_call (v3_ok (by omega)) ?_ | refine p_call (v3_no (by omega)) ?_ | refine p_call (cellCheck_ok (by omega)) ?_ | refine p_call (cellCheck_no (by omega)) ?_))
end Go.Am
/-
  ARGUMENTS WITHOUT ADDRESSES, as the row reads them.
-/
namespace Go.Am
namespace Sx
open Go.ChangeShapes Go.WideShapes Go.ChangeAt Go.WideMaps Go.WideElems Go.RowKit

/-- The cells are of these kinds, in their ranges. -/
def FitC : List LK → List Value → Prop
  | [], [] => True
  | .i k :: ks, v :: vs => (∃ n, v = .int k n ∧ (Lit.int k n).wf = true) ∧ FitC ks vs
  | .b :: ks, v :: vs => (∃ t, v = .bool t) ∧ FitC ks vs
  | _, _ => False
/-- The leaves are of these kinds, in their ranges. -/
def FitL : List LK → List Lf → Prop
  | [], [] => True
  | .i k :: ks, .i n :: ls => (Lit.int k n).wf = true ∧ FitL ks ls
  | .b :: ks, .b _ :: ls => FitL ks ls
  | _, _ => False

theorem FitC.len : ∀ {ks : List LK} {vs : List Value}, FitC ks vs → vs.length = ks.length
  | [], [], _ => rfl
  | .i k :: ks, v :: vs, h => by simp [FitC.len h.2]
  | .b :: ks, v :: vs, h => by simp [FitC.len h.2]
  | .v :: _, _, h => by cases h
  | [], _ :: _, h => by cases h
  | .i _ :: _, [], h => by cases h
  | .b :: _, [], h => by cases h
theorem FitC.app : ∀ {ks ks' : List LK} {vs vs' : List Value}, FitC ks vs → FitC ks' vs' → FitC (ks ++ ks') (vs ++ vs')
  | [], _, [], _, _, h => h
  | .i k :: ks, _, v :: vs, _, h, h' => ⟨h.1, FitC.app h.2 h'⟩
  | .b :: ks, _, v :: vs, _, h, h' => ⟨h.1, FitC.app h.2 h'⟩
  | .v :: _, _, _, _, h, _ => by cases h
  | [], _, _ :: _, _, h, _ => by cases h
  | .i _ :: _, _, [], _, h, _ => by cases h
  | .b :: _, _, [], _, h, _ => by cases h
theorem FitL.app : ∀ {ks ks' : List LK} {vs vs' : List Lf}, FitL ks vs → FitL ks' vs' → FitL (ks ++ ks') (vs ++ vs')
  | [], _, [], _, _, h => h
  | .i k :: ks, _, .i v :: vs, _, h, h' => ⟨h.1, FitL.app h.2 h'⟩
  | .b :: ks, _, .b v :: vs, _, h, h' => FitL.app (ks := ks) h h'
  | .v :: _, _, _, _, h, _ => by cases h
  | [], _, _ :: _, _, h, _ => by cases h
  | .i _ :: _, _, [], _, h, _ => by cases h
  | .b :: _, _, [], _, h, _ => by cases h
  | .i _ :: _, _, .b _ :: _, _, h, _ => by cases h
  | .i _ :: _, _, .v _ :: _, _, h, _ => by cases h
  | .b :: _, _, .i _ :: _, _, h, _ => by cases h
  | .b :: _, _, .v _ :: _, _, h, _ => by cases h
/-- Cells as leaves. -/
theorem FitC.sl : ∀ {ks : List LK} {vs : List Value}, FitC ks vs → ∃ xs : List SL, xs.map SL.val = vs ∧ allIs xs ks = true ∧ (∀ x ∈ xs, x.good) ∧ FitL ks (xs.map SL.lf)
  | [], [], _ => ⟨[], rfl, rfl, fun _ h => (by cases h), trivial⟩
  | .i k :: ks, v :: vs, h => by
    obtain ⟨⟨n, rfl, hw⟩, h2⟩ := h
    obtain ⟨xs, a, b, c, d⟩ := FitC.sl h2
    exact ⟨.i k n :: xs, by simp [a, SL.val], by simp [allIs, b, SL.is, kSame_self], fun x hx => by
      rcases List.mem_cons.1 hx with rfl | hx
      · trivial
      · exact c x hx, hw, d⟩
  | .b :: ks, v :: vs, h => by
    obtain ⟨⟨n, rfl⟩, h2⟩ := h
    obtain ⟨xs, a, b, c, d⟩ := FitC.sl h2
    exact ⟨.b n :: xs, by simp [a, SL.val], by simp [allIs, b, SL.is], fun x hx => by
      rcases List.mem_cons.1 hx with rfl | hx
      · trivial
      · exact c x hx, d⟩
  | .v :: _, _, h => by cases h
  | [], _ :: _, h => by cases h
  | .i _ :: _, [], h => by cases h
  | .b :: _, [], h => by cases h

/-- The kinds of the cells of a type of numbers, truth values and structs. -/
def flatF (F : TypeId → Option (List LK)) : List Field → Nat → Option (List LK)
  | [], _ => some []
  | f :: fs, off => match Nat.beq f.offset off, F f.type with
    | true, some ks => (flatF F fs (off + ks.length)).map (ks ++ ·)
    | _, _ => none
def flatT (P : Program) : Nat → TypeId → Option (List LK)
  | 0, _ => none
  | d + 1, t => match P.underlying t with
    | some (.int k) => some [.i k]
    | some .bool => some [.b]
    | some (.struct fs) => match flatF (flatT P d) fs.toList 0 with
      | some ks => match Nat.beq ks.length (P.cellsOf t) with
        | true => some ks
        | false => none
      | none => none
    | _ => none
def skT (P : Program) (t : TypeId) : Option SK :=
  match P.underlying t with
  | some (.int k) => some (.leaf (.i k))
  | some .bool => some (.leaf .b)
  | some (.struct _) => (flatT P 20 t).map .agg
  | _ => none

section
variable {H : Type} {enc : TypeId × Value → H} {P : Program}

theorem take_take_len {α : Type} (l : List α) (c : Nat) : l.take (l.take c).length = l.take c := by
  rw [List.length_take]
  rcases Nat.le_total c l.length with h | h
  · rw [Nat.min_eq_left h]
  · rw [Nat.min_eq_right h, List.take_of_length_le h, List.take_of_length_le (Nat.le_refl _)]

theorem flatF_ok {F : TypeId → Option (List LK)} {w : World} {base : Nat} {sp : Nat → Bool} {held : Bool} {fuel : Nat}
    (hF : ∀ t ks, F t = some ks → ∀ cs (x : DataW H × List MemPlace), DataW.trod enc P w base sp held fuel t cs = some x → x.2 = [] ∧ FitC ks cs ∧ ∀ w' b' s' h', DataW.trod enc P w' b' s' h' fuel t cs = some x) (cs : List Value) :
    ∀ (fs : List Field) (off : Nat) (ks : List LK) (xs : List (DataW H × List MemPlace)), flatF F fs off = some ks → fs.mapM (fun f => DataW.trod enc P w base sp held fuel f.type ((cs.drop f.offset).take (P.cellsOf f.type))) = some xs →
      xs.flatMap (·.2) = [] ∧ FitC ks ((cs.drop off).take ks.length) ∧ ∀ w' b' s' h', fs.mapM (fun f => DataW.trod enc P w' b' s' h' fuel f.type ((cs.drop f.offset).take (P.cellsOf f.type))) = some xs
  | [], off, ks, xs, h1, h2 => by
    simp only [flatF, Option.some.injEq] at h1
    subst h1
    simp only [List.mapM_nil, Option.pure_def, Option.some.injEq] at h2
    subst h2
    refine ⟨rfl, by simp [FitC], fun _ _ _ _ => by simp⟩
  | f :: fs, off, ks, xs, h1, h2 => by
    simp only [flatF] at h1
    split at h1
    · rename_i k1 e1 e2
      obtain ⟨k2, e3, rfl⟩ := Option.map_eq_some_iff.1 h1
      have e1 := Nat.eq_of_beq_eq_true e1
      rw [List.mapM_cons] at h2
      obtain ⟨x, h3, h2⟩ := Option.bind_eq_some_iff.1 h2
      obtain ⟨ys, h4, h2⟩ := Option.bind_eq_some_iff.1 h2
      cases h2
      obtain ⟨a1, a2, a3⟩ := hF _ _ e2 _ _ h3
      obtain ⟨b1, b2, b3⟩ := flatF_ok hF cs fs _ k2 ys e3 h4
      refine ⟨by simp [a1, b1], ?_, fun w' b' s' h' => ?_⟩
      · rw [List.length_append, List.take_add]
        refine FitC.app ?_ (by rw [List.drop_drop]; exact b2)
        have hl := FitC.len a2
        rw [e1] at a2 hl
        rw [← hl, take_take_len]
        exact a2
      · rw [List.mapM_cons, a3 w' b' s' h', b3 w' b' s' h']
        rfl
    · cases h1

theorem flatT_ok : ∀ (d : Nat) (t : TypeId) (ks : List LK), flatT P d t = some ks → ∀ (w : World) (base : Nat) (sp : Nat → Bool) (held : Bool) (fuel : Nat) (cs : List Value) (x : DataW H × List MemPlace), DataW.trod enc P w base sp held fuel t cs = some x →
    x.2 = [] ∧ FitC ks cs ∧ ∀ w' b' s' h', DataW.trod enc P w' b' s' h' fuel t cs = some x
  | 0, _, _, h => by cases h
  | d + 1, t, ks, h => by
    intro w base sp held fuel cs x hx
    simp only [flatT] at h
    split at h
    · rename_i k e
      cases h
      obtain ⟨n, rfl, rfl, hw⟩ := DataW.trod_int e hx
      refine ⟨rfl, ⟨⟨n, rfl, hw⟩, trivial⟩, fun w' b' s' h' => ?_⟩
      cases fuel with
      | zero => simp [DataW.trod] at hx
      | succ m => simp [DataW.trod, e, hw]
    · rename_i e
      cases h
      obtain ⟨n, rfl, rfl⟩ := DataW.trod_bool e hx
      refine ⟨rfl, ⟨⟨n, rfl⟩, trivial⟩, fun w' b' s' h' => ?_⟩
      cases fuel with
      | zero => simp [DataW.trod] at hx
      | succ m => simp [DataW.trod, e]
    · rename_i fs e
      split at h
      · rename_i k2 e2
        split at h
        · rename_i e3
          cases h
          have e3 := Nat.eq_of_beq_eq_true e3
          cases fuel with
          | zero => simp [DataW.trod] at hx
          | succ m =>
            simp only [DataW.trod, e] at hx
            split at hx
            · rename_i hl
              obtain ⟨xs, h5, rfl⟩ := Option.map_eq_some_iff.1 hx
              obtain ⟨a1, a2, a3⟩ := flatF_ok (fun t ks h cs x hx => flatT_ok d t ks h w base sp held m cs x hx) cs fs.toList 0 ks xs e2 h5
              rw [List.drop_zero, List.take_of_length_le (by omega)] at a2
              refine ⟨a1, a2, fun w' b' s' h' => ?_⟩
              simp only [DataW.trod, e, hl, if_true]
              rw [a3 w' b' s' h']
              rfl
            · cases hx
        · cases h
      · cases h
    · cases h

theorem open_flat {w : World} {r : Reach} {b0 base : Nat} {sp : Nat → Bool} {held : Bool} {t : TypeId} {sk : SK} {v : Value} {d : DataW H} {ps : List MemPlace} (h : skT P t = some sk) (hval : Value.okWide P w r b0 t v) (hd : DataW.Trod enc P w base sp held t v d ps) :
    ∃ x : S0, v = x.val ∧ x.is sk = true ∧ x.good ∧ FitL (skKs sk) (x.cells.map SL.lf) ∧ ps = [] ∧ ∀ w' b' s' h', DataW.Trod enc P w' b' s' h' t v d [] := by
  unfold skT at h
  split at h
  · rename_i k e
    cases h
    obtain ⟨n, rfl, rfl, rfl, hw⟩ := open_int e hval hd
    refine ⟨.leaf (.i k n), rfl, by simp [S0.is, SL.is, kSame_self], fun x hx => ?_, ⟨hw, trivial⟩, rfl, fun w' b' s' h' => shut_int e hw⟩
    simp only [S0.cells, List.mem_singleton] at hx
    subst hx; trivial
  · rename_i e
    cases h
    obtain ⟨n, rfl, rfl, rfl⟩ := open_bool e hval hd
    refine ⟨.leaf (.b n), rfl, rfl, fun x hx => ?_, trivial, rfl, fun w' b' s' h' => shut_bool e n⟩
    simp only [S0.cells, List.mem_singleton] at hx
    subst hx; trivial
  · rename_i fs e
    obtain ⟨ks, e2, rfl⟩ := Option.map_eq_some_iff.1 h
    obtain ⟨cs, rfl, hc⟩ := okWide_struct e hval
    obtain ⟨fuel, hf⟩ := hd
    obtain ⟨a1, a2, a3⟩ := flatT_ok 20 t ks e2 w base sp held fuel _ _ hf
    obtain ⟨xs, b1, b2, b3, b4⟩ := FitC.sl a2
    have a1 : ps = [] := a1
    subst a1
    refine ⟨.agg xs, ?_, b2, b3, b4, rfl, fun w' b' s' h' => ⟨fuel, a3 w' b' s' h'⟩⟩
    show Value.agg cs = .agg ⟨xs.map SL.val⟩
    rw [b1]
    rfl
  · cases h

def skTs (P : Program) : List TypeId → Option (List SK)
  | [] => some []
  | t :: ts => match skT P t, skTs P ts with
    | some k, some ks => some (k :: ks)
    | _, _ => none

theorem open_args {w : World} {b0 base : Nat} {r : Reach} {sp : Nat → Bool} {held : Bool} : ∀ (ts : List TypeId) (sks : List SK) (vs : List Value) (ds : List (DataW H)) (ps : List MemPlace), skTs P ts = some sks →
    (∀ (j : Nat) t v, ts[j]? = some t → vs[j]? = some v → Value.okWide P w r b0 t v) → DataW.TrodAll enc P w base sp held ts vs ds ps →
    ∃ xs : List S0, vs = valsOf xs ∧ areIs xs sks = true ∧ (∀ x ∈ xs, x.good) ∧ FitL (sks.flatMap skKs) (lfsOf xs) ∧ ps = [] ∧ ∀ w' b' s' h', DataW.TrodAll enc P w' b' s' h' ts vs ds []
  | [], sks, [], [], ps, h, _, ht => by
    cases h
    have ht : ps = [] := ht
    exact ⟨[], rfl, rfl, fun _ h => (by cases h), trivial, ht, fun _ _ _ _ => rfl⟩
  | t :: ts, sks, v :: vs, d :: ds, ps, h, hv, ht => by
    simp only [skTs] at h
    split at h
    · rename_i k ks e1 e2
      cases h
      obtain ⟨p, q, h1, h2, rfl⟩ := ht
      obtain ⟨x, a1, a2, a3, a4, rfl, a6⟩ := open_flat e1 (hv 0 t v rfl rfl) h1
      obtain ⟨xs, b1, b2, b3, b4, rfl, b6⟩ := open_args ts ks vs ds q e2 (fun j t v h1 h2 => hv (j + 1) t v h1 h2) h2
      refine ⟨x :: xs, by rw [a1, b1]; rfl, by simp [areIs, a2, b2], fun y hy => ?_, ?_, rfl, fun w' b' s' h' => ⟨[], [], a6 w' b' s' h', b6 w' b' s' h', rfl⟩⟩
      · rcases List.mem_cons.1 hy with rfl | hy
        · exact a3
        · exact b3 y hy
      · exact FitL.app a4 b4
    · cases h
  | [], _, _ :: _, _, _, _, _, ht => by cases ht
  | [], _, [], _ :: _, _, _, _, ht => by cases ht
  | _ :: _, _, [], _, _, _, _, ht => by cases ht
  | _ :: _, _, _ :: _, [], _, _, _, ht => by cases ht
end

section
variable [Val]
/-- A contract, as a call. -/
theorem callok_of_ct {C : Cfg} {Sg : FuncId → Option Sig} (hm : C.P.follows .mixedOrders = true) {g : FuncId} {sg : Sig} (hs : Sg g = some sg) {ls rs : List Lf} (hc : Ct C Sg g ls rs) {xs ys : List S0} (h1 : areIs xs sg.ps = true) (h2 : lfsOf xs = ls) (h3 : areIs ys sg.rs = true) (h4 : lfsOf ys = rs) (H : List HObj) :
    CallOk C g (valsOf xs) H (packA (valsOf ys)) H := by
  let _ : Kno := KnoC C
  obtain ⟨sg', xs', ys', c1, c2, c3, c4⟩ := hc H
  rw [hs] at c1
  cases c1
  obtain ⟨w1, _⟩ := areIs_val c2.1 h1 (c2.2.1.trans h2.symm)
  obtain ⟨w2, _⟩ := areIs_val c3.1 h3 (c3.2.1.trans h4.symm)
  rw [w1, w2] at c4
  exact uCallC_ok hm c4
end
end Sx
end Go.Am
namespace Go.Am
namespace Sx
theorem FitL.i {k : IntKind} {ks : List LK} {ls : List Lf} (h : FitL (.i k :: ks) ls) : ∃ n r, ls = .i n :: r ∧ (Lit.int k n).wf = true ∧ FitL ks r := by
  match ls, h with
  | .i n :: r, h => exact ⟨n, r, rfl, h.1, h.2⟩
theorem FitL.b {ks : List LK} {ls : List Lf} (h : FitL (.b :: ks) ls) : ∃ n r, ls = .b n :: r ∧ FitL ks r := by
  match ls, h with
  | .b n :: r, h => exact ⟨n, r, rfl, h⟩
theorem FitL.nil {ls : List Lf} (h : FitL [] ls) : ls = [] := by
  match ls, h with
  | [], _ => rfl
theorem wf_i64 {n : Int} (h : (Lit.int .i64 n).wf = true) : -9223372036854775808 ≤ n ∧ n ≤ 9223372036854775807 := by
  simp only [Lit.wf, Bool.and_eq_true, decide_eq_true_eq] at h
  exact h
theorem wf_u8 {n : Int} (h : (Lit.int .u8 n).wf = true) : 0 ≤ n ∧ n ≤ 255 := by
  simp only [Lit.wf, Bool.and_eq_true, decide_eq_true_eq] at h
  exact h
theorem wf_i8 {n : Int} (h : (Lit.int .i8 n).wf = true) : -128 ≤ n ∧ n ≤ 127 := by
  simp only [Lit.wf, Bool.and_eq_true, decide_eq_true_eq] at h
  exact h
theorem trodAll_len {H : Type} {enc : TypeId × Value → H} {P : Program} {w : World} {base : Nat} {sp : Nat → Bool} {held : Bool} : ∀ {ts : List TypeId} {vs : List Value} {ds : List (DataW H)} {ps : List MemPlace}, DataW.TrodAll enc P w base sp held ts vs ds ps → ds.length = ts.length
  | [], [], [], _, _ => rfl
  | _ :: _, _ :: _, _ :: _, _, h => by
    obtain ⟨p, q, _, h2, _⟩ := h
    simp [trodAll_len h2]
  | [], _ :: _, _, _, h => by cases h
  | [], [], _ :: _, _, h => by cases h
  | _ :: _, [], _, _, h => by cases h
  | _ :: _, _ :: _, [], _, h => by cases h
end Sx
end Go.Am

/-
  WHAT THE ROW SAYS OF THE LISTED VARIABLES: both tables.
-/
set_option maxRecDepth 100000
namespace Go.Proofs.YtdngmncaohgacaaDoor
open Go Go.Am Go.Am.Sx
open Go.ChangeShapes Go.WideShapes Go.ChangeAt Go.WideMaps Go.WideElems Go.RowKit

abbrev laidC : List (String × DataW Unit) := [("crimp/moves.turns", Rows.laid_crimp_moves_turns), ("crimp/cells.quarters", Rows.laid_crimp_cells_quarters)]
theorem name0 : Tryd.prog.globalNamed "crimp/cells.quarters" = some 0 := by kernel_rfl
theorem name1 : Tryd.prog.globalNamed "crimp/moves.turns" = some 1 := by kernel_rfl
/-- What the list gives. -/
theorem of_laid {W : World} (h : laidMetH Tryd.prog laidC W) (g : Nat) (vs : List Value) (hg : cc.G g = some vs) :
    g < W.heap.size ∧ vs.all cellOk = true ∧ vs.all flat = true ∧ ∃ c e fr, W.heap[g]? = some (.cells c e fr) ∧ c.toList = vs := by
  rw [MakeChecks.laidMetH_plain _ _ _ (by kernel_rfl)] at h
  obtain ⟨ps, h, _, _⟩ := h
  have main : ∃ c e fr, W.heap[g]? = some (.cells c e fr) ∧ c.toList = vs := by
    unfold cc at hg
    simp only at hg
    split at hg
    · cases hg
      exact laid_cells h "crimp/cells.quarters" Rows.laid_crimp_cells_quarters (List.mem_cons_of_mem _ List.mem_cons_self) 0 137 8 gl0 name0 (by kernel_rfl) (by kernel_rfl)
    · cases hg
      exact laid_cells h "crimp/moves.turns" Rows.laid_crimp_moves_turns List.mem_cons_self 1 154 8 gl1 name1 (by kernel_rfl) (by kernel_rfl)
    · cases hg
  refine ⟨?_, gl_cell g vs hg, gl_flat g vs hg, main⟩
  obtain ⟨c, e, fr, h1, _⟩ := main
  rcases Nat.lt_or_ge g W.heap.size with h | h
  · exact h
  · rw [Array.getElem?_eq_none h] at h1; cases h1
theorem own : ownKnob Tryd.prog.godebug = none := by kernel_rfl
theorem door_met (os : Os) (args : Array Value) : laidMetH Tryd.prog laidC ((World.doorLaid Tryd.prog 400 os).forCall (fun _ _ => 0) ⟨#[], args, []⟩).memory :=
  laidMetH_of_parts3 (fuel := 8) (laidMet_of_run' 8 (by kernel_rfl) (by kernel_rfl)) (by kernel_rfl) (by kernel_rfl)
end Go.Proofs.YtdngmncaohgacaaDoor

