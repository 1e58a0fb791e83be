/-
  PART 7 OF THE PROOF: L12g L12h L12 Cd1 Cd2 (no conditions).
-/
import Derived.Test.YtdngmncaohgacaaDoorCM6
import Derived.SevenTiedAt
import Derived.Test.YtdngmncaohgacaaDoorCards
import Derived.Test.YtdngmncaohgacaaDoorTie
set_option linter.unusedSectionVars false
set_option linter.unusedSimpArgs false
set_option linter.unusedVariables false
set_option linter.constructorNameAsVariable false
set_option linter.defProp false
/-
  CONTRACTS, BY PROGRAM: CellsMove, by turn.
-/
set_option maxRecDepth 100000
set_option maxHeartbeats 4000000
namespace Go.Am
open Sx Go.Proofs
theorem cellsMv600 {m n x y e : Int} (h : (-16384 ≤ m ∧ m ≤ 16384 ∧ -16384 ≤ n ∧ n ≤ 16384 ∧ (m + n) % 2 = 0) ∧ -4096 ≤ x ∧ x ≤ 4096 ∧ -4096 ≤ y ∧ y ≤ 4096 ∧ 0 ≤ e ∧ e ≤ 255 ∧ e % 3 = 0) : Cc 12 [.i 6, .i m, .i n, .i x, .i y, .i 0, .i e] [.b true] := by
  refine q12 rfl ?_; unfold p12
  have he : e % 3 = 0 := by omega
  by_cases hd : -4096 ≤ x + m ∧ x + m ≤ 4096 ∧ -4096 ≤ -y - 1 + n ∧ -y - 1 + n ≤ 4096 <;> by_cases hn : -4096 ≤ x ∧ x ≤ 4096 ∧ -4096 ≤ y - 1 ∧ y - 1 ≤ 4096 <;> by_cases ho : -4096 ≤ (x) + m ∧ (x) + m ≤ 4096 ∧ -4096 ≤ -(y - 1) - 1 + n ∧ -(y - 1) - 1 + n ≤ 4096
  all_goals (first | (exfalso; omega) | (repeat (first | simp (disch := omega) only [↓qxs, ↓qxc, ↓qxa, ↓qxb, he] | refine p_call (cmove60 (by omega)) ?_ | refine p_call (cmovel60 (by omega)) ?_ | refine p_call (cmove62 (by omega)) ?_ | refine p_call (cmovel62 (by omega)) ?_ | refine p_call (cmove_no (by omega)) ?_ | refine p_call (v2_ok (by omega)) ?_ | refine p_call (v3_ok (by omega)) ?_ | refine p_call (v3_no (by omega)) ?_ | refine p_call (rmove60 (by omega)) ?_ | refine p_call (rmove62 (by omega)) ?_ | refine p_call (rnb00 (by omega)) ?_ | refine p_call (touch20 (by omega)) ?_ | refine p_call (touch21 (by omega)) ?_ | refine p_call (touch22 (by omega)) ?_ | refine p_call lives ?_)))
theorem cellsMv601 {m n x y e : Int} (h : (-16384 ≤ m ∧ m ≤ 16384 ∧ -16384 ≤ n ∧ n ≤ 16384 ∧ (m + n) % 2 = 0) ∧ -4096 ≤ x ∧ x ≤ 4096 ∧ -4096 ≤ y ∧ y ≤ 4096 ∧ 0 ≤ e ∧ e ≤ 255 ∧ e % 3 = 1) : Cc 12 [.i 6, .i m, .i n, .i x, .i y, .i 0, .i e] [.b true] := by
  refine q12 rfl ?_; unfold p12
  have he : e % 3 = 1 := by omega
  by_cases hd : -4096 ≤ x + m ∧ x + m ≤ 4096 ∧ -4096 ≤ -y - 1 + n ∧ -y - 1 + n ≤ 4096
  all_goals (first | (exfalso; omega) | (repeat (first | simp (disch := omega) only [↓qxs, ↓qxc, ↓qxa, ↓qxb, he] | refine p_call (cmove60 (by omega)) ?_ | refine p_call (cmovel60 (by omega)) ?_ | refine p_call (cmove61 (by omega)) ?_ | refine p_call (cmovel61 (by omega)) ?_ | refine p_call (cmove_no (by omega)) ?_ | refine p_call (v2_ok (by omega)) ?_ | refine p_call (v3_ok (by omega)) ?_ | refine p_call (v3_no (by omega)) ?_ | refine p_call (rmove60 (by omega)) ?_ | refine p_call (rmove61 (by omega)) ?_ | refine p_call (rnb01 (by omega)) ?_ | refine p_call (touch20 (by omega)) ?_ | refine p_call (touch21 (by omega)) ?_ | refine p_call (touch22 (by omega)) ?_ | refine p_call lives ?_)))
theorem cellsMv602 {m n x y e : Int} (h : (-16384 ≤ m ∧ m ≤ 16384 ∧ -16384 ≤ n ∧ n ≤ 16384 ∧ (m + n) % 2 = 0) ∧ -4096 ≤ x ∧ x ≤ 4096 ∧ -4096 ≤ y ∧ y ≤ 4096 ∧ 0 ≤ e ∧ e ≤ 255 ∧ e % 3 = 2) : Cc 12 [.i 6, .i m, .i n, .i x, .i y, .i 0, .i e] [.b true] := by
  refine q12 rfl ?_; unfold p12
  have he : e % 3 = 2 := by omega
  by_cases hd : -4096 ≤ x + m ∧ x + m ≤ 4096 ∧ -4096 ≤ -y - 1 + n ∧ -y - 1 + n ≤ 4096
  all_goals (first | (exfalso; omega) | (repeat (first | simp (disch := omega) only [↓qxs, ↓qxc, ↓qxa, ↓qxb, he] | refine p_call (cmove60 (by omega)) ?_ | refine p_call (cmovel60 (by omega)) ?_ | refine p_call (cmove63 (by omega)) ?_ | refine p_call (cmovel63 (by omega)) ?_ | refine p_call (cmove_no (by omega)) ?_ | refine p_call (v2_ok (by omega)) ?_ | refine p_call (v3_ok (by omega)) ?_ | refine p_call (v3_no (by omega)) ?_ | refine p_call (rmove60 (by omega)) ?_ | refine p_call (rmove63 (by omega)) ?_ | refine p_call (rnb02 (by omega)) ?_ | refine p_call (touch20 (by omega)) ?_ | refine p_call (touch21 (by omega)) ?_ | refine p_call (touch22 (by omega)) ?_ | refine p_call lives ?_)))
theorem cellsMv610 {m n x y e : Int} (h : (-16384 ≤ m ∧ m ≤ 16384 ∧ -16384 ≤ n ∧ n ≤ 16384 ∧ (m + n) % 2 = 0) ∧ -4096 ≤ x ∧ x ≤ 4096 ∧ -4096 ≤ y ∧ y ≤ 4096 ∧ 0 ≤ e ∧ e ≤ 255 ∧ e % 3 = 0) : Cc 12 [.i 6, .i m, .i n, .i x, .i y, .i 1, .i e] [.b true] := by
  refine q12 rfl ?_; unfold p12
  have he : e % 3 = 0 := by omega
  by_cases hd : -4096 ≤ x + m ∧ x + m ≤ 4096 ∧ -4096 ≤ -y - 1 + n ∧ -y - 1 + n ≤ 4096 <;> by_cases hn : -4096 ≤ x + 1 ∧ x + 1 ≤ 4096 ∧ -4096 ≤ y ∧ y ≤ 4096 <;> by_cases ho : -4096 ≤ (x + 1) + m ∧ (x + 1) + m ≤ 4096 ∧ -4096 ≤ -(y) - 1 + n ∧ -(y) - 1 + n ≤ 4096
  all_goals (first | (exfalso; omega) | (repeat (first | simp (disch := omega) only [↓qxs, ↓qxc, ↓qxa, ↓qxb, he] | refine p_call (cmove61 (by omega)) ?_ | refine p_call (cmovel61 (by omega)) ?_ | refine p_call (cmove63 (by omega)) ?_ | refine p_call (cmovel63 (by omega)) ?_ | refine p_call (cmove_no (by omega)) ?_ | refine p_call (v2_ok (by omega)) ?_ | refine p_call (v3_ok (by omega)) ?_ | refine p_call (v3_no (by omega)) ?_ | refine p_call (rmove61 (by omega)) ?_ | refine p_call (rmove63 (by omega)) ?_ | refine p_call (rnb10 (by omega)) ?_ | refine p_call (touch10 (by omega)) ?_ | refine p_call (touch11 (by omega)) ?_ | refine p_call (touch12 (by omega)) ?_ | refine p_call lives ?_)))
theorem cellsMv611 {m n x y e : Int} (h : (-16384 ≤ m ∧ m ≤ 16384 ∧ -16384 ≤ n ∧ n ≤ 16384 ∧ (m + n) % 2 = 0) ∧ -4096 ≤ x ∧ x ≤ 4096 ∧ -4096 ≤ y ∧ y ≤ 4096 ∧ 0 ≤ e ∧ e ≤ 255 ∧ e % 3 = 1) : Cc 12 [.i 6, .i m, .i n, .i x, .i y, .i 1, .i e] [.b true] := by
  refine q12 rfl ?_; unfold p12
  have he : e % 3 = 1 := by omega
  by_cases hd : -4096 ≤ x + m ∧ x + m ≤ 4096 ∧ -4096 ≤ -y - 1 + n ∧ -y - 1 + n ≤ 4096
  all_goals (first | (exfalso; omega) | (repeat (first | simp (disch := omega) only [↓qxs, ↓qxc, ↓qxa, ↓qxb, he] | refine p_call (cmove61 (by omega)) ?_ | refine p_call (cmovel61 (by omega)) ?_ | refine p_call (cmove60 (by omega)) ?_ | refine p_call (cmovel60 (by omega)) ?_ | refine p_call (cmove_no (by omega)) ?_ | refine p_call (v2_ok (by omega)) ?_ | refine p_call (v3_ok (by omega)) ?_ | refine p_call (v3_no (by omega)) ?_ | refine p_call (rmove61 (by omega)) ?_ | refine p_call (rmove60 (by omega)) ?_ | refine p_call (rnb11 (by omega)) ?_ | refine p_call (touch10 (by omega)) ?_ | refine p_call (touch11 (by omega)) ?_ | refine p_call (touch12 (by omega)) ?_ | refine p_call lives ?_)))
theorem cellsMv612 {m n x y e : Int} (h : (-16384 ≤ m ∧ m ≤ 16384 ∧ -16384 ≤ n ∧ n ≤ 16384 ∧ (m + n) % 2 = 0) ∧ -4096 ≤ x ∧ x ≤ 4096 ∧ -4096 ≤ y ∧ y ≤ 4096 ∧ 0 ≤ e ∧ e ≤ 255 ∧ e % 3 = 2) : Cc 12 [.i 6, .i m, .i n, .i x, .i y, .i 1, .i e] [.b true] := by
  refine q12 rfl ?_; unfold p12
  have he : e % 3 = 2 := by omega
  by_cases hd : -4096 ≤ x + m ∧ x + m ≤ 4096 ∧ -4096 ≤ -y - 1 + n ∧ -y - 1 + n ≤ 4096
  all_goals (first | (exfalso; omega) | (repeat (first | simp (disch := omega) only [↓qxs, ↓qxc, ↓qxa, ↓qxb, he] | refine p_call (cmove61 (by omega)) ?_ | refine p_call (cmovel61 (by omega)) ?_ | refine p_call (cmove62 (by omega)) ?_ | refine p_call (cmovel62 (by omega)) ?_ | refine p_call (cmove_no (by omega)) ?_ | refine p_call (v2_ok (by omega)) ?_ | refine p_call (v3_ok (by omega)) ?_ | refine p_call (v3_no (by omega)) ?_ | refine p_call (rmove61 (by omega)) ?_ | refine p_call (rmove62 (by omega)) ?_ | refine p_call (rnb12 (by omega)) ?_ | refine p_call (touch10 (by omega)) ?_ | refine p_call (touch11 (by omega)) ?_ | refine p_call (touch12 (by omega)) ?_ | refine p_call lives ?_)))
theorem cellsMv620 {m n x y e : Int} (h : (-16384 ≤ m ∧ m ≤ 16384 ∧ -16384 ≤ n ∧ n ≤ 16384 ∧ (m + n) % 2 = 0) ∧ -4096 ≤ x ∧ x ≤ 4096 ∧ -4096 ≤ y ∧ y ≤ 4096 ∧ 0 ≤ e ∧ e ≤ 255 ∧ e % 3 = 0) : Cc 12 [.i 6, .i m, .i n, .i x, .i y, .i 2, .i e] [.b true] := by
  refine q12 rfl ?_; unfold p12
  have he : e % 3 = 0 := by omega
  by_cases hd : -4096 ≤ x + m ∧ x + m ≤ 4096 ∧ -4096 ≤ -y - 1 + n ∧ -y - 1 + n ≤ 4096 <;> by_cases hn : -4096 ≤ x ∧ x ≤ 4096 ∧ -4096 ≤ y + 1 ∧ y + 1 ≤ 4096 <;> by_cases ho : -4096 ≤ (x) + m ∧ (x) + m ≤ 4096 ∧ -4096 ≤ -(y + 1) - 1 + n ∧ -(y + 1) - 1 + n ≤ 4096
  all_goals (first | (exfalso; omega) | (repeat (first | simp (disch := omega) only [↓qxs, ↓qxc, ↓qxa, ↓qxb, he] | refine p_call (cmove62 (by omega)) ?_ | refine p_call (cmovel62 (by omega)) ?_ | refine p_call (cmove60 (by omega)) ?_ | refine p_call (cmovel60 (by omega)) ?_ | refine p_call (cmove_no (by omega)) ?_ | refine p_call (v2_ok (by omega)) ?_ | refine p_call (v3_ok (by omega)) ?_ | refine p_call (v3_no (by omega)) ?_ | refine p_call (rmove62 (by omega)) ?_ | refine p_call (rmove60 (by omega)) ?_ | refine p_call (rnb20 (by omega)) ?_ | refine p_call (touch00 (by omega)) ?_ | refine p_call (touch01 (by omega)) ?_ | refine p_call (touch02 (by omega)) ?_ | refine p_call lives ?_)))
theorem cellsMv621 {m n x y e : Int} (h : (-16384 ≤ m ∧ m ≤ 16384 ∧ -16384 ≤ n ∧ n ≤ 16384 ∧ (m + n) % 2 = 0) ∧ -4096 ≤ x ∧ x ≤ 4096 ∧ -4096 ≤ y ∧ y ≤ 4096 ∧ 0 ≤ e ∧ e ≤ 255 ∧ e % 3 = 1) : Cc 12 [.i 6, .i m, .i n, .i x, .i y, .i 2, .i e] [.b true] := by
  refine q12 rfl ?_; unfold p12
  have he : e % 3 = 1 := by omega
  by_cases hd : -4096 ≤ x + m ∧ x + m ≤ 4096 ∧ -4096 ≤ -y - 1 + n ∧ -y - 1 + n ≤ 4096
  all_goals (first | (exfalso; omega) | (repeat (first | simp (disch := omega) only [↓qxs, ↓qxc, ↓qxa, ↓qxb, he] | refine p_call (cmove62 (by omega)) ?_ | refine p_call (cmovel62 (by omega)) ?_ | refine p_call (cmove63 (by omega)) ?_ | refine p_call (cmovel63 (by omega)) ?_ | refine p_call (cmove_no (by omega)) ?_ | refine p_call (v2_ok (by omega)) ?_ | refine p_call (v3_ok (by omega)) ?_ | refine p_call (v3_no (by omega)) ?_ | refine p_call (rmove62 (by omega)) ?_ | refine p_call (rmove63 (by omega)) ?_ | refine p_call (rnb21 (by omega)) ?_ | refine p_call (touch00 (by omega)) ?_ | refine p_call (touch01 (by omega)) ?_ | refine p_call (touch02 (by omega)) ?_ | refine p_call lives ?_)))
theorem cellsMv622 {m n x y e : Int} (h : (-16384 ≤ m ∧ m ≤ 16384 ∧ -16384 ≤ n ∧ n ≤ 16384 ∧ (m + n) % 2 = 0) ∧ -4096 ≤ x ∧ x ≤ 4096 ∧ -4096 ≤ y ∧ y ≤ 4096 ∧ 0 ≤ e ∧ e ≤ 255 ∧ e % 3 = 2) : Cc 12 [.i 6, .i m, .i n, .i x, .i y, .i 2, .i e] [.b true] := by
  refine q12 rfl ?_; unfold p12
  have he : e % 3 = 2 := by omega
  by_cases hd : -4096 ≤ x + m ∧ x + m ≤ 4096 ∧ -4096 ≤ -y - 1 + n ∧ -y - 1 + n ≤ 4096
  all_goals (first | (exfalso; omega) | (repeat (first | simp (disch := omega) only [↓qxs, ↓qxc, ↓qxa, ↓qxb, he] | refine p_call (cmove62 (by omega)) ?_ | refine p_call (cmovel62 (by omega)) ?_ | refine p_call (cmove61 (by omega)) ?_ | refine p_call (cmovel61 (by omega)) ?_ | refine p_call (cmove_no (by omega)) ?_ | refine p_call (v2_ok (by omega)) ?_ | refine p_call (v3_ok (by omega)) ?_ | refine p_call (v3_no (by omega)) ?_ | refine p_call (rmove62 (by omega)) ?_ | refine p_call (rmove61 (by omega)) ?_ | refine p_call (rnb22 (by omega)) ?_ | refine p_call (touch00 (by omega)) ?_ | refine p_call (touch01 (by omega)) ?_ | refine p_call (touch02 (by omega)) ?_ | refine p_call lives ?_)))
theorem cellsMv630 {m n x y e : Int} (h : (-16384 ≤ m ∧ m ≤ 16384 ∧ -16384 ≤ n ∧ n ≤ 16384 ∧ (m + n) % 2 = 0) ∧ -4096 ≤ x ∧ x ≤ 4096 ∧ -4096 ≤ y ∧ y ≤ 4096 ∧ 0 ≤ e ∧ e ≤ 255 ∧ e % 3 = 0) : Cc 12 [.i 6, .i m, .i n, .i x, .i y, .i 3, .i e] [.b true] := by
  refine q12 rfl ?_; unfold p12
  have he : e % 3 = 0 := by omega
  by_cases hd : -4096 ≤ x + m ∧ x + m ≤ 4096 ∧ -4096 ≤ -y - 1 + n ∧ -y - 1 + n ≤ 4096 <;> by_cases hn : -4096 ≤ x - 1 ∧ x - 1 ≤ 4096 ∧ -4096 ≤ y ∧ y ≤ 4096 <;> by_cases ho : -4096 ≤ (x - 1) + m ∧ (x - 1) + m ≤ 4096 ∧ -4096 ≤ -(y) - 1 + n ∧ -(y) - 1 + n ≤ 4096
  all_goals (first | (exfalso; omega) | (repeat (first | simp (disch := omega) only [↓qxs, ↓qxc, ↓qxa, ↓qxb, he] | refine p_call (cmove63 (by omega)) ?_ | refine p_call (cmovel63 (by omega)) ?_ | refine p_call (cmove61 (by omega)) ?_ | refine p_call (cmovel61 (by omega)) ?_ | refine p_call (cmove_no (by omega)) ?_ | refine p_call (v2_ok (by omega)) ?_ | refine p_call (v3_ok (by omega)) ?_ | refine p_call (v3_no (by omega)) ?_ | refine p_call (rmove63 (by omega)) ?_ | refine p_call (rmove61 (by omega)) ?_ | refine p_call (rnb30 (by omega)) ?_ | refine p_call (touch30 (by omega)) ?_ | refine p_call (touch31 (by omega)) ?_ | refine p_call (touch32 (by omega)) ?_ | refine p_call lives ?_)))
theorem cellsMv631 {m n x y e : Int} (h : (-16384 ≤ m ∧ m ≤ 16384 ∧ -16384 ≤ n ∧ n ≤ 16384 ∧ (m + n) % 2 = 0) ∧ -4096 ≤ x ∧ x ≤ 4096 ∧ -4096 ≤ y ∧ y ≤ 4096 ∧ 0 ≤ e ∧ e ≤ 255 ∧ e % 3 = 1) : Cc 12 [.i 6, .i m, .i n, .i x, .i y, .i 3, .i e] [.b true] := by
  refine q12 rfl ?_; unfold p12
  have he : e % 3 = 1 := by omega
  by_cases hd : -4096 ≤ x + m ∧ x + m ≤ 4096 ∧ -4096 ≤ -y - 1 + n ∧ -y - 1 + n ≤ 4096
  all_goals (first | (exfalso; omega) | (repeat (first | simp (disch := omega) only [↓qxs, ↓qxc, ↓qxa, ↓qxb, he] | refine p_call (cmove63 (by omega)) ?_ | refine p_call (cmovel63 (by omega)) ?_ | refine p_call (cmove62 (by omega)) ?_ | refine p_call (cmovel62 (by omega)) ?_ | refine p_call (cmove_no (by omega)) ?_ | refine p_call (v2_ok (by omega)) ?_ | refine p_call (v3_ok (by omega)) ?_ | refine p_call (v3_no (by omega)) ?_ | refine p_call (rmove63 (by omega)) ?_ | refine p_call (rmove62 (by omega)) ?_ | refine p_call (rnb31 (by omega)) ?_ | refine p_call (touch30 (by omega)) ?_ | refine p_call (touch31 (by omega)) ?_ | refine p_call (touch32 (by omega)) ?_ | refine p_call lives ?_)))
theorem cellsMv632 {m n x y e : Int} (h : (-16384 ≤ m ∧ m ≤ 16384 ∧ -16384 ≤ n ∧ n ≤ 16384 ∧ (m + n) % 2 = 0) ∧ -4096 ≤ x ∧ x ≤ 4096 ∧ -4096 ≤ y ∧ y ≤ 4096 ∧ 0 ≤ e ∧ e ≤ 255 ∧ e % 3 = 2) : Cc 12 [.i 6, .i m, .i n, .i x, .i y, .i 3, .i e] [.b true] := by
  refine q12 rfl ?_; unfold p12
  have he : e % 3 = 2 := by omega
  by_cases hd : -4096 ≤ x + m ∧ x + m ≤ 4096 ∧ -4096 ≤ -y - 1 + n ∧ -y - 1 + n ≤ 4096
  all_goals (first | (exfalso; omega) | (repeat (first | simp (disch := omega) only [↓qxs, ↓qxc, ↓qxa, ↓qxb, he] | refine p_call (cmove63 (by omega)) ?_ | refine p_call (cmovel63 (by omega)) ?_ | refine p_call (cmove60 (by omega)) ?_ | refine p_call (cmovel60 (by omega)) ?_ | refine p_call (cmove_no (by omega)) ?_ | refine p_call (v2_ok (by omega)) ?_ | refine p_call (v3_ok (by omega)) ?_ | refine p_call (v3_no (by omega)) ?_ | refine p_call (rmove63 (by omega)) ?_ | refine p_call (rmove60 (by omega)) ?_ | refine p_call (rnb32 (by omega)) ?_ | refine p_call (touch30 (by omega)) ?_ | refine p_call (touch31 (by omega)) ?_ | refine p_call (touch32 (by omega)) ?_ | refine p_call lives ?_)))
end Go.Am

/-
  CONTRACTS, BY PROGRAM: CellsMove, by turn.
-/
set_option maxRecDepth 100000
set_option maxHeartbeats 4000000
namespace Go.Am
open Sx Go.Proofs
theorem cellsMv700 {m n x y e : Int} (h : (-16384 ≤ m ∧ m ≤ 16384 ∧ -16384 ≤ n ∧ n ≤ 16384 ∧ (m + n) % 2 = 0) ∧ -4096 ≤ x ∧ x ≤ 4096 ∧ -4096 ≤ y ∧ y ≤ 4096 ∧ 0 ≤ e ∧ e ≤ 255 ∧ e % 3 = 0) : Cc 12 [.i 7, .i m, .i n, .i x, .i y, .i 0, .i e] [.b true] := by
  refine q12 rfl ?_; unfold p12
  have he : e % 3 = 0 := by omega
  by_cases hd : -4096 ≤ y + m ∧ y + m ≤ 4096 ∧ -4096 ≤ x + n ∧ x + n ≤ 4096 <;> by_cases hn : -4096 ≤ x ∧ x ≤ 4096 ∧ -4096 ≤ y - 1 ∧ y - 1 ≤ 4096 <;> by_cases ho : -4096 ≤ (y - 1) + m ∧ (y - 1) + m ≤ 4096 ∧ -4096 ≤ (x) + n ∧ (x) + n ≤ 4096
  all_goals (first | (exfalso; omega) | (repeat (first | simp (disch := omega) only [↓qxs, ↓qxc, ↓qxa, ↓qxb, he] | refine p_call (cmove70 (by omega)) ?_ | refine p_call (cmovel70 (by omega)) ?_ | refine p_call (cmove72 (by omega)) ?_ | refine p_call (cmovel72 (by omega)) ?_ | refine p_call (cmove_no (by omega)) ?_ | refine p_call (v2_ok (by omega)) ?_ | refine p_call (v3_ok (by omega)) ?_ | refine p_call (v3_no (by omega)) ?_ | refine p_call (rmove70 (by omega)) ?_ | refine p_call (rmove72 (by omega)) ?_ | refine p_call (rnb00 (by omega)) ?_ | refine p_call (touch30 (by omega)) ?_ | refine p_call (touch31 (by omega)) ?_ | refine p_call (touch32 (by omega)) ?_ | refine p_call lives ?_)))
theorem cellsMv701 {m n x y e : Int} (h : (-16384 ≤ m ∧ m ≤ 16384 ∧ -16384 ≤ n ∧ n ≤ 16384 ∧ (m + n) % 2 = 0) ∧ -4096 ≤ x ∧ x ≤ 4096 ∧ -4096 ≤ y ∧ y ≤ 4096 ∧ 0 ≤ e ∧ e ≤ 255 ∧ e % 3 = 1) : Cc 12 [.i 7, .i m, .i n, .i x, .i y, .i 0, .i e] [.b true] := by
  refine q12 rfl ?_; unfold p12
  have he : e % 3 = 1 := by omega
  by_cases hd : -4096 ≤ y + m ∧ y + m ≤ 4096 ∧ -4096 ≤ x + n ∧ x + n ≤ 4096
  all_goals (first | (exfalso; omega) | (repeat (first | simp (disch := omega) only [↓qxs, ↓qxc, ↓qxa, ↓qxb, he] | refine p_call (cmove70 (by omega)) ?_ | refine p_call (cmovel70 (by omega)) ?_ | refine p_call (cmove71 (by omega)) ?_ | refine p_call (cmovel71 (by omega)) ?_ | refine p_call (cmove_no (by omega)) ?_ | refine p_call (v2_ok (by omega)) ?_ | refine p_call (v3_ok (by omega)) ?_ | refine p_call (v3_no (by omega)) ?_ | refine p_call (rmove70 (by omega)) ?_ | refine p_call (rmove71 (by omega)) ?_ | refine p_call (rnb01 (by omega)) ?_ | refine p_call (touch30 (by omega)) ?_ | refine p_call (touch31 (by omega)) ?_ | refine p_call (touch32 (by omega)) ?_ | refine p_call lives ?_)))
theorem cellsMv702 {m n x y e : Int} (h : (-16384 ≤ m ∧ m ≤ 16384 ∧ -16384 ≤ n ∧ n ≤ 16384 ∧ (m + n) % 2 = 0) ∧ -4096 ≤ x ∧ x ≤ 4096 ∧ -4096 ≤ y ∧ y ≤ 4096 ∧ 0 ≤ e ∧ e ≤ 255 ∧ e % 3 = 2) : Cc 12 [.i 7, .i m, .i n, .i x, .i y, .i 0, .i e] [.b true] := by
  refine q12 rfl ?_; unfold p12
  have he : e % 3 = 2 := by omega
  by_cases hd : -4096 ≤ y + m ∧ y + m ≤ 4096 ∧ -4096 ≤ x + n ∧ x + n ≤ 4096
  all_goals (first | (exfalso; omega) | (repeat (first | simp (disch := omega) only [↓qxs, ↓qxc, ↓qxa, ↓qxb, he] | refine p_call (cmove70 (by omega)) ?_ | refine p_call (cmovel70 (by omega)) ?_ | refine p_call (cmove73 (by omega)) ?_ | refine p_call (cmovel73 (by omega)) ?_ | refine p_call (cmove_no (by omega)) ?_ | refine p_call (v2_ok (by omega)) ?_ | refine p_call (v3_ok (by omega)) ?_ | refine p_call (v3_no (by omega)) ?_ | refine p_call (rmove70 (by omega)) ?_ | refine p_call (rmove73 (by omega)) ?_ | refine p_call (rnb02 (by omega)) ?_ | refine p_call (touch30 (by omega)) ?_ | refine p_call (touch31 (by omega)) ?_ | refine p_call (touch32 (by omega)) ?_ | refine p_call lives ?_)))
theorem cellsMv710 {m n x y e : Int} (h : (-16384 ≤ m ∧ m ≤ 16384 ∧ -16384 ≤ n ∧ n ≤ 16384 ∧ (m + n) % 2 = 0) ∧ -4096 ≤ x ∧ x ≤ 4096 ∧ -4096 ≤ y ∧ y ≤ 4096 ∧ 0 ≤ e ∧ e ≤ 255 ∧ e % 3 = 0) : Cc 12 [.i 7, .i m, .i n, .i x, .i y, .i 1, .i e] [.b true] := by
  refine q12 rfl ?_; unfold p12
  have he : e % 3 = 0 := by omega
  by_cases hd : -4096 ≤ y + m ∧ y + m ≤ 4096 ∧ -4096 ≤ x + n ∧ x + n ≤ 4096 <;> by_cases hn : -4096 ≤ x + 1 ∧ x + 1 ≤ 4096 ∧ -4096 ≤ y ∧ y ≤ 4096 <;> by_cases ho : -4096 ≤ (y) + m ∧ (y) + m ≤ 4096 ∧ -4096 ≤ (x + 1) + n ∧ (x + 1) + n ≤ 4096
  all_goals (first | (exfalso; omega) | (repeat (first | simp (disch := omega) only [↓qxs, ↓qxc, ↓qxa, ↓qxb, he] | refine p_call (cmove71 (by omega)) ?_ | refine p_call (cmovel71 (by omega)) ?_ | refine p_call (cmove73 (by omega)) ?_ | refine p_call (cmovel73 (by omega)) ?_ | refine p_call (cmove_no (by omega)) ?_ | refine p_call (v2_ok (by omega)) ?_ | refine p_call (v3_ok (by omega)) ?_ | refine p_call (v3_no (by omega)) ?_ | refine p_call (rmove71 (by omega)) ?_ | refine p_call (rmove73 (by omega)) ?_ | refine p_call (rnb10 (by omega)) ?_ | refine p_call (touch20 (by omega)) ?_ | refine p_call (touch21 (by omega)) ?_ | refine p_call (touch22 (by omega)) ?_ | refine p_call lives ?_)))
theorem cellsMv711 {m n x y e : Int} (h : (-16384 ≤ m ∧ m ≤ 16384 ∧ -16384 ≤ n ∧ n ≤ 16384 ∧ (m + n) % 2 = 0) ∧ -4096 ≤ x ∧ x ≤ 4096 ∧ -4096 ≤ y ∧ y ≤ 4096 ∧ 0 ≤ e ∧ e ≤ 255 ∧ e % 3 = 1) : Cc 12 [.i 7, .i m, .i n, .i x, .i y, .i 1, .i e] [.b true] := by
  refine q12 rfl ?_; unfold p12
  have he : e % 3 = 1 := by omega
  by_cases hd : -4096 ≤ y + m ∧ y + m ≤ 4096 ∧ -4096 ≤ x + n ∧ x + n ≤ 4096
  all_goals (first | (exfalso; omega) | (repeat (first | simp (disch := omega) only [↓qxs, ↓qxc, ↓qxa, ↓qxb, he] | refine p_call (cmove71 (by omega)) ?_ | refine p_call (cmovel71 (by omega)) ?_ | refine p_call (cmove70 (by omega)) ?_ | refine p_call (cmovel70 (by omega)) ?_ | refine p_call (cmove_no (by omega)) ?_ | refine p_call (v2_ok (by omega)) ?_ | refine p_call (v3_ok (by omega)) ?_ | refine p_call (v3_no (by omega)) ?_ | refine p_call (rmove71 (by omega)) ?_ | refine p_call (rmove70 (by omega)) ?_ | refine p_call (rnb11 (by omega)) ?_ | refine p_call (touch20 (by omega)) ?_ | refine p_call (touch21 (by omega)) ?_ | refine p_call (touch22 (by omega)) ?_ | refine p_call lives ?_)))
theorem cellsMv712 {m n x y e : Int} (h : (-16384 ≤ m ∧ m ≤ 16384 ∧ -16384 ≤ n ∧ n ≤ 16384 ∧ (m + n) % 2 = 0) ∧ -4096 ≤ x ∧ x ≤ 4096 ∧ -4096 ≤ y ∧ y ≤ 4096 ∧ 0 ≤ e ∧ e ≤ 255 ∧ e % 3 = 2) : Cc 12 [.i 7, .i m, .i n, .i x, .i y, .i 1, .i e] [.b true] := by
  refine q12 rfl ?_; unfold p12
  have he : e % 3 = 2 := by omega
  by_cases hd : -4096 ≤ y + m ∧ y + m ≤ 4096 ∧ -4096 ≤ x + n ∧ x + n ≤ 4096
  all_goals (first | (exfalso; omega) | (repeat (first | simp (disch := omega) only [↓qxs, ↓qxc, ↓qxa, ↓qxb, he] | refine p_call (cmove71 (by omega)) ?_ | refine p_call (cmovel71 (by omega)) ?_ | refine p_call (cmove72 (by omega)) ?_ | refine p_call (cmovel72 (by omega)) ?_ | refine p_call (cmove_no (by omega)) ?_ | refine p_call (v2_ok (by omega)) ?_ | refine p_call (v3_ok (by omega)) ?_ | refine p_call (v3_no (by omega)) ?_ | refine p_call (rmove71 (by omega)) ?_ | refine p_call (rmove72 (by omega)) ?_ | refine p_call (rnb12 (by omega)) ?_ | refine p_call (touch20 (by omega)) ?_ | refine p_call (touch21 (by omega)) ?_ | refine p_call (touch22 (by omega)) ?_ | refine p_call lives ?_)))
theorem cellsMv720 {m n x y e : Int} (h : (-16384 ≤ m ∧ m ≤ 16384 ∧ -16384 ≤ n ∧ n ≤ 16384 ∧ (m + n) % 2 = 0) ∧ -4096 ≤ x ∧ x ≤ 4096 ∧ -4096 ≤ y ∧ y ≤ 4096 ∧ 0 ≤ e ∧ e ≤ 255 ∧ e % 3 = 0) : Cc 12 [.i 7, .i m, .i n, .i x, .i y, .i 2, .i e] [.b true] := by
  refine q12 rfl ?_; unfold p12
  have he : e % 3 = 0 := by omega
  by_cases hd : -4096 ≤ y + m ∧ y + m ≤ 4096 ∧ -4096 ≤ x + n ∧ x + n ≤ 4096 <;> by_cases hn : -4096 ≤ x ∧ x ≤ 4096 ∧ -4096 ≤ y + 1 ∧ y + 1 ≤ 4096 <;> by_cases ho : -4096 ≤ (y + 1) + m ∧ (y + 1) + m ≤ 4096 ∧ -4096 ≤ (x) + n ∧ (x) + n ≤ 4096
  all_goals (first | (exfalso; omega) | (repeat (first | simp (disch := omega) only [↓qxs, ↓qxc, ↓qxa, ↓qxb, he] | refine p_call (cmove72 (by omega)) ?_ | refine p_call (cmovel72 (by omega)) ?_ | refine p_call (cmove70 (by omega)) ?_ | refine p_call (cmovel70 (by omega)) ?_ | refine p_call (cmove_no (by omega)) ?_ | refine p_call (v2_ok (by omega)) ?_ | refine p_call (v3_ok (by omega)) ?_ | refine p_call (v3_no (by omega)) ?_ | refine p_call (rmove72 (by omega)) ?_ | refine p_call (rmove70 (by omega)) ?_ | refine p_call (rnb20 (by omega)) ?_ | refine p_call (touch10 (by omega)) ?_ | refine p_call (touch11 (by omega)) ?_ | refine p_call (touch12 (by omega)) ?_ | refine p_call lives ?_)))
theorem cellsMv721 {m n x y e : Int} (h : (-16384 ≤ m ∧ m ≤ 16384 ∧ -16384 ≤ n ∧ n ≤ 16384 ∧ (m + n) % 2 = 0) ∧ -4096 ≤ x ∧ x ≤ 4096 ∧ -4096 ≤ y ∧ y ≤ 4096 ∧ 0 ≤ e ∧ e ≤ 255 ∧ e % 3 = 1) : Cc 12 [.i 7, .i m, .i n, .i x, .i y, .i 2, .i e] [.b true] := by
  refine q12 rfl ?_; unfold p12
  have he : e % 3 = 1 := by omega
  by_cases hd : -4096 ≤ y + m ∧ y + m ≤ 4096 ∧ -4096 ≤ x + n ∧ x + n ≤ 4096
  all_goals (first | (exfalso; omega) | (repeat (first | simp (disch := omega) only [↓qxs, ↓qxc, ↓qxa, ↓qxb, he] | refine p_call (cmove72 (by omega)) ?_ | refine p_call (cmovel72 (by omega)) ?_ | refine p_call (cmove73 (by omega)) ?_ | refine p_call (cmovel73 (by omega)) ?_ | refine p_call (cmove_no (by omega)) ?_ | refine p_call (v2_ok (by omega)) ?_ | refine p_call (v3_ok (by omega)) ?_ | refine p_call (v3_no (by omega)) ?_ | refine p_call (rmove72 (by omega)) ?_ | refine p_call (rmove73 (by omega)) ?_ | refine p_call (rnb21 (by omega)) ?_ | refine p_call (touch10 (by omega)) ?_ | refine p_call (touch11 (by omega)) ?_ | refine p_call (touch12 (by omega)) ?_ | refine p_call lives ?_)))
theorem cellsMv722 {m n x y e : Int} (h : (-16384 ≤ m ∧ m ≤ 16384 ∧ -16384 ≤ n ∧ n ≤ 16384 ∧ (m + n) % 2 = 0) ∧ -4096 ≤ x ∧ x ≤ 4096 ∧ -4096 ≤ y ∧ y ≤ 4096 ∧ 0 ≤ e ∧ e ≤ 255 ∧ e % 3 = 2) : Cc 12 [.i 7, .i m, .i n, .i x, .i y, .i 2, .i e] [.b true] := by
  refine q12 rfl ?_; unfold p12
  have he : e % 3 = 2 := by omega
  by_cases hd : -4096 ≤ y + m ∧ y + m ≤ 4096 ∧ -4096 ≤ x + n ∧ x + n ≤ 4096
  all_goals (first | (exfalso; omega) | (repeat (first | simp (disch := omega) only [↓qxs, ↓qxc, ↓qxa, ↓qxb, he] | refine p_call (cmove72 (by omega)) ?_ | refine p_call (cmovel72 (by omega)) ?_ | refine p_call (cmove71 (by omega)) ?_ | refine p_call (cmovel71 (by omega)) ?_ | refine p_call (cmove_no (by omega)) ?_ | refine p_call (v2_ok (by omega)) ?_ | refine p_call (v3_ok (by omega)) ?_ | refine p_call (v3_no (by omega)) ?_ | refine p_call (rmove72 (by omega)) ?_ | refine p_call (rmove71 (by omega)) ?_ | refine p_call (rnb22 (by omega)) ?_ | refine p_call (touch10 (by omega)) ?_ | refine p_call (touch11 (by omega)) ?_ | refine p_call (touch12 (by omega)) ?_ | refine p_call lives ?_)))
theorem cellsMv730 {m n x y e : Int} (h : (-16384 ≤ m ∧ m ≤ 16384 ∧ -16384 ≤ n ∧ n ≤ 16384 ∧ (m + n) % 2 = 0) ∧ -4096 ≤ x ∧ x ≤ 4096 ∧ -4096 ≤ y ∧ y ≤ 4096 ∧ 0 ≤ e ∧ e ≤ 255 ∧ e % 3 = 0) : Cc 12 [.i 7, .i m, .i n, .i x, .i y, .i 3, .i e] [.b true] := by
  refine q12 rfl ?_; unfold p12
  have he : e % 3 = 0 := by omega
  by_cases hd : -4096 ≤ y + m ∧ y + m ≤ 4096 ∧ -4096 ≤ x + n ∧ x + n ≤ 4096 <;> by_cases hn : -4096 ≤ x - 1 ∧ x - 1 ≤ 4096 ∧ -4096 ≤ y ∧ y ≤ 4096 <;> by_cases ho : -4096 ≤ (y) + m ∧ (y) + m ≤ 4096 ∧ -4096 ≤ (x - 1) + n ∧ (x - 1) + n ≤ 4096
  all_goals (first | (exfalso; omega) | (repeat (first | simp (disch := omega) only [↓qxs, ↓qxc, ↓qxa, ↓qxb, he] | refine p_call (cmove73 (by omega)) ?_ | refine p_call (cmovel73 (by omega)) ?_ | refine p_call (cmove71 (by omega)) ?_ | refine p_call (cmovel71 (by omega)) ?_ | refine p_call (cmove_no (by omega)) ?_ | refine p_call (v2_ok (by omega)) ?_ | refine p_call (v3_ok (by omega)) ?_ | refine p_call (v3_no (by omega)) ?_ | refine p_call (rmove73 (by omega)) ?_ | refine p_call (rmove71 (by omega)) ?_ | refine p_call (rnb30 (by omega)) ?_ | refine p_call (touch00 (by omega)) ?_ | refine p_call (touch01 (by omega)) ?_ | refine p_call (touch02 (by omega)) ?_ | refine p_call lives ?_)))
theorem cellsMv731 {m n x y e : Int} (h : (-16384 ≤ m ∧ m ≤ 16384 ∧ -16384 ≤ n ∧ n ≤ 16384 ∧ (m + n) % 2 = 0) ∧ -4096 ≤ x ∧ x ≤ 4096 ∧ -4096 ≤ y ∧ y ≤ 4096 ∧ 0 ≤ e ∧ e ≤ 255 ∧ e % 3 = 1) : Cc 12 [.i 7, .i m, .i n, .i x, .i y, .i 3, .i e] [.b true] := by
  refine q12 rfl ?_; unfold p12
  have he : e % 3 = 1 := by omega
  by_cases hd : -4096 ≤ y + m ∧ y + m ≤ 4096 ∧ -4096 ≤ x + n ∧ x + n ≤ 4096
  all_goals (first | (exfalso; omega) | (repeat (first | simp (disch := omega) only [↓qxs, ↓qxc, ↓qxa, ↓qxb, he] | refine p_call (cmove73 (by omega)) ?_ | refine p_call (cmovel73 (by omega)) ?_ | refine p_call (cmove72 (by omega)) ?_ | refine p_call (cmovel72 (by omega)) ?_ | refine p_call (cmove_no (by omega)) ?_ | refine p_call (v2_ok (by omega)) ?_ | refine p_call (v3_ok (by omega)) ?_ | refine p_call (v3_no (by omega)) ?_ | refine p_call (rmove73 (by omega)) ?_ | refine p_call (rmove72 (by omega)) ?_ | refine p_call (rnb31 (by omega)) ?_ | refine p_call (touch00 (by omega)) ?_ | refine p_call (touch01 (by omega)) ?_ | refine p_call (touch02 (by omega)) ?_ | refine p_call lives ?_)))
theorem cellsMv732 {m n x y e : Int} (h : (-16384 ≤ m ∧ m ≤ 16384 ∧ -16384 ≤ n ∧ n ≤ 16384 ∧ (m + n) % 2 = 0) ∧ -4096 ≤ x ∧ x ≤ 4096 ∧ -4096 ≤ y ∧ y ≤ 4096 ∧ 0 ≤ e ∧ e ≤ 255 ∧ e % 3 = 2) : Cc 12 [.i 7, .i m, .i n, .i x, .i y, .i 3, .i e] [.b true] := by
  refine q12 rfl ?_; unfold p12
  have he : e % 3 = 2 := by omega
  by_cases hd : -4096 ≤ y + m ∧ y + m ≤ 4096 ∧ -4096 ≤ x + n ∧ x + n ≤ 4096
  all_goals (first | (exfalso; omega) | (repeat (first | simp (disch := omega) only [↓qxs, ↓qxc, ↓qxa, ↓qxb, he] | refine p_call (cmove73 (by omega)) ?_ | refine p_call (cmovel73 (by omega)) ?_ | refine p_call (cmove70 (by omega)) ?_ | refine p_call (cmovel70 (by omega)) ?_ | refine p_call (cmove_no (by omega)) ?_ | refine p_call (v2_ok (by omega)) ?_ | refine p_call (v3_ok (by omega)) ?_ | refine p_call (v3_no (by omega)) ?_ | refine p_call (rmove73 (by omega)) ?_ | refine p_call (rmove70 (by omega)) ?_ | refine p_call (rnb32 (by omega)) ?_ | refine p_call (touch00 (by omega)) ?_ | refine p_call (touch01 (by omega)) ?_ | refine p_call (touch02 (by omega)) ?_ | refine p_call lives ?_)))
end Go.Am

/-
  CONTRACTS, BY PROGRAM: CellsMove.
-/
set_option maxRecDepth 100000
set_option maxHeartbeats 4000000
namespace Go.Am
open Sx Go.Proofs

theorem cellsMove_any {t m n x y q e : Int} (h : 0 ≤ t ∧ t ≤ 255 ∧ -9223372036854775808 ≤ m ∧ m ≤ 9223372036854775807 ∧ -9223372036854775808 ≤ n ∧ n ≤ 9223372036854775807 ∧ -9223372036854775808 ≤ x ∧ x ≤ 9223372036854775807 ∧ -9223372036854775808 ≤ y ∧ y ≤ 9223372036854775807 ∧ 0 ≤ q ∧ q ≤ 255 ∧ 0 ≤ e ∧ e ≤ 255) : Cc 12 [.i t, .i m, .i n, .i x, .i y, .i q, .i e] [.b true] := by
  by_cases hm : (t ≤ 7 ∧ -16384 ≤ m ∧ m ≤ 16384 ∧ -16384 ≤ n ∧ n ≤ 16384) ∧ (m + n) % 2 = 0
  · by_cases hv : -4096 ≤ x ∧ x ≤ 4096 ∧ -4096 ≤ y ∧ y ≤ 4096 ∧ q ≤ 3
    · obtain he | he | he : e % 3 = 0 ∨ e % 3 = 1 ∨ e % 3 = 2 := by omega
      all_goals (obtain rfl | rfl | rfl | rfl : q = 0 ∨ q = 1 ∨ q = 2 ∨ q = 3 := by omega)
      all_goals (obtain rfl | rfl | rfl | rfl | rfl | rfl | rfl | rfl : t = 0 ∨ t = 1 ∨ t = 2 ∨ t = 3 ∨ t = 4 ∨ t = 5 ∨ t = 6 ∨ t = 7 := by omega)
      · exact cellsMv000 (by omega)
      · exact cellsMv100 (by omega)
      · exact cellsMv200 (by omega)
      · exact cellsMv300 (by omega)
      · exact cellsMv400 (by omega)
      · exact cellsMv500 (by omega)
      · exact cellsMv600 (by omega)
      · exact cellsMv700 (by omega)
      · exact cellsMv010 (by omega)
      · exact cellsMv110 (by omega)
      · exact cellsMv210 (by omega)
      · exact cellsMv310 (by omega)
      · exact cellsMv410 (by omega)
      · exact cellsMv510 (by omega)
      · exact cellsMv610 (by omega)
      · exact cellsMv710 (by omega)
      · exact cellsMv020 (by omega)
      · exact cellsMv120 (by omega)
      · exact cellsMv220 (by omega)
      · exact cellsMv320 (by omega)
      · exact cellsMv420 (by omega)
      · exact cellsMv520 (by omega)
      · exact cellsMv620 (by omega)
      · exact cellsMv720 (by omega)
      · exact cellsMv030 (by omega)
      · exact cellsMv130 (by omega)
      · exact cellsMv230 (by omega)
      · exact cellsMv330 (by omega)
      · exact cellsMv430 (by omega)
      · exact cellsMv530 (by omega)
      · exact cellsMv630 (by omega)
      · exact cellsMv730 (by omega)
      · exact cellsMv001 (by omega)
      · exact cellsMv101 (by omega)
      · exact cellsMv201 (by omega)
      · exact cellsMv301 (by omega)
      · exact cellsMv401 (by omega)
      · exact cellsMv501 (by omega)
      · exact cellsMv601 (by omega)
      · exact cellsMv701 (by omega)
      · exact cellsMv011 (by omega)
      · exact cellsMv111 (by omega)
      · exact cellsMv211 (by omega)
      · exact cellsMv311 (by omega)
      · exact cellsMv411 (by omega)
      · exact cellsMv511 (by omega)
      · exact cellsMv611 (by omega)
      · exact cellsMv711 (by omega)
      · exact cellsMv021 (by omega)
      · exact cellsMv121 (by omega)
      · exact cellsMv221 (by omega)
      · exact cellsMv321 (by omega)
      · exact cellsMv421 (by omega)
      · exact cellsMv521 (by omega)
      · exact cellsMv621 (by omega)
      · exact cellsMv721 (by omega)
      · exact cellsMv031 (by omega)
      · exact cellsMv131 (by omega)
      · exact cellsMv231 (by omega)
      · exact cellsMv331 (by omega)
      · exact cellsMv431 (by omega)
      · exact cellsMv531 (by omega)
      · exact cellsMv631 (by omega)
      · exact cellsMv731 (by omega)
      · exact cellsMv002 (by omega)
      · exact cellsMv102 (by omega)
      · exact cellsMv202 (by omega)
      · exact cellsMv302 (by omega)
      · exact cellsMv402 (by omega)
      · exact cellsMv502 (by omega)
      · exact cellsMv602 (by omega)
      · exact cellsMv702 (by omega)
      · exact cellsMv012 (by omega)
      · exact cellsMv112 (by omega)
      · exact cellsMv212 (by omega)
      · exact cellsMv312 (by omega)
      · exact cellsMv412 (by omega)
      · exact cellsMv512 (by omega)
      · exact cellsMv612 (by omega)
      · exact cellsMv712 (by omega)
      · exact cellsMv022 (by omega)
      · exact cellsMv122 (by omega)
      · exact cellsMv222 (by omega)
      · exact cellsMv322 (by omega)
      · exact cellsMv422 (by omega)
      · exact cellsMv522 (by omega)
      · exact cellsMv622 (by omega)
      · exact cellsMv722 (by omega)
      · exact cellsMv032 (by omega)
      · exact cellsMv132 (by omega)
      · exact cellsMv232 (by omega)
      · exact cellsMv332 (by omega)
      · exact cellsMv432 (by omega)
      · exact cellsMv532 (by omega)
      · exact cellsMv632 (by omega)
      · exact cellsMv732 (by omega)
    · refine q12 rfl ?_; unfold p12
      first | (exfalso; omega) | (repeat (first | simp (disch := omega) only [↓qxs, ↓qxc, ↓qxa, ↓qxb] | refine p_call (cmove_no (by omega)) ?_ | refine p_call (v2_ok (by omega)) ?_ | refine p_call (v3_no (by omega)) ?_ | refine p_call lives ?_ | refine p_call (v3_ok (by omega)) ?_ | refine p_call (v3_no (by omega)) ?_ | refine p_call (cellCheck_ok (by omega)) ?_ | refine p_call (cellCheck_no (by omega)) ?_))
  · by_cases hv : -4096 ≤ x ∧ x ≤ 4096 ∧ -4096 ≤ y ∧ y ≤ 4096 ∧ q ≤ 3
    · refine q12 rfl ?_; unfold p12
      first | (exfalso; omega) | (repeat (first | simp (disch := omega) only [↓qxs, ↓qxc, ↓qxa, ↓qxb] | refine p_call (cmove_no (by omega)) ?_ | refine p_call (v2_no (by omega)) ?_ | refine p_call (v3_ok (by omega)) ?_ | refine p_call lives ?_ | refine p_call (v3_ok (by omega)) ?_ | refine p_call (v3_no (by omega)) ?_ | refine p_call (cellCheck_ok (by omega)) ?_ | refine p_call (cellCheck_no (by omega)) ?_))
    · refine q12 rfl ?_; unfold p12
      first | (exfalso; omega) | (repeat (first | simp (disch := omega) only [↓qxs, ↓qxc, ↓qxa, ↓qxb] | refine p_call (cmove_no (by omega)) ?_ | refine p_call (v2_no (by omega)) ?_ | refine p_call (v3_no (by omega)) ?_ | refine p_call lives ?_ | refine p_call (v3_ok (by omega)) ?_ | refine p_call (v3_no (by omega)) ?_ | refine p_call (cellCheck_ok (by omega)) ?_ | refine p_call (cellCheck_no (by omega)) ?_))
end Go.Am
/-
  ARGUMENTS WITHOUT ADDRESSES, as the row reads them.
-/
namespace Go.Am
namespace Sx
open Go.ChangeShapes Go.WideShapes Go.ChangeAt Go.WideMaps Go.WideElems Go.RowKit

/-- The cells are of these kinds, in their ranges. -/
def FitC : List LK → List Value → Prop
  | [], [] => True
  | .i k :: ks, v :: vs => (∃ n, v = .int k n ∧ (Lit.int k n).wf = true) ∧ FitC ks vs
  | .b :: ks, v :: vs => (∃ t, v = .bool t) ∧ FitC ks vs
  | _, _ => False
/-- The leaves are of these kinds, in their ranges. -/
def FitL : List LK → List Lf → Prop
  | [], [] => True
  | .i k :: ks, .i n :: ls => (Lit.int k n).wf = true ∧ FitL ks ls
  | .b :: ks, .b _ :: ls => FitL ks ls
  | _, _ => False

theorem FitC.len : ∀ {ks : List LK} {vs : List Value}, FitC ks vs → vs.length = ks.length
  | [], [], _ => rfl
  | .i k :: ks, v :: vs, h => by simp [FitC.len h.2]
  | .b :: ks, v :: vs, h => by simp [FitC.len h.2]
  | .v :: _, _, h => by cases h
  | [], _ :: _, h => by cases h
  | .i _ :: _, [], h => by cases h
  | .b :: _, [], h => by cases h
theorem FitC.app : ∀ {ks ks' : List LK} {vs vs' : List Value}, FitC ks vs → FitC ks' vs' → FitC (ks ++ ks') (vs ++ vs')
  | [], _, [], _, _, h => h
  | .i k :: ks, _, v :: vs, _, h, h' => ⟨h.1, FitC.app h.2 h'⟩
  | .b :: ks, _, v :: vs, _, h, h' => ⟨h.1, FitC.app h.2 h'⟩
  | .v :: _, _, _, _, h, _ => by cases h
  | [], _, _ :: _, _, h, _ => by cases h
  | .i _ :: _, _, [], _, h, _ => by cases h
  | .b :: _, _, [], _, h, _ => by cases h
theorem FitL.app : ∀ {ks ks' : List LK} {vs vs' : List Lf}, FitL ks vs → FitL ks' vs' → FitL (ks ++ ks') (vs ++ vs')
  | [], _, [], _, _, h => h
  | .i k :: ks, _, .i v :: vs, _, h, h' => ⟨h.1, FitL.app h.2 h'⟩
  | .b :: ks, _, .b v :: vs, _, h, h' => FitL.app (ks := ks) h h'
  | .v :: _, _, _, _, h, _ => by cases h
  | [], _, _ :: _, _, h, _ => by cases h
  | .i _ :: _, _, [], _, h, _ => by cases h
  | .b :: _, _, [], _, h, _ => by cases h
  | .i _ :: _, _, .b _ :: _, _, h, _ => by cases h
  | .i _ :: _, _, .v _ :: _, _, h, _ => by cases h
  | .b :: _, _, .i _ :: _, _, h, _ => by cases h
  | .b :: _, _, .v _ :: _, _, h, _ => by cases h
/-- Cells as leaves. -/
theorem FitC.sl : ∀ {ks : List LK} {vs : List Value}, FitC ks vs → ∃ xs : List SL, xs.map SL.val = vs ∧ allIs xs ks = true ∧ (∀ x ∈ xs, x.good) ∧ FitL ks (xs.map SL.lf)
  | [], [], _ => ⟨[], rfl, rfl, fun _ h => (by cases h), trivial⟩
  | .i k :: ks, v :: vs, h => by
    obtain ⟨⟨n, rfl, hw⟩, h2⟩ := h
    obtain ⟨xs, a, b, c, d⟩ := FitC.sl h2
    exact ⟨.i k n :: xs, by simp [a, SL.val], by simp [allIs, b, SL.is, kSame_self], fun x hx => by
      rcases List.mem_cons.1 hx with rfl | hx
      · trivial
      · exact c x hx, hw, d⟩
  | .b :: ks, v :: vs, h => by
    obtain ⟨⟨n, rfl⟩, h2⟩ := h
    obtain ⟨xs, a, b, c, d⟩ := FitC.sl h2
    exact ⟨.b n :: xs, by simp [a, SL.val], by simp [allIs, b, SL.is], fun x hx => by
      rcases List.mem_cons.1 hx with rfl | hx
      · trivial
      · exact c x hx, d⟩
  | .v :: _, _, h => by cases h
  | [], _ :: _, h => by cases h
  | .i _ :: _, [], h => by cases h
  | .b :: _, [], h => by cases h

/-- The kinds of the cells of a type of numbers, truth values and structs. -/
def flatF (F : TypeId → Option (List LK)) : List Field → Nat → Option (List LK)
  | [], _ => some []
  | f :: fs, off => match Nat.beq f.offset off, F f.type with
    | true, some ks => (flatF F fs (off + ks.length)).map (ks ++ ·)
    | _, _ => none
def flatT (P : Program) : Nat → TypeId → Option (List LK)
  | 0, _ => none
  | d + 1, t => match P.underlying t with
    | some (.int k) => some [.i k]
    | some .bool => some [.b]
    | some (.struct fs) => match flatF (flatT P d) fs.toList 0 with
      | some ks => match Nat.beq ks.length (P.cellsOf t) with
        | true => some ks
        | false => none
      | none => none
    | _ => none
def skT (P : Program) (t : TypeId) : Option SK :=
  match P.underlying t with
  | some (.int k) => some (.leaf (.i k))
  | some .bool => some (.leaf .b)
  | some (.struct _) => (flatT P 20 t).map .agg
  | _ => none

section
variable {H : Type} {enc : TypeId × Value → H} {P : Program}

theorem take_take_len {α : Type} (l : List α) (c : Nat) : l.take (l.take c).length = l.take c := by
  rw [List.length_take]
  rcases Nat.le_total c l.length with h | h
  · rw [Nat.min_eq_left h]
  · rw [Nat.min_eq_right h, List.take_of_length_le h, List.take_of_length_le (Nat.le_refl _)]

theorem flatF_ok {F : TypeId → Option (List LK)} {w : World} {base : Nat} {sp : Nat → Bool} {held : Bool} {fuel : Nat}
    (hF : ∀ t ks, F t = some ks → ∀ cs (x : DataW H × List MemPlace), DataW.trod enc P w base sp held fuel t cs = some x → x.2 = [] ∧ FitC ks cs ∧ ∀ w' b' s' h', DataW.trod enc P w' b' s' h' fuel t cs = some x) (cs : List Value) :
    ∀ (fs : List Field) (off : Nat) (ks : List LK) (xs : List (DataW H × List MemPlace)), flatF F fs off = some ks → fs.mapM (fun f => DataW.trod enc P w base sp held fuel f.type ((cs.drop f.offset).take (P.cellsOf f.type))) = some xs →
      xs.flatMap (·.2) = [] ∧ FitC ks ((cs.drop off).take ks.length) ∧ ∀ w' b' s' h', fs.mapM (fun f => DataW.trod enc P w' b' s' h' fuel f.type ((cs.drop f.offset).take (P.cellsOf f.type))) = some xs
  | [], off, ks, xs, h1, h2 => by
    simp only [flatF, Option.some.injEq] at h1
    subst h1
    simp only [List.mapM_nil, Option.pure_def, Option.some.injEq] at h2
    subst h2
    refine ⟨rfl, by simp [FitC], fun _ _ _ _ => by simp⟩
  | f :: fs, off, ks, xs, h1, h2 => by
    simp only [flatF] at h1
    split at h1
    · rename_i k1 e1 e2
      obtain ⟨k2, e3, rfl⟩ := Option.map_eq_some_iff.1 h1
      have e1 := Nat.eq_of_beq_eq_true e1
      rw [List.mapM_cons] at h2
      obtain ⟨x, h3, h2⟩ := Option.bind_eq_some_iff.1 h2
      obtain ⟨ys, h4, h2⟩ := Option.bind_eq_some_iff.1 h2
      cases h2
      obtain ⟨a1, a2, a3⟩ := hF _ _ e2 _ _ h3
      obtain ⟨b1, b2, b3⟩ := flatF_ok hF cs fs _ k2 ys e3 h4
      refine ⟨by simp [a1, b1], ?_, fun w' b' s' h' => ?_⟩
      · rw [List.length_append, List.take_add]
        refine FitC.app ?_ (by rw [List.drop_drop]; exact b2)
        have hl := FitC.len a2
        rw [e1] at a2 hl
        rw [← hl, take_take_len]
        exact a2
      · rw [List.mapM_cons, a3 w' b' s' h', b3 w' b' s' h']
        rfl
    · cases h1

theorem flatT_ok : ∀ (d : Nat) (t : TypeId) (ks : List LK), flatT P d t = some ks → ∀ (w : World) (base : Nat) (sp : Nat → Bool) (held : Bool) (fuel : Nat) (cs : List Value) (x : DataW H × List MemPlace), DataW.trod enc P w base sp held fuel t cs = some x →
    x.2 = [] ∧ FitC ks cs ∧ ∀ w' b' s' h', DataW.trod enc P w' b' s' h' fuel t cs = some x
  | 0, _, _, h => by cases h
  | d + 1, t, ks, h => by
    intro w base sp held fuel cs x hx
    simp only [flatT] at h
    split at h
    · rename_i k e
      cases h
      obtain ⟨n, rfl, rfl, hw⟩ := DataW.trod_int e hx
      refine ⟨rfl, ⟨⟨n, rfl, hw⟩, trivial⟩, fun w' b' s' h' => ?_⟩
      cases fuel with
      | zero => simp [DataW.trod] at hx
      | succ m => simp [DataW.trod, e, hw]
    · rename_i e
      cases h
      obtain ⟨n, rfl, rfl⟩ := DataW.trod_bool e hx
      refine ⟨rfl, ⟨⟨n, rfl⟩, trivial⟩, fun w' b' s' h' => ?_⟩
      cases fuel with
      | zero => simp [DataW.trod] at hx
      | succ m => simp [DataW.trod, e]
    · rename_i fs e
      split at h
      · rename_i k2 e2
        split at h
        · rename_i e3
          cases h
          have e3 := Nat.eq_of_beq_eq_true e3
          cases fuel with
          | zero => simp [DataW.trod] at hx
          | succ m =>
            simp only [DataW.trod, e] at hx
            split at hx
            · rename_i hl
              obtain ⟨xs, h5, rfl⟩ := Option.map_eq_some_iff.1 hx
              obtain ⟨a1, a2, a3⟩ := flatF_ok (fun t ks h cs x hx => flatT_ok d t ks h w base sp held m cs x hx) cs fs.toList 0 ks xs e2 h5
              rw [List.drop_zero, List.take_of_length_le (by omega)] at a2
              refine ⟨a1, a2, fun w' b' s' h' => ?_⟩
              simp only [DataW.trod, e, hl, if_true]
              rw [a3 w' b' s' h']
              rfl
            · cases hx
        · cases h
      · cases h
    · cases h

theorem open_flat {w : World} {r : Reach} {b0 base : Nat} {sp : Nat → Bool} {held : Bool} {t : TypeId} {sk : SK} {v : Value} {d : DataW H} {ps : List MemPlace} (h : skT P t = some sk) (hval : Value.okWide P w r b0 t v) (hd : DataW.Trod enc P w base sp held t v d ps) :
    ∃ x : S0, v = x.val ∧ x.is sk = true ∧ x.good ∧ FitL (skKs sk) (x.cells.map SL.lf) ∧ ps = [] ∧ ∀ w' b' s' h', DataW.Trod enc P w' b' s' h' t v d [] := by
  unfold skT at h
  split at h
  · rename_i k e
    cases h
    obtain ⟨n, rfl, rfl, rfl, hw⟩ := open_int e hval hd
    refine ⟨.leaf (.i k n), rfl, by simp [S0.is, SL.is, kSame_self], fun x hx => ?_, ⟨hw, trivial⟩, rfl, fun w' b' s' h' => shut_int e hw⟩
    simp only [S0.cells, List.mem_singleton] at hx
    subst hx; trivial
  · rename_i e
    cases h
    obtain ⟨n, rfl, rfl, rfl⟩ := open_bool e hval hd
    refine ⟨.leaf (.b n), rfl, rfl, fun x hx => ?_, trivial, rfl, fun w' b' s' h' => shut_bool e n⟩
    simp only [S0.cells, List.mem_singleton] at hx
    subst hx; trivial
  · rename_i fs e
    obtain ⟨ks, e2, rfl⟩ := Option.map_eq_some_iff.1 h
    obtain ⟨cs, rfl, hc⟩ := okWide_struct e hval
    obtain ⟨fuel, hf⟩ := hd
    obtain ⟨a1, a2, a3⟩ := flatT_ok 20 t ks e2 w base sp held fuel _ _ hf
    obtain ⟨xs, b1, b2, b3, b4⟩ := FitC.sl a2
    have a1 : ps = [] := a1
    subst a1
    refine ⟨.agg xs, ?_, b2, b3, b4, rfl, fun w' b' s' h' => ⟨fuel, a3 w' b' s' h'⟩⟩
    show Value.agg cs = .agg ⟨xs.map SL.val⟩
    rw [b1]
    rfl
  · cases h

def skTs (P : Program) : List TypeId → Option (List SK)
  | [] => some []
  | t :: ts => match skT P t, skTs P ts with
    | some k, some ks => some (k :: ks)
    | _, _ => none

theorem open_args {w : World} {b0 base : Nat} {r : Reach} {sp : Nat → Bool} {held : Bool} : ∀ (ts : List TypeId) (sks : List SK) (vs : List Value) (ds : List (DataW H)) (ps : List MemPlace), skTs P ts = some sks →
    (∀ (j : Nat) t v, ts[j]? = some t → vs[j]? = some v → Value.okWide P w r b0 t v) → DataW.TrodAll enc P w base sp held ts vs ds ps →
    ∃ xs : List S0, vs = valsOf xs ∧ areIs xs sks = true ∧ (∀ x ∈ xs, x.good) ∧ FitL (sks.flatMap skKs) (lfsOf xs) ∧ ps = [] ∧ ∀ w' b' s' h', DataW.TrodAll enc P w' b' s' h' ts vs ds []
  | [], sks, [], [], ps, h, _, ht => by
    cases h
    have ht : ps = [] := ht
    exact ⟨[], rfl, rfl, fun _ h => (by cases h), trivial, ht, fun _ _ _ _ => rfl⟩
  | t :: ts, sks, v :: vs, d :: ds, ps, h, hv, ht => by
    simp only [skTs] at h
    split at h
    · rename_i k ks e1 e2
      cases h
      obtain ⟨p, q, h1, h2, rfl⟩ := ht
      obtain ⟨x, a1, a2, a3, a4, rfl, a6⟩ := open_flat e1 (hv 0 t v rfl rfl) h1
      obtain ⟨xs, b1, b2, b3, b4, rfl, b6⟩ := open_args ts ks vs ds q e2 (fun j t v h1 h2 => hv (j + 1) t v h1 h2) h2
      refine ⟨x :: xs, by rw [a1, b1]; rfl, by simp [areIs, a2, b2], fun y hy => ?_, ?_, rfl, fun w' b' s' h' => ⟨[], [], a6 w' b' s' h', b6 w' b' s' h', rfl⟩⟩
      · rcases List.mem_cons.1 hy with rfl | hy
        · exact a3
        · exact b3 y hy
      · exact FitL.app a4 b4
    · cases h
  | [], _, _ :: _, _, _, _, _, ht => by cases ht
  | [], _, [], _ :: _, _, _, _, ht => by cases ht
  | _ :: _, _, [], _, _, _, _, ht => by cases ht
  | _ :: _, _, _ :: _, [], _, _, _, ht => by cases ht
end

section
variable [Val]
/-- A contract, as a call. -/
theorem callok_of_ct {C : Cfg} {Sg : FuncId → Option Sig} (hm : C.P.follows .mixedOrders = true) {g : FuncId} {sg : Sig} (hs : Sg g = some sg) {ls rs : List Lf} (hc : Ct C Sg g ls rs) {xs ys : List S0} (h1 : areIs xs sg.ps = true) (h2 : lfsOf xs = ls) (h3 : areIs ys sg.rs = true) (h4 : lfsOf ys = rs) (H : List HObj) :
    CallOk C g (valsOf xs) H (packA (valsOf ys)) H := by
  let _ : Kno := KnoC C
  obtain ⟨sg', xs', ys', c1, c2, c3, c4⟩ := hc H
  rw [hs] at c1
  cases c1
  obtain ⟨w1, _⟩ := areIs_val c2.1 h1 (c2.2.1.trans h2.symm)
  obtain ⟨w2, _⟩ := areIs_val c3.1 h3 (c3.2.1.trans h4.symm)
  rw [w1, w2] at c4
  exact uCallC_ok hm c4
end
end Sx
end Go.Am
namespace Go.Am
namespace Sx
theorem FitL.i {k : IntKind} {ks : List LK} {ls : List Lf} (h : FitL (.i k :: ks) ls) : ∃ n r, ls = .i n :: r ∧ (Lit.int k n).wf = true ∧ FitL ks r := by
  match ls, h with
  | .i n :: r, h => exact ⟨n, r, rfl, h.1, h.2⟩
theorem FitL.b {ks : List LK} {ls : List Lf} (h : FitL (.b :: ks) ls) : ∃ n r, ls = .b n :: r ∧ FitL ks r := by
  match ls, h with
  | .b n :: r, h => exact ⟨n, r, rfl, h⟩
theorem FitL.nil {ls : List Lf} (h : FitL [] ls) : ls = [] := by
  match ls, h with
  | [], _ => rfl
theorem wf_i64 {n : Int} (h : (Lit.int .i64 n).wf = true) : -9223372036854775808 ≤ n ∧ n ≤ 9223372036854775807 := by
  simp only [Lit.wf, Bool.and_eq_true, decide_eq_true_eq] at h
  exact h
theorem wf_u8 {n : Int} (h : (Lit.int .u8 n).wf = true) : 0 ≤ n ∧ n ≤ 255 := by
  simp only [Lit.wf, Bool.and_eq_true, decide_eq_true_eq] at h
  exact h
theorem wf_i8 {n : Int} (h : (Lit.int .i8 n).wf = true) : -128 ≤ n ∧ n ≤ 127 := by
  simp only [Lit.wf, Bool.and_eq_true, decide_eq_true_eq] at h
  exact h
theorem trodAll_len {H : Type} {enc : TypeId × Value → H} {P : Program} {w : World} {base : Nat} {sp : Nat → Bool} {held : Bool} : ∀ {ts : List TypeId} {vs : List Value} {ds : List (DataW H)} {ps : List MemPlace}, DataW.TrodAll enc P w base sp held ts vs ds ps → ds.length = ts.length
  | [], [], [], _, _ => rfl
  | _ :: _, _ :: _, _ :: _, _, h => by
    obtain ⟨p, q, _, h2, _⟩ := h
    simp [trodAll_len h2]
  | [], _ :: _, _, _, h => by cases h
  | [], [], _ :: _, _, h => by cases h
  | _ :: _, [], _, _, h => by cases h
  | _ :: _, _ :: _, [], _, h => by cases h
end Sx
end Go.Am

/-
  WHAT THE ROW SAYS OF THE LISTED VARIABLES: both tables.
-/
set_option maxRecDepth 100000
namespace Go.Proofs.YtdngmncaohgacaaDoor
open Go Go.Am Go.Am.Sx
open Go.ChangeShapes Go.WideShapes Go.ChangeAt Go.WideMaps Go.WideElems Go.RowKit

abbrev laidC : List (String × DataW Unit) := [("crimp/moves.turns", Rows.laid_crimp_moves_turns), ("crimp/cells.quarters", Rows.laid_crimp_cells_quarters)]
theorem name0 : Tryd.prog.globalNamed "crimp/cells.quarters" = some 0 := by kernel_rfl
theorem name1 : Tryd.prog.globalNamed "crimp/moves.turns" = some 1 := by kernel_rfl
/-- What the list gives. -/
theorem of_laid {W : World} (h : laidMetH Tryd.prog laidC W) (g : Nat) (vs : List Value) (hg : cc.G g = some vs) :
    g < W.heap.size ∧ vs.all cellOk = true ∧ vs.all flat = true ∧ ∃ c e fr, W.heap[g]? = some (.cells c e fr) ∧ c.toList = vs := by
  rw [MakeChecks.laidMetH_plain _ _ _ (by kernel_rfl)] at h
  obtain ⟨ps, h, _, _⟩ := h
  have main : ∃ c e fr, W.heap[g]? = some (.cells c e fr) ∧ c.toList = vs := by
    unfold cc at hg
    simp only at hg
    split at hg
    · cases hg
      exact laid_cells h "crimp/cells.quarters" Rows.laid_crimp_cells_quarters (List.mem_cons_of_mem _ List.mem_cons_self) 0 137 8 gl0 name0 (by kernel_rfl) (by kernel_rfl)
    · cases hg
      exact laid_cells h "crimp/moves.turns" Rows.laid_crimp_moves_turns List.mem_cons_self 1 154 8 gl1 name1 (by kernel_rfl) (by kernel_rfl)
    · cases hg
  refine ⟨?_, gl_cell g vs hg, gl_flat g vs hg, main⟩
  obtain ⟨c, e, fr, h1, _⟩ := main
  rcases Nat.lt_or_ge g W.heap.size with h | h
  · exact h
  · rw [Array.getElem?_eq_none h] at h1; cases h1
theorem own : ownKnob Tryd.prog.godebug = none := by kernel_rfl
theorem door_met (os : Os) (args : Array Value) : laidMetH Tryd.prog laidC ((World.doorLaid Tryd.prog 400 os).forCall (fun _ _ => 0) ⟨#[], args, []⟩).memory :=
  laidMetH_of_parts3 (fuel := 8) (laidMet_of_run' 8 (by kernel_rfl) (by kernel_rfl)) (by kernel_rfl) (by kernel_rfl)
end Go.Proofs.YtdngmncaohgacaaDoor

