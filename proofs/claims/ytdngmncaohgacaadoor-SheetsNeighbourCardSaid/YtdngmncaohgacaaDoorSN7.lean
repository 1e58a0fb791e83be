/-
  PART 7 OF THE PROOF: Ls3 Cd2 (no conditions).
-/
import Derived.Test.YtdngmncaohgacaaDoorSN6
import Derived.SevenTiedAt
import Derived.Test.YtdngmncaohgacaaDoorCards
import Derived.Test.YtdngmncaohgacaaDoorTie
set_option linter.unusedSectionVars false
set_option linter.unusedSimpArgs false
set_option linter.unusedVariables false
set_option linter.constructorNameAsVariable false
set_option linter.defProp false
/-
  CONTRACTS, BY PROGRAM: SheetsNeighbour.
-/
set_option maxRecDepth 100000
set_option maxHeartbeats 4000000
namespace Go.Am
open Sx Go.Proofs
theorem shN100 {a b v i : Int} (h : 0 ≤ a ∧ a ≤ 255 ∧ 0 ≤ b ∧ b ≤ 255 ∧ 1 = 1 + a % 5 ∧ v = 1 + b % 5) (hi : 0 ≤ i ∧ i < 4 * 1 * v ∧ i % 4 = 0) : Cc 3 [.i a, .i b, .i i, .i 0] [.b true] := by
  refine q3 rfl ?_; unfold p3
  simp (disch := omega) only [↓qxs, ↓qxc, ↓qxa, ↓qxb]
  refine p_call (ofW (w := 1) (v := v) (by omega)) ?_
  by_cases hc : 4 ≤ i
  all_goals first | (exfalso; omega) | (repeat (first | simp (disch := omega) only [↓qxs, ↓qxc, ↓qxa, ↓qxb] | refine p_call (nbi100 (by omega)) ?_ | refine p_call (nmi100 (by omega)) ?_ | refine p_call (rfi100 (by omega)) ?_ | refine p_call (nbi120 (by omega)) ?_ | refine p_call (nmi120 (by omega)) ?_ | refine p_call (unitC (by omega)) ?_ | refine p_call lives5 ?_ | refine p_call (nbo100 (by omega)) ?_ | refine p_call (nmo100 (by omega)) ?_ | refine p_call (rfo100 (by omega)) ?_))
theorem shN101 {a b v i : Int} (h : 0 ≤ a ∧ a ≤ 255 ∧ 0 ≤ b ∧ b ≤ 255 ∧ 1 = 1 + a % 5 ∧ v = 1 + b % 5) (hi : 0 ≤ i ∧ i < 4 * 1 * v ∧ i % 4 = 0) : Cc 3 [.i a, .i b, .i i, .i 1] [.b true] := by
  refine q3 rfl ?_; unfold p3
  simp (disch := omega) only [↓qxs, ↓qxc, ↓qxa, ↓qxb]
  refine p_call (ofW (w := 1) (v := v) (by omega)) ?_
  repeat (first | simp (disch := omega) only [↓qxs, ↓qxc, ↓qxa, ↓qxb] | refine p_call (nbi101 (by omega)) ?_ | refine p_call (nmi101 (by omega)) ?_ | refine p_call (rfi101 (by omega)) ?_ | refine p_call (nbi111 (by omega)) ?_ | refine p_call (nmi111 (by omega)) ?_ | refine p_call (unitC (by omega)) ?_ | refine p_call lives5 ?_)
theorem shN102 {a b v i : Int} (h : 0 ≤ a ∧ a ≤ 255 ∧ 0 ≤ b ∧ b ≤ 255 ∧ 1 = 1 + a % 5 ∧ v = 1 + b % 5) (hi : 0 ≤ i ∧ i < 4 * 1 * v ∧ i % 4 = 0) : Cc 3 [.i a, .i b, .i i, .i 2] [.b true] := by
  refine q3 rfl ?_; unfold p3
  simp (disch := omega) only [↓qxs, ↓qxc, ↓qxa, ↓qxb]
  refine p_call (ofW (w := 1) (v := v) (by omega)) ?_
  repeat (first | simp (disch := omega) only [↓qxs, ↓qxc, ↓qxa, ↓qxb] | refine p_call (nbi102 (by omega)) ?_ | refine p_call (nmi102 (by omega)) ?_ | refine p_call (rfi102 (by omega)) ?_ | refine p_call (nbi132 (by omega)) ?_ | refine p_call (nmi132 (by omega)) ?_ | refine p_call (unitC (by omega)) ?_ | refine p_call lives5 ?_)
theorem shN110 {a b v i : Int} (h : 0 ≤ a ∧ a ≤ 255 ∧ 0 ≤ b ∧ b ≤ 255 ∧ 1 = 1 + a % 5 ∧ v = 1 + b % 5) (hi : 0 ≤ i ∧ i < 4 * 1 * v ∧ i % 4 = 1) : Cc 3 [.i a, .i b, .i i, .i 0] [.b true] := by
  refine q3 rfl ?_; unfold p3
  simp (disch := omega) only [↓qxs, ↓qxc, ↓qxa, ↓qxb]
  refine p_call (ofW (w := 1) (v := v) (by omega)) ?_
  by_cases hc : i / 4 % 1 + 1 < 1
  all_goals first | (exfalso; omega) | (repeat (first | simp (disch := omega) only [↓qxs, ↓qxc, ↓qxa, ↓qxb] | refine p_call (nbi110 (by omega)) ?_ | refine p_call (nmi110 (by omega)) ?_ | refine p_call (rfi110 (by omega)) ?_ | refine p_call (nbi130 (by omega)) ?_ | refine p_call (nmi130 (by omega)) ?_ | refine p_call (unitC (by omega)) ?_ | refine p_call lives5 ?_ | refine p_call (nbo110 (by omega)) ?_ | refine p_call (nmo110 (by omega)) ?_ | refine p_call (rfo110 (by omega)) ?_))
theorem shN111 {a b v i : Int} (h : 0 ≤ a ∧ a ≤ 255 ∧ 0 ≤ b ∧ b ≤ 255 ∧ 1 = 1 + a % 5 ∧ v = 1 + b % 5) (hi : 0 ≤ i ∧ i < 4 * 1 * v ∧ i % 4 = 1) : Cc 3 [.i a, .i b, .i i, .i 1] [.b true] := by
  refine q3 rfl ?_; unfold p3
  simp (disch := omega) only [↓qxs, ↓qxc, ↓qxa, ↓qxb]
  refine p_call (ofW (w := 1) (v := v) (by omega)) ?_
  repeat (first | simp (disch := omega) only [↓qxs, ↓qxc, ↓qxa, ↓qxb] | refine p_call (nbi111 (by omega)) ?_ | refine p_call (nmi111 (by omega)) ?_ | refine p_call (rfi111 (by omega)) ?_ | refine p_call (nbi101 (by omega)) ?_ | refine p_call (nmi101 (by omega)) ?_ | refine p_call (unitC (by omega)) ?_ | refine p_call lives5 ?_)
theorem shN112 {a b v i : Int} (h : 0 ≤ a ∧ a ≤ 255 ∧ 0 ≤ b ∧ b ≤ 255 ∧ 1 = 1 + a % 5 ∧ v = 1 + b % 5) (hi : 0 ≤ i ∧ i < 4 * 1 * v ∧ i % 4 = 1) : Cc 3 [.i a, .i b, .i i, .i 2] [.b true] := by
  refine q3 rfl ?_; unfold p3
  simp (disch := omega) only [↓qxs, ↓qxc, ↓qxa, ↓qxb]
  refine p_call (ofW (w := 1) (v := v) (by omega)) ?_
  repeat (first | simp (disch := omega) only [↓qxs, ↓qxc, ↓qxa, ↓qxb] | refine p_call (nbi112 (by omega)) ?_ | refine p_call (nmi112 (by omega)) ?_ | refine p_call (rfi112 (by omega)) ?_ | refine p_call (nbi122 (by omega)) ?_ | refine p_call (nmi122 (by omega)) ?_ | refine p_call (unitC (by omega)) ?_ | refine p_call lives5 ?_)
theorem shN120 {a b v i : Int} (h : 0 ≤ a ∧ a ≤ 255 ∧ 0 ≤ b ∧ b ≤ 255 ∧ 1 = 1 + a % 5 ∧ v = 1 + b % 5) (hi : 0 ≤ i ∧ i < 4 * 1 * v ∧ i % 4 = 2) : Cc 3 [.i a, .i b, .i i, .i 0] [.b true] := by
  refine q3 rfl ?_; unfold p3
  simp (disch := omega) only [↓qxs, ↓qxc, ↓qxa, ↓qxb]
  refine p_call (ofW (w := 1) (v := v) (by omega)) ?_
  by_cases hc : i / 4 / 1 + 1 < v
  all_goals first | (exfalso; omega) | (repeat (first | simp (disch := omega) only [↓qxs, ↓qxc, ↓qxa, ↓qxb] | refine p_call (nbi120 (by omega)) ?_ | refine p_call (nmi120 (by omega)) ?_ | refine p_call (rfi120 (by omega)) ?_ | refine p_call (nbi100 (by omega)) ?_ | refine p_call (nmi100 (by omega)) ?_ | refine p_call (unitC (by omega)) ?_ | refine p_call lives5 ?_ | refine p_call (nbo120 (by omega)) ?_ | refine p_call (nmo120 (by omega)) ?_ | refine p_call (rfo120 (by omega)) ?_))
theorem shN121 {a b v i : Int} (h : 0 ≤ a ∧ a ≤ 255 ∧ 0 ≤ b ∧ b ≤ 255 ∧ 1 = 1 + a % 5 ∧ v = 1 + b % 5) (hi : 0 ≤ i ∧ i < 4 * 1 * v ∧ i % 4 = 2) : Cc 3 [.i a, .i b, .i i, .i 1] [.b true] := by
  refine q3 rfl ?_; unfold p3
  simp (disch := omega) only [↓qxs, ↓qxc, ↓qxa, ↓qxb]
  refine p_call (ofW (w := 1) (v := v) (by omega)) ?_
  repeat (first | simp (disch := omega) only [↓qxs, ↓qxc, ↓qxa, ↓qxb] | refine p_call (nbi121 (by omega)) ?_ | refine p_call (nmi121 (by omega)) ?_ | refine p_call (rfi121 (by omega)) ?_ | refine p_call (nbi131 (by omega)) ?_ | refine p_call (nmi131 (by omega)) ?_ | refine p_call (unitC (by omega)) ?_ | refine p_call lives5 ?_)
theorem shN122 {a b v i : Int} (h : 0 ≤ a ∧ a ≤ 255 ∧ 0 ≤ b ∧ b ≤ 255 ∧ 1 = 1 + a % 5 ∧ v = 1 + b % 5) (hi : 0 ≤ i ∧ i < 4 * 1 * v ∧ i % 4 = 2) : Cc 3 [.i a, .i b, .i i, .i 2] [.b true] := by
  refine q3 rfl ?_; unfold p3
  simp (disch := omega) only [↓qxs, ↓qxc, ↓qxa, ↓qxb]
  refine p_call (ofW (w := 1) (v := v) (by omega)) ?_
  repeat (first | simp (disch := omega) only [↓qxs, ↓qxc, ↓qxa, ↓qxb] | refine p_call (nbi122 (by omega)) ?_ | refine p_call (nmi122 (by omega)) ?_ | refine p_call (rfi122 (by omega)) ?_ | refine p_call (nbi112 (by omega)) ?_ | refine p_call (nmi112 (by omega)) ?_ | refine p_call (unitC (by omega)) ?_ | refine p_call lives5 ?_)
theorem shN130 {a b v i : Int} (h : 0 ≤ a ∧ a ≤ 255 ∧ 0 ≤ b ∧ b ≤ 255 ∧ 1 = 1 + a % 5 ∧ v = 1 + b % 5) (hi : 0 ≤ i ∧ i < 4 * 1 * v ∧ i % 4 = 3) : Cc 3 [.i a, .i b, .i i, .i 0] [.b true] := by
  refine q3 rfl ?_; unfold p3
  simp (disch := omega) only [↓qxs, ↓qxc, ↓qxa, ↓qxb]
  refine p_call (ofW (w := 1) (v := v) (by omega)) ?_
  by_cases hc : 1 ≤ i / 4 % 1
  all_goals first | (exfalso; omega) | (repeat (first | simp (disch := omega) only [↓qxs, ↓qxc, ↓qxa, ↓qxb] | refine p_call (nbi130 (by omega)) ?_ | refine p_call (nmi130 (by omega)) ?_ | refine p_call (rfi130 (by omega)) ?_ | refine p_call (nbi110 (by omega)) ?_ | refine p_call (nmi110 (by omega)) ?_ | refine p_call (unitC (by omega)) ?_ | refine p_call lives5 ?_ | refine p_call (nbo130 (by omega)) ?_ | refine p_call (nmo130 (by omega)) ?_ | refine p_call (rfo130 (by omega)) ?_))
theorem shN131 {a b v i : Int} (h : 0 ≤ a ∧ a ≤ 255 ∧ 0 ≤ b ∧ b ≤ 255 ∧ 1 = 1 + a % 5 ∧ v = 1 + b % 5) (hi : 0 ≤ i ∧ i < 4 * 1 * v ∧ i % 4 = 3) : Cc 3 [.i a, .i b, .i i, .i 1] [.b true] := by
  refine q3 rfl ?_; unfold p3
  simp (disch := omega) only [↓qxs, ↓qxc, ↓qxa, ↓qxb]
  refine p_call (ofW (w := 1) (v := v) (by omega)) ?_
  repeat (first | simp (disch := omega) only [↓qxs, ↓qxc, ↓qxa, ↓qxb] | refine p_call (nbi131 (by omega)) ?_ | refine p_call (nmi131 (by omega)) ?_ | refine p_call (rfi131 (by omega)) ?_ | refine p_call (nbi121 (by omega)) ?_ | refine p_call (nmi121 (by omega)) ?_ | refine p_call (unitC (by omega)) ?_ | refine p_call lives5 ?_)
theorem shN132 {a b v i : Int} (h : 0 ≤ a ∧ a ≤ 255 ∧ 0 ≤ b ∧ b ≤ 255 ∧ 1 = 1 + a % 5 ∧ v = 1 + b % 5) (hi : 0 ≤ i ∧ i < 4 * 1 * v ∧ i % 4 = 3) : Cc 3 [.i a, .i b, .i i, .i 2] [.b true] := by
  refine q3 rfl ?_; unfold p3
  simp (disch := omega) only [↓qxs, ↓qxc, ↓qxa, ↓qxb]
  refine p_call (ofW (w := 1) (v := v) (by omega)) ?_
  repeat (first | simp (disch := omega) only [↓qxs, ↓qxc, ↓qxa, ↓qxb] | refine p_call (nbi132 (by omega)) ?_ | refine p_call (nmi132 (by omega)) ?_ | refine p_call (rfi132 (by omega)) ?_ | refine p_call (nbi102 (by omega)) ?_ | refine p_call (nmi102 (by omega)) ?_ | refine p_call (unitC (by omega)) ?_ | refine p_call lives5 ?_)
theorem shN200 {a b v i : Int} (h : 0 ≤ a ∧ a ≤ 255 ∧ 0 ≤ b ∧ b ≤ 255 ∧ 2 = 1 + a % 5 ∧ v = 1 + b % 5) (hi : 0 ≤ i ∧ i < 4 * 2 * v ∧ i % 4 = 0) : Cc 3 [.i a, .i b, .i i, .i 0] [.b true] := by
  refine q3 rfl ?_; unfold p3
  simp (disch := omega) only [↓qxs, ↓qxc, ↓qxa, ↓qxb]
  refine p_call (ofW (w := 2) (v := v) (by omega)) ?_
  by_cases hc : 8 ≤ i
  all_goals first | (exfalso; omega) | (repeat (first | simp (disch := omega) only [↓qxs, ↓qxc, ↓qxa, ↓qxb] | refine p_call (nbi200 (by omega)) ?_ | refine p_call (nmi200 (by omega)) ?_ | refine p_call (rfi200 (by omega)) ?_ | refine p_call (nbi220 (by omega)) ?_ | refine p_call (nmi220 (by omega)) ?_ | refine p_call (unitC (by omega)) ?_ | refine p_call lives5 ?_ | refine p_call (nbo200 (by omega)) ?_ | refine p_call (nmo200 (by omega)) ?_ | refine p_call (rfo200 (by omega)) ?_))
theorem shN201 {a b v i : Int} (h : 0 ≤ a ∧ a ≤ 255 ∧ 0 ≤ b ∧ b ≤ 255 ∧ 2 = 1 + a % 5 ∧ v = 1 + b % 5) (hi : 0 ≤ i ∧ i < 4 * 2 * v ∧ i % 4 = 0) : Cc 3 [.i a, .i b, .i i, .i 1] [.b true] := by
  refine q3 rfl ?_; unfold p3
  simp (disch := omega) only [↓qxs, ↓qxc, ↓qxa, ↓qxb]
  refine p_call (ofW (w := 2) (v := v) (by omega)) ?_
  repeat (first | simp (disch := omega) only [↓qxs, ↓qxc, ↓qxa, ↓qxb] | refine p_call (nbi201 (by omega)) ?_ | refine p_call (nmi201 (by omega)) ?_ | refine p_call (rfi201 (by omega)) ?_ | refine p_call (nbi211 (by omega)) ?_ | refine p_call (nmi211 (by omega)) ?_ | refine p_call (unitC (by omega)) ?_ | refine p_call lives5 ?_)
theorem shN202 {a b v i : Int} (h : 0 ≤ a ∧ a ≤ 255 ∧ 0 ≤ b ∧ b ≤ 255 ∧ 2 = 1 + a % 5 ∧ v = 1 + b % 5) (hi : 0 ≤ i ∧ i < 4 * 2 * v ∧ i % 4 = 0) : Cc 3 [.i a, .i b, .i i, .i 2] [.b true] := by
  refine q3 rfl ?_; unfold p3
  simp (disch := omega) only [↓qxs, ↓qxc, ↓qxa, ↓qxb]
  refine p_call (ofW (w := 2) (v := v) (by omega)) ?_
  repeat (first | simp (disch := omega) only [↓qxs, ↓qxc, ↓qxa, ↓qxb] | refine p_call (nbi202 (by omega)) ?_ | refine p_call (nmi202 (by omega)) ?_ | refine p_call (rfi202 (by omega)) ?_ | refine p_call (nbi232 (by omega)) ?_ | refine p_call (nmi232 (by omega)) ?_ | refine p_call (unitC (by omega)) ?_ | refine p_call lives5 ?_)
theorem shN210 {a b v i : Int} (h : 0 ≤ a ∧ a ≤ 255 ∧ 0 ≤ b ∧ b ≤ 255 ∧ 2 = 1 + a % 5 ∧ v = 1 + b % 5) (hi : 0 ≤ i ∧ i < 4 * 2 * v ∧ i % 4 = 1) : Cc 3 [.i a, .i b, .i i, .i 0] [.b true] := by
  refine q3 rfl ?_; unfold p3
  simp (disch := omega) only [↓qxs, ↓qxc, ↓qxa, ↓qxb]
  refine p_call (ofW (w := 2) (v := v) (by omega)) ?_
  by_cases hc : i / 4 % 2 + 1 < 2
  all_goals first | (exfalso; omega) | (repeat (first | simp (disch := omega) only [↓qxs, ↓qxc, ↓qxa, ↓qxb] | refine p_call (nbi210 (by omega)) ?_ | refine p_call (nmi210 (by omega)) ?_ | refine p_call (rfi210 (by omega)) ?_ | refine p_call (nbi230 (by omega)) ?_ | refine p_call (nmi230 (by omega)) ?_ | refine p_call (unitC (by omega)) ?_ | refine p_call lives5 ?_ | refine p_call (nbo210 (by omega)) ?_ | refine p_call (nmo210 (by omega)) ?_ | refine p_call (rfo210 (by omega)) ?_))
theorem shN211 {a b v i : Int} (h : 0 ≤ a ∧ a ≤ 255 ∧ 0 ≤ b ∧ b ≤ 255 ∧ 2 = 1 + a % 5 ∧ v = 1 + b % 5) (hi : 0 ≤ i ∧ i < 4 * 2 * v ∧ i % 4 = 1) : Cc 3 [.i a, .i b, .i i, .i 1] [.b true] := by
  refine q3 rfl ?_; unfold p3
  simp (disch := omega) only [↓qxs, ↓qxc, ↓qxa, ↓qxb]
  refine p_call (ofW (w := 2) (v := v) (by omega)) ?_
  repeat (first | simp (disch := omega) only [↓qxs, ↓qxc, ↓qxa, ↓qxb] | refine p_call (nbi211 (by omega)) ?_ | refine p_call (nmi211 (by omega)) ?_ | refine p_call (rfi211 (by omega)) ?_ | refine p_call (nbi201 (by omega)) ?_ | refine p_call (nmi201 (by omega)) ?_ | refine p_call (unitC (by omega)) ?_ | refine p_call lives5 ?_)
theorem shN212 {a b v i : Int} (h : 0 ≤ a ∧ a ≤ 255 ∧ 0 ≤ b ∧ b ≤ 255 ∧ 2 = 1 + a % 5 ∧ v = 1 + b % 5) (hi : 0 ≤ i ∧ i < 4 * 2 * v ∧ i % 4 = 1) : Cc 3 [.i a, .i b, .i i, .i 2] [.b true] := by
  refine q3 rfl ?_; unfold p3
  simp (disch := omega) only [↓qxs, ↓qxc, ↓qxa, ↓qxb]
  refine p_call (ofW (w := 2) (v := v) (by omega)) ?_
  repeat (first | simp (disch := omega) only [↓qxs, ↓qxc, ↓qxa, ↓qxb] | refine p_call (nbi212 (by omega)) ?_ | refine p_call (nmi212 (by omega)) ?_ | refine p_call (rfi212 (by omega)) ?_ | refine p_call (nbi222 (by omega)) ?_ | refine p_call (nmi222 (by omega)) ?_ | refine p_call (unitC (by omega)) ?_ | refine p_call lives5 ?_)
theorem shN220 {a b v i : Int} (h : 0 ≤ a ∧ a ≤ 255 ∧ 0 ≤ b ∧ b ≤ 255 ∧ 2 = 1 + a % 5 ∧ v = 1 + b % 5) (hi : 0 ≤ i ∧ i < 4 * 2 * v ∧ i % 4 = 2) : Cc 3 [.i a, .i b, .i i, .i 0] [.b true] := by
  refine q3 rfl ?_; unfold p3
  simp (disch := omega) only [↓qxs, ↓qxc, ↓qxa, ↓qxb]
  refine p_call (ofW (w := 2) (v := v) (by omega)) ?_
  by_cases hc : i / 4 / 2 + 1 < v
  all_goals first | (exfalso; omega) | (repeat (first | simp (disch := omega) only [↓qxs, ↓qxc, ↓qxa, ↓qxb] | refine p_call (nbi220 (by omega)) ?_ | refine p_call (nmi220 (by omega)) ?_ | refine p_call (rfi220 (by omega)) ?_ | refine p_call (nbi200 (by omega)) ?_ | refine p_call (nmi200 (by omega)) ?_ | refine p_call (unitC (by omega)) ?_ | refine p_call lives5 ?_ | refine p_call (nbo220 (by omega)) ?_ | refine p_call (nmo220 (by omega)) ?_ | refine p_call (rfo220 (by omega)) ?_))
theorem shN221 {a b v i : Int} (h : 0 ≤ a ∧ a ≤ 255 ∧ 0 ≤ b ∧ b ≤ 255 ∧ 2 = 1 + a % 5 ∧ v = 1 + b % 5) (hi : 0 ≤ i ∧ i < 4 * 2 * v ∧ i % 4 = 2) : Cc 3 [.i a, .i b, .i i, .i 1] [.b true] := by
  refine q3 rfl ?_; unfold p3
  simp (disch := omega) only [↓qxs, ↓qxc, ↓qxa, ↓qxb]
  refine p_call (ofW (w := 2) (v := v) (by omega)) ?_
  repeat (first | simp (disch := omega) only [↓qxs, ↓qxc, ↓qxa, ↓qxb] | refine p_call (nbi221 (by omega)) ?_ | refine p_call (nmi221 (by omega)) ?_ | refine p_call (rfi221 (by omega)) ?_ | refine p_call (nbi231 (by omega)) ?_ | refine p_call (nmi231 (by omega)) ?_ | refine p_call (unitC (by omega)) ?_ | refine p_call lives5 ?_)
theorem shN222 {a b v i : Int} (h : 0 ≤ a ∧ a ≤ 255 ∧ 0 ≤ b ∧ b ≤ 255 ∧ 2 = 1 + a % 5 ∧ v = 1 + b % 5) (hi : 0 ≤ i ∧ i < 4 * 2 * v ∧ i % 4 = 2) : Cc 3 [.i a, .i b, .i i, .i 2] [.b true] := by
  refine q3 rfl ?_; unfold p3
  simp (disch := omega) only [↓qxs, ↓qxc, ↓qxa, ↓qxb]
  refine p_call (ofW (w := 2) (v := v) (by omega)) ?_
  repeat (first | simp (disch := omega) only [↓qxs, ↓qxc, ↓qxa, ↓qxb] | refine p_call (nbi222 (by omega)) ?_ | refine p_call (nmi222 (by omega)) ?_ | refine p_call (rfi222 (by omega)) ?_ | refine p_call (nbi212 (by omega)) ?_ | refine p_call (nmi212 (by omega)) ?_ | refine p_call (unitC (by omega)) ?_ | refine p_call lives5 ?_)
theorem shN230 {a b v i : Int} (h : 0 ≤ a ∧ a ≤ 255 ∧ 0 ≤ b ∧ b ≤ 255 ∧ 2 = 1 + a % 5 ∧ v = 1 + b % 5) (hi : 0 ≤ i ∧ i < 4 * 2 * v ∧ i % 4 = 3) : Cc 3 [.i a, .i b, .i i, .i 0] [.b true] := by
  refine q3 rfl ?_; unfold p3
  simp (disch := omega) only [↓qxs, ↓qxc, ↓qxa, ↓qxb]
  refine p_call (ofW (w := 2) (v := v) (by omega)) ?_
  by_cases hc : 1 ≤ i / 4 % 2
  all_goals first | (exfalso; omega) | (repeat (first | simp (disch := omega) only [↓qxs, ↓qxc, ↓qxa, ↓qxb] | refine p_call (nbi230 (by omega)) ?_ | refine p_call (nmi230 (by omega)) ?_ | refine p_call (rfi230 (by omega)) ?_ | refine p_call (nbi210 (by omega)) ?_ | refine p_call (nmi210 (by omega)) ?_ | refine p_call (unitC (by omega)) ?_ | refine p_call lives5 ?_ | refine p_call (nbo230 (by omega)) ?_ | refine p_call (nmo230 (by omega)) ?_ | refine p_call (rfo230 (by omega)) ?_))
theorem shN231 {a b v i : Int} (h : 0 ≤ a ∧ a ≤ 255 ∧ 0 ≤ b ∧ b ≤ 255 ∧ 2 = 1 + a % 5 ∧ v = 1 + b % 5) (hi : 0 ≤ i ∧ i < 4 * 2 * v ∧ i % 4 = 3) : Cc 3 [.i a, .i b, .i i, .i 1] [.b true] := by
  refine q3 rfl ?_; unfold p3
  simp (disch := omega) only [↓qxs, ↓qxc, ↓qxa, ↓qxb]
  refine p_call (ofW (w := 2) (v := v) (by omega)) ?_
  repeat (first | simp (disch := omega) only [↓qxs, ↓qxc, ↓qxa, ↓qxb] | refine p_call (nbi231 (by omega)) ?_ | refine p_call (nmi231 (by omega)) ?_ | refine p_call (rfi231 (by omega)) ?_ | refine p_call (nbi221 (by omega)) ?_ | refine p_call (nmi221 (by omega)) ?_ | refine p_call (unitC (by omega)) ?_ | refine p_call lives5 ?_)
theorem shN232 {a b v i : Int} (h : 0 ≤ a ∧ a ≤ 255 ∧ 0 ≤ b ∧ b ≤ 255 ∧ 2 = 1 + a % 5 ∧ v = 1 + b % 5) (hi : 0 ≤ i ∧ i < 4 * 2 * v ∧ i % 4 = 3) : Cc 3 [.i a, .i b, .i i, .i 2] [.b true] := by
  refine q3 rfl ?_; unfold p3
  simp (disch := omega) only [↓qxs, ↓qxc, ↓qxa, ↓qxb]
  refine p_call (ofW (w := 2) (v := v) (by omega)) ?_
  repeat (first | simp (disch := omega) only [↓qxs, ↓qxc, ↓qxa, ↓qxb] | refine p_call (nbi232 (by omega)) ?_ | refine p_call (nmi232 (by omega)) ?_ | refine p_call (rfi232 (by omega)) ?_ | refine p_call (nbi202 (by omega)) ?_ | refine p_call (nmi202 (by omega)) ?_ | refine p_call (unitC (by omega)) ?_ | refine p_call lives5 ?_)
theorem shN300 {a b v i : Int} (h : 0 ≤ a ∧ a ≤ 255 ∧ 0 ≤ b ∧ b ≤ 255 ∧ 3 = 1 + a % 5 ∧ v = 1 + b % 5) (hi : 0 ≤ i ∧ i < 4 * 3 * v ∧ i % 4 = 0) : Cc 3 [.i a, .i b, .i i, .i 0] [.b true] := by
  refine q3 rfl ?_; unfold p3
  simp (disch := omega) only [↓qxs, ↓qxc, ↓qxa, ↓qxb]
  refine p_call (ofW (w := 3) (v := v) (by omega)) ?_
  by_cases hc : 12 ≤ i
  all_goals first | (exfalso; omega) | (repeat (first | simp (disch := omega) only [↓qxs, ↓qxc, ↓qxa, ↓qxb] | refine p_call (nbi300 (by omega)) ?_ | refine p_call (nmi300 (by omega)) ?_ | refine p_call (rfi300 (by omega)) ?_ | refine p_call (nbi320 (by omega)) ?_ | refine p_call (nmi320 (by omega)) ?_ | refine p_call (unitC (by omega)) ?_ | refine p_call lives5 ?_ | refine p_call (nbo300 (by omega)) ?_ | refine p_call (nmo300 (by omega)) ?_ | refine p_call (rfo300 (by omega)) ?_))
theorem shN301 {a b v i : Int} (h : 0 ≤ a ∧ a ≤ 255 ∧ 0 ≤ b ∧ b ≤ 255 ∧ 3 = 1 + a % 5 ∧ v = 1 + b % 5) (hi : 0 ≤ i ∧ i < 4 * 3 * v ∧ i % 4 = 0) : Cc 3 [.i a, .i b, .i i, .i 1] [.b true] := by
  refine q3 rfl ?_; unfold p3
  simp (disch := omega) only [↓qxs, ↓qxc, ↓qxa, ↓qxb]
  refine p_call (ofW (w := 3) (v := v) (by omega)) ?_
  repeat (first | simp (disch := omega) only [↓qxs, ↓qxc, ↓qxa, ↓qxb] | refine p_call (nbi301 (by omega)) ?_ | refine p_call (nmi301 (by omega)) ?_ | refine p_call (rfi301 (by omega)) ?_ | refine p_call (nbi311 (by omega)) ?_ | refine p_call (nmi311 (by omega)) ?_ | refine p_call (unitC (by omega)) ?_ | refine p_call lives5 ?_)
theorem shN302 {a b v i : Int} (h : 0 ≤ a ∧ a ≤ 255 ∧ 0 ≤ b ∧ b ≤ 255 ∧ 3 = 1 + a % 5 ∧ v = 1 + b % 5) (hi : 0 ≤ i ∧ i < 4 * 3 * v ∧ i % 4 = 0) : Cc 3 [.i a, .i b, .i i, .i 2] [.b true] := by
  refine q3 rfl ?_; unfold p3
  simp (disch := omega) only [↓qxs, ↓qxc, ↓qxa, ↓qxb]
  refine p_call (ofW (w := 3) (v := v) (by omega)) ?_
  repeat (first | simp (disch := omega) only [↓qxs, ↓qxc, ↓qxa, ↓qxb] | refine p_call (nbi302 (by omega)) ?_ | refine p_call (nmi302 (by omega)) ?_ | refine p_call (rfi302 (by omega)) ?_ | refine p_call (nbi332 (by omega)) ?_ | refine p_call (nmi332 (by omega)) ?_ | refine p_call (unitC (by omega)) ?_ | refine p_call lives5 ?_)
theorem shN310 {a b v i : Int} (h : 0 ≤ a ∧ a ≤ 255 ∧ 0 ≤ b ∧ b ≤ 255 ∧ 3 = 1 + a % 5 ∧ v = 1 + b % 5) (hi : 0 ≤ i ∧ i < 4 * 3 * v ∧ i % 4 = 1) : Cc 3 [.i a, .i b, .i i, .i 0] [.b true] := by
  refine q3 rfl ?_; unfold p3
  simp (disch := omega) only [↓qxs, ↓qxc, ↓qxa, ↓qxb]
  refine p_call (ofW (w := 3) (v := v) (by omega)) ?_
  by_cases hc : i / 4 % 3 + 1 < 3
  all_goals first | (exfalso; omega) | (repeat (first | simp (disch := omega) only [↓qxs, ↓qxc, ↓qxa, ↓qxb] | refine p_call (nbi310 (by omega)) ?_ | refine p_call (nmi310 (by omega)) ?_ | refine p_call (rfi310 (by omega)) ?_ | refine p_call (nbi330 (by omega)) ?_ | refine p_call (nmi330 (by omega)) ?_ | refine p_call (unitC (by omega)) ?_ | refine p_call lives5 ?_ | refine p_call (nbo310 (by omega)) ?_ | refine p_call (nmo310 (by omega)) ?_ | refine p_call (rfo310 (by omega)) ?_))
theorem shN311 {a b v i : Int} (h : 0 ≤ a ∧ a ≤ 255 ∧ 0 ≤ b ∧ b ≤ 255 ∧ 3 = 1 + a % 5 ∧ v = 1 + b % 5) (hi : 0 ≤ i ∧ i < 4 * 3 * v ∧ i % 4 = 1) : Cc 3 [.i a, .i b, .i i, .i 1] [.b true] := by
  refine q3 rfl ?_; unfold p3
  simp (disch := omega) only [↓qxs, ↓qxc, ↓qxa, ↓qxb]
  refine p_call (ofW (w := 3) (v := v) (by omega)) ?_
  repeat (first | simp (disch := omega) only [↓qxs, ↓qxc, ↓qxa, ↓qxb] | refine p_call (nbi311 (by omega)) ?_ | refine p_call (nmi311 (by omega)) ?_ | refine p_call (rfi311 (by omega)) ?_ | refine p_call (nbi301 (by omega)) ?_ | refine p_call (nmi301 (by omega)) ?_ | refine p_call (unitC (by omega)) ?_ | refine p_call lives5 ?_)
theorem shN312 {a b v i : Int} (h : 0 ≤ a ∧ a ≤ 255 ∧ 0 ≤ b ∧ b ≤ 255 ∧ 3 = 1 + a % 5 ∧ v = 1 + b % 5) (hi : 0 ≤ i ∧ i < 4 * 3 * v ∧ i % 4 = 1) : Cc 3 [.i a, .i b, .i i, .i 2] [.b true] := by
  refine q3 rfl ?_; unfold p3
  simp (disch := omega) only [↓qxs, ↓qxc, ↓qxa, ↓qxb]
  refine p_call (ofW (w := 3) (v := v) (by omega)) ?_
  repeat (first | simp (disch := omega) only [↓qxs, ↓qxc, ↓qxa, ↓qxb] | refine p_call (nbi312 (by omega)) ?_ | refine p_call (nmi312 (by omega)) ?_ | refine p_call (rfi312 (by omega)) ?_ | refine p_call (nbi322 (by omega)) ?_ | refine p_call (nmi322 (by omega)) ?_ | refine p_call (unitC (by omega)) ?_ | refine p_call lives5 ?_)
theorem shN320 {a b v i : Int} (h : 0 ≤ a ∧ a ≤ 255 ∧ 0 ≤ b ∧ b ≤ 255 ∧ 3 = 1 + a % 5 ∧ v = 1 + b % 5) (hi : 0 ≤ i ∧ i < 4 * 3 * v ∧ i % 4 = 2) : Cc 3 [.i a, .i b, .i i, .i 0] [.b true] := by
  refine q3 rfl ?_; unfold p3
  simp (disch := omega) only [↓qxs, ↓qxc, ↓qxa, ↓qxb]
  refine p_call (ofW (w := 3) (v := v) (by omega)) ?_
  by_cases hc : i / 4 / 3 + 1 < v
  all_goals first | (exfalso; omega) | (repeat (first | simp (disch := omega) only [↓qxs, ↓qxc, ↓qxa, ↓qxb] | refine p_call (nbi320 (by omega)) ?_ | refine p_call (nmi320 (by omega)) ?_ | refine p_call (rfi320 (by omega)) ?_ | refine p_call (nbi300 (by omega)) ?_ | refine p_call (nmi300 (by omega)) ?_ | refine p_call (unitC (by omega)) ?_ | refine p_call lives5 ?_ | refine p_call (nbo320 (by omega)) ?_ | refine p_call (nmo320 (by omega)) ?_ | refine p_call (rfo320 (by omega)) ?_))
theorem shN321 {a b v i : Int} (h : 0 ≤ a ∧ a ≤ 255 ∧ 0 ≤ b ∧ b ≤ 255 ∧ 3 = 1 + a % 5 ∧ v = 1 + b % 5) (hi : 0 ≤ i ∧ i < 4 * 3 * v ∧ i % 4 = 2) : Cc 3 [.i a, .i b, .i i, .i 1] [.b true] := by
  refine q3 rfl ?_; unfold p3
  simp (disch := omega) only [↓qxs, ↓qxc, ↓qxa, ↓qxb]
  refine p_call (ofW (w := 3) (v := v) (by omega)) ?_
  repeat (first | simp (disch := omega) only [↓qxs, ↓qxc, ↓qxa, ↓qxb] | refine p_call (nbi321 (by omega)) ?_ | refine p_call (nmi321 (by omega)) ?_ | refine p_call (rfi321 (by omega)) ?_ | refine p_call (nbi331 (by omega)) ?_ | refine p_call (nmi331 (by omega)) ?_ | refine p_call (unitC (by omega)) ?_ | refine p_call lives5 ?_)
theorem shN322 {a b v i : Int} (h : 0 ≤ a ∧ a ≤ 255 ∧ 0 ≤ b ∧ b ≤ 255 ∧ 3 = 1 + a % 5 ∧ v = 1 + b % 5) (hi : 0 ≤ i ∧ i < 4 * 3 * v ∧ i % 4 = 2) : Cc 3 [.i a, .i b, .i i, .i 2] [.b true] := by
  refine q3 rfl ?_; unfold p3
  simp (disch := omega) only [↓qxs, ↓qxc, ↓qxa, ↓qxb]
  refine p_call (ofW (w := 3) (v := v) (by omega)) ?_
  repeat (first | simp (disch := omega) only [↓qxs, ↓qxc, ↓qxa, ↓qxb] | refine p_call (nbi322 (by omega)) ?_ | refine p_call (nmi322 (by omega)) ?_ | refine p_call (rfi322 (by omega)) ?_ | refine p_call (nbi312 (by omega)) ?_ | refine p_call (nmi312 (by omega)) ?_ | refine p_call (unitC (by omega)) ?_ | refine p_call lives5 ?_)
theorem shN330 {a b v i : Int} (h : 0 ≤ a ∧ a ≤ 255 ∧ 0 ≤ b ∧ b ≤ 255 ∧ 3 = 1 + a % 5 ∧ v = 1 + b % 5) (hi : 0 ≤ i ∧ i < 4 * 3 * v ∧ i % 4 = 3) : Cc 3 [.i a, .i b, .i i, .i 0] [.b true] := by
  refine q3 rfl ?_; unfold p3
  simp (disch := omega) only [↓qxs, ↓qxc, ↓qxa, ↓qxb]
  refine p_call (ofW (w := 3) (v := v) (by omega)) ?_
  by_cases hc : 1 ≤ i / 4 % 3
  all_goals first | (exfalso; omega) | (repeat (first | simp (disch := omega) only [↓qxs, ↓qxc, ↓qxa, ↓qxb] | refine p_call (nbi330 (by omega)) ?_ | refine p_call (nmi330 (by omega)) ?_ | refine p_call (rfi330 (by omega)) ?_ | refine p_call (nbi310 (by omega)) ?_ | refine p_call (nmi310 (by omega)) ?_ | refine p_call (unitC (by omega)) ?_ | refine p_call lives5 ?_ | refine p_call (nbo330 (by omega)) ?_ | refine p_call (nmo330 (by omega)) ?_ | refine p_call (rfo330 (by omega)) ?_))
theorem shN331 {a b v i : Int} (h : 0 ≤ a ∧ a ≤ 255 ∧ 0 ≤ b ∧ b ≤ 255 ∧ 3 = 1 + a % 5 ∧ v = 1 + b % 5) (hi : 0 ≤ i ∧ i < 4 * 3 * v ∧ i % 4 = 3) : Cc 3 [.i a, .i b, .i i, .i 1] [.b true] := by
  refine q3 rfl ?_; unfold p3
  simp (disch := omega) only [↓qxs, ↓qxc, ↓qxa, ↓qxb]
  refine p_call (ofW (w := 3) (v := v) (by omega)) ?_
  repeat (first | simp (disch := omega) only [↓qxs, ↓qxc, ↓qxa, ↓qxb] | refine p_call (nbi331 (by omega)) ?_ | refine p_call (nmi331 (by omega)) ?_ | refine p_call (rfi331 (by omega)) ?_ | refine p_call (nbi321 (by omega)) ?_ | refine p_call (nmi321 (by omega)) ?_ | refine p_call (unitC (by omega)) ?_ | refine p_call lives5 ?_)
theorem shN332 {a b v i : Int} (h : 0 ≤ a ∧ a ≤ 255 ∧ 0 ≤ b ∧ b ≤ 255 ∧ 3 = 1 + a % 5 ∧ v = 1 + b % 5) (hi : 0 ≤ i ∧ i < 4 * 3 * v ∧ i % 4 = 3) : Cc 3 [.i a, .i b, .i i, .i 2] [.b true] := by
  refine q3 rfl ?_; unfold p3
  simp (disch := omega) only [↓qxs, ↓qxc, ↓qxa, ↓qxb]
  refine p_call (ofW (w := 3) (v := v) (by omega)) ?_
  repeat (first | simp (disch := omega) only [↓qxs, ↓qxc, ↓qxa, ↓qxb] | refine p_call (nbi332 (by omega)) ?_ | refine p_call (nmi332 (by omega)) ?_ | refine p_call (rfi332 (by omega)) ?_ | refine p_call (nbi302 (by omega)) ?_ | refine p_call (nmi302 (by omega)) ?_ | refine p_call (unitC (by omega)) ?_ | refine p_call lives5 ?_)
theorem shN400 {a b v i : Int} (h : 0 ≤ a ∧ a ≤ 255 ∧ 0 ≤ b ∧ b ≤ 255 ∧ 4 = 1 + a % 5 ∧ v = 1 + b % 5) (hi : 0 ≤ i ∧ i < 4 * 4 * v ∧ i % 4 = 0) : Cc 3 [.i a, .i b, .i i, .i 0] [.b true] := by
  refine q3 rfl ?_; unfold p3
  simp (disch := omega) only [↓qxs, ↓qxc, ↓qxa, ↓qxb]
  refine p_call (ofW (w := 4) (v := v) (by omega)) ?_
  by_cases hc : 16 ≤ i
  all_goals first | (exfalso; omega) | (repeat (first | simp (disch := omega) only [↓qxs, ↓qxc, ↓qxa, ↓qxb] | refine p_call (nbi400 (by omega)) ?_ | refine p_call (nmi400 (by omega)) ?_ | refine p_call (rfi400 (by omega)) ?_ | refine p_call (nbi420 (by omega)) ?_ | refine p_call (nmi420 (by omega)) ?_ | refine p_call (unitC (by omega)) ?_ | refine p_call lives5 ?_ | refine p_call (nbo400 (by omega)) ?_ | refine p_call (nmo400 (by omega)) ?_ | refine p_call (rfo400 (by omega)) ?_))
theorem shN401 {a b v i : Int} (h : 0 ≤ a ∧ a ≤ 255 ∧ 0 ≤ b ∧ b ≤ 255 ∧ 4 = 1 + a % 5 ∧ v = 1 + b % 5) (hi : 0 ≤ i ∧ i < 4 * 4 * v ∧ i % 4 = 0) : Cc 3 [.i a, .i b, .i i, .i 1] [.b true] := by
  refine q3 rfl ?_; unfold p3
  simp (disch := omega) only [↓qxs, ↓qxc, ↓qxa, ↓qxb]
  refine p_call (ofW (w := 4) (v := v) (by omega)) ?_
  repeat (first | simp (disch := omega) only [↓qxs, ↓qxc, ↓qxa, ↓qxb] | refine p_call (nbi401 (by omega)) ?_ | refine p_call (nmi401 (by omega)) ?_ | refine p_call (rfi401 (by omega)) ?_ | refine p_call (nbi411 (by omega)) ?_ | refine p_call (nmi411 (by omega)) ?_ | refine p_call (unitC (by omega)) ?_ | refine p_call lives5 ?_)
theorem shN402 {a b v i : Int} (h : 0 ≤ a ∧ a ≤ 255 ∧ 0 ≤ b ∧ b ≤ 255 ∧ 4 = 1 + a % 5 ∧ v = 1 + b % 5) (hi : 0 ≤ i ∧ i < 4 * 4 * v ∧ i % 4 = 0) : Cc 3 [.i a, .i b, .i i, .i 2] [.b true] := by
  refine q3 rfl ?_; unfold p3
  simp (disch := omega) only [↓qxs, ↓qxc, ↓qxa, ↓qxb]
  refine p_call (ofW (w := 4) (v := v) (by omega)) ?_
  repeat (first | simp (disch := omega) only [↓qxs, ↓qxc, ↓qxa, ↓qxb] | refine p_call (nbi402 (by omega)) ?_ | refine p_call (nmi402 (by omega)) ?_ | refine p_call (rfi402 (by omega)) ?_ | refine p_call (nbi432 (by omega)) ?_ | refine p_call (nmi432 (by omega)) ?_ | refine p_call (unitC (by omega)) ?_ | refine p_call lives5 ?_)
theorem shN410 {a b v i : Int} (h : 0 ≤ a ∧ a ≤ 255 ∧ 0 ≤ b ∧ b ≤ 255 ∧ 4 = 1 + a % 5 ∧ v = 1 + b % 5) (hi : 0 ≤ i ∧ i < 4 * 4 * v ∧ i % 4 = 1) : Cc 3 [.i a, .i b, .i i, .i 0] [.b true] := by
  refine q3 rfl ?_; unfold p3
  simp (disch := omega) only [↓qxs, ↓qxc, ↓qxa, ↓qxb]
  refine p_call (ofW (w := 4) (v := v) (by omega)) ?_
  by_cases hc : i / 4 % 4 + 1 < 4
  all_goals first | (exfalso; omega) | (repeat (first | simp (disch := omega) only [↓qxs, ↓qxc, ↓qxa, ↓qxb] | refine p_call (nbi410 (by omega)) ?_ | refine p_call (nmi410 (by omega)) ?_ | refine p_call (rfi410 (by omega)) ?_ | refine p_call (nbi430 (by omega)) ?_ | refine p_call (nmi430 (by omega)) ?_ | refine p_call (unitC (by omega)) ?_ | refine p_call lives5 ?_ | refine p_call (nbo410 (by omega)) ?_ | refine p_call (nmo410 (by omega)) ?_ | refine p_call (rfo410 (by omega)) ?_))
theorem shN411 {a b v i : Int} (h : 0 ≤ a ∧ a ≤ 255 ∧ 0 ≤ b ∧ b ≤ 255 ∧ 4 = 1 + a % 5 ∧ v = 1 + b % 5) (hi : 0 ≤ i ∧ i < 4 * 4 * v ∧ i % 4 = 1) : Cc 3 [.i a, .i b, .i i, .i 1] [.b true] := by
  refine q3 rfl ?_; unfold p3
  simp (disch := omega) only [↓qxs, ↓qxc, ↓qxa, ↓qxb]
  refine p_call (ofW (w := 4) (v := v) (by omega)) ?_
  repeat (first | simp (disch := omega) only [↓qxs, ↓qxc, ↓qxa, ↓qxb] | refine p_call (nbi411 (by omega)) ?_ | refine p_call (nmi411 (by omega)) ?_ | refine p_call (rfi411 (by omega)) ?_ | refine p_call (nbi401 (by omega)) ?_ | refine p_call (nmi401 (by omega)) ?_ | refine p_call (unitC (by omega)) ?_ | refine p_call lives5 ?_)
theorem shN412 {a b v i : Int} (h : 0 ≤ a ∧ a ≤ 255 ∧ 0 ≤ b ∧ b ≤ 255 ∧ 4 = 1 + a % 5 ∧ v = 1 + b % 5) (hi : 0 ≤ i ∧ i < 4 * 4 * v ∧ i % 4 = 1) : Cc 3 [.i a, .i b, .i i, .i 2] [.b true] := by
  refine q3 rfl ?_; unfold p3
  simp (disch := omega) only [↓qxs, ↓qxc, ↓qxa, ↓qxb]
  refine p_call (ofW (w := 4) (v := v) (by omega)) ?_
  repeat (first | simp (disch := omega) only [↓qxs, ↓qxc, ↓qxa, ↓qxb] | refine p_call (nbi412 (by omega)) ?_ | refine p_call (nmi412 (by omega)) ?_ | refine p_call (rfi412 (by omega)) ?_ | refine p_call (nbi422 (by omega)) ?_ | refine p_call (nmi422 (by omega)) ?_ | refine p_call (unitC (by omega)) ?_ | refine p_call lives5 ?_)
theorem shN420 {a b v i : Int} (h : 0 ≤ a ∧ a ≤ 255 ∧ 0 ≤ b ∧ b ≤ 255 ∧ 4 = 1 + a % 5 ∧ v = 1 + b % 5) (hi : 0 ≤ i ∧ i < 4 * 4 * v ∧ i % 4 = 2) : Cc 3 [.i a, .i b, .i i, .i 0] [.b true] := by
  refine q3 rfl ?_; unfold p3
  simp (disch := omega) only [↓qxs, ↓qxc, ↓qxa, ↓qxb]
  refine p_call (ofW (w := 4) (v := v) (by omega)) ?_
  by_cases hc : i / 4 / 4 + 1 < v
  all_goals first | (exfalso; omega) | (repeat (first | simp (disch := omega) only [↓qxs, ↓qxc, ↓qxa, ↓qxb] | refine p_call (nbi420 (by omega)) ?_ | refine p_call (nmi420 (by omega)) ?_ | refine p_call (rfi420 (by omega)) ?_ | refine p_call (nbi400 (by omega)) ?_ | refine p_call (nmi400 (by omega)) ?_ | refine p_call (unitC (by omega)) ?_ | refine p_call lives5 ?_ | refine p_call (nbo420 (by omega)) ?_ | refine p_call (nmo420 (by omega)) ?_ | refine p_call (rfo420 (by omega)) ?_))
theorem shN421 {a b v i : Int} (h : 0 ≤ a ∧ a ≤ 255 ∧ 0 ≤ b ∧ b ≤ 255 ∧ 4 = 1 + a % 5 ∧ v = 1 + b % 5) (hi : 0 ≤ i ∧ i < 4 * 4 * v ∧ i % 4 = 2) : Cc 3 [.i a, .i b, .i i, .i 1] [.b true] := by
  refine q3 rfl ?_; unfold p3
  simp (disch := omega) only [↓qxs, ↓qxc, ↓qxa, ↓qxb]
  refine p_call (ofW (w := 4) (v := v) (by omega)) ?_
  repeat (first | simp (disch := omega) only [↓qxs, ↓qxc, ↓qxa, ↓qxb] | refine p_call (nbi421 (by omega)) ?_ | refine p_call (nmi421 (by omega)) ?_ | refine p_call (rfi421 (by omega)) ?_ | refine p_call (nbi431 (by omega)) ?_ | refine p_call (nmi431 (by omega)) ?_ | refine p_call (unitC (by omega)) ?_ | refine p_call lives5 ?_)
theorem shN422 {a b v i : Int} (h : 0 ≤ a ∧ a ≤ 255 ∧ 0 ≤ b ∧ b ≤ 255 ∧ 4 = 1 + a % 5 ∧ v = 1 + b % 5) (hi : 0 ≤ i ∧ i < 4 * 4 * v ∧ i % 4 = 2) : Cc 3 [.i a, .i b, .i i, .i 2] [.b true] := by
  refine q3 rfl ?_; unfold p3
  simp (disch := omega) only [↓qxs, ↓qxc, ↓qxa, ↓qxb]
  refine p_call (ofW (w := 4) (v := v) (by omega)) ?_
  repeat (first | simp (disch := omega) only [↓qxs, ↓qxc, ↓qxa, ↓qxb] | refine p_call (nbi422 (by omega)) ?_ | refine p_call (nmi422 (by omega)) ?_ | refine p_call (rfi422 (by omega)) ?_ | refine p_call (nbi412 (by omega)) ?_ | refine p_call (nmi412 (by omega)) ?_ | refine p_call (unitC (by omega)) ?_ | refine p_call lives5 ?_)
theorem shN430 {a b v i : Int} (h : 0 ≤ a ∧ a ≤ 255 ∧ 0 ≤ b ∧ b ≤ 255 ∧ 4 = 1 + a % 5 ∧ v = 1 + b % 5) (hi : 0 ≤ i ∧ i < 4 * 4 * v ∧ i % 4 = 3) : Cc 3 [.i a, .i b, .i i, .i 0] [.b true] := by
  refine q3 rfl ?_; unfold p3
  simp (disch := omega) only [↓qxs, ↓qxc, ↓qxa, ↓qxb]
  refine p_call (ofW (w := 4) (v := v) (by omega)) ?_
  by_cases hc : 1 ≤ i / 4 % 4
  all_goals first | (exfalso; omega) | (repeat (first | simp (disch := omega) only [↓qxs, ↓qxc, ↓qxa, ↓qxb] | refine p_call (nbi430 (by omega)) ?_ | refine p_call (nmi430 (by omega)) ?_ | refine p_call (rfi430 (by omega)) ?_ | refine p_call (nbi410 (by omega)) ?_ | refine p_call (nmi410 (by omega)) ?_ | refine p_call (unitC (by omega)) ?_ | refine p_call lives5 ?_ | refine p_call (nbo430 (by omega)) ?_ | refine p_call (nmo430 (by omega)) ?_ | refine p_call (rfo430 (by omega)) ?_))
theorem shN431 {a b v i : Int} (h : 0 ≤ a ∧ a ≤ 255 ∧ 0 ≤ b ∧ b ≤ 255 ∧ 4 = 1 + a % 5 ∧ v = 1 + b % 5) (hi : 0 ≤ i ∧ i < 4 * 4 * v ∧ i % 4 = 3) : Cc 3 [.i a, .i b, .i i, .i 1] [.b true] := by
  refine q3 rfl ?_; unfold p3
  simp (disch := omega) only [↓qxs, ↓qxc, ↓qxa, ↓qxb]
  refine p_call (ofW (w := 4) (v := v) (by omega)) ?_
  repeat (first | simp (disch := omega) only [↓qxs, ↓qxc, ↓qxa, ↓qxb] | refine p_call (nbi431 (by omega)) ?_ | refine p_call (nmi431 (by omega)) ?_ | refine p_call (rfi431 (by omega)) ?_ | refine p_call (nbi421 (by omega)) ?_ | refine p_call (nmi421 (by omega)) ?_ | refine p_call (unitC (by omega)) ?_ | refine p_call lives5 ?_)
theorem shN432 {a b v i : Int} (h : 0 ≤ a ∧ a ≤ 255 ∧ 0 ≤ b ∧ b ≤ 255 ∧ 4 = 1 + a % 5 ∧ v = 1 + b % 5) (hi : 0 ≤ i ∧ i < 4 * 4 * v ∧ i % 4 = 3) : Cc 3 [.i a, .i b, .i i, .i 2] [.b true] := by
  refine q3 rfl ?_; unfold p3
  simp (disch := omega) only [↓qxs, ↓qxc, ↓qxa, ↓qxb]
  refine p_call (ofW (w := 4) (v := v) (by omega)) ?_
  repeat (first | simp (disch := omega) only [↓qxs, ↓qxc, ↓qxa, ↓qxb] | refine p_call (nbi432 (by omega)) ?_ | refine p_call (nmi432 (by omega)) ?_ | refine p_call (rfi432 (by omega)) ?_ | refine p_call (nbi402 (by omega)) ?_ | refine p_call (nmi402 (by omega)) ?_ | refine p_call (unitC (by omega)) ?_ | refine p_call lives5 ?_)
theorem shN500 {a b v i : Int} (h : 0 ≤ a ∧ a ≤ 255 ∧ 0 ≤ b ∧ b ≤ 255 ∧ 5 = 1 + a % 5 ∧ v = 1 + b % 5) (hi : 0 ≤ i ∧ i < 4 * 5 * v ∧ i % 4 = 0) : Cc 3 [.i a, .i b, .i i, .i 0] [.b true] := by
  refine q3 rfl ?_; unfold p3
  simp (disch := omega) only [↓qxs, ↓qxc, ↓qxa, ↓qxb]
  refine p_call (ofW (w := 5) (v := v) (by omega)) ?_
  by_cases hc : 20 ≤ i
  all_goals first | (exfalso; omega) | (repeat (first | simp (disch := omega) only [↓qxs, ↓qxc, ↓qxa, ↓qxb] | refine p_call (nbi500 (by omega)) ?_ | refine p_call (nmi500 (by omega)) ?_ | refine p_call (rfi500 (by omega)) ?_ | refine p_call (nbi520 (by omega)) ?_ | refine p_call (nmi520 (by omega)) ?_ | refine p_call (unitC (by omega)) ?_ | refine p_call lives5 ?_ | refine p_call (nbo500 (by omega)) ?_ | refine p_call (nmo500 (by omega)) ?_ | refine p_call (rfo500 (by omega)) ?_))
theorem shN501 {a b v i : Int} (h : 0 ≤ a ∧ a ≤ 255 ∧ 0 ≤ b ∧ b ≤ 255 ∧ 5 = 1 + a % 5 ∧ v = 1 + b % 5) (hi : 0 ≤ i ∧ i < 4 * 5 * v ∧ i % 4 = 0) : Cc 3 [.i a, .i b, .i i, .i 1] [.b true] := by
  refine q3 rfl ?_; unfold p3
  simp (disch := omega) only [↓qxs, ↓qxc, ↓qxa, ↓qxb]
  refine p_call (ofW (w := 5) (v := v) (by omega)) ?_
  repeat (first | simp (disch := omega) only [↓qxs, ↓qxc, ↓qxa, ↓qxb] | refine p_call (nbi501 (by omega)) ?_ | refine p_call (nmi501 (by omega)) ?_ | refine p_call (rfi501 (by omega)) ?_ | refine p_call (nbi511 (by omega)) ?_ | refine p_call (nmi511 (by omega)) ?_ | refine p_call (unitC (by omega)) ?_ | refine p_call lives5 ?_)
theorem shN502 {a b v i : Int} (h : 0 ≤ a ∧ a ≤ 255 ∧ 0 ≤ b ∧ b ≤ 255 ∧ 5 = 1 + a % 5 ∧ v = 1 + b % 5) (hi : 0 ≤ i ∧ i < 4 * 5 * v ∧ i % 4 = 0) : Cc 3 [.i a, .i b, .i i, .i 2] [.b true] := by
  refine q3 rfl ?_; unfold p3
  simp (disch := omega) only [↓qxs, ↓qxc, ↓qxa, ↓qxb]
  refine p_call (ofW (w := 5) (v := v) (by omega)) ?_
  repeat (first | simp (disch := omega) only [↓qxs, ↓qxc, ↓qxa, ↓qxb] | refine p_call (nbi502 (by omega)) ?_ | refine p_call (nmi502 (by omega)) ?_ | refine p_call (rfi502 (by omega)) ?_ | refine p_call (nbi532 (by omega)) ?_ | refine p_call (nmi532 (by omega)) ?_ | refine p_call (unitC (by omega)) ?_ | refine p_call lives5 ?_)
theorem shN510 {a b v i : Int} (h : 0 ≤ a ∧ a ≤ 255 ∧ 0 ≤ b ∧ b ≤ 255 ∧ 5 = 1 + a % 5 ∧ v = 1 + b % 5) (hi : 0 ≤ i ∧ i < 4 * 5 * v ∧ i % 4 = 1) : Cc 3 [.i a, .i b, .i i, .i 0] [.b true] := by
  refine q3 rfl ?_; unfold p3
  simp (disch := omega) only [↓qxs, ↓qxc, ↓qxa, ↓qxb]
  refine p_call (ofW (w := 5) (v := v) (by omega)) ?_
  by_cases hc : i / 4 % 5 + 1 < 5
  all_goals first | (exfalso; omega) | (repeat (first | simp (disch := omega) only [↓qxs, ↓qxc, ↓qxa, ↓qxb] | refine p_call (nbi510 (by omega)) ?_ | refine p_call (nmi510 (by omega)) ?_ | refine p_call (rfi510 (by omega)) ?_ | refine p_call (nbi530 (by omega)) ?_ | refine p_call (nmi530 (by omega)) ?_ | refine p_call (unitC (by omega)) ?_ | refine p_call lives5 ?_ | refine p_call (nbo510 (by omega)) ?_ | refine p_call (nmo510 (by omega)) ?_ | refine p_call (rfo510 (by omega)) ?_))
theorem shN511 {a b v i : Int} (h : 0 ≤ a ∧ a ≤ 255 ∧ 0 ≤ b ∧ b ≤ 255 ∧ 5 = 1 + a % 5 ∧ v = 1 + b % 5) (hi : 0 ≤ i ∧ i < 4 * 5 * v ∧ i % 4 = 1) : Cc 3 [.i a, .i b, .i i, .i 1] [.b true] := by
  refine q3 rfl ?_; unfold p3
  simp (disch := omega) only [↓qxs, ↓qxc, ↓qxa, ↓qxb]
  refine p_call (ofW (w := 5) (v := v) (by omega)) ?_
  repeat (first | simp (disch := omega) only [↓qxs, ↓qxc, ↓qxa, ↓qxb] | refine p_call (nbi511 (by omega)) ?_ | refine p_call (nmi511 (by omega)) ?_ | refine p_call (rfi511 (by omega)) ?_ | refine p_call (nbi501 (by omega)) ?_ | refine p_call (nmi501 (by omega)) ?_ | refine p_call (unitC (by omega)) ?_ | refine p_call lives5 ?_)
theorem shN512 {a b v i : Int} (h : 0 ≤ a ∧ a ≤ 255 ∧ 0 ≤ b ∧ b ≤ 255 ∧ 5 = 1 + a % 5 ∧ v = 1 + b % 5) (hi : 0 ≤ i ∧ i < 4 * 5 * v ∧ i % 4 = 1) : Cc 3 [.i a, .i b, .i i, .i 2] [.b true] := by
  refine q3 rfl ?_; unfold p3
  simp (disch := omega) only [↓qxs, ↓qxc, ↓qxa, ↓qxb]
  refine p_call (ofW (w := 5) (v := v) (by omega)) ?_
  repeat (first | simp (disch := omega) only [↓qxs, ↓qxc, ↓qxa, ↓qxb] | refine p_call (nbi512 (by omega)) ?_ | refine p_call (nmi512 (by omega)) ?_ | refine p_call (rfi512 (by omega)) ?_ | refine p_call (nbi522 (by omega)) ?_ | refine p_call (nmi522 (by omega)) ?_ | refine p_call (unitC (by omega)) ?_ | refine p_call lives5 ?_)
theorem shN520 {a b v i : Int} (h : 0 ≤ a ∧ a ≤ 255 ∧ 0 ≤ b ∧ b ≤ 255 ∧ 5 = 1 + a % 5 ∧ v = 1 + b % 5) (hi : 0 ≤ i ∧ i < 4 * 5 * v ∧ i % 4 = 2) : Cc 3 [.i a, .i b, .i i, .i 0] [.b true] := by
  refine q3 rfl ?_; unfold p3
  simp (disch := omega) only [↓qxs, ↓qxc, ↓qxa, ↓qxb]
  refine p_call (ofW (w := 5) (v := v) (by omega)) ?_
  by_cases hc : i / 4 / 5 + 1 < v
  all_goals first | (exfalso; omega) | (repeat (first | simp (disch := omega) only [↓qxs, ↓qxc, ↓qxa, ↓qxb] | refine p_call (nbi520 (by omega)) ?_ | refine p_call (nmi520 (by omega)) ?_ | refine p_call (rfi520 (by omega)) ?_ | refine p_call (nbi500 (by omega)) ?_ | refine p_call (nmi500 (by omega)) ?_ | refine p_call (unitC (by omega)) ?_ | refine p_call lives5 ?_ | refine p_call (nbo520 (by omega)) ?_ | refine p_call (nmo520 (by omega)) ?_ | refine p_call (rfo520 (by omega)) ?_))
theorem shN521 {a b v i : Int} (h : 0 ≤ a ∧ a ≤ 255 ∧ 0 ≤ b ∧ b ≤ 255 ∧ 5 = 1 + a % 5 ∧ v = 1 + b % 5) (hi : 0 ≤ i ∧ i < 4 * 5 * v ∧ i % 4 = 2) : Cc 3 [.i a, .i b, .i i, .i 1] [.b true] := by
  refine q3 rfl ?_; unfold p3
  simp (disch := omega) only [↓qxs, ↓qxc, ↓qxa, ↓qxb]
  refine p_call (ofW (w := 5) (v := v) (by omega)) ?_
  repeat (first | simp (disch := omega) only [↓qxs, ↓qxc, ↓qxa, ↓qxb] | refine p_call (nbi521 (by omega)) ?_ | refine p_call (nmi521 (by omega)) ?_ | refine p_call (rfi521 (by omega)) ?_ | refine p_call (nbi531 (by omega)) ?_ | refine p_call (nmi531 (by omega)) ?_ | refine p_call (unitC (by omega)) ?_ | refine p_call lives5 ?_)
theorem shN522 {a b v i : Int} (h : 0 ≤ a ∧ a ≤ 255 ∧ 0 ≤ b ∧ b ≤ 255 ∧ 5 = 1 + a % 5 ∧ v = 1 + b % 5) (hi : 0 ≤ i ∧ i < 4 * 5 * v ∧ i % 4 = 2) : Cc 3 [.i a, .i b, .i i, .i 2] [.b true] := by
  refine q3 rfl ?_; unfold p3
  simp (disch := omega) only [↓qxs, ↓qxc, ↓qxa, ↓qxb]
  refine p_call (ofW (w := 5) (v := v) (by omega)) ?_
  repeat (first | simp (disch := omega) only [↓qxs, ↓qxc, ↓qxa, ↓qxb] | refine p_call (nbi522 (by omega)) ?_ | refine p_call (nmi522 (by omega)) ?_ | refine p_call (rfi522 (by omega)) ?_ | refine p_call (nbi512 (by omega)) ?_ | refine p_call (nmi512 (by omega)) ?_ | refine p_call (unitC (by omega)) ?_ | refine p_call lives5 ?_)
theorem shN530 {a b v i : Int} (h : 0 ≤ a ∧ a ≤ 255 ∧ 0 ≤ b ∧ b ≤ 255 ∧ 5 = 1 + a % 5 ∧ v = 1 + b % 5) (hi : 0 ≤ i ∧ i < 4 * 5 * v ∧ i % 4 = 3) : Cc 3 [.i a, .i b, .i i, .i 0] [.b true] := by
  refine q3 rfl ?_; unfold p3
  simp (disch := omega) only [↓qxs, ↓qxc, ↓qxa, ↓qxb]
  refine p_call (ofW (w := 5) (v := v) (by omega)) ?_
  by_cases hc : 1 ≤ i / 4 % 5
  all_goals first | (exfalso; omega) | (repeat (first | simp (disch := omega) only [↓qxs, ↓qxc, ↓qxa, ↓qxb] | refine p_call (nbi530 (by omega)) ?_ | refine p_call (nmi530 (by omega)) ?_ | refine p_call (rfi530 (by omega)) ?_ | refine p_call (nbi510 (by omega)) ?_ | refine p_call (nmi510 (by omega)) ?_ | refine p_call (unitC (by omega)) ?_ | refine p_call lives5 ?_ | refine p_call (nbo530 (by omega)) ?_ | refine p_call (nmo530 (by omega)) ?_ | refine p_call (rfo530 (by omega)) ?_))
theorem shN531 {a b v i : Int} (h : 0 ≤ a ∧ a ≤ 255 ∧ 0 ≤ b ∧ b ≤ 255 ∧ 5 = 1 + a % 5 ∧ v = 1 + b % 5) (hi : 0 ≤ i ∧ i < 4 * 5 * v ∧ i % 4 = 3) : Cc 3 [.i a, .i b, .i i, .i 1] [.b true] := by
  refine q3 rfl ?_; unfold p3
  simp (disch := omega) only [↓qxs, ↓qxc, ↓qxa, ↓qxb]
  refine p_call (ofW (w := 5) (v := v) (by omega)) ?_
  repeat (first | simp (disch := omega) only [↓qxs, ↓qxc, ↓qxa, ↓qxb] | refine p_call (nbi531 (by omega)) ?_ | refine p_call (nmi531 (by omega)) ?_ | refine p_call (rfi531 (by omega)) ?_ | refine p_call (nbi521 (by omega)) ?_ | refine p_call (nmi521 (by omega)) ?_ | refine p_call (unitC (by omega)) ?_ | refine p_call lives5 ?_)
theorem shN532 {a b v i : Int} (h : 0 ≤ a ∧ a ≤ 255 ∧ 0 ≤ b ∧ b ≤ 255 ∧ 5 = 1 + a % 5 ∧ v = 1 + b % 5) (hi : 0 ≤ i ∧ i < 4 * 5 * v ∧ i % 4 = 3) : Cc 3 [.i a, .i b, .i i, .i 2] [.b true] := by
  refine q3 rfl ?_; unfold p3
  simp (disch := omega) only [↓qxs, ↓qxc, ↓qxa, ↓qxb]
  refine p_call (ofW (w := 5) (v := v) (by omega)) ?_
  repeat (first | simp (disch := omega) only [↓qxs, ↓qxc, ↓qxa, ↓qxb] | refine p_call (nbi532 (by omega)) ?_ | refine p_call (nmi532 (by omega)) ?_ | refine p_call (rfi532 (by omega)) ?_ | refine p_call (nbi502 (by omega)) ?_ | refine p_call (nmi502 (by omega)) ?_ | refine p_call (unitC (by omega)) ?_ | refine p_call lives5 ?_)
theorem shNW1 {a b v i e : Int} (h : 0 ≤ a ∧ a ≤ 255 ∧ 0 ≤ b ∧ b ≤ 255 ∧ 1 = 1 + a % 5 ∧ v = 1 + b % 5) (hb : -9223372036854775808 ≤ i ∧ i ≤ 9223372036854775807 ∧ 0 ≤ e ∧ e ≤ 255) : Cc 3 [.i a, .i b, .i i, .i e] [.b true] := by
  by_cases hi : 0 ≤ i ∧ i < 4 * 1 * v ∧ e ≤ 2
  · obtain rfl | rfl | rfl : e = 0 ∨ e = 1 ∨ e = 2 := by omega
    all_goals (obtain hq | hq | hq | hq : i % 4 = 0 ∨ i % 4 = 1 ∨ i % 4 = 2 ∨ i % 4 = 3 := by omega)
    · exact shN100 h (by omega)
    · exact shN110 h (by omega)
    · exact shN120 h (by omega)
    · exact shN130 h (by omega)
    · exact shN101 h (by omega)
    · exact shN111 h (by omega)
    · exact shN121 h (by omega)
    · exact shN131 h (by omega)
    · exact shN102 h (by omega)
    · exact shN112 h (by omega)
    · exact shN122 h (by omega)
    · exact shN132 h (by omega)
  · refine q3 rfl ?_; unfold p3
    simp (disch := omega) only [↓qxs, ↓qxc, ↓qxa, ↓qxb]
    refine p_call (ofW (w := 1) (v := v) (by omega)) ?_
    by_cases h0 : 0 ≤ i
    · by_cases h1 : i < 4 * 1 * v
      · repeat (first | simp (disch := omega) only [↓qxs, ↓qxc, ↓qxa, ↓qxb] | refine p_call (shNb_none (by omega)) ?_ | refine p_call (shNb_arg (by omega)) ?_ | refine p_call (shName_none (by omega)) ?_ | refine p_call (shName_arg (by omega)) ?_ | refine p_call lives5 ?_)
      · repeat (first | simp (disch := omega) only [↓qxs, ↓qxc, ↓qxa, ↓qxb] | refine p_call (shNb_none (by omega)) ?_ | refine p_call (shNb_arg (by omega)) ?_ | refine p_call (shName_none (by omega)) ?_ | refine p_call (shName_arg (by omega)) ?_ | refine p_call lives5 ?_)
    · repeat (first | simp (disch := omega) only [↓qxs, ↓qxc, ↓qxa, ↓qxb] | refine p_call (shNb_none (by omega)) ?_ | refine p_call (shNb_arg (by omega)) ?_ | refine p_call (shName_none (by omega)) ?_ | refine p_call (shName_arg (by omega)) ?_ | refine p_call lives5 ?_)
theorem shNW2 {a b v i e : Int} (h : 0 ≤ a ∧ a ≤ 255 ∧ 0 ≤ b ∧ b ≤ 255 ∧ 2 = 1 + a % 5 ∧ v = 1 + b % 5) (hb : -9223372036854775808 ≤ i ∧ i ≤ 9223372036854775807 ∧ 0 ≤ e ∧ e ≤ 255) : Cc 3 [.i a, .i b, .i i, .i e] [.b true] := by
  by_cases hi : 0 ≤ i ∧ i < 4 * 2 * v ∧ e ≤ 2
  · obtain rfl | rfl | rfl : e = 0 ∨ e = 1 ∨ e = 2 := by omega
    all_goals (obtain hq | hq | hq | hq : i % 4 = 0 ∨ i % 4 = 1 ∨ i % 4 = 2 ∨ i % 4 = 3 := by omega)
    · exact shN200 h (by omega)
    · exact shN210 h (by omega)
    · exact shN220 h (by omega)
    · exact shN230 h (by omega)
    · exact shN201 h (by omega)
    · exact shN211 h (by omega)
    · exact shN221 h (by omega)
    · exact shN231 h (by omega)
    · exact shN202 h (by omega)
    · exact shN212 h (by omega)
    · exact shN222 h (by omega)
    · exact shN232 h (by omega)
  · refine q3 rfl ?_; unfold p3
    simp (disch := omega) only [↓qxs, ↓qxc, ↓qxa, ↓qxb]
    refine p_call (ofW (w := 2) (v := v) (by omega)) ?_
    by_cases h0 : 0 ≤ i
    · by_cases h1 : i < 4 * 2 * v
      · repeat (first | simp (disch := omega) only [↓qxs, ↓qxc, ↓qxa, ↓qxb] | refine p_call (shNb_none (by omega)) ?_ | refine p_call (shNb_arg (by omega)) ?_ | refine p_call (shName_none (by omega)) ?_ | refine p_call (shName_arg (by omega)) ?_ | refine p_call lives5 ?_)
      · repeat (first | simp (disch := omega) only [↓qxs, ↓qxc, ↓qxa, ↓qxb] | refine p_call (shNb_none (by omega)) ?_ | refine p_call (shNb_arg (by omega)) ?_ | refine p_call (shName_none (by omega)) ?_ | refine p_call (shName_arg (by omega)) ?_ | refine p_call lives5 ?_)
    · repeat (first | simp (disch := omega) only [↓qxs, ↓qxc, ↓qxa, ↓qxb] | refine p_call (shNb_none (by omega)) ?_ | refine p_call (shNb_arg (by omega)) ?_ | refine p_call (shName_none (by omega)) ?_ | refine p_call (shName_arg (by omega)) ?_ | refine p_call lives5 ?_)
theorem shNW3 {a b v i e : Int} (h : 0 ≤ a ∧ a ≤ 255 ∧ 0 ≤ b ∧ b ≤ 255 ∧ 3 = 1 + a % 5 ∧ v = 1 + b % 5) (hb : -9223372036854775808 ≤ i ∧ i ≤ 9223372036854775807 ∧ 0 ≤ e ∧ e ≤ 255) : Cc 3 [.i a, .i b, .i i, .i e] [.b true] := by
  by_cases hi : 0 ≤ i ∧ i < 4 * 3 * v ∧ e ≤ 2
  · obtain rfl | rfl | rfl : e = 0 ∨ e = 1 ∨ e = 2 := by omega
    all_goals (obtain hq | hq | hq | hq : i % 4 = 0 ∨ i % 4 = 1 ∨ i % 4 = 2 ∨ i % 4 = 3 := by omega)
    · exact shN300 h (by omega)
    · exact shN310 h (by omega)
    · exact shN320 h (by omega)
    · exact shN330 h (by omega)
    · exact shN301 h (by omega)
    · exact shN311 h (by omega)
    · exact shN321 h (by omega)
    · exact shN331 h (by omega)
    · exact shN302 h (by omega)
    · exact shN312 h (by omega)
    · exact shN322 h (by omega)
    · exact shN332 h (by omega)
  · refine q3 rfl ?_; unfold p3
    simp (disch := omega) only [↓qxs, ↓qxc, ↓qxa, ↓qxb]
    refine p_call (ofW (w := 3) (v := v) (by omega)) ?_
    by_cases h0 : 0 ≤ i
    · by_cases h1 : i < 4 * 3 * v
      · repeat (first | simp (disch := omega) only [↓qxs, ↓qxc, ↓qxa, ↓qxb] | refine p_call (shNb_none (by omega)) ?_ | refine p_call (shNb_arg (by omega)) ?_ | refine p_call (shName_none (by omega)) ?_ | refine p_call (shName_arg (by omega)) ?_ | refine p_call lives5 ?_)
      · repeat (first | simp (disch := omega) only [↓qxs, ↓qxc, ↓qxa, ↓qxb] | refine p_call (shNb_none (by omega)) ?_ | refine p_call (shNb_arg (by omega)) ?_ | refine p_call (shName_none (by omega)) ?_ | refine p_call (shName_arg (by omega)) ?_ | refine p_call lives5 ?_)
    · repeat (first | simp (disch := omega) only [↓qxs, ↓qxc, ↓qxa, ↓qxb] | refine p_call (shNb_none (by omega)) ?_ | refine p_call (shNb_arg (by omega)) ?_ | refine p_call (shName_none (by omega)) ?_ | refine p_call (shName_arg (by omega)) ?_ | refine p_call lives5 ?_)
theorem shNW4 {a b v i e : Int} (h : 0 ≤ a ∧ a ≤ 255 ∧ 0 ≤ b ∧ b ≤ 255 ∧ 4 = 1 + a % 5 ∧ v = 1 + b % 5) (hb : -9223372036854775808 ≤ i ∧ i ≤ 9223372036854775807 ∧ 0 ≤ e ∧ e ≤ 255) : Cc 3 [.i a, .i b, .i i, .i e] [.b true] := by
  by_cases hi : 0 ≤ i ∧ i < 4 * 4 * v ∧ e ≤ 2
  · obtain rfl | rfl | rfl : e = 0 ∨ e = 1 ∨ e = 2 := by omega
    all_goals (obtain hq | hq | hq | hq : i % 4 = 0 ∨ i % 4 = 1 ∨ i % 4 = 2 ∨ i % 4 = 3 := by omega)
    · exact shN400 h (by omega)
    · exact shN410 h (by omega)
    · exact shN420 h (by omega)
    · exact shN430 h (by omega)
    · exact shN401 h (by omega)
    · exact shN411 h (by omega)
    · exact shN421 h (by omega)
    · exact shN431 h (by omega)
    · exact shN402 h (by omega)
    · exact shN412 h (by omega)
    · exact shN422 h (by omega)
    · exact shN432 h (by omega)
  · refine q3 rfl ?_; unfold p3
    simp (disch := omega) only [↓qxs, ↓qxc, ↓qxa, ↓qxb]
    refine p_call (ofW (w := 4) (v := v) (by omega)) ?_
    by_cases h0 : 0 ≤ i
    · by_cases h1 : i < 4 * 4 * v
      · repeat (first | simp (disch := omega) only [↓qxs, ↓qxc, ↓qxa, ↓qxb] | refine p_call (shNb_none (by omega)) ?_ | refine p_call (shNb_arg (by omega)) ?_ | refine p_call (shName_none (by omega)) ?_ | refine p_call (shName_arg (by omega)) ?_ | refine p_call lives5 ?_)
      · repeat (first | simp (disch := omega) only [↓qxs, ↓qxc, ↓qxa, ↓qxb] | refine p_call (shNb_none (by omega)) ?_ | refine p_call (shNb_arg (by omega)) ?_ | refine p_call (shName_none (by omega)) ?_ | refine p_call (shName_arg (by omega)) ?_ | refine p_call lives5 ?_)
    · repeat (first | simp (disch := omega) only [↓qxs, ↓qxc, ↓qxa, ↓qxb] | refine p_call (shNb_none (by omega)) ?_ | refine p_call (shNb_arg (by omega)) ?_ | refine p_call (shName_none (by omega)) ?_ | refine p_call (shName_arg (by omega)) ?_ | refine p_call lives5 ?_)
theorem shNW5 {a b v i e : Int} (h : 0 ≤ a ∧ a ≤ 255 ∧ 0 ≤ b ∧ b ≤ 255 ∧ 5 = 1 + a % 5 ∧ v = 1 + b % 5) (hb : -9223372036854775808 ≤ i ∧ i ≤ 9223372036854775807 ∧ 0 ≤ e ∧ e ≤ 255) : Cc 3 [.i a, .i b, .i i, .i e] [.b true] := by
  by_cases hi : 0 ≤ i ∧ i < 4 * 5 * v ∧ e ≤ 2
  · obtain rfl | rfl | rfl : e = 0 ∨ e = 1 ∨ e = 2 := by omega
    all_goals (obtain hq | hq | hq | hq : i % 4 = 0 ∨ i % 4 = 1 ∨ i % 4 = 2 ∨ i % 4 = 3 := by omega)
    · exact shN500 h (by omega)
    · exact shN510 h (by omega)
    · exact shN520 h (by omega)
    · exact shN530 h (by omega)
    · exact shN501 h (by omega)
    · exact shN511 h (by omega)
    · exact shN521 h (by omega)
    · exact shN531 h (by omega)
    · exact shN502 h (by omega)
    · exact shN512 h (by omega)
    · exact shN522 h (by omega)
    · exact shN532 h (by omega)
  · refine q3 rfl ?_; unfold p3
    simp (disch := omega) only [↓qxs, ↓qxc, ↓qxa, ↓qxb]
    refine p_call (ofW (w := 5) (v := v) (by omega)) ?_
    by_cases h0 : 0 ≤ i
    · by_cases h1 : i < 4 * 5 * v
      · repeat (first | simp (disch := omega) only [↓qxs, ↓qxc, ↓qxa, ↓qxb] | refine p_call (shNb_none (by omega)) ?_ | refine p_call (shNb_arg (by omega)) ?_ | refine p_call (shName_none (by omega)) ?_ | refine p_call (shName_arg (by omega)) ?_ | refine p_call lives5 ?_)
      · repeat (first | simp (disch := omega) only [↓qxs, ↓qxc, ↓qxa, ↓qxb] | refine p_call (shNb_none (by omega)) ?_ | refine p_call (shNb_arg (by omega)) ?_ | refine p_call (shName_none (by omega)) ?_ | refine p_call (shName_arg (by omega)) ?_ | refine p_call lives5 ?_)
    · repeat (first | simp (disch := omega) only [↓qxs, ↓qxc, ↓qxa, ↓qxb] | refine p_call (shNb_none (by omega)) ?_ | refine p_call (shNb_arg (by omega)) ?_ | refine p_call (shName_none (by omega)) ?_ | refine p_call (shName_arg (by omega)) ?_ | refine p_call lives5 ?_)
theorem sheetsNeighbour_any {a b i e : Int} (h : 0 ≤ a ∧ a ≤ 255 ∧ 0 ≤ b ∧ b ≤ 255 ∧ -9223372036854775808 ≤ i ∧ i ≤ 9223372036854775807 ∧ 0 ≤ e ∧ e ≤ 255) : Cc 3 [.i a, .i b, .i i, .i e] [.b true] := by
  obtain ⟨v, hv⟩ : ∃ v, v = 1 + b % 5 := ⟨_, rfl⟩
  obtain hw | hw | hw | hw | hw : 1 = 1 + a % 5 ∨ 2 = 1 + a % 5 ∨ 3 = 1 + a % 5 ∨ 4 = 1 + a % 5 ∨ 5 = 1 + a % 5 := by omega
  · exact shNW1 (v := v) (by omega) (by omega)
  · exact shNW2 (v := v) (by omega) (by omega)
  · exact shNW3 (v := v) (by omega) (by omega)
  · exact shNW4 (v := v) (by omega) (by omega)
  · exact shNW5 (v := v) (by omega) (by omega)
end Go.Am

/-
  WHAT THE ROW SAYS OF THE LISTED VARIABLES: the table of the quarters.
-/
set_option maxRecDepth 100000
namespace Go.Proofs.YtdngmncaohgacaaDoor
open Go Go.Am Go.Am.Sx
open Go.ChangeShapes Go.WideShapes Go.ChangeAt Go.WideMaps Go.WideElems Go.RowKit

abbrev laidC : List (String × DataW Unit) := [("crimp/cells.quarters", Rows.laid_crimp_cells_quarters)]
theorem name0 : Tryd.prog.globalNamed "crimp/cells.quarters" = some 0 := by kernel_rfl
/-- What the list gives. -/
theorem of_laid {W : World} (h : laidMetH Tryd.prog laidC W) (g : Nat) (vs : List Value) (hg : cc.G g = some vs) :
    g < W.heap.size ∧ vs.all cellOk = true ∧ vs.all flat = true ∧ ∃ c e fr, W.heap[g]? = some (.cells c e fr) ∧ c.toList = vs := by
  rw [MakeChecks.laidMetH_plain _ _ _ (by kernel_rfl)] at h
  obtain ⟨ps, h, _, _⟩ := h
  have main : ∃ c e fr, W.heap[g]? = some (.cells c e fr) ∧ c.toList = vs := by
    unfold cc at hg
    simp only at hg
    split at hg
    · cases hg
      exact laid_cells h "crimp/cells.quarters" Rows.laid_crimp_cells_quarters List.mem_cons_self 0 137 8 gl0 name0 (by kernel_rfl) (by kernel_rfl)
    · cases hg
  refine ⟨?_, gl_cell g vs hg, gl_flat g vs hg, main⟩
  obtain ⟨c, e, fr, h1, _⟩ := main
  rcases Nat.lt_or_ge g W.heap.size with h | h
  · exact h
  · rw [Array.getElem?_eq_none h] at h1; cases h1
theorem own : ownKnob Tryd.prog.godebug = none := by kernel_rfl
theorem door_met (os : Os) (args : Array Value) : laidMetH Tryd.prog laidC ((World.doorLaid Tryd.prog 400 os).forCall (fun _ _ => 0) ⟨#[], args, []⟩).memory :=
  laidMetH_of_parts3 (fuel := 8) (laidMet_of_run' 8 (by kernel_rfl) (by kernel_rfl)) (by kernel_rfl) (by kernel_rfl)
end Go.Proofs.YtdngmncaohgacaaDoor

