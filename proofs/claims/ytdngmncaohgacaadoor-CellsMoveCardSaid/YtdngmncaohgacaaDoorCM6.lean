/-
  PART 6 OF THE PROOF: C7 C8 Gr Lv Lv3 Pb L12a L12b L12c L12d L12e L12f (no conditions).
-/
import Derived.Test.YtdngmncaohgacaaDoorCM5
set_option linter.unusedSectionVars false
set_option linter.unusedSimpArgs false
set_option linter.unusedVariables false
set_option linter.constructorNameAsVariable false
set_option linter.defProp false
/-
  CONTRACTS, BY PROGRAM: moves of cells.
-/
set_option maxRecDepth 100000
namespace Go.Am
open Sx Go.Proofs

theorem middle {x y q : Int} (h : -1000000 ≤ x ∧ x ≤ 1000000 ∧ -1000000 ≤ y ∧ y ≤ 1000000) : Cc 82 [.i x, .i y, .i q] [.i (2 * x + 1), .i (2 * y + 1)] := by
  refine q82 rfl ?_; unfold p82
  repeat (first | simp (disch := omega) only [↓qxs, ↓qxc, ↓qxa])
  (try simp only [List.cons.injEq, Lf.i.injEq, and_true, true_and]); (try omega)
theorem moved00 {m n x y : Int} (h : (-16384 ≤ m ∧ m ≤ 16384 ∧ -16384 ≤ n ∧ n ≤ 16384 ∧ (m + n) % 2 = 0) ∧ -4096 ≤ x ∧ x ≤ 4096 ∧ -4096 ≤ y ∧ y ≤ 4096) : Cc 80 [.i 0, .i m, .i n, .i x, .i y, .i 0] [.i (x + m), .i (y + n), .i 0] := by
  refine q80 rfl ?_; unfold p80
  repeat (first | simp (disch := omega) only [↓qxs, ↓qxc, ↓qxa, ↓gs0] | refine p_opt_r (by simp only [pickL, putL, offX, Int.reduceToNat, Int.reduceAdd, Int.reduceMul, Int.reduceMod, Int.reduceSub, Int.reduceNeg, Int.reduceDiv, Nat.reduceAdd, Nat.reduceMul, Nat.reduceLeDiff, List.length_cons, List.length_nil, ↓reduceIte, List.drop_succ_cons, List.drop_zero, List.take_succ_cons, List.take_zero, List.cons_append, List.nil_append, Nat.zero_add, Int.toNat_zero, Nat.zero_mul, Nat.add_zero, Int.zero_add]; exact rfl) ?_ | refine p_loop 6 ?_ | refine p_call (middle (by omega)) ?_ | refine p_call (mpoint0 (by omega)) ?_)
  (try simp only [List.cons.injEq, Lf.i.injEq, and_true, true_and]); (try omega)
theorem moved01 {m n x y : Int} (h : (-16384 ≤ m ∧ m ≤ 16384 ∧ -16384 ≤ n ∧ n ≤ 16384 ∧ (m + n) % 2 = 0) ∧ -4096 ≤ x ∧ x ≤ 4096 ∧ -4096 ≤ y ∧ y ≤ 4096) : Cc 80 [.i 0, .i m, .i n, .i x, .i y, .i 1] [.i (x + m), .i (y + n), .i 1] := by
  refine q80 rfl ?_; unfold p80
  repeat (first | simp (disch := omega) only [↓qxs, ↓qxc, ↓qxa, ↓gs1] | refine p_opt_r (by simp only [pickL, putL, offX, Int.reduceToNat, Int.reduceAdd, Int.reduceMul, Int.reduceMod, Int.reduceSub, Int.reduceNeg, Int.reduceDiv, Nat.reduceAdd, Nat.reduceMul, Nat.reduceLeDiff, List.length_cons, List.length_nil, ↓reduceIte, List.drop_succ_cons, List.drop_zero, List.take_succ_cons, List.take_zero, List.cons_append, List.nil_append, Nat.zero_add, Int.toNat_zero, Nat.zero_mul, Nat.add_zero, Int.zero_add]; exact rfl) ?_ | refine p_loop 6 ?_ | refine p_call (middle (by omega)) ?_ | refine p_call (mpoint0 (by omega)) ?_)
  (try simp only [List.cons.injEq, Lf.i.injEq, and_true, true_and]); (try omega)
theorem moved02 {m n x y : Int} (h : (-16384 ≤ m ∧ m ≤ 16384 ∧ -16384 ≤ n ∧ n ≤ 16384 ∧ (m + n) % 2 = 0) ∧ -4096 ≤ x ∧ x ≤ 4096 ∧ -4096 ≤ y ∧ y ≤ 4096) : Cc 80 [.i 0, .i m, .i n, .i x, .i y, .i 2] [.i (x + m), .i (y + n), .i 2] := by
  refine q80 rfl ?_; unfold p80
  repeat (first | simp (disch := omega) only [↓qxs, ↓qxc, ↓qxa, ↓gs2] | refine p_opt_r (by simp only [pickL, putL, offX, Int.reduceToNat, Int.reduceAdd, Int.reduceMul, Int.reduceMod, Int.reduceSub, Int.reduceNeg, Int.reduceDiv, Nat.reduceAdd, Nat.reduceMul, Nat.reduceLeDiff, List.length_cons, List.length_nil, ↓reduceIte, List.drop_succ_cons, List.drop_zero, List.take_succ_cons, List.take_zero, List.cons_append, List.nil_append, Nat.zero_add, Int.toNat_zero, Nat.zero_mul, Nat.add_zero, Int.zero_add]; exact rfl) ?_ | refine p_loop 6 ?_ | refine p_call (middle (by omega)) ?_ | refine p_call (mpoint0 (by omega)) ?_)
  (try simp only [List.cons.injEq, Lf.i.injEq, and_true, true_and]); (try omega)
theorem moved03 {m n x y : Int} (h : (-16384 ≤ m ∧ m ≤ 16384 ∧ -16384 ≤ n ∧ n ≤ 16384 ∧ (m + n) % 2 = 0) ∧ -4096 ≤ x ∧ x ≤ 4096 ∧ -4096 ≤ y ∧ y ≤ 4096) : Cc 80 [.i 0, .i m, .i n, .i x, .i y, .i 3] [.i (x + m), .i (y + n), .i 3] := by
  refine q80 rfl ?_; unfold p80
  repeat (first | simp (disch := omega) only [↓qxs, ↓qxc, ↓qxa, ↓gs3] | refine p_opt_r (by simp only [pickL, putL, offX, Int.reduceToNat, Int.reduceAdd, Int.reduceMul, Int.reduceMod, Int.reduceSub, Int.reduceNeg, Int.reduceDiv, Nat.reduceAdd, Nat.reduceMul, Nat.reduceLeDiff, List.length_cons, List.length_nil, ↓reduceIte, List.drop_succ_cons, List.drop_zero, List.take_succ_cons, List.take_zero, List.cons_append, List.nil_append, Nat.zero_add, Int.toNat_zero, Nat.zero_mul, Nat.add_zero, Int.zero_add]; exact rfl) ?_ | refine p_loop 6 ?_ | refine p_call (middle (by omega)) ?_ | refine p_call (mpoint0 (by omega)) ?_)
  (try simp only [List.cons.injEq, Lf.i.injEq, and_true, true_and]); (try omega)
theorem moved10 {m n x y : Int} (h : (-16384 ≤ m ∧ m ≤ 16384 ∧ -16384 ≤ n ∧ n ≤ 16384 ∧ (m + n) % 2 = 0) ∧ -4096 ≤ x ∧ x ≤ 4096 ∧ -4096 ≤ y ∧ y ≤ 4096) : Cc 80 [.i 1, .i m, .i n, .i x, .i y, .i 0] [.i (-y - 1 + m), .i (x + n), .i 1] := by
  refine q80 rfl ?_; unfold p80
  repeat (first | simp (disch := omega) only [↓qxs, ↓qxc, ↓qxa, ↓gs0] | refine p_opt_r (by simp only [pickL, putL, offX, Int.reduceToNat, Int.reduceAdd, Int.reduceMul, Int.reduceMod, Int.reduceSub, Int.reduceNeg, Int.reduceDiv, Nat.reduceAdd, Nat.reduceMul, Nat.reduceLeDiff, List.length_cons, List.length_nil, ↓reduceIte, List.drop_succ_cons, List.drop_zero, List.take_succ_cons, List.take_zero, List.cons_append, List.nil_append, Nat.zero_add, Int.toNat_zero, Nat.zero_mul, Nat.add_zero, Int.zero_add]; exact rfl) ?_ | refine p_loop 6 ?_ | refine p_call (middle (by omega)) ?_ | refine p_call (mpoint1 (by omega)) ?_)
  (try simp only [List.cons.injEq, Lf.i.injEq, and_true, true_and]); (try omega)
theorem moved11 {m n x y : Int} (h : (-16384 ≤ m ∧ m ≤ 16384 ∧ -16384 ≤ n ∧ n ≤ 16384 ∧ (m + n) % 2 = 0) ∧ -4096 ≤ x ∧ x ≤ 4096 ∧ -4096 ≤ y ∧ y ≤ 4096) : Cc 80 [.i 1, .i m, .i n, .i x, .i y, .i 1] [.i (-y - 1 + m), .i (x + n), .i 2] := by
  refine q80 rfl ?_; unfold p80
  repeat (first | simp (disch := omega) only [↓qxs, ↓qxc, ↓qxa, ↓gs1] | refine p_opt_r (by simp only [pickL, putL, offX, Int.reduceToNat, Int.reduceAdd, Int.reduceMul, Int.reduceMod, Int.reduceSub, Int.reduceNeg, Int.reduceDiv, Nat.reduceAdd, Nat.reduceMul, Nat.reduceLeDiff, List.length_cons, List.length_nil, ↓reduceIte, List.drop_succ_cons, List.drop_zero, List.take_succ_cons, List.take_zero, List.cons_append, List.nil_append, Nat.zero_add, Int.toNat_zero, Nat.zero_mul, Nat.add_zero, Int.zero_add]; exact rfl) ?_ | refine p_loop 6 ?_ | refine p_call (middle (by omega)) ?_ | refine p_call (mpoint1 (by omega)) ?_)
  (try simp only [List.cons.injEq, Lf.i.injEq, and_true, true_and]); (try omega)
theorem moved12 {m n x y : Int} (h : (-16384 ≤ m ∧ m ≤ 16384 ∧ -16384 ≤ n ∧ n ≤ 16384 ∧ (m + n) % 2 = 0) ∧ -4096 ≤ x ∧ x ≤ 4096 ∧ -4096 ≤ y ∧ y ≤ 4096) : Cc 80 [.i 1, .i m, .i n, .i x, .i y, .i 2] [.i (-y - 1 + m), .i (x + n), .i 3] := by
  refine q80 rfl ?_; unfold p80
  repeat (first | simp (disch := omega) only [↓qxs, ↓qxc, ↓qxa, ↓gs2] | refine p_opt_r (by simp only [pickL, putL, offX, Int.reduceToNat, Int.reduceAdd, Int.reduceMul, Int.reduceMod, Int.reduceSub, Int.reduceNeg, Int.reduceDiv, Nat.reduceAdd, Nat.reduceMul, Nat.reduceLeDiff, List.length_cons, List.length_nil, ↓reduceIte, List.drop_succ_cons, List.drop_zero, List.take_succ_cons, List.take_zero, List.cons_append, List.nil_append, Nat.zero_add, Int.toNat_zero, Nat.zero_mul, Nat.add_zero, Int.zero_add]; exact rfl) ?_ | refine p_loop 6 ?_ | refine p_call (middle (by omega)) ?_ | refine p_call (mpoint1 (by omega)) ?_)
  (try simp only [List.cons.injEq, Lf.i.injEq, and_true, true_and]); (try omega)
theorem moved13 {m n x y : Int} (h : (-16384 ≤ m ∧ m ≤ 16384 ∧ -16384 ≤ n ∧ n ≤ 16384 ∧ (m + n) % 2 = 0) ∧ -4096 ≤ x ∧ x ≤ 4096 ∧ -4096 ≤ y ∧ y ≤ 4096) : Cc 80 [.i 1, .i m, .i n, .i x, .i y, .i 3] [.i (-y - 1 + m), .i (x + n), .i 0] := by
  refine q80 rfl ?_; unfold p80
  repeat (first | simp (disch := omega) only [↓qxs, ↓qxc, ↓qxa, ↓gs3] | refine p_opt_r (by simp only [pickL, putL, offX, Int.reduceToNat, Int.reduceAdd, Int.reduceMul, Int.reduceMod, Int.reduceSub, Int.reduceNeg, Int.reduceDiv, Nat.reduceAdd, Nat.reduceMul, Nat.reduceLeDiff, List.length_cons, List.length_nil, ↓reduceIte, List.drop_succ_cons, List.drop_zero, List.take_succ_cons, List.take_zero, List.cons_append, List.nil_append, Nat.zero_add, Int.toNat_zero, Nat.zero_mul, Nat.add_zero, Int.zero_add]; exact rfl) ?_ | refine p_loop 6 ?_ | refine p_call (middle (by omega)) ?_ | refine p_call (mpoint1 (by omega)) ?_)
  (try simp only [List.cons.injEq, Lf.i.injEq, and_true, true_and]); (try omega)
theorem moved20 {m n x y : Int} (h : (-16384 ≤ m ∧ m ≤ 16384 ∧ -16384 ≤ n ∧ n ≤ 16384 ∧ (m + n) % 2 = 0) ∧ -4096 ≤ x ∧ x ≤ 4096 ∧ -4096 ≤ y ∧ y ≤ 4096) : Cc 80 [.i 2, .i m, .i n, .i x, .i y, .i 0] [.i (-x - 1 + m), .i (-y - 1 + n), .i 2] := by
  refine q80 rfl ?_; unfold p80
  repeat (first | simp (disch := omega) only [↓qxs, ↓qxc, ↓qxa, ↓gs0] | refine p_opt_r (by simp only [pickL, putL, offX, Int.reduceToNat, Int.reduceAdd, Int.reduceMul, Int.reduceMod, Int.reduceSub, Int.reduceNeg, Int.reduceDiv, Nat.reduceAdd, Nat.reduceMul, Nat.reduceLeDiff, List.length_cons, List.length_nil, ↓reduceIte, List.drop_succ_cons, List.drop_zero, List.take_succ_cons, List.take_zero, List.cons_append, List.nil_append, Nat.zero_add, Int.toNat_zero, Nat.zero_mul, Nat.add_zero, Int.zero_add]; exact rfl) ?_ | refine p_loop 6 ?_ | refine p_call (middle (by omega)) ?_ | refine p_call (mpoint2 (by omega)) ?_)
  (try simp only [List.cons.injEq, Lf.i.injEq, and_true, true_and]); (try omega)
theorem moved21 {m n x y : Int} (h : (-16384 ≤ m ∧ m ≤ 16384 ∧ -16384 ≤ n ∧ n ≤ 16384 ∧ (m + n) % 2 = 0) ∧ -4096 ≤ x ∧ x ≤ 4096 ∧ -4096 ≤ y ∧ y ≤ 4096) : Cc 80 [.i 2, .i m, .i n, .i x, .i y, .i 1] [.i (-x - 1 + m), .i (-y - 1 + n), .i 3] := by
  refine q80 rfl ?_; unfold p80
  repeat (first | simp (disch := omega) only [↓qxs, ↓qxc, ↓qxa, ↓gs1] | refine p_opt_r (by simp only [pickL, putL, offX, Int.reduceToNat, Int.reduceAdd, Int.reduceMul, Int.reduceMod, Int.reduceSub, Int.reduceNeg, Int.reduceDiv, Nat.reduceAdd, Nat.reduceMul, Nat.reduceLeDiff, List.length_cons, List.length_nil, ↓reduceIte, List.drop_succ_cons, List.drop_zero, List.take_succ_cons, List.take_zero, List.cons_append, List.nil_append, Nat.zero_add, Int.toNat_zero, Nat.zero_mul, Nat.add_zero, Int.zero_add]; exact rfl) ?_ | refine p_loop 6 ?_ | refine p_call (middle (by omega)) ?_ | refine p_call (mpoint2 (by omega)) ?_)
  (try simp only [List.cons.injEq, Lf.i.injEq, and_true, true_and]); (try omega)
theorem moved22 {m n x y : Int} (h : (-16384 ≤ m ∧ m ≤ 16384 ∧ -16384 ≤ n ∧ n ≤ 16384 ∧ (m + n) % 2 = 0) ∧ -4096 ≤ x ∧ x ≤ 4096 ∧ -4096 ≤ y ∧ y ≤ 4096) : Cc 80 [.i 2, .i m, .i n, .i x, .i y, .i 2] [.i (-x - 1 + m), .i (-y - 1 + n), .i 0] := by
  refine q80 rfl ?_; unfold p80
  repeat (first | simp (disch := omega) only [↓qxs, ↓qxc, ↓qxa, ↓gs2] | refine p_opt_r (by simp only [pickL, putL, offX, Int.reduceToNat, Int.reduceAdd, Int.reduceMul, Int.reduceMod, Int.reduceSub, Int.reduceNeg, Int.reduceDiv, Nat.reduceAdd, Nat.reduceMul, Nat.reduceLeDiff, List.length_cons, List.length_nil, ↓reduceIte, List.drop_succ_cons, List.drop_zero, List.take_succ_cons, List.take_zero, List.cons_append, List.nil_append, Nat.zero_add, Int.toNat_zero, Nat.zero_mul, Nat.add_zero, Int.zero_add]; exact rfl) ?_ | refine p_loop 6 ?_ | refine p_call (middle (by omega)) ?_ | refine p_call (mpoint2 (by omega)) ?_)
  (try simp only [List.cons.injEq, Lf.i.injEq, and_true, true_and]); (try omega)
theorem moved23 {m n x y : Int} (h : (-16384 ≤ m ∧ m ≤ 16384 ∧ -16384 ≤ n ∧ n ≤ 16384 ∧ (m + n) % 2 = 0) ∧ -4096 ≤ x ∧ x ≤ 4096 ∧ -4096 ≤ y ∧ y ≤ 4096) : Cc 80 [.i 2, .i m, .i n, .i x, .i y, .i 3] [.i (-x - 1 + m), .i (-y - 1 + n), .i 1] := by
  refine q80 rfl ?_; unfold p80
  repeat (first | simp (disch := omega) only [↓qxs, ↓qxc, ↓qxa, ↓gs3] | refine p_opt_r (by simp only [pickL, putL, offX, Int.reduceToNat, Int.reduceAdd, Int.reduceMul, Int.reduceMod, Int.reduceSub, Int.reduceNeg, Int.reduceDiv, Nat.reduceAdd, Nat.reduceMul, Nat.reduceLeDiff, List.length_cons, List.length_nil, ↓reduceIte, List.drop_succ_cons, List.drop_zero, List.take_succ_cons, List.take_zero, List.cons_append, List.nil_append, Nat.zero_add, Int.toNat_zero, Nat.zero_mul, Nat.add_zero, Int.zero_add]; exact rfl) ?_ | refine p_loop 6 ?_ | refine p_call (middle (by omega)) ?_ | refine p_call (mpoint2 (by omega)) ?_)
  (try simp only [List.cons.injEq, Lf.i.injEq, and_true, true_and]); (try omega)
theorem moved30 {m n x y : Int} (h : (-16384 ≤ m ∧ m ≤ 16384 ∧ -16384 ≤ n ∧ n ≤ 16384 ∧ (m + n) % 2 = 0) ∧ -4096 ≤ x ∧ x ≤ 4096 ∧ -4096 ≤ y ∧ y ≤ 4096) : Cc 80 [.i 3, .i m, .i n, .i x, .i y, .i 0] [.i (y + m), .i (-x - 1 + n), .i 3] := by
  refine q80 rfl ?_; unfold p80
  repeat (first | simp (disch := omega) only [↓qxs, ↓qxc, ↓qxa, ↓gs0] | refine p_opt_r (by simp only [pickL, putL, offX, Int.reduceToNat, Int.reduceAdd, Int.reduceMul, Int.reduceMod, Int.reduceSub, Int.reduceNeg, Int.reduceDiv, Nat.reduceAdd, Nat.reduceMul, Nat.reduceLeDiff, List.length_cons, List.length_nil, ↓reduceIte, List.drop_succ_cons, List.drop_zero, List.take_succ_cons, List.take_zero, List.cons_append, List.nil_append, Nat.zero_add, Int.toNat_zero, Nat.zero_mul, Nat.add_zero, Int.zero_add]; exact rfl) ?_ | refine p_loop 6 ?_ | refine p_call (middle (by omega)) ?_ | refine p_call (mpoint3 (by omega)) ?_)
  (try simp only [List.cons.injEq, Lf.i.injEq, and_true, true_and]); (try omega)
theorem moved31 {m n x y : Int} (h : (-16384 ≤ m ∧ m ≤ 16384 ∧ -16384 ≤ n ∧ n ≤ 16384 ∧ (m + n) % 2 = 0) ∧ -4096 ≤ x ∧ x ≤ 4096 ∧ -4096 ≤ y ∧ y ≤ 4096) : Cc 80 [.i 3, .i m, .i n, .i x, .i y, .i 1] [.i (y + m), .i (-x - 1 + n), .i 0] := by
  refine q80 rfl ?_; unfold p80
  repeat (first | simp (disch := omega) only [↓qxs, ↓qxc, ↓qxa, ↓gs1] | refine p_opt_r (by simp only [pickL, putL, offX, Int.reduceToNat, Int.reduceAdd, Int.reduceMul, Int.reduceMod, Int.reduceSub, Int.reduceNeg, Int.reduceDiv, Nat.reduceAdd, Nat.reduceMul, Nat.reduceLeDiff, List.length_cons, List.length_nil, ↓reduceIte, List.drop_succ_cons, List.drop_zero, List.take_succ_cons, List.take_zero, List.cons_append, List.nil_append, Nat.zero_add, Int.toNat_zero, Nat.zero_mul, Nat.add_zero, Int.zero_add]; exact rfl) ?_ | refine p_loop 6 ?_ | refine p_call (middle (by omega)) ?_ | refine p_call (mpoint3 (by omega)) ?_)
  (try simp only [List.cons.injEq, Lf.i.injEq, and_true, true_and]); (try omega)
theorem moved32 {m n x y : Int} (h : (-16384 ≤ m ∧ m ≤ 16384 ∧ -16384 ≤ n ∧ n ≤ 16384 ∧ (m + n) % 2 = 0) ∧ -4096 ≤ x ∧ x ≤ 4096 ∧ -4096 ≤ y ∧ y ≤ 4096) : Cc 80 [.i 3, .i m, .i n, .i x, .i y, .i 2] [.i (y + m), .i (-x - 1 + n), .i 1] := by
  refine q80 rfl ?_; unfold p80
  repeat (first | simp (disch := omega) only [↓qxs, ↓qxc, ↓qxa, ↓gs2] | refine p_opt_r (by simp only [pickL, putL, offX, Int.reduceToNat, Int.reduceAdd, Int.reduceMul, Int.reduceMod, Int.reduceSub, Int.reduceNeg, Int.reduceDiv, Nat.reduceAdd, Nat.reduceMul, Nat.reduceLeDiff, List.length_cons, List.length_nil, ↓reduceIte, List.drop_succ_cons, List.drop_zero, List.take_succ_cons, List.take_zero, List.cons_append, List.nil_append, Nat.zero_add, Int.toNat_zero, Nat.zero_mul, Nat.add_zero, Int.zero_add]; exact rfl) ?_ | refine p_loop 6 ?_ | refine p_call (middle (by omega)) ?_ | refine p_call (mpoint3 (by omega)) ?_)
  (try simp only [List.cons.injEq, Lf.i.injEq, and_true, true_and]); (try omega)
theorem moved33 {m n x y : Int} (h : (-16384 ≤ m ∧ m ≤ 16384 ∧ -16384 ≤ n ∧ n ≤ 16384 ∧ (m + n) % 2 = 0) ∧ -4096 ≤ x ∧ x ≤ 4096 ∧ -4096 ≤ y ∧ y ≤ 4096) : Cc 80 [.i 3, .i m, .i n, .i x, .i y, .i 3] [.i (y + m), .i (-x - 1 + n), .i 2] := by
  refine q80 rfl ?_; unfold p80
  repeat (first | simp (disch := omega) only [↓qxs, ↓qxc, ↓qxa, ↓gs3] | refine p_opt_r (by simp only [pickL, putL, offX, Int.reduceToNat, Int.reduceAdd, Int.reduceMul, Int.reduceMod, Int.reduceSub, Int.reduceNeg, Int.reduceDiv, Nat.reduceAdd, Nat.reduceMul, Nat.reduceLeDiff, List.length_cons, List.length_nil, ↓reduceIte, List.drop_succ_cons, List.drop_zero, List.take_succ_cons, List.take_zero, List.cons_append, List.nil_append, Nat.zero_add, Int.toNat_zero, Nat.zero_mul, Nat.add_zero, Int.zero_add]; exact rfl) ?_ | refine p_loop 6 ?_ | refine p_call (middle (by omega)) ?_ | refine p_call (mpoint3 (by omega)) ?_)
  (try simp only [List.cons.injEq, Lf.i.injEq, and_true, true_and]); (try omega)
theorem moved40 {m n x y : Int} (h : (-16384 ≤ m ∧ m ≤ 16384 ∧ -16384 ≤ n ∧ n ≤ 16384 ∧ (m + n) % 2 = 0) ∧ -4096 ≤ x ∧ x ≤ 4096 ∧ -4096 ≤ y ∧ y ≤ 4096) : Cc 80 [.i 4, .i m, .i n, .i x, .i y, .i 0] [.i (-x - 1 + m), .i (y + n), .i 0] := by
  refine q80 rfl ?_; unfold p80
  repeat (first | simp (disch := omega) only [↓qxs, ↓qxc, ↓qxa, ↓gs0] | refine p_opt_r (by simp only [pickL, putL, offX, Int.reduceToNat, Int.reduceAdd, Int.reduceMul, Int.reduceMod, Int.reduceSub, Int.reduceNeg, Int.reduceDiv, Nat.reduceAdd, Nat.reduceMul, Nat.reduceLeDiff, List.length_cons, List.length_nil, ↓reduceIte, List.drop_succ_cons, List.drop_zero, List.take_succ_cons, List.take_zero, List.cons_append, List.nil_append, Nat.zero_add, Int.toNat_zero, Nat.zero_mul, Nat.add_zero, Int.zero_add]; exact rfl) ?_ | refine p_loop 6 ?_ | refine p_call (middle (by omega)) ?_ | refine p_call (mpoint4 (by omega)) ?_)
  (try simp only [List.cons.injEq, Lf.i.injEq, and_true, true_and]); (try omega)
theorem moved41 {m n x y : Int} (h : (-16384 ≤ m ∧ m ≤ 16384 ∧ -16384 ≤ n ∧ n ≤ 16384 ∧ (m + n) % 2 = 0) ∧ -4096 ≤ x ∧ x ≤ 4096 ∧ -4096 ≤ y ∧ y ≤ 4096) : Cc 80 [.i 4, .i m, .i n, .i x, .i y, .i 1] [.i (-x - 1 + m), .i (y + n), .i 3] := by
  refine q80 rfl ?_; unfold p80
  repeat (first | simp (disch := omega) only [↓qxs, ↓qxc, ↓qxa, ↓gs1] | refine p_opt_r (by simp only [pickL, putL, offX, Int.reduceToNat, Int.reduceAdd, Int.reduceMul, Int.reduceMod, Int.reduceSub, Int.reduceNeg, Int.reduceDiv, Nat.reduceAdd, Nat.reduceMul, Nat.reduceLeDiff, List.length_cons, List.length_nil, ↓reduceIte, List.drop_succ_cons, List.drop_zero, List.take_succ_cons, List.take_zero, List.cons_append, List.nil_append, Nat.zero_add, Int.toNat_zero, Nat.zero_mul, Nat.add_zero, Int.zero_add]; exact rfl) ?_ | refine p_loop 6 ?_ | refine p_call (middle (by omega)) ?_ | refine p_call (mpoint4 (by omega)) ?_)
  (try simp only [List.cons.injEq, Lf.i.injEq, and_true, true_and]); (try omega)
theorem moved42 {m n x y : Int} (h : (-16384 ≤ m ∧ m ≤ 16384 ∧ -16384 ≤ n ∧ n ≤ 16384 ∧ (m + n) % 2 = 0) ∧ -4096 ≤ x ∧ x ≤ 4096 ∧ -4096 ≤ y ∧ y ≤ 4096) : Cc 80 [.i 4, .i m, .i n, .i x, .i y, .i 2] [.i (-x - 1 + m), .i (y + n), .i 2] := by
  refine q80 rfl ?_; unfold p80
  repeat (first | simp (disch := omega) only [↓qxs, ↓qxc, ↓qxa, ↓gs2] | refine p_opt_r (by simp only [pickL, putL, offX, Int.reduceToNat, Int.reduceAdd, Int.reduceMul, Int.reduceMod, Int.reduceSub, Int.reduceNeg, Int.reduceDiv, Nat.reduceAdd, Nat.reduceMul, Nat.reduceLeDiff, List.length_cons, List.length_nil, ↓reduceIte, List.drop_succ_cons, List.drop_zero, List.take_succ_cons, List.take_zero, List.cons_append, List.nil_append, Nat.zero_add, Int.toNat_zero, Nat.zero_mul, Nat.add_zero, Int.zero_add]; exact rfl) ?_ | refine p_loop 6 ?_ | refine p_call (middle (by omega)) ?_ | refine p_call (mpoint4 (by omega)) ?_)
  (try simp only [List.cons.injEq, Lf.i.injEq, and_true, true_and]); (try omega)
theorem moved43 {m n x y : Int} (h : (-16384 ≤ m ∧ m ≤ 16384 ∧ -16384 ≤ n ∧ n ≤ 16384 ∧ (m + n) % 2 = 0) ∧ -4096 ≤ x ∧ x ≤ 4096 ∧ -4096 ≤ y ∧ y ≤ 4096) : Cc 80 [.i 4, .i m, .i n, .i x, .i y, .i 3] [.i (-x - 1 + m), .i (y + n), .i 1] := by
  refine q80 rfl ?_; unfold p80
  repeat (first | simp (disch := omega) only [↓qxs, ↓qxc, ↓qxa, ↓gs3] | refine p_opt_r (by simp only [pickL, putL, offX, Int.reduceToNat, Int.reduceAdd, Int.reduceMul, Int.reduceMod, Int.reduceSub, Int.reduceNeg, Int.reduceDiv, Nat.reduceAdd, Nat.reduceMul, Nat.reduceLeDiff, List.length_cons, List.length_nil, ↓reduceIte, List.drop_succ_cons, List.drop_zero, List.take_succ_cons, List.take_zero, List.cons_append, List.nil_append, Nat.zero_add, Int.toNat_zero, Nat.zero_mul, Nat.add_zero, Int.zero_add]; exact rfl) ?_ | refine p_loop 6 ?_ | refine p_call (middle (by omega)) ?_ | refine p_call (mpoint4 (by omega)) ?_)
  (try simp only [List.cons.injEq, Lf.i.injEq, and_true, true_and]); (try omega)
theorem moved50 {m n x y : Int} (h : (-16384 ≤ m ∧ m ≤ 16384 ∧ -16384 ≤ n ∧ n ≤ 16384 ∧ (m + n) % 2 = 0) ∧ -4096 ≤ x ∧ x ≤ 4096 ∧ -4096 ≤ y ∧ y ≤ 4096) : Cc 80 [.i 5, .i m, .i n, .i x, .i y, .i 0] [.i (-y - 1 + m), .i (-x - 1 + n), .i 1] := by
  refine q80 rfl ?_; unfold p80
  repeat (first | simp (disch := omega) only [↓qxs, ↓qxc, ↓qxa, ↓gs0] | refine p_opt_r (by simp only [pickL, putL, offX, Int.reduceToNat, Int.reduceAdd, Int.reduceMul, Int.reduceMod, Int.reduceSub, Int.reduceNeg, Int.reduceDiv, Nat.reduceAdd, Nat.reduceMul, Nat.reduceLeDiff, List.length_cons, List.length_nil, ↓reduceIte, List.drop_succ_cons, List.drop_zero, List.take_succ_cons, List.take_zero, List.cons_append, List.nil_append, Nat.zero_add, Int.toNat_zero, Nat.zero_mul, Nat.add_zero, Int.zero_add]; exact rfl) ?_ | refine p_loop 6 ?_ | refine p_call (middle (by omega)) ?_ | refine p_call (mpoint5 (by omega)) ?_)
  (try simp only [List.cons.injEq, Lf.i.injEq, and_true, true_and]); (try omega)
theorem moved51 {m n x y : Int} (h : (-16384 ≤ m ∧ m ≤ 16384 ∧ -16384 ≤ n ∧ n ≤ 16384 ∧ (m + n) % 2 = 0) ∧ -4096 ≤ x ∧ x ≤ 4096 ∧ -4096 ≤ y ∧ y ≤ 4096) : Cc 80 [.i 5, .i m, .i n, .i x, .i y, .i 1] [.i (-y - 1 + m), .i (-x - 1 + n), .i 0] := by
  refine q80 rfl ?_; unfold p80
  repeat (first | simp (disch := omega) only [↓qxs, ↓qxc, ↓qxa, ↓gs1] | refine p_opt_r (by simp only [pickL, putL, offX, Int.reduceToNat, Int.reduceAdd, Int.reduceMul, Int.reduceMod, Int.reduceSub, Int.reduceNeg, Int.reduceDiv, Nat.reduceAdd, Nat.reduceMul, Nat.reduceLeDiff, List.length_cons, List.length_nil, ↓reduceIte, List.drop_succ_cons, List.drop_zero, List.take_succ_cons, List.take_zero, List.cons_append, List.nil_append, Nat.zero_add, Int.toNat_zero, Nat.zero_mul, Nat.add_zero, Int.zero_add]; exact rfl) ?_ | refine p_loop 6 ?_ | refine p_call (middle (by omega)) ?_ | refine p_call (mpoint5 (by omega)) ?_)
  (try simp only [List.cons.injEq, Lf.i.injEq, and_true, true_and]); (try omega)
theorem moved52 {m n x y : Int} (h : (-16384 ≤ m ∧ m ≤ 16384 ∧ -16384 ≤ n ∧ n ≤ 16384 ∧ (m + n) % 2 = 0) ∧ -4096 ≤ x ∧ x ≤ 4096 ∧ -4096 ≤ y ∧ y ≤ 4096) : Cc 80 [.i 5, .i m, .i n, .i x, .i y, .i 2] [.i (-y - 1 + m), .i (-x - 1 + n), .i 3] := by
  refine q80 rfl ?_; unfold p80
  repeat (first | simp (disch := omega) only [↓qxs, ↓qxc, ↓qxa, ↓gs2] | refine p_opt_r (by simp only [pickL, putL, offX, Int.reduceToNat, Int.reduceAdd, Int.reduceMul, Int.reduceMod, Int.reduceSub, Int.reduceNeg, Int.reduceDiv, Nat.reduceAdd, Nat.reduceMul, Nat.reduceLeDiff, List.length_cons, List.length_nil, ↓reduceIte, List.drop_succ_cons, List.drop_zero, List.take_succ_cons, List.take_zero, List.cons_append, List.nil_append, Nat.zero_add, Int.toNat_zero, Nat.zero_mul, Nat.add_zero, Int.zero_add]; exact rfl) ?_ | refine p_loop 6 ?_ | refine p_call (middle (by omega)) ?_ | refine p_call (mpoint5 (by omega)) ?_)
  (try simp only [List.cons.injEq, Lf.i.injEq, and_true, true_and]); (try omega)
theorem moved53 {m n x y : Int} (h : (-16384 ≤ m ∧ m ≤ 16384 ∧ -16384 ≤ n ∧ n ≤ 16384 ∧ (m + n) % 2 = 0) ∧ -4096 ≤ x ∧ x ≤ 4096 ∧ -4096 ≤ y ∧ y ≤ 4096) : Cc 80 [.i 5, .i m, .i n, .i x, .i y, .i 3] [.i (-y - 1 + m), .i (-x - 1 + n), .i 2] := by
  refine q80 rfl ?_; unfold p80
  repeat (first | simp (disch := omega) only [↓qxs, ↓qxc, ↓qxa, ↓gs3] | refine p_opt_r (by simp only [pickL, putL, offX, Int.reduceToNat, Int.reduceAdd, Int.reduceMul, Int.reduceMod, Int.reduceSub, Int.reduceNeg, Int.reduceDiv, Nat.reduceAdd, Nat.reduceMul, Nat.reduceLeDiff, List.length_cons, List.length_nil, ↓reduceIte, List.drop_succ_cons, List.drop_zero, List.take_succ_cons, List.take_zero, List.cons_append, List.nil_append, Nat.zero_add, Int.toNat_zero, Nat.zero_mul, Nat.add_zero, Int.zero_add]; exact rfl) ?_ | refine p_loop 6 ?_ | refine p_call (middle (by omega)) ?_ | refine p_call (mpoint5 (by omega)) ?_)
  (try simp only [List.cons.injEq, Lf.i.injEq, and_true, true_and]); (try omega)
theorem moved60 {m n x y : Int} (h : (-16384 ≤ m ∧ m ≤ 16384 ∧ -16384 ≤ n ∧ n ≤ 16384 ∧ (m + n) % 2 = 0) ∧ -4096 ≤ x ∧ x ≤ 4096 ∧ -4096 ≤ y ∧ y ≤ 4096) : Cc 80 [.i 6, .i m, .i n, .i x, .i y, .i 0] [.i (x + m), .i (-y - 1 + n), .i 2] := by
  refine q80 rfl ?_; unfold p80
  repeat (first | simp (disch := omega) only [↓qxs, ↓qxc, ↓qxa, ↓gs0] | refine p_opt_r (by simp only [pickL, putL, offX, Int.reduceToNat, Int.reduceAdd, Int.reduceMul, Int.reduceMod, Int.reduceSub, Int.reduceNeg, Int.reduceDiv, Nat.reduceAdd, Nat.reduceMul, Nat.reduceLeDiff, List.length_cons, List.length_nil, ↓reduceIte, List.drop_succ_cons, List.drop_zero, List.take_succ_cons, List.take_zero, List.cons_append, List.nil_append, Nat.zero_add, Int.toNat_zero, Nat.zero_mul, Nat.add_zero, Int.zero_add]; exact rfl) ?_ | refine p_loop 6 ?_ | refine p_call (middle (by omega)) ?_ | refine p_call (mpoint6 (by omega)) ?_)
  (try simp only [List.cons.injEq, Lf.i.injEq, and_true, true_and]); (try omega)
theorem moved61 {m n x y : Int} (h : (-16384 ≤ m ∧ m ≤ 16384 ∧ -16384 ≤ n ∧ n ≤ 16384 ∧ (m + n) % 2 = 0) ∧ -4096 ≤ x ∧ x ≤ 4096 ∧ -4096 ≤ y ∧ y ≤ 4096) : Cc 80 [.i 6, .i m, .i n, .i x, .i y, .i 1] [.i (x + m), .i (-y - 1 + n), .i 1] := by
  refine q80 rfl ?_; unfold p80
  repeat (first | simp (disch := omega) only [↓qxs, ↓qxc, ↓qxa, ↓gs1] | refine p_opt_r (by simp only [pickL, putL, offX, Int.reduceToNat, Int.reduceAdd, Int.reduceMul, Int.reduceMod, Int.reduceSub, Int.reduceNeg, Int.reduceDiv, Nat.reduceAdd, Nat.reduceMul, Nat.reduceLeDiff, List.length_cons, List.length_nil, ↓reduceIte, List.drop_succ_cons, List.drop_zero, List.take_succ_cons, List.take_zero, List.cons_append, List.nil_append, Nat.zero_add, Int.toNat_zero, Nat.zero_mul, Nat.add_zero, Int.zero_add]; exact rfl) ?_ | refine p_loop 6 ?_ | refine p_call (middle (by omega)) ?_ | refine p_call (mpoint6 (by omega)) ?_)
  (try simp only [List.cons.injEq, Lf.i.injEq, and_true, true_and]); (try omega)
theorem moved62 {m n x y : Int} (h : (-16384 ≤ m ∧ m ≤ 16384 ∧ -16384 ≤ n ∧ n ≤ 16384 ∧ (m + n) % 2 = 0) ∧ -4096 ≤ x ∧ x ≤ 4096 ∧ -4096 ≤ y ∧ y ≤ 4096) : Cc 80 [.i 6, .i m, .i n, .i x, .i y, .i 2] [.i (x + m), .i (-y - 1 + n), .i 0] := by
  refine q80 rfl ?_; unfold p80
  repeat (first | simp (disch := omega) only [↓qxs, ↓qxc, ↓qxa, ↓gs2] | refine p_opt_r (by simp only [pickL, putL, offX, Int.reduceToNat, Int.reduceAdd, Int.reduceMul, Int.reduceMod, Int.reduceSub, Int.reduceNeg, Int.reduceDiv, Nat.reduceAdd, Nat.reduceMul, Nat.reduceLeDiff, List.length_cons, List.length_nil, ↓reduceIte, List.drop_succ_cons, List.drop_zero, List.take_succ_cons, List.take_zero, List.cons_append, List.nil_append, Nat.zero_add, Int.toNat_zero, Nat.zero_mul, Nat.add_zero, Int.zero_add]; exact rfl) ?_ | refine p_loop 6 ?_ | refine p_call (middle (by omega)) ?_ | refine p_call (mpoint6 (by omega)) ?_)
  (try simp only [List.cons.injEq, Lf.i.injEq, and_true, true_and]); (try omega)
theorem moved63 {m n x y : Int} (h : (-16384 ≤ m ∧ m ≤ 16384 ∧ -16384 ≤ n ∧ n ≤ 16384 ∧ (m + n) % 2 = 0) ∧ -4096 ≤ x ∧ x ≤ 4096 ∧ -4096 ≤ y ∧ y ≤ 4096) : Cc 80 [.i 6, .i m, .i n, .i x, .i y, .i 3] [.i (x + m), .i (-y - 1 + n), .i 3] := by
  refine q80 rfl ?_; unfold p80
  repeat (first | simp (disch := omega) only [↓qxs, ↓qxc, ↓qxa, ↓gs3] | refine p_opt_r (by simp only [pickL, putL, offX, Int.reduceToNat, Int.reduceAdd, Int.reduceMul, Int.reduceMod, Int.reduceSub, Int.reduceNeg, Int.reduceDiv, Nat.reduceAdd, Nat.reduceMul, Nat.reduceLeDiff, List.length_cons, List.length_nil, ↓reduceIte, List.drop_succ_cons, List.drop_zero, List.take_succ_cons, List.take_zero, List.cons_append, List.nil_append, Nat.zero_add, Int.toNat_zero, Nat.zero_mul, Nat.add_zero, Int.zero_add]; exact rfl) ?_ | refine p_loop 6 ?_ | refine p_call (middle (by omega)) ?_ | refine p_call (mpoint6 (by omega)) ?_)
  (try simp only [List.cons.injEq, Lf.i.injEq, and_true, true_and]); (try omega)
theorem moved70 {m n x y : Int} (h : (-16384 ≤ m ∧ m ≤ 16384 ∧ -16384 ≤ n ∧ n ≤ 16384 ∧ (m + n) % 2 = 0) ∧ -4096 ≤ x ∧ x ≤ 4096 ∧ -4096 ≤ y ∧ y ≤ 4096) : Cc 80 [.i 7, .i m, .i n, .i x, .i y, .i 0] [.i (y + m), .i (x + n), .i 3] := by
  refine q80 rfl ?_; unfold p80
  repeat (first | simp (disch := omega) only [↓qxs, ↓qxc, ↓qxa, ↓gs0] | refine p_opt_r (by simp only [pickL, putL, offX, Int.reduceToNat, Int.reduceAdd, Int.reduceMul, Int.reduceMod, Int.reduceSub, Int.reduceNeg, Int.reduceDiv, Nat.reduceAdd, Nat.reduceMul, Nat.reduceLeDiff, List.length_cons, List.length_nil, ↓reduceIte, List.drop_succ_cons, List.drop_zero, List.take_succ_cons, List.take_zero, List.cons_append, List.nil_append, Nat.zero_add, Int.toNat_zero, Nat.zero_mul, Nat.add_zero, Int.zero_add]; exact rfl) ?_ | refine p_loop 6 ?_ | refine p_call (middle (by omega)) ?_ | refine p_call (mpoint7 (by omega)) ?_)
  (try simp only [List.cons.injEq, Lf.i.injEq, and_true, true_and]); (try omega)
theorem moved71 {m n x y : Int} (h : (-16384 ≤ m ∧ m ≤ 16384 ∧ -16384 ≤ n ∧ n ≤ 16384 ∧ (m + n) % 2 = 0) ∧ -4096 ≤ x ∧ x ≤ 4096 ∧ -4096 ≤ y ∧ y ≤ 4096) : Cc 80 [.i 7, .i m, .i n, .i x, .i y, .i 1] [.i (y + m), .i (x + n), .i 2] := by
  refine q80 rfl ?_; unfold p80
  repeat (first | simp (disch := omega) only [↓qxs, ↓qxc, ↓qxa, ↓gs1] | refine p_opt_r (by simp only [pickL, putL, offX, Int.reduceToNat, Int.reduceAdd, Int.reduceMul, Int.reduceMod, Int.reduceSub, Int.reduceNeg, Int.reduceDiv, Nat.reduceAdd, Nat.reduceMul, Nat.reduceLeDiff, List.length_cons, List.length_nil, ↓reduceIte, List.drop_succ_cons, List.drop_zero, List.take_succ_cons, List.take_zero, List.cons_append, List.nil_append, Nat.zero_add, Int.toNat_zero, Nat.zero_mul, Nat.add_zero, Int.zero_add]; exact rfl) ?_ | refine p_loop 6 ?_ | refine p_call (middle (by omega)) ?_ | refine p_call (mpoint7 (by omega)) ?_)
  (try simp only [List.cons.injEq, Lf.i.injEq, and_true, true_and]); (try omega)
theorem moved72 {m n x y : Int} (h : (-16384 ≤ m ∧ m ≤ 16384 ∧ -16384 ≤ n ∧ n ≤ 16384 ∧ (m + n) % 2 = 0) ∧ -4096 ≤ x ∧ x ≤ 4096 ∧ -4096 ≤ y ∧ y ≤ 4096) : Cc 80 [.i 7, .i m, .i n, .i x, .i y, .i 2] [.i (y + m), .i (x + n), .i 1] := by
  refine q80 rfl ?_; unfold p80
  repeat (first | simp (disch := omega) only [↓qxs, ↓qxc, ↓qxa, ↓gs2] | refine p_opt_r (by simp only [pickL, putL, offX, Int.reduceToNat, Int.reduceAdd, Int.reduceMul, Int.reduceMod, Int.reduceSub, Int.reduceNeg, Int.reduceDiv, Nat.reduceAdd, Nat.reduceMul, Nat.reduceLeDiff, List.length_cons, List.length_nil, ↓reduceIte, List.drop_succ_cons, List.drop_zero, List.take_succ_cons, List.take_zero, List.cons_append, List.nil_append, Nat.zero_add, Int.toNat_zero, Nat.zero_mul, Nat.add_zero, Int.zero_add]; exact rfl) ?_ | refine p_loop 6 ?_ | refine p_call (middle (by omega)) ?_ | refine p_call (mpoint7 (by omega)) ?_)
  (try simp only [List.cons.injEq, Lf.i.injEq, and_true, true_and]); (try omega)
theorem moved73 {m n x y : Int} (h : (-16384 ≤ m ∧ m ≤ 16384 ∧ -16384 ≤ n ∧ n ≤ 16384 ∧ (m + n) % 2 = 0) ∧ -4096 ≤ x ∧ x ≤ 4096 ∧ -4096 ≤ y ∧ y ≤ 4096) : Cc 80 [.i 7, .i m, .i n, .i x, .i y, .i 3] [.i (y + m), .i (x + n), .i 0] := by
  refine q80 rfl ?_; unfold p80
  repeat (first | simp (disch := omega) only [↓qxs, ↓qxc, ↓qxa, ↓gs3] | refine p_opt_r (by simp only [pickL, putL, offX, Int.reduceToNat, Int.reduceAdd, Int.reduceMul, Int.reduceMod, Int.reduceSub, Int.reduceNeg, Int.reduceDiv, Nat.reduceAdd, Nat.reduceMul, Nat.reduceLeDiff, List.length_cons, List.length_nil, ↓reduceIte, List.drop_succ_cons, List.drop_zero, List.take_succ_cons, List.take_zero, List.cons_append, List.nil_append, Nat.zero_add, Int.toNat_zero, Nat.zero_mul, Nat.add_zero, Int.zero_add]; exact rfl) ?_ | refine p_loop 6 ?_ | refine p_call (middle (by omega)) ?_ | refine p_call (mpoint7 (by omega)) ?_)
  (try simp only [List.cons.injEq, Lf.i.injEq, and_true, true_and]); (try omega)
end Go.Am
/-
  CONTRACTS, BY PROGRAM: cells moved.
-/
set_option maxRecDepth 100000
namespace Go.Am
open Sx Go.Proofs

theorem cmove00 {m n x y : Int} (h : (-16384 ≤ m ∧ m ≤ 16384 ∧ -16384 ≤ n ∧ n ≤ 16384 ∧ (m + n) % 2 = 0) ∧ -4096 ≤ x ∧ x ≤ 4096 ∧ -4096 ≤ y ∧ y ≤ 4096 ∧ -4096 ≤ x + m ∧ x + m ≤ 4096 ∧ -4096 ≤ y + n ∧ y + n ≤ 4096) : Cc 52 [.i 0, .i m, .i n, .i x, .i y, .i 0] [.i (x + m), .i (y + n), .i 0, .i 0] := by
  refine q52 rfl ?_; unfold p52
  repeat (first | simp (disch := omega) only [↓qxs, ↓qxc, ↓qxa] | refine p_call (mcheck_ok (by omega)) ?_ | refine p_call (cellCheck_ok (by omega)) ?_ | refine p_call (moved00 (by omega)) ?_)
  (try simp only [List.cons.injEq, Lf.i.injEq, and_true, true_and]); (try omega)
theorem cmovel00 {m n x y : Int} (h : (-16384 ≤ m ∧ m ≤ 16384 ∧ -16384 ≤ n ∧ n ≤ 16384 ∧ (m + n) % 2 = 0) ∧ -4096 ≤ x ∧ x ≤ 4096 ∧ -4096 ≤ y ∧ y ≤ 4096 ∧ ¬ (-4096 ≤ x + m ∧ x + m ≤ 4096 ∧ -4096 ≤ y + n ∧ y + n ≤ 4096)) : Cc 52 [.i 0, .i m, .i n, .i x, .i y, .i 0] [.i 0, .i 0, .i 0, .i 3] := by
  refine q52 rfl ?_; unfold p52
  repeat (first | simp (disch := omega) only [↓qxs, ↓qxc, ↓qxa] | refine p_call (mcheck_ok (by omega)) ?_ | refine p_call (cellCheck_ok (by omega)) ?_ | refine p_call (moved00 (by omega)) ?_ | refine p_call (cellCheck_no (by omega)) ?_)
  (try simp only [List.cons.injEq, Lf.i.injEq, and_true, true_and]); (try omega)
theorem cmove01 {m n x y : Int} (h : (-16384 ≤ m ∧ m ≤ 16384 ∧ -16384 ≤ n ∧ n ≤ 16384 ∧ (m + n) % 2 = 0) ∧ -4096 ≤ x ∧ x ≤ 4096 ∧ -4096 ≤ y ∧ y ≤ 4096 ∧ -4096 ≤ x + m ∧ x + m ≤ 4096 ∧ -4096 ≤ y + n ∧ y + n ≤ 4096) : Cc 52 [.i 0, .i m, .i n, .i x, .i y, .i 1] [.i (x + m), .i (y + n), .i 1, .i 0] := by
  refine q52 rfl ?_; unfold p52
  repeat (first | simp (disch := omega) only [↓qxs, ↓qxc, ↓qxa] | refine p_call (mcheck_ok (by omega)) ?_ | refine p_call (cellCheck_ok (by omega)) ?_ | refine p_call (moved01 (by omega)) ?_)
  (try simp only [List.cons.injEq, Lf.i.injEq, and_true, true_and]); (try omega)
theorem cmovel01 {m n x y : Int} (h : (-16384 ≤ m ∧ m ≤ 16384 ∧ -16384 ≤ n ∧ n ≤ 16384 ∧ (m + n) % 2 = 0) ∧ -4096 ≤ x ∧ x ≤ 4096 ∧ -4096 ≤ y ∧ y ≤ 4096 ∧ ¬ (-4096 ≤ x + m ∧ x + m ≤ 4096 ∧ -4096 ≤ y + n ∧ y + n ≤ 4096)) : Cc 52 [.i 0, .i m, .i n, .i x, .i y, .i 1] [.i 0, .i 0, .i 0, .i 3] := by
  refine q52 rfl ?_; unfold p52
  repeat (first | simp (disch := omega) only [↓qxs, ↓qxc, ↓qxa] | refine p_call (mcheck_ok (by omega)) ?_ | refine p_call (cellCheck_ok (by omega)) ?_ | refine p_call (moved01 (by omega)) ?_ | refine p_call (cellCheck_no (by omega)) ?_)
  (try simp only [List.cons.injEq, Lf.i.injEq, and_true, true_and]); (try omega)
theorem cmove02 {m n x y : Int} (h : (-16384 ≤ m ∧ m ≤ 16384 ∧ -16384 ≤ n ∧ n ≤ 16384 ∧ (m + n) % 2 = 0) ∧ -4096 ≤ x ∧ x ≤ 4096 ∧ -4096 ≤ y ∧ y ≤ 4096 ∧ -4096 ≤ x + m ∧ x + m ≤ 4096 ∧ -4096 ≤ y + n ∧ y + n ≤ 4096) : Cc 52 [.i 0, .i m, .i n, .i x, .i y, .i 2] [.i (x + m), .i (y + n), .i 2, .i 0] := by
  refine q52 rfl ?_; unfold p52
  repeat (first | simp (disch := omega) only [↓qxs, ↓qxc, ↓qxa] | refine p_call (mcheck_ok (by omega)) ?_ | refine p_call (cellCheck_ok (by omega)) ?_ | refine p_call (moved02 (by omega)) ?_)
  (try simp only [List.cons.injEq, Lf.i.injEq, and_true, true_and]); (try omega)
theorem cmovel02 {m n x y : Int} (h : (-16384 ≤ m ∧ m ≤ 16384 ∧ -16384 ≤ n ∧ n ≤ 16384 ∧ (m + n) % 2 = 0) ∧ -4096 ≤ x ∧ x ≤ 4096 ∧ -4096 ≤ y ∧ y ≤ 4096 ∧ ¬ (-4096 ≤ x + m ∧ x + m ≤ 4096 ∧ -4096 ≤ y + n ∧ y + n ≤ 4096)) : Cc 52 [.i 0, .i m, .i n, .i x, .i y, .i 2] [.i 0, .i 0, .i 0, .i 3] := by
  refine q52 rfl ?_; unfold p52
  repeat (first | simp (disch := omega) only [↓qxs, ↓qxc, ↓qxa] | refine p_call (mcheck_ok (by omega)) ?_ | refine p_call (cellCheck_ok (by omega)) ?_ | refine p_call (moved02 (by omega)) ?_ | refine p_call (cellCheck_no (by omega)) ?_)
  (try simp only [List.cons.injEq, Lf.i.injEq, and_true, true_and]); (try omega)
theorem cmove03 {m n x y : Int} (h : (-16384 ≤ m ∧ m ≤ 16384 ∧ -16384 ≤ n ∧ n ≤ 16384 ∧ (m + n) % 2 = 0) ∧ -4096 ≤ x ∧ x ≤ 4096 ∧ -4096 ≤ y ∧ y ≤ 4096 ∧ -4096 ≤ x + m ∧ x + m ≤ 4096 ∧ -4096 ≤ y + n ∧ y + n ≤ 4096) : Cc 52 [.i 0, .i m, .i n, .i x, .i y, .i 3] [.i (x + m), .i (y + n), .i 3, .i 0] := by
  refine q52 rfl ?_; unfold p52
  repeat (first | simp (disch := omega) only [↓qxs, ↓qxc, ↓qxa] | refine p_call (mcheck_ok (by omega)) ?_ | refine p_call (cellCheck_ok (by omega)) ?_ | refine p_call (moved03 (by omega)) ?_)
  (try simp only [List.cons.injEq, Lf.i.injEq, and_true, true_and]); (try omega)
theorem cmovel03 {m n x y : Int} (h : (-16384 ≤ m ∧ m ≤ 16384 ∧ -16384 ≤ n ∧ n ≤ 16384 ∧ (m + n) % 2 = 0) ∧ -4096 ≤ x ∧ x ≤ 4096 ∧ -4096 ≤ y ∧ y ≤ 4096 ∧ ¬ (-4096 ≤ x + m ∧ x + m ≤ 4096 ∧ -4096 ≤ y + n ∧ y + n ≤ 4096)) : Cc 52 [.i 0, .i m, .i n, .i x, .i y, .i 3] [.i 0, .i 0, .i 0, .i 3] := by
  refine q52 rfl ?_; unfold p52
  repeat (first | simp (disch := omega) only [↓qxs, ↓qxc, ↓qxa] | refine p_call (mcheck_ok (by omega)) ?_ | refine p_call (cellCheck_ok (by omega)) ?_ | refine p_call (moved03 (by omega)) ?_ | refine p_call (cellCheck_no (by omega)) ?_)
  (try simp only [List.cons.injEq, Lf.i.injEq, and_true, true_and]); (try omega)
theorem cmove10 {m n x y : Int} (h : (-16384 ≤ m ∧ m ≤ 16384 ∧ -16384 ≤ n ∧ n ≤ 16384 ∧ (m + n) % 2 = 0) ∧ -4096 ≤ x ∧ x ≤ 4096 ∧ -4096 ≤ y ∧ y ≤ 4096 ∧ -4096 ≤ -y - 1 + m ∧ -y - 1 + m ≤ 4096 ∧ -4096 ≤ x + n ∧ x + n ≤ 4096) : Cc 52 [.i 1, .i m, .i n, .i x, .i y, .i 0] [.i (-y - 1 + m), .i (x + n), .i 1, .i 0] := by
  refine q52 rfl ?_; unfold p52
  repeat (first | simp (disch := omega) only [↓qxs, ↓qxc, ↓qxa] | refine p_call (mcheck_ok (by omega)) ?_ | refine p_call (cellCheck_ok (by omega)) ?_ | refine p_call (moved10 (by omega)) ?_)
  (try simp only [List.cons.injEq, Lf.i.injEq, and_true, true_and]); (try omega)
theorem cmovel10 {m n x y : Int} (h : (-16384 ≤ m ∧ m ≤ 16384 ∧ -16384 ≤ n ∧ n ≤ 16384 ∧ (m + n) % 2 = 0) ∧ -4096 ≤ x ∧ x ≤ 4096 ∧ -4096 ≤ y ∧ y ≤ 4096 ∧ ¬ (-4096 ≤ -y - 1 + m ∧ -y - 1 + m ≤ 4096 ∧ -4096 ≤ x + n ∧ x + n ≤ 4096)) : Cc 52 [.i 1, .i m, .i n, .i x, .i y, .i 0] [.i 0, .i 0, .i 0, .i 3] := by
  refine q52 rfl ?_; unfold p52
  repeat (first | simp (disch := omega) only [↓qxs, ↓qxc, ↓qxa] | refine p_call (mcheck_ok (by omega)) ?_ | refine p_call (cellCheck_ok (by omega)) ?_ | refine p_call (moved10 (by omega)) ?_ | refine p_call (cellCheck_no (by omega)) ?_)
  (try simp only [List.cons.injEq, Lf.i.injEq, and_true, true_and]); (try omega)
theorem cmove11 {m n x y : Int} (h : (-16384 ≤ m ∧ m ≤ 16384 ∧ -16384 ≤ n ∧ n ≤ 16384 ∧ (m + n) % 2 = 0) ∧ -4096 ≤ x ∧ x ≤ 4096 ∧ -4096 ≤ y ∧ y ≤ 4096 ∧ -4096 ≤ -y - 1 + m ∧ -y - 1 + m ≤ 4096 ∧ -4096 ≤ x + n ∧ x + n ≤ 4096) : Cc 52 [.i 1, .i m, .i n, .i x, .i y, .i 1] [.i (-y - 1 + m), .i (x + n), .i 2, .i 0] := by
  refine q52 rfl ?_; unfold p52
  repeat (first | simp (disch := omega) only [↓qxs, ↓qxc, ↓qxa] | refine p_call (mcheck_ok (by omega)) ?_ | refine p_call (cellCheck_ok (by omega)) ?_ | refine p_call (moved11 (by omega)) ?_)
  (try simp only [List.cons.injEq, Lf.i.injEq, and_true, true_and]); (try omega)
theorem cmovel11 {m n x y : Int} (h : (-16384 ≤ m ∧ m ≤ 16384 ∧ -16384 ≤ n ∧ n ≤ 16384 ∧ (m + n) % 2 = 0) ∧ -4096 ≤ x ∧ x ≤ 4096 ∧ -4096 ≤ y ∧ y ≤ 4096 ∧ ¬ (-4096 ≤ -y - 1 + m ∧ -y - 1 + m ≤ 4096 ∧ -4096 ≤ x + n ∧ x + n ≤ 4096)) : Cc 52 [.i 1, .i m, .i n, .i x, .i y, .i 1] [.i 0, .i 0, .i 0, .i 3] := by
  refine q52 rfl ?_; unfold p52
  repeat (first | simp (disch := omega) only [↓qxs, ↓qxc, ↓qxa] | refine p_call (mcheck_ok (by omega)) ?_ | refine p_call (cellCheck_ok (by omega)) ?_ | refine p_call (moved11 (by omega)) ?_ | refine p_call (cellCheck_no (by omega)) ?_)
  (try simp only [List.cons.injEq, Lf.i.injEq, and_true, true_and]); (try omega)
theorem cmove12 {m n x y : Int} (h : (-16384 ≤ m ∧ m ≤ 16384 ∧ -16384 ≤ n ∧ n ≤ 16384 ∧ (m + n) % 2 = 0) ∧ -4096 ≤ x ∧ x ≤ 4096 ∧ -4096 ≤ y ∧ y ≤ 4096 ∧ -4096 ≤ -y - 1 + m ∧ -y - 1 + m ≤ 4096 ∧ -4096 ≤ x + n ∧ x + n ≤ 4096) : Cc 52 [.i 1, .i m, .i n, .i x, .i y, .i 2] [.i (-y - 1 + m), .i (x + n), .i 3, .i 0] := by
  refine q52 rfl ?_; unfold p52
  repeat (first | simp (disch := omega) only [↓qxs, ↓qxc, ↓qxa] | refine p_call (mcheck_ok (by omega)) ?_ | refine p_call (cellCheck_ok (by omega)) ?_ | refine p_call (moved12 (by omega)) ?_)
  (try simp only [List.cons.injEq, Lf.i.injEq, and_true, true_and]); (try omega)
theorem cmovel12 {m n x y : Int} (h : (-16384 ≤ m ∧ m ≤ 16384 ∧ -16384 ≤ n ∧ n ≤ 16384 ∧ (m + n) % 2 = 0) ∧ -4096 ≤ x ∧ x ≤ 4096 ∧ -4096 ≤ y ∧ y ≤ 4096 ∧ ¬ (-4096 ≤ -y - 1 + m ∧ -y - 1 + m ≤ 4096 ∧ -4096 ≤ x + n ∧ x + n ≤ 4096)) : Cc 52 [.i 1, .i m, .i n, .i x, .i y, .i 2] [.i 0, .i 0, .i 0, .i 3] := by
  refine q52 rfl ?_; unfold p52
  repeat (first | simp (disch := omega) only [↓qxs, ↓qxc, ↓qxa] | refine p_call (mcheck_ok (by omega)) ?_ | refine p_call (cellCheck_ok (by omega)) ?_ | refine p_call (moved12 (by omega)) ?_ | refine p_call (cellCheck_no (by omega)) ?_)
  (try simp only [List.cons.injEq, Lf.i.injEq, and_true, true_and]); (try omega)
theorem cmove13 {m n x y : Int} (h : (-16384 ≤ m ∧ m ≤ 16384 ∧ -16384 ≤ n ∧ n ≤ 16384 ∧ (m + n) % 2 = 0) ∧ -4096 ≤ x ∧ x ≤ 4096 ∧ -4096 ≤ y ∧ y ≤ 4096 ∧ -4096 ≤ -y - 1 + m ∧ -y - 1 + m ≤ 4096 ∧ -4096 ≤ x + n ∧ x + n ≤ 4096) : Cc 52 [.i 1, .i m, .i n, .i x, .i y, .i 3] [.i (-y - 1 + m), .i (x + n), .i 0, .i 0] := by
  refine q52 rfl ?_; unfold p52
  repeat (first | simp (disch := omega) only [↓qxs, ↓qxc, ↓qxa] | refine p_call (mcheck_ok (by omega)) ?_ | refine p_call (cellCheck_ok (by omega)) ?_ | refine p_call (moved13 (by omega)) ?_)
  (try simp only [List.cons.injEq, Lf.i.injEq, and_true, true_and]); (try omega)
theorem cmovel13 {m n x y : Int} (h : (-16384 ≤ m ∧ m ≤ 16384 ∧ -16384 ≤ n ∧ n ≤ 16384 ∧ (m + n) % 2 = 0) ∧ -4096 ≤ x ∧ x ≤ 4096 ∧ -4096 ≤ y ∧ y ≤ 4096 ∧ ¬ (-4096 ≤ -y - 1 + m ∧ -y - 1 + m ≤ 4096 ∧ -4096 ≤ x + n ∧ x + n ≤ 4096)) : Cc 52 [.i 1, .i m, .i n, .i x, .i y, .i 3] [.i 0, .i 0, .i 0, .i 3] := by
  refine q52 rfl ?_; unfold p52
  repeat (first | simp (disch := omega) only [↓qxs, ↓qxc, ↓qxa] | refine p_call (mcheck_ok (by omega)) ?_ | refine p_call (cellCheck_ok (by omega)) ?_ | refine p_call (moved13 (by omega)) ?_ | refine p_call (cellCheck_no (by omega)) ?_)
  (try simp only [List.cons.injEq, Lf.i.injEq, and_true, true_and]); (try omega)
theorem cmove20 {m n x y : Int} (h : (-16384 ≤ m ∧ m ≤ 16384 ∧ -16384 ≤ n ∧ n ≤ 16384 ∧ (m + n) % 2 = 0) ∧ -4096 ≤ x ∧ x ≤ 4096 ∧ -4096 ≤ y ∧ y ≤ 4096 ∧ -4096 ≤ -x - 1 + m ∧ -x - 1 + m ≤ 4096 ∧ -4096 ≤ -y - 1 + n ∧ -y - 1 + n ≤ 4096) : Cc 52 [.i 2, .i m, .i n, .i x, .i y, .i 0] [.i (-x - 1 + m), .i (-y - 1 + n), .i 2, .i 0] := by
  refine q52 rfl ?_; unfold p52
  repeat (first | simp (disch := omega) only [↓qxs, ↓qxc, ↓qxa] | refine p_call (mcheck_ok (by omega)) ?_ | refine p_call (cellCheck_ok (by omega)) ?_ | refine p_call (moved20 (by omega)) ?_)
  (try simp only [List.cons.injEq, Lf.i.injEq, and_true, true_and]); (try omega)
theorem cmovel20 {m n x y : Int} (h : (-16384 ≤ m ∧ m ≤ 16384 ∧ -16384 ≤ n ∧ n ≤ 16384 ∧ (m + n) % 2 = 0) ∧ -4096 ≤ x ∧ x ≤ 4096 ∧ -4096 ≤ y ∧ y ≤ 4096 ∧ ¬ (-4096 ≤ -x - 1 + m ∧ -x - 1 + m ≤ 4096 ∧ -4096 ≤ -y - 1 + n ∧ -y - 1 + n ≤ 4096)) : Cc 52 [.i 2, .i m, .i n, .i x, .i y, .i 0] [.i 0, .i 0, .i 0, .i 3] := by
  refine q52 rfl ?_; unfold p52
  repeat (first | simp (disch := omega) only [↓qxs, ↓qxc, ↓qxa] | refine p_call (mcheck_ok (by omega)) ?_ | refine p_call (cellCheck_ok (by omega)) ?_ | refine p_call (moved20 (by omega)) ?_ | refine p_call (cellCheck_no (by omega)) ?_)
  (try simp only [List.cons.injEq, Lf.i.injEq, and_true, true_and]); (try omega)
theorem cmove21 {m n x y : Int} (h : (-16384 ≤ m ∧ m ≤ 16384 ∧ -16384 ≤ n ∧ n ≤ 16384 ∧ (m + n) % 2 = 0) ∧ -4096 ≤ x ∧ x ≤ 4096 ∧ -4096 ≤ y ∧ y ≤ 4096 ∧ -4096 ≤ -x - 1 + m ∧ -x - 1 + m ≤ 4096 ∧ -4096 ≤ -y - 1 + n ∧ -y - 1 + n ≤ 4096) : Cc 52 [.i 2, .i m, .i n, .i x, .i y, .i 1] [.i (-x - 1 + m), .i (-y - 1 + n), .i 3, .i 0] := by
  refine q52 rfl ?_; unfold p52
  repeat (first | simp (disch := omega) only [↓qxs, ↓qxc, ↓qxa] | refine p_call (mcheck_ok (by omega)) ?_ | refine p_call (cellCheck_ok (by omega)) ?_ | refine p_call (moved21 (by omega)) ?_)
  (try simp only [List.cons.injEq, Lf.i.injEq, and_true, true_and]); (try omega)
theorem cmovel21 {m n x y : Int} (h : (-16384 ≤ m ∧ m ≤ 16384 ∧ -16384 ≤ n ∧ n ≤ 16384 ∧ (m + n) % 2 = 0) ∧ -4096 ≤ x ∧ x ≤ 4096 ∧ -4096 ≤ y ∧ y ≤ 4096 ∧ ¬ (-4096 ≤ -x - 1 + m ∧ -x - 1 + m ≤ 4096 ∧ -4096 ≤ -y - 1 + n ∧ -y - 1 + n ≤ 4096)) : Cc 52 [.i 2, .i m, .i n, .i x, .i y, .i 1] [.i 0, .i 0, .i 0, .i 3] := by
  refine q52 rfl ?_; unfold p52
  repeat (first | simp (disch := omega) only [↓qxs, ↓qxc, ↓qxa] | refine p_call (mcheck_ok (by omega)) ?_ | refine p_call (cellCheck_ok (by omega)) ?_ | refine p_call (moved21 (by omega)) ?_ | refine p_call (cellCheck_no (by omega)) ?_)
  (try simp only [List.cons.injEq, Lf.i.injEq, and_true, true_and]); (try omega)
theorem cmove22 {m n x y : Int} (h : (-16384 ≤ m ∧ m ≤ 16384 ∧ -16384 ≤ n ∧ n ≤ 16384 ∧ (m + n) % 2 = 0) ∧ -4096 ≤ x ∧ x ≤ 4096 ∧ -4096 ≤ y ∧ y ≤ 4096 ∧ -4096 ≤ -x - 1 + m ∧ -x - 1 + m ≤ 4096 ∧ -4096 ≤ -y - 1 + n ∧ -y - 1 + n ≤ 4096) : Cc 52 [.i 2, .i m, .i n, .i x, .i y, .i 2] [.i (-x - 1 + m), .i (-y - 1 + n), .i 0, .i 0] := by
  refine q52 rfl ?_; unfold p52
  repeat (first | simp (disch := omega) only [↓qxs, ↓qxc, ↓qxa] | refine p_call (mcheck_ok (by omega)) ?_ | refine p_call (cellCheck_ok (by omega)) ?_ | refine p_call (moved22 (by omega)) ?_)
  (try simp only [List.cons.injEq, Lf.i.injEq, and_true, true_and]); (try omega)
theorem cmovel22 {m n x y : Int} (h : (-16384 ≤ m ∧ m ≤ 16384 ∧ -16384 ≤ n ∧ n ≤ 16384 ∧ (m + n) % 2 = 0) ∧ -4096 ≤ x ∧ x ≤ 4096 ∧ -4096 ≤ y ∧ y ≤ 4096 ∧ ¬ (-4096 ≤ -x - 1 + m ∧ -x - 1 + m ≤ 4096 ∧ -4096 ≤ -y - 1 + n ∧ -y - 1 + n ≤ 4096)) : Cc 52 [.i 2, .i m, .i n, .i x, .i y, .i 2] [.i 0, .i 0, .i 0, .i 3] := by
  refine q52 rfl ?_; unfold p52
  repeat (first | simp (disch := omega) only [↓qxs, ↓qxc, ↓qxa] | refine p_call (mcheck_ok (by omega)) ?_ | refine p_call (cellCheck_ok (by omega)) ?_ | refine p_call (moved22 (by omega)) ?_ | refine p_call (cellCheck_no (by omega)) ?_)
  (try simp only [List.cons.injEq, Lf.i.injEq, and_true, true_and]); (try omega)
theorem cmove23 {m n x y : Int} (h : (-16384 ≤ m ∧ m ≤ 16384 ∧ -16384 ≤ n ∧ n ≤ 16384 ∧ (m + n) % 2 = 0) ∧ -4096 ≤ x ∧ x ≤ 4096 ∧ -4096 ≤ y ∧ y ≤ 4096 ∧ -4096 ≤ -x - 1 + m ∧ -x - 1 + m ≤ 4096 ∧ -4096 ≤ -y - 1 + n ∧ -y - 1 + n ≤ 4096) : Cc 52 [.i 2, .i m, .i n, .i x, .i y, .i 3] [.i (-x - 1 + m), .i (-y - 1 + n), .i 1, .i 0] := by
  refine q52 rfl ?_; unfold p52
  repeat (first | simp (disch := omega) only [↓qxs, ↓qxc, ↓qxa] | refine p_call (mcheck_ok (by omega)) ?_ | refine p_call (cellCheck_ok (by omega)) ?_ | refine p_call (moved23 (by omega)) ?_)
  (try simp only [List.cons.injEq, Lf.i.injEq, and_true, true_and]); (try omega)
theorem cmovel23 {m n x y : Int} (h : (-16384 ≤ m ∧ m ≤ 16384 ∧ -16384 ≤ n ∧ n ≤ 16384 ∧ (m + n) % 2 = 0) ∧ -4096 ≤ x ∧ x ≤ 4096 ∧ -4096 ≤ y ∧ y ≤ 4096 ∧ ¬ (-4096 ≤ -x - 1 + m ∧ -x - 1 + m ≤ 4096 ∧ -4096 ≤ -y - 1 + n ∧ -y - 1 + n ≤ 4096)) : Cc 52 [.i 2, .i m, .i n, .i x, .i y, .i 3] [.i 0, .i 0, .i 0, .i 3] := by
  refine q52 rfl ?_; unfold p52
  repeat (first | simp (disch := omega) only [↓qxs, ↓qxc, ↓qxa] | refine p_call (mcheck_ok (by omega)) ?_ | refine p_call (cellCheck_ok (by omega)) ?_ | refine p_call (moved23 (by omega)) ?_ | refine p_call (cellCheck_no (by omega)) ?_)
  (try simp only [List.cons.injEq, Lf.i.injEq, and_true, true_and]); (try omega)
theorem cmove30 {m n x y : Int} (h : (-16384 ≤ m ∧ m ≤ 16384 ∧ -16384 ≤ n ∧ n ≤ 16384 ∧ (m + n) % 2 = 0) ∧ -4096 ≤ x ∧ x ≤ 4096 ∧ -4096 ≤ y ∧ y ≤ 4096 ∧ -4096 ≤ y + m ∧ y + m ≤ 4096 ∧ -4096 ≤ -x - 1 + n ∧ -x - 1 + n ≤ 4096) : Cc 52 [.i 3, .i m, .i n, .i x, .i y, .i 0] [.i (y + m), .i (-x - 1 + n), .i 3, .i 0] := by
  refine q52 rfl ?_; unfold p52
  repeat (first | simp (disch := omega) only [↓qxs, ↓qxc, ↓qxa] | refine p_call (mcheck_ok (by omega)) ?_ | refine p_call (cellCheck_ok (by omega)) ?_ | refine p_call (moved30 (by omega)) ?_)
  (try simp only [List.cons.injEq, Lf.i.injEq, and_true, true_and]); (try omega)
theorem cmovel30 {m n x y : Int} (h : (-16384 ≤ m ∧ m ≤ 16384 ∧ -16384 ≤ n ∧ n ≤ 16384 ∧ (m + n) % 2 = 0) ∧ -4096 ≤ x ∧ x ≤ 4096 ∧ -4096 ≤ y ∧ y ≤ 4096 ∧ ¬ (-4096 ≤ y + m ∧ y + m ≤ 4096 ∧ -4096 ≤ -x - 1 + n ∧ -x - 1 + n ≤ 4096)) : Cc 52 [.i 3, .i m, .i n, .i x, .i y, .i 0] [.i 0, .i 0, .i 0, .i 3] := by
  refine q52 rfl ?_; unfold p52
  repeat (first | simp (disch := omega) only [↓qxs, ↓qxc, ↓qxa] | refine p_call (mcheck_ok (by omega)) ?_ | refine p_call (cellCheck_ok (by omega)) ?_ | refine p_call (moved30 (by omega)) ?_ | refine p_call (cellCheck_no (by omega)) ?_)
  (try simp only [List.cons.injEq, Lf.i.injEq, and_true, true_and]); (try omega)
theorem cmove31 {m n x y : Int} (h : (-16384 ≤ m ∧ m ≤ 16384 ∧ -16384 ≤ n ∧ n ≤ 16384 ∧ (m + n) % 2 = 0) ∧ -4096 ≤ x ∧ x ≤ 4096 ∧ -4096 ≤ y ∧ y ≤ 4096 ∧ -4096 ≤ y + m ∧ y + m ≤ 4096 ∧ -4096 ≤ -x - 1 + n ∧ -x - 1 + n ≤ 4096) : Cc 52 [.i 3, .i m, .i n, .i x, .i y, .i 1] [.i (y + m), .i (-x - 1 + n), .i 0, .i 0] := by
  refine q52 rfl ?_; unfold p52
  repeat (first | simp (disch := omega) only [↓qxs, ↓qxc, ↓qxa] | refine p_call (mcheck_ok (by omega)) ?_ | refine p_call (cellCheck_ok (by omega)) ?_ | refine p_call (moved31 (by omega)) ?_)
  (try simp only [List.cons.injEq, Lf.i.injEq, and_true, true_and]); (try omega)
theorem cmovel31 {m n x y : Int} (h : (-16384 ≤ m ∧ m ≤ 16384 ∧ -16384 ≤ n ∧ n ≤ 16384 ∧ (m + n) % 2 = 0) ∧ -4096 ≤ x ∧ x ≤ 4096 ∧ -4096 ≤ y ∧ y ≤ 4096 ∧ ¬ (-4096 ≤ y + m ∧ y + m ≤ 4096 ∧ -4096 ≤ -x - 1 + n ∧ -x - 1 + n ≤ 4096)) : Cc 52 [.i 3, .i m, .i n, .i x, .i y, .i 1] [.i 0, .i 0, .i 0, .i 3] := by
  refine q52 rfl ?_; unfold p52
  repeat (first | simp (disch := omega) only [↓qxs, ↓qxc, ↓qxa] | refine p_call (mcheck_ok (by omega)) ?_ | refine p_call (cellCheck_ok (by omega)) ?_ | refine p_call (moved31 (by omega)) ?_ | refine p_call (cellCheck_no (by omega)) ?_)
  (try simp only [List.cons.injEq, Lf.i.injEq, and_true, true_and]); (try omega)
theorem cmove32 {m n x y : Int} (h : (-16384 ≤ m ∧ m ≤ 16384 ∧ -16384 ≤ n ∧ n ≤ 16384 ∧ (m + n) % 2 = 0) ∧ -4096 ≤ x ∧ x ≤ 4096 ∧ -4096 ≤ y ∧ y ≤ 4096 ∧ -4096 ≤ y + m ∧ y + m ≤ 4096 ∧ -4096 ≤ -x - 1 + n ∧ -x - 1 + n ≤ 4096) : Cc 52 [.i 3, .i m, .i n, .i x, .i y, .i 2] [.i (y + m), .i (-x - 1 + n), .i 1, .i 0] := by
  refine q52 rfl ?_; unfold p52
  repeat (first | simp (disch := omega) only [↓qxs, ↓qxc, ↓qxa] | refine p_call (mcheck_ok (by omega)) ?_ | refine p_call (cellCheck_ok (by omega)) ?_ | refine p_call (moved32 (by omega)) ?_)
  (try simp only [List.cons.injEq, Lf.i.injEq, and_true, true_and]); (try omega)
theorem cmovel32 {m n x y : Int} (h : (-16384 ≤ m ∧ m ≤ 16384 ∧ -16384 ≤ n ∧ n ≤ 16384 ∧ (m + n) % 2 = 0) ∧ -4096 ≤ x ∧ x ≤ 4096 ∧ -4096 ≤ y ∧ y ≤ 4096 ∧ ¬ (-4096 ≤ y + m ∧ y + m ≤ 4096 ∧ -4096 ≤ -x - 1 + n ∧ -x - 1 + n ≤ 4096)) : Cc 52 [.i 3, .i m, .i n, .i x, .i y, .i 2] [.i 0, .i 0, .i 0, .i 3] := by
  refine q52 rfl ?_; unfold p52
  repeat (first | simp (disch := omega) only [↓qxs, ↓qxc, ↓qxa] | refine p_call (mcheck_ok (by omega)) ?_ | refine p_call (cellCheck_ok (by omega)) ?_ | refine p_call (moved32 (by omega)) ?_ | refine p_call (cellCheck_no (by omega)) ?_)
  (try simp only [List.cons.injEq, Lf.i.injEq, and_true, true_and]); (try omega)
theorem cmove33 {m n x y : Int} (h : (-16384 ≤ m ∧ m ≤ 16384 ∧ -16384 ≤ n ∧ n ≤ 16384 ∧ (m + n) % 2 = 0) ∧ -4096 ≤ x ∧ x ≤ 4096 ∧ -4096 ≤ y ∧ y ≤ 4096 ∧ -4096 ≤ y + m ∧ y + m ≤ 4096 ∧ -4096 ≤ -x - 1 + n ∧ -x - 1 + n ≤ 4096) : Cc 52 [.i 3, .i m, .i n, .i x, .i y, .i 3] [.i (y + m), .i (-x - 1 + n), .i 2, .i 0] := by
  refine q52 rfl ?_; unfold p52
  repeat (first | simp (disch := omega) only [↓qxs, ↓qxc, ↓qxa] | refine p_call (mcheck_ok (by omega)) ?_ | refine p_call (cellCheck_ok (by omega)) ?_ | refine p_call (moved33 (by omega)) ?_)
  (try simp only [List.cons.injEq, Lf.i.injEq, and_true, true_and]); (try omega)
theorem cmovel33 {m n x y : Int} (h : (-16384 ≤ m ∧ m ≤ 16384 ∧ -16384 ≤ n ∧ n ≤ 16384 ∧ (m + n) % 2 = 0) ∧ -4096 ≤ x ∧ x ≤ 4096 ∧ -4096 ≤ y ∧ y ≤ 4096 ∧ ¬ (-4096 ≤ y + m ∧ y + m ≤ 4096 ∧ -4096 ≤ -x - 1 + n ∧ -x - 1 + n ≤ 4096)) : Cc 52 [.i 3, .i m, .i n, .i x, .i y, .i 3] [.i 0, .i 0, .i 0, .i 3] := by
  refine q52 rfl ?_; unfold p52
  repeat (first | simp (disch := omega) only [↓qxs, ↓qxc, ↓qxa] | refine p_call (mcheck_ok (by omega)) ?_ | refine p_call (cellCheck_ok (by omega)) ?_ | refine p_call (moved33 (by omega)) ?_ | refine p_call (cellCheck_no (by omega)) ?_)
  (try simp only [List.cons.injEq, Lf.i.injEq, and_true, true_and]); (try omega)
theorem cmove40 {m n x y : Int} (h : (-16384 ≤ m ∧ m ≤ 16384 ∧ -16384 ≤ n ∧ n ≤ 16384 ∧ (m + n) % 2 = 0) ∧ -4096 ≤ x ∧ x ≤ 4096 ∧ -4096 ≤ y ∧ y ≤ 4096 ∧ -4096 ≤ -x - 1 + m ∧ -x - 1 + m ≤ 4096 ∧ -4096 ≤ y + n ∧ y + n ≤ 4096) : Cc 52 [.i 4, .i m, .i n, .i x, .i y, .i 0] [.i (-x - 1 + m), .i (y + n), .i 0, .i 0] := by
  refine q52 rfl ?_; unfold p52
  repeat (first | simp (disch := omega) only [↓qxs, ↓qxc, ↓qxa] | refine p_call (mcheck_ok (by omega)) ?_ | refine p_call (cellCheck_ok (by omega)) ?_ | refine p_call (moved40 (by omega)) ?_)
  (try simp only [List.cons.injEq, Lf.i.injEq, and_true, true_and]); (try omega)
theorem cmovel40 {m n x y : Int} (h : (-16384 ≤ m ∧ m ≤ 16384 ∧ -16384 ≤ n ∧ n ≤ 16384 ∧ (m + n) % 2 = 0) ∧ -4096 ≤ x ∧ x ≤ 4096 ∧ -4096 ≤ y ∧ y ≤ 4096 ∧ ¬ (-4096 ≤ -x - 1 + m ∧ -x - 1 + m ≤ 4096 ∧ -4096 ≤ y + n ∧ y + n ≤ 4096)) : Cc 52 [.i 4, .i m, .i n, .i x, .i y, .i 0] [.i 0, .i 0, .i 0, .i 3] := by
  refine q52 rfl ?_; unfold p52
  repeat (first | simp (disch := omega) only [↓qxs, ↓qxc, ↓qxa] | refine p_call (mcheck_ok (by omega)) ?_ | refine p_call (cellCheck_ok (by omega)) ?_ | refine p_call (moved40 (by omega)) ?_ | refine p_call (cellCheck_no (by omega)) ?_)
  (try simp only [List.cons.injEq, Lf.i.injEq, and_true, true_and]); (try omega)
theorem cmove41 {m n x y : Int} (h : (-16384 ≤ m ∧ m ≤ 16384 ∧ -16384 ≤ n ∧ n ≤ 16384 ∧ (m + n) % 2 = 0) ∧ -4096 ≤ x ∧ x ≤ 4096 ∧ -4096 ≤ y ∧ y ≤ 4096 ∧ -4096 ≤ -x - 1 + m ∧ -x - 1 + m ≤ 4096 ∧ -4096 ≤ y + n ∧ y + n ≤ 4096) : Cc 52 [.i 4, .i m, .i n, .i x, .i y, .i 1] [.i (-x - 1 + m), .i (y + n), .i 3, .i 0] := by
  refine q52 rfl ?_; unfold p52
  repeat (first | simp (disch := omega) only [↓qxs, ↓qxc, ↓qxa] | refine p_call (mcheck_ok (by omega)) ?_ | refine p_call (cellCheck_ok (by omega)) ?_ | refine p_call (moved41 (by omega)) ?_)
  (try simp only [List.cons.injEq, Lf.i.injEq, and_true, true_and]); (try omega)
theorem cmovel41 {m n x y : Int} (h : (-16384 ≤ m ∧ m ≤ 16384 ∧ -16384 ≤ n ∧ n ≤ 16384 ∧ (m + n) % 2 = 0) ∧ -4096 ≤ x ∧ x ≤ 4096 ∧ -4096 ≤ y ∧ y ≤ 4096 ∧ ¬ (-4096 ≤ -x - 1 + m ∧ -x - 1 + m ≤ 4096 ∧ -4096 ≤ y + n ∧ y + n ≤ 4096)) : Cc 52 [.i 4, .i m, .i n, .i x, .i y, .i 1] [.i 0, .i 0, .i 0, .i 3] := by
  refine q52 rfl ?_; unfold p52
  repeat (first | simp (disch := omega) only [↓qxs, ↓qxc, ↓qxa] | refine p_call (mcheck_ok (by omega)) ?_ | refine p_call (cellCheck_ok (by omega)) ?_ | refine p_call (moved41 (by omega)) ?_ | refine p_call (cellCheck_no (by omega)) ?_)
  (try simp only [List.cons.injEq, Lf.i.injEq, and_true, true_and]); (try omega)
theorem cmove42 {m n x y : Int} (h : (-16384 ≤ m ∧ m ≤ 16384 ∧ -16384 ≤ n ∧ n ≤ 16384 ∧ (m + n) % 2 = 0) ∧ -4096 ≤ x ∧ x ≤ 4096 ∧ -4096 ≤ y ∧ y ≤ 4096 ∧ -4096 ≤ -x - 1 + m ∧ -x - 1 + m ≤ 4096 ∧ -4096 ≤ y + n ∧ y + n ≤ 4096) : Cc 52 [.i 4, .i m, .i n, .i x, .i y, .i 2] [.i (-x - 1 + m), .i (y + n), .i 2, .i 0] := by
  refine q52 rfl ?_; unfold p52
  repeat (first | simp (disch := omega) only [↓qxs, ↓qxc, ↓qxa] | refine p_call (mcheck_ok (by omega)) ?_ | refine p_call (cellCheck_ok (by omega)) ?_ | refine p_call (moved42 (by omega)) ?_)
  (try simp only [List.cons.injEq, Lf.i.injEq, and_true, true_and]); (try omega)
theorem cmovel42 {m n x y : Int} (h : (-16384 ≤ m ∧ m ≤ 16384 ∧ -16384 ≤ n ∧ n ≤ 16384 ∧ (m + n) % 2 = 0) ∧ -4096 ≤ x ∧ x ≤ 4096 ∧ -4096 ≤ y ∧ y ≤ 4096 ∧ ¬ (-4096 ≤ -x - 1 + m ∧ -x - 1 + m ≤ 4096 ∧ -4096 ≤ y + n ∧ y + n ≤ 4096)) : Cc 52 [.i 4, .i m, .i n, .i x, .i y, .i 2] [.i 0, .i 0, .i 0, .i 3] := by
  refine q52 rfl ?_; unfold p52
  repeat (first | simp (disch := omega) only [↓qxs, ↓qxc, ↓qxa] | refine p_call (mcheck_ok (by omega)) ?_ | refine p_call (cellCheck_ok (by omega)) ?_ | refine p_call (moved42 (by omega)) ?_ | refine p_call (cellCheck_no (by omega)) ?_)
  (try simp only [List.cons.injEq, Lf.i.injEq, and_true, true_and]); (try omega)
theorem cmove43 {m n x y : Int} (h : (-16384 ≤ m ∧ m ≤ 16384 ∧ -16384 ≤ n ∧ n ≤ 16384 ∧ (m + n) % 2 = 0) ∧ -4096 ≤ x ∧ x ≤ 4096 ∧ -4096 ≤ y ∧ y ≤ 4096 ∧ -4096 ≤ -x - 1 + m ∧ -x - 1 + m ≤ 4096 ∧ -4096 ≤ y + n ∧ y + n ≤ 4096) : Cc 52 [.i 4, .i m, .i n, .i x, .i y, .i 3] [.i (-x - 1 + m), .i (y + n), .i 1, .i 0] := by
  refine q52 rfl ?_; unfold p52
  repeat (first | simp (disch := omega) only [↓qxs, ↓qxc, ↓qxa] | refine p_call (mcheck_ok (by omega)) ?_ | refine p_call (cellCheck_ok (by omega)) ?_ | refine p_call (moved43 (by omega)) ?_)
  (try simp only [List.cons.injEq, Lf.i.injEq, and_true, true_and]); (try omega)
theorem cmovel43 {m n x y : Int} (h : (-16384 ≤ m ∧ m ≤ 16384 ∧ -16384 ≤ n ∧ n ≤ 16384 ∧ (m + n) % 2 = 0) ∧ -4096 ≤ x ∧ x ≤ 4096 ∧ -4096 ≤ y ∧ y ≤ 4096 ∧ ¬ (-4096 ≤ -x - 1 + m ∧ -x - 1 + m ≤ 4096 ∧ -4096 ≤ y + n ∧ y + n ≤ 4096)) : Cc 52 [.i 4, .i m, .i n, .i x, .i y, .i 3] [.i 0, .i 0, .i 0, .i 3] := by
  refine q52 rfl ?_; unfold p52
  repeat (first | simp (disch := omega) only [↓qxs, ↓qxc, ↓qxa] | refine p_call (mcheck_ok (by omega)) ?_ | refine p_call (cellCheck_ok (by omega)) ?_ | refine p_call (moved43 (by omega)) ?_ | refine p_call (cellCheck_no (by omega)) ?_)
  (try simp only [List.cons.injEq, Lf.i.injEq, and_true, true_and]); (try omega)
theorem cmove50 {m n x y : Int} (h : (-16384 ≤ m ∧ m ≤ 16384 ∧ -16384 ≤ n ∧ n ≤ 16384 ∧ (m + n) % 2 = 0) ∧ -4096 ≤ x ∧ x ≤ 4096 ∧ -4096 ≤ y ∧ y ≤ 4096 ∧ -4096 ≤ -y - 1 + m ∧ -y - 1 + m ≤ 4096 ∧ -4096 ≤ -x - 1 + n ∧ -x - 1 + n ≤ 4096) : Cc 52 [.i 5, .i m, .i n, .i x, .i y, .i 0] [.i (-y - 1 + m), .i (-x - 1 + n), .i 1, .i 0] := by
  refine q52 rfl ?_; unfold p52
  repeat (first | simp (disch := omega) only [↓qxs, ↓qxc, ↓qxa] | refine p_call (mcheck_ok (by omega)) ?_ | refine p_call (cellCheck_ok (by omega)) ?_ | refine p_call (moved50 (by omega)) ?_)
  (try simp only [List.cons.injEq, Lf.i.injEq, and_true, true_and]); (try omega)
theorem cmovel50 {m n x y : Int} (h : (-16384 ≤ m ∧ m ≤ 16384 ∧ -16384 ≤ n ∧ n ≤ 16384 ∧ (m + n) % 2 = 0) ∧ -4096 ≤ x ∧ x ≤ 4096 ∧ -4096 ≤ y ∧ y ≤ 4096 ∧ ¬ (-4096 ≤ -y - 1 + m ∧ -y - 1 + m ≤ 4096 ∧ -4096 ≤ -x - 1 + n ∧ -x - 1 + n ≤ 4096)) : Cc 52 [.i 5, .i m, .i n, .i x, .i y, .i 0] [.i 0, .i 0, .i 0, .i 3] := by
  refine q52 rfl ?_; unfold p52
  repeat (first | simp (disch := omega) only [↓qxs, ↓qxc, ↓qxa] | refine p_call (mcheck_ok (by omega)) ?_ | refine p_call (cellCheck_ok (by omega)) ?_ | refine p_call (moved50 (by omega)) ?_ | refine p_call (cellCheck_no (by omega)) ?_)
  (try simp only [List.cons.injEq, Lf.i.injEq, and_true, true_and]); (try omega)
theorem cmove51 {m n x y : Int} (h : (-16384 ≤ m ∧ m ≤ 16384 ∧ -16384 ≤ n ∧ n ≤ 16384 ∧ (m + n) % 2 = 0) ∧ -4096 ≤ x ∧ x ≤ 4096 ∧ -4096 ≤ y ∧ y ≤ 4096 ∧ -4096 ≤ -y - 1 + m ∧ -y - 1 + m ≤ 4096 ∧ -4096 ≤ -x - 1 + n ∧ -x - 1 + n ≤ 4096) : Cc 52 [.i 5, .i m, .i n, .i x, .i y, .i 1] [.i (-y - 1 + m), .i (-x - 1 + n), .i 0, .i 0] := by
  refine q52 rfl ?_; unfold p52
  repeat (first | simp (disch := omega) only [↓qxs, ↓qxc, ↓qxa] | refine p_call (mcheck_ok (by omega)) ?_ | refine p_call (cellCheck_ok (by omega)) ?_ | refine p_call (moved51 (by omega)) ?_)
  (try simp only [List.cons.injEq, Lf.i.injEq, and_true, true_and]); (try omega)
theorem cmovel51 {m n x y : Int} (h : (-16384 ≤ m ∧ m ≤ 16384 ∧ -16384 ≤ n ∧ n ≤ 16384 ∧ (m + n) % 2 = 0) ∧ -4096 ≤ x ∧ x ≤ 4096 ∧ -4096 ≤ y ∧ y ≤ 4096 ∧ ¬ (-4096 ≤ -y - 1 + m ∧ -y - 1 + m ≤ 4096 ∧ -4096 ≤ -x - 1 + n ∧ -x - 1 + n ≤ 4096)) : Cc 52 [.i 5, .i m, .i n, .i x, .i y, .i 1] [.i 0, .i 0, .i 0, .i 3] := by
  refine q52 rfl ?_; unfold p52
  repeat (first | simp (disch := omega) only [↓qxs, ↓qxc, ↓qxa] | refine p_call (mcheck_ok (by omega)) ?_ | refine p_call (cellCheck_ok (by omega)) ?_ | refine p_call (moved51 (by omega)) ?_ | refine p_call (cellCheck_no (by omega)) ?_)
  (try simp only [List.cons.injEq, Lf.i.injEq, and_true, true_and]); (try omega)
theorem cmove52 {m n x y : Int} (h : (-16384 ≤ m ∧ m ≤ 16384 ∧ -16384 ≤ n ∧ n ≤ 16384 ∧ (m + n) % 2 = 0) ∧ -4096 ≤ x ∧ x ≤ 4096 ∧ -4096 ≤ y ∧ y ≤ 4096 ∧ -4096 ≤ -y - 1 + m ∧ -y - 1 + m ≤ 4096 ∧ -4096 ≤ -x - 1 + n ∧ -x - 1 + n ≤ 4096) : Cc 52 [.i 5, .i m, .i n, .i x, .i y, .i 2] [.i (-y - 1 + m), .i (-x - 1 + n), .i 3, .i 0] := by
  refine q52 rfl ?_; unfold p52
  repeat (first | simp (disch := omega) only [↓qxs, ↓qxc, ↓qxa] | refine p_call (mcheck_ok (by omega)) ?_ | refine p_call (cellCheck_ok (by omega)) ?_ | refine p_call (moved52 (by omega)) ?_)
  (try simp only [List.cons.injEq, Lf.i.injEq, and_true, true_and]); (try omega)
theorem cmovel52 {m n x y : Int} (h : (-16384 ≤ m ∧ m ≤ 16384 ∧ -16384 ≤ n ∧ n ≤ 16384 ∧ (m + n) % 2 = 0) ∧ -4096 ≤ x ∧ x ≤ 4096 ∧ -4096 ≤ y ∧ y ≤ 4096 ∧ ¬ (-4096 ≤ -y - 1 + m ∧ -y - 1 + m ≤ 4096 ∧ -4096 ≤ -x - 1 + n ∧ -x - 1 + n ≤ 4096)) : Cc 52 [.i 5, .i m, .i n, .i x, .i y, .i 2] [.i 0, .i 0, .i 0, .i 3] := by
  refine q52 rfl ?_; unfold p52
  repeat (first | simp (disch := omega) only [↓qxs, ↓qxc, ↓qxa] | refine p_call (mcheck_ok (by omega)) ?_ | refine p_call (cellCheck_ok (by omega)) ?_ | refine p_call (moved52 (by omega)) ?_ | refine p_call (cellCheck_no (by omega)) ?_)
  (try simp only [List.cons.injEq, Lf.i.injEq, and_true, true_and]); (try omega)
theorem cmove53 {m n x y : Int} (h : (-16384 ≤ m ∧ m ≤ 16384 ∧ -16384 ≤ n ∧ n ≤ 16384 ∧ (m + n) % 2 = 0) ∧ -4096 ≤ x ∧ x ≤ 4096 ∧ -4096 ≤ y ∧ y ≤ 4096 ∧ -4096 ≤ -y - 1 + m ∧ -y - 1 + m ≤ 4096 ∧ -4096 ≤ -x - 1 + n ∧ -x - 1 + n ≤ 4096) : Cc 52 [.i 5, .i m, .i n, .i x, .i y, .i 3] [.i (-y - 1 + m), .i (-x - 1 + n), .i 2, .i 0] := by
  refine q52 rfl ?_; unfold p52
  repeat (first | simp (disch := omega) only [↓qxs, ↓qxc, ↓qxa] | refine p_call (mcheck_ok (by omega)) ?_ | refine p_call (cellCheck_ok (by omega)) ?_ | refine p_call (moved53 (by omega)) ?_)
  (try simp only [List.cons.injEq, Lf.i.injEq, and_true, true_and]); (try omega)
theorem cmovel53 {m n x y : Int} (h : (-16384 ≤ m ∧ m ≤ 16384 ∧ -16384 ≤ n ∧ n ≤ 16384 ∧ (m + n) % 2 = 0) ∧ -4096 ≤ x ∧ x ≤ 4096 ∧ -4096 ≤ y ∧ y ≤ 4096 ∧ ¬ (-4096 ≤ -y - 1 + m ∧ -y - 1 + m ≤ 4096 ∧ -4096 ≤ -x - 1 + n ∧ -x - 1 + n ≤ 4096)) : Cc 52 [.i 5, .i m, .i n, .i x, .i y, .i 3] [.i 0, .i 0, .i 0, .i 3] := by
  refine q52 rfl ?_; unfold p52
  repeat (first | simp (disch := omega) only [↓qxs, ↓qxc, ↓qxa] | refine p_call (mcheck_ok (by omega)) ?_ | refine p_call (cellCheck_ok (by omega)) ?_ | refine p_call (moved53 (by omega)) ?_ | refine p_call (cellCheck_no (by omega)) ?_)
  (try simp only [List.cons.injEq, Lf.i.injEq, and_true, true_and]); (try omega)
theorem cmove60 {m n x y : Int} (h : (-16384 ≤ m ∧ m ≤ 16384 ∧ -16384 ≤ n ∧ n ≤ 16384 ∧ (m + n) % 2 = 0) ∧ -4096 ≤ x ∧ x ≤ 4096 ∧ -4096 ≤ y ∧ y ≤ 4096 ∧ -4096 ≤ x + m ∧ x + m ≤ 4096 ∧ -4096 ≤ -y - 1 + n ∧ -y - 1 + n ≤ 4096) : Cc 52 [.i 6, .i m, .i n, .i x, .i y, .i 0] [.i (x + m), .i (-y - 1 + n), .i 2, .i 0] := by
  refine q52 rfl ?_; unfold p52
  repeat (first | simp (disch := omega) only [↓qxs, ↓qxc, ↓qxa] | refine p_call (mcheck_ok (by omega)) ?_ | refine p_call (cellCheck_ok (by omega)) ?_ | refine p_call (moved60 (by omega)) ?_)
  (try simp only [List.cons.injEq, Lf.i.injEq, and_true, true_and]); (try omega)
theorem cmovel60 {m n x y : Int} (h : (-16384 ≤ m ∧ m ≤ 16384 ∧ -16384 ≤ n ∧ n ≤ 16384 ∧ (m + n) % 2 = 0) ∧ -4096 ≤ x ∧ x ≤ 4096 ∧ -4096 ≤ y ∧ y ≤ 4096 ∧ ¬ (-4096 ≤ x + m ∧ x + m ≤ 4096 ∧ -4096 ≤ -y - 1 + n ∧ -y - 1 + n ≤ 4096)) : Cc 52 [.i 6, .i m, .i n, .i x, .i y, .i 0] [.i 0, .i 0, .i 0, .i 3] := by
  refine q52 rfl ?_; unfold p52
  repeat (first | simp (disch := omega) only [↓qxs, ↓qxc, ↓qxa] | refine p_call (mcheck_ok (by omega)) ?_ | refine p_call (cellCheck_ok (by omega)) ?_ | refine p_call (moved60 (by omega)) ?_ | refine p_call (cellCheck_no (by omega)) ?_)
  (try simp only [List.cons.injEq, Lf.i.injEq, and_true, true_and]); (try omega)
theorem cmove61 {m n x y : Int} (h : (-16384 ≤ m ∧ m ≤ 16384 ∧ -16384 ≤ n ∧ n ≤ 16384 ∧ (m + n) % 2 = 0) ∧ -4096 ≤ x ∧ x ≤ 4096 ∧ -4096 ≤ y ∧ y ≤ 4096 ∧ -4096 ≤ x + m ∧ x + m ≤ 4096 ∧ -4096 ≤ -y - 1 + n ∧ -y - 1 + n ≤ 4096) : Cc 52 [.i 6, .i m, .i n, .i x, .i y, .i 1] [.i (x + m), .i (-y - 1 + n), .i 1, .i 0] := by
  refine q52 rfl ?_; unfold p52
  repeat (first | simp (disch := omega) only [↓qxs, ↓qxc, ↓qxa] | refine p_call (mcheck_ok (by omega)) ?_ | refine p_call (cellCheck_ok (by omega)) ?_ | refine p_call (moved61 (by omega)) ?_)
  (try simp only [List.cons.injEq, Lf.i.injEq, and_true, true_and]); (try omega)
theorem cmovel61 {m n x y : Int} (h : (-16384 ≤ m ∧ m ≤ 16384 ∧ -16384 ≤ n ∧ n ≤ 16384 ∧ (m + n) % 2 = 0) ∧ -4096 ≤ x ∧ x ≤ 4096 ∧ -4096 ≤ y ∧ y ≤ 4096 ∧ ¬ (-4096 ≤ x + m ∧ x + m ≤ 4096 ∧ -4096 ≤ -y - 1 + n ∧ -y - 1 + n ≤ 4096)) : Cc 52 [.i 6, .i m, .i n, .i x, .i y, .i 1] [.i 0, .i 0, .i 0, .i 3] := by
  refine q52 rfl ?_; unfold p52
  repeat (first | simp (disch := omega) only [↓qxs, ↓qxc, ↓qxa] | refine p_call (mcheck_ok (by omega)) ?_ | refine p_call (cellCheck_ok (by omega)) ?_ | refine p_call (moved61 (by omega)) ?_ | refine p_call (cellCheck_no (by omega)) ?_)
  (try simp only [List.cons.injEq, Lf.i.injEq, and_true, true_and]); (try omega)
theorem cmove62 {m n x y : Int} (h : (-16384 ≤ m ∧ m ≤ 16384 ∧ -16384 ≤ n ∧ n ≤ 16384 ∧ (m + n) % 2 = 0) ∧ -4096 ≤ x ∧ x ≤ 4096 ∧ -4096 ≤ y ∧ y ≤ 4096 ∧ -4096 ≤ x + m ∧ x + m ≤ 4096 ∧ -4096 ≤ -y - 1 + n ∧ -y - 1 + n ≤ 4096) : Cc 52 [.i 6, .i m, .i n, .i x, .i y, .i 2] [.i (x + m), .i (-y - 1 + n), .i 0, .i 0] := by
  refine q52 rfl ?_; unfold p52
  repeat (first | simp (disch := omega) only [↓qxs, ↓qxc, ↓qxa] | refine p_call (mcheck_ok (by omega)) ?_ | refine p_call (cellCheck_ok (by omega)) ?_ | refine p_call (moved62 (by omega)) ?_)
  (try simp only [List.cons.injEq, Lf.i.injEq, and_true, true_and]); (try omega)
theorem cmovel62 {m n x y : Int} (h : (-16384 ≤ m ∧ m ≤ 16384 ∧ -16384 ≤ n ∧ n ≤ 16384 ∧ (m + n) % 2 = 0) ∧ -4096 ≤ x ∧ x ≤ 4096 ∧ -4096 ≤ y ∧ y ≤ 4096 ∧ ¬ (-4096 ≤ x + m ∧ x + m ≤ 4096 ∧ -4096 ≤ -y - 1 + n ∧ -y - 1 + n ≤ 4096)) : Cc 52 [.i 6, .i m, .i n, .i x, .i y, .i 2] [.i 0, .i 0, .i 0, .i 3] := by
  refine q52 rfl ?_; unfold p52
  repeat (first | simp (disch := omega) only [↓qxs, ↓qxc, ↓qxa] | refine p_call (mcheck_ok (by omega)) ?_ | refine p_call (cellCheck_ok (by omega)) ?_ | refine p_call (moved62 (by omega)) ?_ | refine p_call (cellCheck_no (by omega)) ?_)
  (try simp only [List.cons.injEq, Lf.i.injEq, and_true, true_and]); (try omega)
theorem cmove63 {m n x y : Int} (h : (-16384 ≤ m ∧ m ≤ 16384 ∧ -16384 ≤ n ∧ n ≤ 16384 ∧ (m + n) % 2 = 0) ∧ -4096 ≤ x ∧ x ≤ 4096 ∧ -4096 ≤ y ∧ y ≤ 4096 ∧ -4096 ≤ x + m ∧ x + m ≤ 4096 ∧ -4096 ≤ -y - 1 + n ∧ -y - 1 + n ≤ 4096) : Cc 52 [.i 6, .i m, .i n, .i x, .i y, .i 3] [.i (x + m), .i (-y - 1 + n), .i 3, .i 0] := by
  refine q52 rfl ?_; unfold p52
  repeat (first | simp (disch := omega) only [↓qxs, ↓qxc, ↓qxa] | refine p_call (mcheck_ok (by omega)) ?_ | refine p_call (cellCheck_ok (by omega)) ?_ | refine p_call (moved63 (by omega)) ?_)
  (try simp only [List.cons.injEq, Lf.i.injEq, and_true, true_and]); (try omega)
theorem cmovel63 {m n x y : Int} (h : (-16384 ≤ m ∧ m ≤ 16384 ∧ -16384 ≤ n ∧ n ≤ 16384 ∧ (m + n) % 2 = 0) ∧ -4096 ≤ x ∧ x ≤ 4096 ∧ -4096 ≤ y ∧ y ≤ 4096 ∧ ¬ (-4096 ≤ x + m ∧ x + m ≤ 4096 ∧ -4096 ≤ -y - 1 + n ∧ -y - 1 + n ≤ 4096)) : Cc 52 [.i 6, .i m, .i n, .i x, .i y, .i 3] [.i 0, .i 0, .i 0, .i 3] := by
  refine q52 rfl ?_; unfold p52
  repeat (first | simp (disch := omega) only [↓qxs, ↓qxc, ↓qxa] | refine p_call (mcheck_ok (by omega)) ?_ | refine p_call (cellCheck_ok (by omega)) ?_ | refine p_call (moved63 (by omega)) ?_ | refine p_call (cellCheck_no (by omega)) ?_)
  (try simp only [List.cons.injEq, Lf.i.injEq, and_true, true_and]); (try omega)
theorem cmove70 {m n x y : Int} (h : (-16384 ≤ m ∧ m ≤ 16384 ∧ -16384 ≤ n ∧ n ≤ 16384 ∧ (m + n) % 2 = 0) ∧ -4096 ≤ x ∧ x ≤ 4096 ∧ -4096 ≤ y ∧ y ≤ 4096 ∧ -4096 ≤ y + m ∧ y + m ≤ 4096 ∧ -4096 ≤ x + n ∧ x + n ≤ 4096) : Cc 52 [.i 7, .i m, .i n, .i x, .i y, .i 0] [.i (y + m), .i (x + n), .i 3, .i 0] := by
  refine q52 rfl ?_; unfold p52
  repeat (first | simp (disch := omega) only [↓qxs, ↓qxc, ↓qxa] | refine p_call (mcheck_ok (by omega)) ?_ | refine p_call (cellCheck_ok (by omega)) ?_ | refine p_call (moved70 (by omega)) ?_)
  (try simp only [List.cons.injEq, Lf.i.injEq, and_true, true_and]); (try omega)
theorem cmovel70 {m n x y : Int} (h : (-16384 ≤ m ∧ m ≤ 16384 ∧ -16384 ≤ n ∧ n ≤ 16384 ∧ (m + n) % 2 = 0) ∧ -4096 ≤ x ∧ x ≤ 4096 ∧ -4096 ≤ y ∧ y ≤ 4096 ∧ ¬ (-4096 ≤ y + m ∧ y + m ≤ 4096 ∧ -4096 ≤ x + n ∧ x + n ≤ 4096)) : Cc 52 [.i 7, .i m, .i n, .i x, .i y, .i 0] [.i 0, .i 0, .i 0, .i 3] := by
  refine q52 rfl ?_; unfold p52
  repeat (first | simp (disch := omega) only [↓qxs, ↓qxc, ↓qxa] | refine p_call (mcheck_ok (by omega)) ?_ | refine p_call (cellCheck_ok (by omega)) ?_ | refine p_call (moved70 (by omega)) ?_ | refine p_call (cellCheck_no (by omega)) ?_)
  (try simp only [List.cons.injEq, Lf.i.injEq, and_true, true_and]); (try omega)
theorem cmove71 {m n x y : Int} (h : (-16384 ≤ m ∧ m ≤ 16384 ∧ -16384 ≤ n ∧ n ≤ 16384 ∧ (m + n) % 2 = 0) ∧ -4096 ≤ x ∧ x ≤ 4096 ∧ -4096 ≤ y ∧ y ≤ 4096 ∧ -4096 ≤ y + m ∧ y + m ≤ 4096 ∧ -4096 ≤ x + n ∧ x + n ≤ 4096) : Cc 52 [.i 7, .i m, .i n, .i x, .i y, .i 1] [.i (y + m), .i (x + n), .i 2, .i 0] := by
  refine q52 rfl ?_; unfold p52
  repeat (first | simp (disch := omega) only [↓qxs, ↓qxc, ↓qxa] | refine p_call (mcheck_ok (by omega)) ?_ | refine p_call (cellCheck_ok (by omega)) ?_ | refine p_call (moved71 (by omega)) ?_)
  (try simp only [List.cons.injEq, Lf.i.injEq, and_true, true_and]); (try omega)
theorem cmovel71 {m n x y : Int} (h : (-16384 ≤ m ∧ m ≤ 16384 ∧ -16384 ≤ n ∧ n ≤ 16384 ∧ (m + n) % 2 = 0) ∧ -4096 ≤ x ∧ x ≤ 4096 ∧ -4096 ≤ y ∧ y ≤ 4096 ∧ ¬ (-4096 ≤ y + m ∧ y + m ≤ 4096 ∧ -4096 ≤ x + n ∧ x + n ≤ 4096)) : Cc 52 [.i 7, .i m, .i n, .i x, .i y, .i 1] [.i 0, .i 0, .i 0, .i 3] := by
  refine q52 rfl ?_; unfold p52
  repeat (first | simp (disch := omega) only [↓qxs, ↓qxc, ↓qxa] | refine p_call (mcheck_ok (by omega)) ?_ | refine p_call (cellCheck_ok (by omega)) ?_ | refine p_call (moved71 (by omega)) ?_ | refine p_call (cellCheck_no (by omega)) ?_)
  (try simp only [List.cons.injEq, Lf.i.injEq, and_true, true_and]); (try omega)
theorem cmove72 {m n x y : Int} (h : (-16384 ≤ m ∧ m ≤ 16384 ∧ -16384 ≤ n ∧ n ≤ 16384 ∧ (m + n) % 2 = 0) ∧ -4096 ≤ x ∧ x ≤ 4096 ∧ -4096 ≤ y ∧ y ≤ 4096 ∧ -4096 ≤ y + m ∧ y + m ≤ 4096 ∧ -4096 ≤ x + n ∧ x + n ≤ 4096) : Cc 52 [.i 7, .i m, .i n, .i x, .i y, .i 2] [.i (y + m), .i (x + n), .i 1, .i 0] := by
  refine q52 rfl ?_; unfold p52
  repeat (first | simp (disch := omega) only [↓qxs, ↓qxc, ↓qxa] | refine p_call (mcheck_ok (by omega)) ?_ | refine p_call (cellCheck_ok (by omega)) ?_ | refine p_call (moved72 (by omega)) ?_)
  (try simp only [List.cons.injEq, Lf.i.injEq, and_true, true_and]); (try omega)
theorem cmovel72 {m n x y : Int} (h : (-16384 ≤ m ∧ m ≤ 16384 ∧ -16384 ≤ n ∧ n ≤ 16384 ∧ (m + n) % 2 = 0) ∧ -4096 ≤ x ∧ x ≤ 4096 ∧ -4096 ≤ y ∧ y ≤ 4096 ∧ ¬ (-4096 ≤ y + m ∧ y + m ≤ 4096 ∧ -4096 ≤ x + n ∧ x + n ≤ 4096)) : Cc 52 [.i 7, .i m, .i n, .i x, .i y, .i 2] [.i 0, .i 0, .i 0, .i 3] := by
  refine q52 rfl ?_; unfold p52
  repeat (first | simp (disch := omega) only [↓qxs, ↓qxc, ↓qxa] | refine p_call (mcheck_ok (by omega)) ?_ | refine p_call (cellCheck_ok (by omega)) ?_ | refine p_call (moved72 (by omega)) ?_ | refine p_call (cellCheck_no (by omega)) ?_)
  (try simp only [List.cons.injEq, Lf.i.injEq, and_true, true_and]); (try omega)
theorem cmove73 {m n x y : Int} (h : (-16384 ≤ m ∧ m ≤ 16384 ∧ -16384 ≤ n ∧ n ≤ 16384 ∧ (m + n) % 2 = 0) ∧ -4096 ≤ x ∧ x ≤ 4096 ∧ -4096 ≤ y ∧ y ≤ 4096 ∧ -4096 ≤ y + m ∧ y + m ≤ 4096 ∧ -4096 ≤ x + n ∧ x + n ≤ 4096) : Cc 52 [.i 7, .i m, .i n, .i x, .i y, .i 3] [.i (y + m), .i (x + n), .i 0, .i 0] := by
  refine q52 rfl ?_; unfold p52
  repeat (first | simp (disch := omega) only [↓qxs, ↓qxc, ↓qxa] | refine p_call (mcheck_ok (by omega)) ?_ | refine p_call (cellCheck_ok (by omega)) ?_ | refine p_call (moved73 (by omega)) ?_)
  (try simp only [List.cons.injEq, Lf.i.injEq, and_true, true_and]); (try omega)
theorem cmovel73 {m n x y : Int} (h : (-16384 ≤ m ∧ m ≤ 16384 ∧ -16384 ≤ n ∧ n ≤ 16384 ∧ (m + n) % 2 = 0) ∧ -4096 ≤ x ∧ x ≤ 4096 ∧ -4096 ≤ y ∧ y ≤ 4096 ∧ ¬ (-4096 ≤ y + m ∧ y + m ≤ 4096 ∧ -4096 ≤ x + n ∧ x + n ≤ 4096)) : Cc 52 [.i 7, .i m, .i n, .i x, .i y, .i 3] [.i 0, .i 0, .i 0, .i 3] := by
  refine q52 rfl ?_; unfold p52
  repeat (first | simp (disch := omega) only [↓qxs, ↓qxc, ↓qxa] | refine p_call (mcheck_ok (by omega)) ?_ | refine p_call (cellCheck_ok (by omega)) ?_ | refine p_call (moved73 (by omega)) ?_ | refine p_call (cellCheck_no (by omega)) ?_)
  (try simp only [List.cons.injEq, Lf.i.injEq, and_true, true_and]); (try omega)
theorem cmove_no {t m n x y q : Int} (h : (0 ≤ t ∧ t ≤ 255) ∧ (¬ ((t ≤ 7 ∧ -16384 ≤ m ∧ m ≤ 16384 ∧ -16384 ≤ n ∧ n ≤ 16384) ∧ (m + n) % 2 = 0) ∨ ¬ (-4096 ≤ x ∧ x ≤ 4096 ∧ -4096 ≤ y ∧ y ≤ 4096 ∧ q ≤ 3))) : Cc 52 [.i t, .i m, .i n, .i x, .i y, .i q] [.i 0, .i 0, .i 0, .i 1] := by
  refine q52 rfl ?_; unfold p52
  by_cases hv : (t ≤ 7 ∧ -16384 ≤ m ∧ m ≤ 16384 ∧ -16384 ≤ n ∧ n ≤ 16384) ∧ (m + n) % 2 = 0
  · repeat (first | simp (disch := omega) only [↓qxs, ↓qxc, ↓qxa] | refine p_call (mcheck_ok (by omega)) ?_ | refine p_call (cellCheck_no (by omega)) ?_); (try simp only [List.cons.injEq, Lf.i.injEq, and_true, true_and]); (try omega)
  · repeat (first | simp (disch := omega) only [↓qxs, ↓qxc, ↓qxa] | refine p_call (mcheck_no (by omega)) ?_); (try simp only [List.cons.injEq, Lf.i.injEq, and_true, true_and]); (try omega)
theorem rmove00 {m n x y : Int} (h : -50000 ≤ m ∧ m ≤ 50000 ∧ -50000 ≤ n ∧ n ≤ 50000 ∧ -50000 ≤ x ∧ x ≤ 50000 ∧ -50000 ≤ y ∧ y ≤ 50000) : Cc 54 [.i 0, .i m, .i n, .i x, .i y, .i 0] [.i (x + m), .i (y + n), .i 0] := by
  refine q54 rfl ?_; unfold p54
  repeat (first | simp (disch := omega) only [↓qxs, ↓qxc, ↓qxa] | refine p_opt_r (by simp only [pickL, putL, offX, Int.reduceToNat, Int.reduceAdd, Int.reduceMul, Int.reduceMod, Int.reduceSub, Int.reduceNeg, Int.reduceDiv, Nat.reduceAdd, Nat.reduceMul, Nat.reduceLeDiff, List.length_cons, List.length_nil, ↓reduceIte, List.drop_succ_cons, List.drop_zero, List.take_succ_cons, List.take_zero, List.cons_append, List.nil_append, Nat.zero_add, Int.toNat_zero, Nat.zero_mul, Nat.add_zero, Int.zero_add]; exact rfl) ?_ | refine p_loop 5 ?_ | refine p_call (rcorn0 (by omega)) ?_ | refine p_call (rpoint0 (by omega)) ?_ | refine p_call (with00 (by omega)) ?_ | refine p_call (with01 (by omega)) ?_ | refine p_call (with10 (by omega)) ?_ | refine p_call (with11 (by omega)) ?_ | refine p_call (with20 (by omega)) ?_ | refine p_call (with21 (by omega)) ?_ | refine p_call (with30 (by omega)) ?_ | refine p_call (with31 (by omega)) ?_)
  (try simp only [List.cons.injEq, Lf.i.injEq, and_true, true_and]); (try omega)
theorem rmove01 {m n x y : Int} (h : -50000 ≤ m ∧ m ≤ 50000 ∧ -50000 ≤ n ∧ n ≤ 50000 ∧ -50000 ≤ x ∧ x ≤ 50000 ∧ -50000 ≤ y ∧ y ≤ 50000) : Cc 54 [.i 0, .i m, .i n, .i x, .i y, .i 1] [.i (x + m), .i (y + n), .i 1] := by
  refine q54 rfl ?_; unfold p54
  repeat (first | simp (disch := omega) only [↓qxs, ↓qxc, ↓qxa] | refine p_opt_r (by simp only [pickL, putL, offX, Int.reduceToNat, Int.reduceAdd, Int.reduceMul, Int.reduceMod, Int.reduceSub, Int.reduceNeg, Int.reduceDiv, Nat.reduceAdd, Nat.reduceMul, Nat.reduceLeDiff, List.length_cons, List.length_nil, ↓reduceIte, List.drop_succ_cons, List.drop_zero, List.take_succ_cons, List.take_zero, List.cons_append, List.nil_append, Nat.zero_add, Int.toNat_zero, Nat.zero_mul, Nat.add_zero, Int.zero_add]; exact rfl) ?_ | refine p_loop 5 ?_ | refine p_call (rcorn1 (by omega)) ?_ | refine p_call (rpoint0 (by omega)) ?_ | refine p_call (with00 (by omega)) ?_ | refine p_call (with01 (by omega)) ?_ | refine p_call (with10 (by omega)) ?_ | refine p_call (with11 (by omega)) ?_ | refine p_call (with20 (by omega)) ?_ | refine p_call (with21 (by omega)) ?_ | refine p_call (with30 (by omega)) ?_ | refine p_call (with31 (by omega)) ?_)
  (try simp only [List.cons.injEq, Lf.i.injEq, and_true, true_and]); (try omega)
theorem rmove02 {m n x y : Int} (h : -50000 ≤ m ∧ m ≤ 50000 ∧ -50000 ≤ n ∧ n ≤ 50000 ∧ -50000 ≤ x ∧ x ≤ 50000 ∧ -50000 ≤ y ∧ y ≤ 50000) : Cc 54 [.i 0, .i m, .i n, .i x, .i y, .i 2] [.i (x + m), .i (y + n), .i 2] := by
  refine q54 rfl ?_; unfold p54
  repeat (first | simp (disch := omega) only [↓qxs, ↓qxc, ↓qxa] | refine p_opt_r (by simp only [pickL, putL, offX, Int.reduceToNat, Int.reduceAdd, Int.reduceMul, Int.reduceMod, Int.reduceSub, Int.reduceNeg, Int.reduceDiv, Nat.reduceAdd, Nat.reduceMul, Nat.reduceLeDiff, List.length_cons, List.length_nil, ↓reduceIte, List.drop_succ_cons, List.drop_zero, List.take_succ_cons, List.take_zero, List.cons_append, List.nil_append, Nat.zero_add, Int.toNat_zero, Nat.zero_mul, Nat.add_zero, Int.zero_add]; exact rfl) ?_ | refine p_loop 5 ?_ | refine p_call (rcorn2 (by omega)) ?_ | refine p_call (rpoint0 (by omega)) ?_ | refine p_call (with00 (by omega)) ?_ | refine p_call (with01 (by omega)) ?_ | refine p_call (with10 (by omega)) ?_ | refine p_call (with11 (by omega)) ?_ | refine p_call (with20 (by omega)) ?_ | refine p_call (with21 (by omega)) ?_ | refine p_call (with30 (by omega)) ?_ | refine p_call (with31 (by omega)) ?_)
  (try simp only [List.cons.injEq, Lf.i.injEq, and_true, true_and]); (try omega)
theorem rmove03 {m n x y : Int} (h : -50000 ≤ m ∧ m ≤ 50000 ∧ -50000 ≤ n ∧ n ≤ 50000 ∧ -50000 ≤ x ∧ x ≤ 50000 ∧ -50000 ≤ y ∧ y ≤ 50000) : Cc 54 [.i 0, .i m, .i n, .i x, .i y, .i 3] [.i (x + m), .i (y + n), .i 3] := by
  refine q54 rfl ?_; unfold p54
  repeat (first | simp (disch := omega) only [↓qxs, ↓qxc, ↓qxa] | refine p_opt_r (by simp only [pickL, putL, offX, Int.reduceToNat, Int.reduceAdd, Int.reduceMul, Int.reduceMod, Int.reduceSub, Int.reduceNeg, Int.reduceDiv, Nat.reduceAdd, Nat.reduceMul, Nat.reduceLeDiff, List.length_cons, List.length_nil, ↓reduceIte, List.drop_succ_cons, List.drop_zero, List.take_succ_cons, List.take_zero, List.cons_append, List.nil_append, Nat.zero_add, Int.toNat_zero, Nat.zero_mul, Nat.add_zero, Int.zero_add]; exact rfl) ?_ | refine p_loop 5 ?_ | refine p_call (rcorn3 (by omega)) ?_ | refine p_call (rpoint0 (by omega)) ?_ | refine p_call (with00 (by omega)) ?_ | refine p_call (with01 (by omega)) ?_ | refine p_call (with10 (by omega)) ?_ | refine p_call (with11 (by omega)) ?_ | refine p_call (with20 (by omega)) ?_ | refine p_call (with21 (by omega)) ?_ | refine p_call (with30 (by omega)) ?_ | refine p_call (with31 (by omega)) ?_)
  (try simp only [List.cons.injEq, Lf.i.injEq, and_true, true_and]); (try omega)
theorem rmove10 {m n x y : Int} (h : -50000 ≤ m ∧ m ≤ 50000 ∧ -50000 ≤ n ∧ n ≤ 50000 ∧ -50000 ≤ x ∧ x ≤ 50000 ∧ -50000 ≤ y ∧ y ≤ 50000) : Cc 54 [.i 1, .i m, .i n, .i x, .i y, .i 0] [.i (-y - 1 + m), .i (x + n), .i 1] := by
  refine q54 rfl ?_; unfold p54
  repeat (first | simp (disch := omega) only [↓qxs, ↓qxc, ↓qxa] | refine p_opt_r (by simp only [pickL, putL, offX, Int.reduceToNat, Int.reduceAdd, Int.reduceMul, Int.reduceMod, Int.reduceSub, Int.reduceNeg, Int.reduceDiv, Nat.reduceAdd, Nat.reduceMul, Nat.reduceLeDiff, List.length_cons, List.length_nil, ↓reduceIte, List.drop_succ_cons, List.drop_zero, List.take_succ_cons, List.take_zero, List.cons_append, List.nil_append, Nat.zero_add, Int.toNat_zero, Nat.zero_mul, Nat.add_zero, Int.zero_add]; exact rfl) ?_ | refine p_loop 5 ?_ | refine p_call (rcorn0 (by omega)) ?_ | refine p_call (rpoint1 (by omega)) ?_ | refine p_call (with00 (by omega)) ?_ | refine p_call (with01 (by omega)) ?_ | refine p_call (with10 (by omega)) ?_ | refine p_call (with11 (by omega)) ?_ | refine p_call (with20 (by omega)) ?_ | refine p_call (with21 (by omega)) ?_ | refine p_call (with30 (by omega)) ?_ | refine p_call (with31 (by omega)) ?_)
  (try simp only [List.cons.injEq, Lf.i.injEq, and_true, true_and]); (try omega)
theorem rmove11 {m n x y : Int} (h : -50000 ≤ m ∧ m ≤ 50000 ∧ -50000 ≤ n ∧ n ≤ 50000 ∧ -50000 ≤ x ∧ x ≤ 50000 ∧ -50000 ≤ y ∧ y ≤ 50000) : Cc 54 [.i 1, .i m, .i n, .i x, .i y, .i 1] [.i (-y - 1 + m), .i (x + n), .i 2] := by
  refine q54 rfl ?_; unfold p54
  repeat (first | simp (disch := omega) only [↓qxs, ↓qxc, ↓qxa] | refine p_opt_r (by simp only [pickL, putL, offX, Int.reduceToNat, Int.reduceAdd, Int.reduceMul, Int.reduceMod, Int.reduceSub, Int.reduceNeg, Int.reduceDiv, Nat.reduceAdd, Nat.reduceMul, Nat.reduceLeDiff, List.length_cons, List.length_nil, ↓reduceIte, List.drop_succ_cons, List.drop_zero, List.take_succ_cons, List.take_zero, List.cons_append, List.nil_append, Nat.zero_add, Int.toNat_zero, Nat.zero_mul, Nat.add_zero, Int.zero_add]; exact rfl) ?_ | refine p_loop 5 ?_ | refine p_call (rcorn1 (by omega)) ?_ | refine p_call (rpoint1 (by omega)) ?_ | refine p_call (with00 (by omega)) ?_ | refine p_call (with01 (by omega)) ?_ | refine p_call (with10 (by omega)) ?_ | refine p_call (with11 (by omega)) ?_ | refine p_call (with20 (by omega)) ?_ | refine p_call (with21 (by omega)) ?_ | refine p_call (with30 (by omega)) ?_ | refine p_call (with31 (by omega)) ?_)
  (try simp only [List.cons.injEq, Lf.i.injEq, and_true, true_and]); (try omega)
theorem rmove12 {m n x y : Int} (h : -50000 ≤ m ∧ m ≤ 50000 ∧ -50000 ≤ n ∧ n ≤ 50000 ∧ -50000 ≤ x ∧ x ≤ 50000 ∧ -50000 ≤ y ∧ y ≤ 50000) : Cc 54 [.i 1, .i m, .i n, .i x, .i y, .i 2] [.i (-y - 1 + m), .i (x + n), .i 3] := by
  refine q54 rfl ?_; unfold p54
  repeat (first | simp (disch := omega) only [↓qxs, ↓qxc, ↓qxa] | refine p_opt_r (by simp only [pickL, putL, offX, Int.reduceToNat, Int.reduceAdd, Int.reduceMul, Int.reduceMod, Int.reduceSub, Int.reduceNeg, Int.reduceDiv, Nat.reduceAdd, Nat.reduceMul, Nat.reduceLeDiff, List.length_cons, List.length_nil, ↓reduceIte, List.drop_succ_cons, List.drop_zero, List.take_succ_cons, List.take_zero, List.cons_append, List.nil_append, Nat.zero_add, Int.toNat_zero, Nat.zero_mul, Nat.add_zero, Int.zero_add]; exact rfl) ?_ | refine p_loop 5 ?_ | refine p_call (rcorn2 (by omega)) ?_ | refine p_call (rpoint1 (by omega)) ?_ | refine p_call (with00 (by omega)) ?_ | refine p_call (with01 (by omega)) ?_ | refine p_call (with10 (by omega)) ?_ | refine p_call (with11 (by omega)) ?_ | refine p_call (with20 (by omega)) ?_ | refine p_call (with21 (by omega)) ?_ | refine p_call (with30 (by omega)) ?_ | refine p_call (with31 (by omega)) ?_)
  (try simp only [List.cons.injEq, Lf.i.injEq, and_true, true_and]); (try omega)
theorem rmove13 {m n x y : Int} (h : -50000 ≤ m ∧ m ≤ 50000 ∧ -50000 ≤ n ∧ n ≤ 50000 ∧ -50000 ≤ x ∧ x ≤ 50000 ∧ -50000 ≤ y ∧ y ≤ 50000) : Cc 54 [.i 1, .i m, .i n, .i x, .i y, .i 3] [.i (-y - 1 + m), .i (x + n), .i 0] := by
  refine q54 rfl ?_; unfold p54
  repeat (first | simp (disch := omega) only [↓qxs, ↓qxc, ↓qxa] | refine p_opt_r (by simp only [pickL, putL, offX, Int.reduceToNat, Int.reduceAdd, Int.reduceMul, Int.reduceMod, Int.reduceSub, Int.reduceNeg, Int.reduceDiv, Nat.reduceAdd, Nat.reduceMul, Nat.reduceLeDiff, List.length_cons, List.length_nil, ↓reduceIte, List.drop_succ_cons, List.drop_zero, List.take_succ_cons, List.take_zero, List.cons_append, List.nil_append, Nat.zero_add, Int.toNat_zero, Nat.zero_mul, Nat.add_zero, Int.zero_add]; exact rfl) ?_ | refine p_loop 5 ?_ | refine p_call (rcorn3 (by omega)) ?_ | refine p_call (rpoint1 (by omega)) ?_ | refine p_call (with00 (by omega)) ?_ | refine p_call (with01 (by omega)) ?_ | refine p_call (with10 (by omega)) ?_ | refine p_call (with11 (by omega)) ?_ | refine p_call (with20 (by omega)) ?_ | refine p_call (with21 (by omega)) ?_ | refine p_call (with30 (by omega)) ?_ | refine p_call (with31 (by omega)) ?_)
  (try simp only [List.cons.injEq, Lf.i.injEq, and_true, true_and]); (try omega)
theorem rmove20 {m n x y : Int} (h : -50000 ≤ m ∧ m ≤ 50000 ∧ -50000 ≤ n ∧ n ≤ 50000 ∧ -50000 ≤ x ∧ x ≤ 50000 ∧ -50000 ≤ y ∧ y ≤ 50000) : Cc 54 [.i 2, .i m, .i n, .i x, .i y, .i 0] [.i (-x - 1 + m), .i (-y - 1 + n), .i 2] := by
  refine q54 rfl ?_; unfold p54
  repeat (first | simp (disch := omega) only [↓qxs, ↓qxc, ↓qxa] | refine p_opt_r (by simp only [pickL, putL, offX, Int.reduceToNat, Int.reduceAdd, Int.reduceMul, Int.reduceMod, Int.reduceSub, Int.reduceNeg, Int.reduceDiv, Nat.reduceAdd, Nat.reduceMul, Nat.reduceLeDiff, List.length_cons, List.length_nil, ↓reduceIte, List.drop_succ_cons, List.drop_zero, List.take_succ_cons, List.take_zero, List.cons_append, List.nil_append, Nat.zero_add, Int.toNat_zero, Nat.zero_mul, Nat.add_zero, Int.zero_add]; exact rfl) ?_ | refine p_loop 5 ?_ | refine p_call (rcorn0 (by omega)) ?_ | refine p_call (rpoint2 (by omega)) ?_ | refine p_call (with00 (by omega)) ?_ | refine p_call (with01 (by omega)) ?_ | refine p_call (with10 (by omega)) ?_ | refine p_call (with11 (by omega)) ?_ | refine p_call (with20 (by omega)) ?_ | refine p_call (with21 (by omega)) ?_ | refine p_call (with30 (by omega)) ?_ | refine p_call (with31 (by omega)) ?_)
  (try simp only [List.cons.injEq, Lf.i.injEq, and_true, true_and]); (try omega)
theorem rmove21 {m n x y : Int} (h : -50000 ≤ m ∧ m ≤ 50000 ∧ -50000 ≤ n ∧ n ≤ 50000 ∧ -50000 ≤ x ∧ x ≤ 50000 ∧ -50000 ≤ y ∧ y ≤ 50000) : Cc 54 [.i 2, .i m, .i n, .i x, .i y, .i 1] [.i (-x - 1 + m), .i (-y - 1 + n), .i 3] := by
  refine q54 rfl ?_; unfold p54
  repeat (first | simp (disch := omega) only [↓qxs, ↓qxc, ↓qxa] | refine p_opt_r (by simp only [pickL, putL, offX, Int.reduceToNat, Int.reduceAdd, Int.reduceMul, Int.reduceMod, Int.reduceSub, Int.reduceNeg, Int.reduceDiv, Nat.reduceAdd, Nat.reduceMul, Nat.reduceLeDiff, List.length_cons, List.length_nil, ↓reduceIte, List.drop_succ_cons, List.drop_zero, List.take_succ_cons, List.take_zero, List.cons_append, List.nil_append, Nat.zero_add, Int.toNat_zero, Nat.zero_mul, Nat.add_zero, Int.zero_add]; exact rfl) ?_ | refine p_loop 5 ?_ | refine p_call (rcorn1 (by omega)) ?_ | refine p_call (rpoint2 (by omega)) ?_ | refine p_call (with00 (by omega)) ?_ | refine p_call (with01 (by omega)) ?_ | refine p_call (with10 (by omega)) ?_ | refine p_call (with11 (by omega)) ?_ | refine p_call (with20 (by omega)) ?_ | refine p_call (with21 (by omega)) ?_ | refine p_call (with30 (by omega)) ?_ | refine p_call (with31 (by omega)) ?_)
  (try simp only [List.cons.injEq, Lf.i.injEq, and_true, true_and]); (try omega)
theorem rmove22 {m n x y : Int} (h : -50000 ≤ m ∧ m ≤ 50000 ∧ -50000 ≤ n ∧ n ≤ 50000 ∧ -50000 ≤ x ∧ x ≤ 50000 ∧ -50000 ≤ y ∧ y ≤ 50000) : Cc 54 [.i 2, .i m, .i n, .i x, .i y, .i 2] [.i (-x - 1 + m), .i (-y - 1 + n), .i 0] := by
  refine q54 rfl ?_; unfold p54
  repeat (first | simp (disch := omega) only [↓qxs, ↓qxc, ↓qxa] | refine p_opt_r (by simp only [pickL, putL, offX, Int.reduceToNat, Int.reduceAdd, Int.reduceMul, Int.reduceMod, Int.reduceSub, Int.reduceNeg, Int.reduceDiv, Nat.reduceAdd, Nat.reduceMul, Nat.reduceLeDiff, List.length_cons, List.length_nil, ↓reduceIte, List.drop_succ_cons, List.drop_zero, List.take_succ_cons, List.take_zero, List.cons_append, List.nil_append, Nat.zero_add, Int.toNat_zero, Nat.zero_mul, Nat.add_zero, Int.zero_add]; exact rfl) ?_ | refine p_loop 5 ?_ | refine p_call (rcorn2 (by omega)) ?_ | refine p_call (rpoint2 (by omega)) ?_ | refine p_call (with00 (by omega)) ?_ | refine p_call (with01 (by omega)) ?_ | refine p_call (with10 (by omega)) ?_ | refine p_call (with11 (by omega)) ?_ | refine p_call (with20 (by omega)) ?_ | refine p_call (with21 (by omega)) ?_ | refine p_call (with30 (by omega)) ?_ | refine p_call (with31 (by omega)) ?_)
  (try simp only [List.cons.injEq, Lf.i.injEq, and_true, true_and]); (try omega)
theorem rmove23 {m n x y : Int} (h : -50000 ≤ m ∧ m ≤ 50000 ∧ -50000 ≤ n ∧ n ≤ 50000 ∧ -50000 ≤ x ∧ x ≤ 50000 ∧ -50000 ≤ y ∧ y ≤ 50000) : Cc 54 [.i 2, .i m, .i n, .i x, .i y, .i 3] [.i (-x - 1 + m), .i (-y - 1 + n), .i 1] := by
  refine q54 rfl ?_; unfold p54
  repeat (first | simp (disch := omega) only [↓qxs, ↓qxc, ↓qxa] | refine p_opt_r (by simp only [pickL, putL, offX, Int.reduceToNat, Int.reduceAdd, Int.reduceMul, Int.reduceMod, Int.reduceSub, Int.reduceNeg, Int.reduceDiv, Nat.reduceAdd, Nat.reduceMul, Nat.reduceLeDiff, List.length_cons, List.length_nil, ↓reduceIte, List.drop_succ_cons, List.drop_zero, List.take_succ_cons, List.take_zero, List.cons_append, List.nil_append, Nat.zero_add, Int.toNat_zero, Nat.zero_mul, Nat.add_zero, Int.zero_add]; exact rfl) ?_ | refine p_loop 5 ?_ | refine p_call (rcorn3 (by omega)) ?_ | refine p_call (rpoint2 (by omega)) ?_ | refine p_call (with00 (by omega)) ?_ | refine p_call (with01 (by omega)) ?_ | refine p_call (with10 (by omega)) ?_ | refine p_call (with11 (by omega)) ?_ | refine p_call (with20 (by omega)) ?_ | refine p_call (with21 (by omega)) ?_ | refine p_call (with30 (by omega)) ?_ | refine p_call (with31 (by omega)) ?_)
  (try simp only [List.cons.injEq, Lf.i.injEq, and_true, true_and]); (try omega)
theorem rmove30 {m n x y : Int} (h : -50000 ≤ m ∧ m ≤ 50000 ∧ -50000 ≤ n ∧ n ≤ 50000 ∧ -50000 ≤ x ∧ x ≤ 50000 ∧ -50000 ≤ y ∧ y ≤ 50000) : Cc 54 [.i 3, .i m, .i n, .i x, .i y, .i 0] [.i (y + m), .i (-x - 1 + n), .i 3] := by
  refine q54 rfl ?_; unfold p54
  repeat (first | simp (disch := omega) only [↓qxs, ↓qxc, ↓qxa] | refine p_opt_r (by simp only [pickL, putL, offX, Int.reduceToNat, Int.reduceAdd, Int.reduceMul, Int.reduceMod, Int.reduceSub, Int.reduceNeg, Int.reduceDiv, Nat.reduceAdd, Nat.reduceMul, Nat.reduceLeDiff, List.length_cons, List.length_nil, ↓reduceIte, List.drop_succ_cons, List.drop_zero, List.take_succ_cons, List.take_zero, List.cons_append, List.nil_append, Nat.zero_add, Int.toNat_zero, Nat.zero_mul, Nat.add_zero, Int.zero_add]; exact rfl) ?_ | refine p_loop 5 ?_ | refine p_call (rcorn0 (by omega)) ?_ | refine p_call (rpoint3 (by omega)) ?_ | refine p_call (with00 (by omega)) ?_ | refine p_call (with01 (by omega)) ?_ | refine p_call (with10 (by omega)) ?_ | refine p_call (with11 (by omega)) ?_ | refine p_call (with20 (by omega)) ?_ | refine p_call (with21 (by omega)) ?_ | refine p_call (with30 (by omega)) ?_ | refine p_call (with31 (by omega)) ?_)
  (try simp only [List.cons.injEq, Lf.i.injEq, and_true, true_and]); (try omega)
theorem rmove31 {m n x y : Int} (h : -50000 ≤ m ∧ m ≤ 50000 ∧ -50000 ≤ n ∧ n ≤ 50000 ∧ -50000 ≤ x ∧ x ≤ 50000 ∧ -50000 ≤ y ∧ y ≤ 50000) : Cc 54 [.i 3, .i m, .i n, .i x, .i y, .i 1] [.i (y + m), .i (-x - 1 + n), .i 0] := by
  refine q54 rfl ?_; unfold p54
  repeat (first | simp (disch := omega) only [↓qxs, ↓qxc, ↓qxa] | refine p_opt_r (by simp only [pickL, putL, offX, Int.reduceToNat, Int.reduceAdd, Int.reduceMul, Int.reduceMod, Int.reduceSub, Int.reduceNeg, Int.reduceDiv, Nat.reduceAdd, Nat.reduceMul, Nat.reduceLeDiff, List.length_cons, List.length_nil, ↓reduceIte, List.drop_succ_cons, List.drop_zero, List.take_succ_cons, List.take_zero, List.cons_append, List.nil_append, Nat.zero_add, Int.toNat_zero, Nat.zero_mul, Nat.add_zero, Int.zero_add]; exact rfl) ?_ | refine p_loop 5 ?_ | refine p_call (rcorn1 (by omega)) ?_ | refine p_call (rpoint3 (by omega)) ?_ | refine p_call (with00 (by omega)) ?_ | refine p_call (with01 (by omega)) ?_ | refine p_call (with10 (by omega)) ?_ | refine p_call (with11 (by omega)) ?_ | refine p_call (with20 (by omega)) ?_ | refine p_call (with21 (by omega)) ?_ | refine p_call (with30 (by omega)) ?_ | refine p_call (with31 (by omega)) ?_)
  (try simp only [List.cons.injEq, Lf.i.injEq, and_true, true_and]); (try omega)
theorem rmove32 {m n x y : Int} (h : -50000 ≤ m ∧ m ≤ 50000 ∧ -50000 ≤ n ∧ n ≤ 50000 ∧ -50000 ≤ x ∧ x ≤ 50000 ∧ -50000 ≤ y ∧ y ≤ 50000) : Cc 54 [.i 3, .i m, .i n, .i x, .i y, .i 2] [.i (y + m), .i (-x - 1 + n), .i 1] := by
  refine q54 rfl ?_; unfold p54
  repeat (first | simp (disch := omega) only [↓qxs, ↓qxc, ↓qxa] | refine p_opt_r (by simp only [pickL, putL, offX, Int.reduceToNat, Int.reduceAdd, Int.reduceMul, Int.reduceMod, Int.reduceSub, Int.reduceNeg, Int.reduceDiv, Nat.reduceAdd, Nat.reduceMul, Nat.reduceLeDiff, List.length_cons, List.length_nil, ↓reduceIte, List.drop_succ_cons, List.drop_zero, List.take_succ_cons, List.take_zero, List.cons_append, List.nil_append, Nat.zero_add, Int.toNat_zero, Nat.zero_mul, Nat.add_zero, Int.zero_add]; exact rfl) ?_ | refine p_loop 5 ?_ | refine p_call (rcorn2 (by omega)) ?_ | refine p_call (rpoint3 (by omega)) ?_ | refine p_call (with00 (by omega)) ?_ | refine p_call (with01 (by omega)) ?_ | refine p_call (with10 (by omega)) ?_ | refine p_call (with11 (by omega)) ?_ | refine p_call (with20 (by omega)) ?_ | refine p_call (with21 (by omega)) ?_ | refine p_call (with30 (by omega)) ?_ | refine p_call (with31 (by omega)) ?_)
  (try simp only [List.cons.injEq, Lf.i.injEq, and_true, true_and]); (try omega)
theorem rmove33 {m n x y : Int} (h : -50000 ≤ m ∧ m ≤ 50000 ∧ -50000 ≤ n ∧ n ≤ 50000 ∧ -50000 ≤ x ∧ x ≤ 50000 ∧ -50000 ≤ y ∧ y ≤ 50000) : Cc 54 [.i 3, .i m, .i n, .i x, .i y, .i 3] [.i (y + m), .i (-x - 1 + n), .i 2] := by
  refine q54 rfl ?_; unfold p54
  repeat (first | simp (disch := omega) only [↓qxs, ↓qxc, ↓qxa] | refine p_opt_r (by simp only [pickL, putL, offX, Int.reduceToNat, Int.reduceAdd, Int.reduceMul, Int.reduceMod, Int.reduceSub, Int.reduceNeg, Int.reduceDiv, Nat.reduceAdd, Nat.reduceMul, Nat.reduceLeDiff, List.length_cons, List.length_nil, ↓reduceIte, List.drop_succ_cons, List.drop_zero, List.take_succ_cons, List.take_zero, List.cons_append, List.nil_append, Nat.zero_add, Int.toNat_zero, Nat.zero_mul, Nat.add_zero, Int.zero_add]; exact rfl) ?_ | refine p_loop 5 ?_ | refine p_call (rcorn3 (by omega)) ?_ | refine p_call (rpoint3 (by omega)) ?_ | refine p_call (with00 (by omega)) ?_ | refine p_call (with01 (by omega)) ?_ | refine p_call (with10 (by omega)) ?_ | refine p_call (with11 (by omega)) ?_ | refine p_call (with20 (by omega)) ?_ | refine p_call (with21 (by omega)) ?_ | refine p_call (with30 (by omega)) ?_ | refine p_call (with31 (by omega)) ?_)
  (try simp only [List.cons.injEq, Lf.i.injEq, and_true, true_and]); (try omega)
theorem rmove40 {m n x y : Int} (h : -50000 ≤ m ∧ m ≤ 50000 ∧ -50000 ≤ n ∧ n ≤ 50000 ∧ -50000 ≤ x ∧ x ≤ 50000 ∧ -50000 ≤ y ∧ y ≤ 50000) : Cc 54 [.i 4, .i m, .i n, .i x, .i y, .i 0] [.i (-x - 1 + m), .i (y + n), .i 0] := by
  refine q54 rfl ?_; unfold p54
  repeat (first | simp (disch := omega) only [↓qxs, ↓qxc, ↓qxa] | refine p_opt_r (by simp only [pickL, putL, offX, Int.reduceToNat, Int.reduceAdd, Int.reduceMul, Int.reduceMod, Int.reduceSub, Int.reduceNeg, Int.reduceDiv, Nat.reduceAdd, Nat.reduceMul, Nat.reduceLeDiff, List.length_cons, List.length_nil, ↓reduceIte, List.drop_succ_cons, List.drop_zero, List.take_succ_cons, List.take_zero, List.cons_append, List.nil_append, Nat.zero_add, Int.toNat_zero, Nat.zero_mul, Nat.add_zero, Int.zero_add]; exact rfl) ?_ | refine p_loop 5 ?_ | refine p_call (rcorn0 (by omega)) ?_ | refine p_call (rpoint4 (by omega)) ?_ | refine p_call (with00 (by omega)) ?_ | refine p_call (with01 (by omega)) ?_ | refine p_call (with10 (by omega)) ?_ | refine p_call (with11 (by omega)) ?_ | refine p_call (with20 (by omega)) ?_ | refine p_call (with21 (by omega)) ?_ | refine p_call (with30 (by omega)) ?_ | refine p_call (with31 (by omega)) ?_)
  (try simp only [List.cons.injEq, Lf.i.injEq, and_true, true_and]); (try omega)
theorem rmove41 {m n x y : Int} (h : -50000 ≤ m ∧ m ≤ 50000 ∧ -50000 ≤ n ∧ n ≤ 50000 ∧ -50000 ≤ x ∧ x ≤ 50000 ∧ -50000 ≤ y ∧ y ≤ 50000) : Cc 54 [.i 4, .i m, .i n, .i x, .i y, .i 1] [.i (-x - 1 + m), .i (y + n), .i 3] := by
  refine q54 rfl ?_; unfold p54
  repeat (first | simp (disch := omega) only [↓qxs, ↓qxc, ↓qxa] | refine p_opt_r (by simp only [pickL, putL, offX, Int.reduceToNat, Int.reduceAdd, Int.reduceMul, Int.reduceMod, Int.reduceSub, Int.reduceNeg, Int.reduceDiv, Nat.reduceAdd, Nat.reduceMul, Nat.reduceLeDiff, List.length_cons, List.length_nil, ↓reduceIte, List.drop_succ_cons, List.drop_zero, List.take_succ_cons, List.take_zero, List.cons_append, List.nil_append, Nat.zero_add, Int.toNat_zero, Nat.zero_mul, Nat.add_zero, Int.zero_add]; exact rfl) ?_ | refine p_loop 5 ?_ | refine p_call (rcorn1 (by omega)) ?_ | refine p_call (rpoint4 (by omega)) ?_ | refine p_call (with00 (by omega)) ?_ | refine p_call (with01 (by omega)) ?_ | refine p_call (with10 (by omega)) ?_ | refine p_call (with11 (by omega)) ?_ | refine p_call (with20 (by omega)) ?_ | refine p_call (with21 (by omega)) ?_ | refine p_call (with30 (by omega)) ?_ | refine p_call (with31 (by omega)) ?_)
  (try simp only [List.cons.injEq, Lf.i.injEq, and_true, true_and]); (try omega)
theorem rmove42 {m n x y : Int} (h : -50000 ≤ m ∧ m ≤ 50000 ∧ -50000 ≤ n ∧ n ≤ 50000 ∧ -50000 ≤ x ∧ x ≤ 50000 ∧ -50000 ≤ y ∧ y ≤ 50000) : Cc 54 [.i 4, .i m, .i n, .i x, .i y, .i 2] [.i (-x - 1 + m), .i (y + n), .i 2] := by
  refine q54 rfl ?_; unfold p54
  repeat (first | simp (disch := omega) only [↓qxs, ↓qxc, ↓qxa] | refine p_opt_r (by simp only [pickL, putL, offX, Int.reduceToNat, Int.reduceAdd, Int.reduceMul, Int.reduceMod, Int.reduceSub, Int.reduceNeg, Int.reduceDiv, Nat.reduceAdd, Nat.reduceMul, Nat.reduceLeDiff, List.length_cons, List.length_nil, ↓reduceIte, List.drop_succ_cons, List.drop_zero, List.take_succ_cons, List.take_zero, List.cons_append, List.nil_append, Nat.zero_add, Int.toNat_zero, Nat.zero_mul, Nat.add_zero, Int.zero_add]; exact rfl) ?_ | refine p_loop 5 ?_ | refine p_call (rcorn2 (by omega)) ?_ | refine p_call (rpoint4 (by omega)) ?_ | refine p_call (with00 (by omega)) ?_ | refine p_call (with01 (by omega)) ?_ | refine p_call (with10 (by omega)) ?_ | refine p_call (with11 (by omega)) ?_ | refine p_call (with20 (by omega)) ?_ | refine p_call (with21 (by omega)) ?_ | refine p_call (with30 (by omega)) ?_ | refine p_call (with31 (by omega)) ?_)
  (try simp only [List.cons.injEq, Lf.i.injEq, and_true, true_and]); (try omega)
theorem rmove43 {m n x y : Int} (h : -50000 ≤ m ∧ m ≤ 50000 ∧ -50000 ≤ n ∧ n ≤ 50000 ∧ -50000 ≤ x ∧ x ≤ 50000 ∧ -50000 ≤ y ∧ y ≤ 50000) : Cc 54 [.i 4, .i m, .i n, .i x, .i y, .i 3] [.i (-x - 1 + m), .i (y + n), .i 1] := by
  refine q54 rfl ?_; unfold p54
  repeat (first | simp (disch := omega) only [↓qxs, ↓qxc, ↓qxa] | refine p_opt_r (by simp only [pickL, putL, offX, Int.reduceToNat, Int.reduceAdd, Int.reduceMul, Int.reduceMod, Int.reduceSub, Int.reduceNeg, Int.reduceDiv, Nat.reduceAdd, Nat.reduceMul, Nat.reduceLeDiff, List.length_cons, List.length_nil, ↓reduceIte, List.drop_succ_cons, List.drop_zero, List.take_succ_cons, List.take_zero, List.cons_append, List.nil_append, Nat.zero_add, Int.toNat_zero, Nat.zero_mul, Nat.add_zero, Int.zero_add]; exact rfl) ?_ | refine p_loop 5 ?_ | refine p_call (rcorn3 (by omega)) ?_ | refine p_call (rpoint4 (by omega)) ?_ | refine p_call (with00 (by omega)) ?_ | refine p_call (with01 (by omega)) ?_ | refine p_call (with10 (by omega)) ?_ | refine p_call (with11 (by omega)) ?_ | refine p_call (with20 (by omega)) ?_ | refine p_call (with21 (by omega)) ?_ | refine p_call (with30 (by omega)) ?_ | refine p_call (with31 (by omega)) ?_)
  (try simp only [List.cons.injEq, Lf.i.injEq, and_true, true_and]); (try omega)
theorem rmove50 {m n x y : Int} (h : -50000 ≤ m ∧ m ≤ 50000 ∧ -50000 ≤ n ∧ n ≤ 50000 ∧ -50000 ≤ x ∧ x ≤ 50000 ∧ -50000 ≤ y ∧ y ≤ 50000) : Cc 54 [.i 5, .i m, .i n, .i x, .i y, .i 0] [.i (-y - 1 + m), .i (-x - 1 + n), .i 1] := by
  refine q54 rfl ?_; unfold p54
  repeat (first | simp (disch := omega) only [↓qxs, ↓qxc, ↓qxa] | refine p_opt_r (by simp only [pickL, putL, offX, Int.reduceToNat, Int.reduceAdd, Int.reduceMul, Int.reduceMod, Int.reduceSub, Int.reduceNeg, Int.reduceDiv, Nat.reduceAdd, Nat.reduceMul, Nat.reduceLeDiff, List.length_cons, List.length_nil, ↓reduceIte, List.drop_succ_cons, List.drop_zero, List.take_succ_cons, List.take_zero, List.cons_append, List.nil_append, Nat.zero_add, Int.toNat_zero, Nat.zero_mul, Nat.add_zero, Int.zero_add]; exact rfl) ?_ | refine p_loop 5 ?_ | refine p_call (rcorn0 (by omega)) ?_ | refine p_call (rpoint5 (by omega)) ?_ | refine p_call (with00 (by omega)) ?_ | refine p_call (with01 (by omega)) ?_ | refine p_call (with10 (by omega)) ?_ | refine p_call (with11 (by omega)) ?_ | refine p_call (with20 (by omega)) ?_ | refine p_call (with21 (by omega)) ?_ | refine p_call (with30 (by omega)) ?_ | refine p_call (with31 (by omega)) ?_)
  (try simp only [List.cons.injEq, Lf.i.injEq, and_true, true_and]); (try omega)
theorem rmove51 {m n x y : Int} (h : -50000 ≤ m ∧ m ≤ 50000 ∧ -50000 ≤ n ∧ n ≤ 50000 ∧ -50000 ≤ x ∧ x ≤ 50000 ∧ -50000 ≤ y ∧ y ≤ 50000) : Cc 54 [.i 5, .i m, .i n, .i x, .i y, .i 1] [.i (-y - 1 + m), .i (-x - 1 + n), .i 0] := by
  refine q54 rfl ?_; unfold p54
  repeat (first | simp (disch := omega) only [↓qxs, ↓qxc, ↓qxa] | refine p_opt_r (by simp only [pickL, putL, offX, Int.reduceToNat, Int.reduceAdd, Int.reduceMul, Int.reduceMod, Int.reduceSub, Int.reduceNeg, Int.reduceDiv, Nat.reduceAdd, Nat.reduceMul, Nat.reduceLeDiff, List.length_cons, List.length_nil, ↓reduceIte, List.drop_succ_cons, List.drop_zero, List.take_succ_cons, List.take_zero, List.cons_append, List.nil_append, Nat.zero_add, Int.toNat_zero, Nat.zero_mul, Nat.add_zero, Int.zero_add]; exact rfl) ?_ | refine p_loop 5 ?_ | refine p_call (rcorn1 (by omega)) ?_ | refine p_call (rpoint5 (by omega)) ?_ | refine p_call (with00 (by omega)) ?_ | refine p_call (with01 (by omega)) ?_ | refine p_call (with10 (by omega)) ?_ | refine p_call (with11 (by omega)) ?_ | refine p_call (with20 (by omega)) ?_ | refine p_call (with21 (by omega)) ?_ | refine p_call (with30 (by omega)) ?_ | refine p_call (with31 (by omega)) ?_)
  (try simp only [List.cons.injEq, Lf.i.injEq, and_true, true_and]); (try omega)
theorem rmove52 {m n x y : Int} (h : -50000 ≤ m ∧ m ≤ 50000 ∧ -50000 ≤ n ∧ n ≤ 50000 ∧ -50000 ≤ x ∧ x ≤ 50000 ∧ -50000 ≤ y ∧ y ≤ 50000) : Cc 54 [.i 5, .i m, .i n, .i x, .i y, .i 2] [.i (-y - 1 + m), .i (-x - 1 + n), .i 3] := by
  refine q54 rfl ?_; unfold p54
  repeat (first | simp (disch := omega) only [↓qxs, ↓qxc, ↓qxa] | refine p_opt_r (by simp only [pickL, putL, offX, Int.reduceToNat, Int.reduceAdd, Int.reduceMul, Int.reduceMod, Int.reduceSub, Int.reduceNeg, Int.reduceDiv, Nat.reduceAdd, Nat.reduceMul, Nat.reduceLeDiff, List.length_cons, List.length_nil, ↓reduceIte, List.drop_succ_cons, List.drop_zero, List.take_succ_cons, List.take_zero, List.cons_append, List.nil_append, Nat.zero_add, Int.toNat_zero, Nat.zero_mul, Nat.add_zero, Int.zero_add]; exact rfl) ?_ | refine p_loop 5 ?_ | refine p_call (rcorn2 (by omega)) ?_ | refine p_call (rpoint5 (by omega)) ?_ | refine p_call (with00 (by omega)) ?_ | refine p_call (with01 (by omega)) ?_ | refine p_call (with10 (by omega)) ?_ | refine p_call (with11 (by omega)) ?_ | refine p_call (with20 (by omega)) ?_ | refine p_call (with21 (by omega)) ?_ | refine p_call (with30 (by omega)) ?_ | refine p_call (with31 (by omega)) ?_)
  (try simp only [List.cons.injEq, Lf.i.injEq, and_true, true_and]); (try omega)
theorem rmove53 {m n x y : Int} (h : -50000 ≤ m ∧ m ≤ 50000 ∧ -50000 ≤ n ∧ n ≤ 50000 ∧ -50000 ≤ x ∧ x ≤ 50000 ∧ -50000 ≤ y ∧ y ≤ 50000) : Cc 54 [.i 5, .i m, .i n, .i x, .i y, .i 3] [.i (-y - 1 + m), .i (-x - 1 + n), .i 2] := by
  refine q54 rfl ?_; unfold p54
  repeat (first | simp (disch := omega) only [↓qxs, ↓qxc, ↓qxa] | refine p_opt_r (by simp only [pickL, putL, offX, Int.reduceToNat, Int.reduceAdd, Int.reduceMul, Int.reduceMod, Int.reduceSub, Int.reduceNeg, Int.reduceDiv, Nat.reduceAdd, Nat.reduceMul, Nat.reduceLeDiff, List.length_cons, List.length_nil, ↓reduceIte, List.drop_succ_cons, List.drop_zero, List.take_succ_cons, List.take_zero, List.cons_append, List.nil_append, Nat.zero_add, Int.toNat_zero, Nat.zero_mul, Nat.add_zero, Int.zero_add]; exact rfl) ?_ | refine p_loop 5 ?_ | refine p_call (rcorn3 (by omega)) ?_ | refine p_call (rpoint5 (by omega)) ?_ | refine p_call (with00 (by omega)) ?_ | refine p_call (with01 (by omega)) ?_ | refine p_call (with10 (by omega)) ?_ | refine p_call (with11 (by omega)) ?_ | refine p_call (with20 (by omega)) ?_ | refine p_call (with21 (by omega)) ?_ | refine p_call (with30 (by omega)) ?_ | refine p_call (with31 (by omega)) ?_)
  (try simp only [List.cons.injEq, Lf.i.injEq, and_true, true_and]); (try omega)
theorem rmove60 {m n x y : Int} (h : -50000 ≤ m ∧ m ≤ 50000 ∧ -50000 ≤ n ∧ n ≤ 50000 ∧ -50000 ≤ x ∧ x ≤ 50000 ∧ -50000 ≤ y ∧ y ≤ 50000) : Cc 54 [.i 6, .i m, .i n, .i x, .i y, .i 0] [.i (x + m), .i (-y - 1 + n), .i 2] := by
  refine q54 rfl ?_; unfold p54
  repeat (first | simp (disch := omega) only [↓qxs, ↓qxc, ↓qxa] | refine p_opt_r (by simp only [pickL, putL, offX, Int.reduceToNat, Int.reduceAdd, Int.reduceMul, Int.reduceMod, Int.reduceSub, Int.reduceNeg, Int.reduceDiv, Nat.reduceAdd, Nat.reduceMul, Nat.reduceLeDiff, List.length_cons, List.length_nil, ↓reduceIte, List.drop_succ_cons, List.drop_zero, List.take_succ_cons, List.take_zero, List.cons_append, List.nil_append, Nat.zero_add, Int.toNat_zero, Nat.zero_mul, Nat.add_zero, Int.zero_add]; exact rfl) ?_ | refine p_loop 5 ?_ | refine p_call (rcorn0 (by omega)) ?_ | refine p_call (rpoint6 (by omega)) ?_ | refine p_call (with00 (by omega)) ?_ | refine p_call (with01 (by omega)) ?_ | refine p_call (with10 (by omega)) ?_ | refine p_call (with11 (by omega)) ?_ | refine p_call (with20 (by omega)) ?_ | refine p_call (with21 (by omega)) ?_ | refine p_call (with30 (by omega)) ?_ | refine p_call (with31 (by omega)) ?_)
  (try simp only [List.cons.injEq, Lf.i.injEq, and_true, true_and]); (try omega)
theorem rmove61 {m n x y : Int} (h : -50000 ≤ m ∧ m ≤ 50000 ∧ -50000 ≤ n ∧ n ≤ 50000 ∧ -50000 ≤ x ∧ x ≤ 50000 ∧ -50000 ≤ y ∧ y ≤ 50000) : Cc 54 [.i 6, .i m, .i n, .i x, .i y, .i 1] [.i (x + m), .i (-y - 1 + n), .i 1] := by
  refine q54 rfl ?_; unfold p54
  repeat (first | simp (disch := omega) only [↓qxs, ↓qxc, ↓qxa] | refine p_opt_r (by simp only [pickL, putL, offX, Int.reduceToNat, Int.reduceAdd, Int.reduceMul, Int.reduceMod, Int.reduceSub, Int.reduceNeg, Int.reduceDiv, Nat.reduceAdd, Nat.reduceMul, Nat.reduceLeDiff, List.length_cons, List.length_nil, ↓reduceIte, List.drop_succ_cons, List.drop_zero, List.take_succ_cons, List.take_zero, List.cons_append, List.nil_append, Nat.zero_add, Int.toNat_zero, Nat.zero_mul, Nat.add_zero, Int.zero_add]; exact rfl) ?_ | refine p_loop 5 ?_ | refine p_call (rcorn1 (by omega)) ?_ | refine p_call (rpoint6 (by omega)) ?_ | refine p_call (with00 (by omega)) ?_ | refine p_call (with01 (by omega)) ?_ | refine p_call (with10 (by omega)) ?_ | refine p_call (with11 (by omega)) ?_ | refine p_call (with20 (by omega)) ?_ | refine p_call (with21 (by omega)) ?_ | refine p_call (with30 (by omega)) ?_ | refine p_call (with31 (by omega)) ?_)
  (try simp only [List.cons.injEq, Lf.i.injEq, and_true, true_and]); (try omega)
theorem rmove62 {m n x y : Int} (h : -50000 ≤ m ∧ m ≤ 50000 ∧ -50000 ≤ n ∧ n ≤ 50000 ∧ -50000 ≤ x ∧ x ≤ 50000 ∧ -50000 ≤ y ∧ y ≤ 50000) : Cc 54 [.i 6, .i m, .i n, .i x, .i y, .i 2] [.i (x + m), .i (-y - 1 + n), .i 0] := by
  refine q54 rfl ?_; unfold p54
  repeat (first | simp (disch := omega) only [↓qxs, ↓qxc, ↓qxa] | refine p_opt_r (by simp only [pickL, putL, offX, Int.reduceToNat, Int.reduceAdd, Int.reduceMul, Int.reduceMod, Int.reduceSub, Int.reduceNeg, Int.reduceDiv, Nat.reduceAdd, Nat.reduceMul, Nat.reduceLeDiff, List.length_cons, List.length_nil, ↓reduceIte, List.drop_succ_cons, List.drop_zero, List.take_succ_cons, List.take_zero, List.cons_append, List.nil_append, Nat.zero_add, Int.toNat_zero, Nat.zero_mul, Nat.add_zero, Int.zero_add]; exact rfl) ?_ | refine p_loop 5 ?_ | refine p_call (rcorn2 (by omega)) ?_ | refine p_call (rpoint6 (by omega)) ?_ | refine p_call (with00 (by omega)) ?_ | refine p_call (with01 (by omega)) ?_ | refine p_call (with10 (by omega)) ?_ | refine p_call (with11 (by omega)) ?_ | refine p_call (with20 (by omega)) ?_ | refine p_call (with21 (by omega)) ?_ | refine p_call (with30 (by omega)) ?_ | refine p_call (with31 (by omega)) ?_)
  (try simp only [List.cons.injEq, Lf.i.injEq, and_true, true_and]); (try omega)
theorem rmove63 {m n x y : Int} (h : -50000 ≤ m ∧ m ≤ 50000 ∧ -50000 ≤ n ∧ n ≤ 50000 ∧ -50000 ≤ x ∧ x ≤ 50000 ∧ -50000 ≤ y ∧ y ≤ 50000) : Cc 54 [.i 6, .i m, .i n, .i x, .i y, .i 3] [.i (x + m), .i (-y - 1 + n), .i 3] := by
  refine q54 rfl ?_; unfold p54
  repeat (first | simp (disch := omega) only [↓qxs, ↓qxc, ↓qxa] | refine p_opt_r (by simp only [pickL, putL, offX, Int.reduceToNat, Int.reduceAdd, Int.reduceMul, Int.reduceMod, Int.reduceSub, Int.reduceNeg, Int.reduceDiv, Nat.reduceAdd, Nat.reduceMul, Nat.reduceLeDiff, List.length_cons, List.length_nil, ↓reduceIte, List.drop_succ_cons, List.drop_zero, List.take_succ_cons, List.take_zero, List.cons_append, List.nil_append, Nat.zero_add, Int.toNat_zero, Nat.zero_mul, Nat.add_zero, Int.zero_add]; exact rfl) ?_ | refine p_loop 5 ?_ | refine p_call (rcorn3 (by omega)) ?_ | refine p_call (rpoint6 (by omega)) ?_ | refine p_call (with00 (by omega)) ?_ | refine p_call (with01 (by omega)) ?_ | refine p_call (with10 (by omega)) ?_ | refine p_call (with11 (by omega)) ?_ | refine p_call (with20 (by omega)) ?_ | refine p_call (with21 (by omega)) ?_ | refine p_call (with30 (by omega)) ?_ | refine p_call (with31 (by omega)) ?_)
  (try simp only [List.cons.injEq, Lf.i.injEq, and_true, true_and]); (try omega)
theorem rmove70 {m n x y : Int} (h : -50000 ≤ m ∧ m ≤ 50000 ∧ -50000 ≤ n ∧ n ≤ 50000 ∧ -50000 ≤ x ∧ x ≤ 50000 ∧ -50000 ≤ y ∧ y ≤ 50000) : Cc 54 [.i 7, .i m, .i n, .i x, .i y, .i 0] [.i (y + m), .i (x + n), .i 3] := by
  refine q54 rfl ?_; unfold p54
  repeat (first | simp (disch := omega) only [↓qxs, ↓qxc, ↓qxa] | refine p_opt_r (by simp only [pickL, putL, offX, Int.reduceToNat, Int.reduceAdd, Int.reduceMul, Int.reduceMod, Int.reduceSub, Int.reduceNeg, Int.reduceDiv, Nat.reduceAdd, Nat.reduceMul, Nat.reduceLeDiff, List.length_cons, List.length_nil, ↓reduceIte, List.drop_succ_cons, List.drop_zero, List.take_succ_cons, List.take_zero, List.cons_append, List.nil_append, Nat.zero_add, Int.toNat_zero, Nat.zero_mul, Nat.add_zero, Int.zero_add]; exact rfl) ?_ | refine p_loop 5 ?_ | refine p_call (rcorn0 (by omega)) ?_ | refine p_call (rpoint7 (by omega)) ?_ | refine p_call (with00 (by omega)) ?_ | refine p_call (with01 (by omega)) ?_ | refine p_call (with10 (by omega)) ?_ | refine p_call (with11 (by omega)) ?_ | refine p_call (with20 (by omega)) ?_ | refine p_call (with21 (by omega)) ?_ | refine p_call (with30 (by omega)) ?_ | refine p_call (with31 (by omega)) ?_)
  (try simp only [List.cons.injEq, Lf.i.injEq, and_true, true_and]); (try omega)
theorem rmove71 {m n x y : Int} (h : -50000 ≤ m ∧ m ≤ 50000 ∧ -50000 ≤ n ∧ n ≤ 50000 ∧ -50000 ≤ x ∧ x ≤ 50000 ∧ -50000 ≤ y ∧ y ≤ 50000) : Cc 54 [.i 7, .i m, .i n, .i x, .i y, .i 1] [.i (y + m), .i (x + n), .i 2] := by
  refine q54 rfl ?_; unfold p54
  repeat (first | simp (disch := omega) only [↓qxs, ↓qxc, ↓qxa] | refine p_opt_r (by simp only [pickL, putL, offX, Int.reduceToNat, Int.reduceAdd, Int.reduceMul, Int.reduceMod, Int.reduceSub, Int.reduceNeg, Int.reduceDiv, Nat.reduceAdd, Nat.reduceMul, Nat.reduceLeDiff, List.length_cons, List.length_nil, ↓reduceIte, List.drop_succ_cons, List.drop_zero, List.take_succ_cons, List.take_zero, List.cons_append, List.nil_append, Nat.zero_add, Int.toNat_zero, Nat.zero_mul, Nat.add_zero, Int.zero_add]; exact rfl) ?_ | refine p_loop 5 ?_ | refine p_call (rcorn1 (by omega)) ?_ | refine p_call (rpoint7 (by omega)) ?_ | refine p_call (with00 (by omega)) ?_ | refine p_call (with01 (by omega)) ?_ | refine p_call (with10 (by omega)) ?_ | refine p_call (with11 (by omega)) ?_ | refine p_call (with20 (by omega)) ?_ | refine p_call (with21 (by omega)) ?_ | refine p_call (with30 (by omega)) ?_ | refine p_call (with31 (by omega)) ?_)
  (try simp only [List.cons.injEq, Lf.i.injEq, and_true, true_and]); (try omega)
theorem rmove72 {m n x y : Int} (h : -50000 ≤ m ∧ m ≤ 50000 ∧ -50000 ≤ n ∧ n ≤ 50000 ∧ -50000 ≤ x ∧ x ≤ 50000 ∧ -50000 ≤ y ∧ y ≤ 50000) : Cc 54 [.i 7, .i m, .i n, .i x, .i y, .i 2] [.i (y + m), .i (x + n), .i 1] := by
  refine q54 rfl ?_; unfold p54
  repeat (first | simp (disch := omega) only [↓qxs, ↓qxc, ↓qxa] | refine p_opt_r (by simp only [pickL, putL, offX, Int.reduceToNat, Int.reduceAdd, Int.reduceMul, Int.reduceMod, Int.reduceSub, Int.reduceNeg, Int.reduceDiv, Nat.reduceAdd, Nat.reduceMul, Nat.reduceLeDiff, List.length_cons, List.length_nil, ↓reduceIte, List.drop_succ_cons, List.drop_zero, List.take_succ_cons, List.take_zero, List.cons_append, List.nil_append, Nat.zero_add, Int.toNat_zero, Nat.zero_mul, Nat.add_zero, Int.zero_add]; exact rfl) ?_ | refine p_loop 5 ?_ | refine p_call (rcorn2 (by omega)) ?_ | refine p_call (rpoint7 (by omega)) ?_ | refine p_call (with00 (by omega)) ?_ | refine p_call (with01 (by omega)) ?_ | refine p_call (with10 (by omega)) ?_ | refine p_call (with11 (by omega)) ?_ | refine p_call (with20 (by omega)) ?_ | refine p_call (with21 (by omega)) ?_ | refine p_call (with30 (by omega)) ?_ | refine p_call (with31 (by omega)) ?_)
  (try simp only [List.cons.injEq, Lf.i.injEq, and_true, true_and]); (try omega)
theorem rmove73 {m n x y : Int} (h : -50000 ≤ m ∧ m ≤ 50000 ∧ -50000 ≤ n ∧ n ≤ 50000 ∧ -50000 ≤ x ∧ x ≤ 50000 ∧ -50000 ≤ y ∧ y ≤ 50000) : Cc 54 [.i 7, .i m, .i n, .i x, .i y, .i 3] [.i (y + m), .i (x + n), .i 0] := by
  refine q54 rfl ?_; unfold p54
  repeat (first | simp (disch := omega) only [↓qxs, ↓qxc, ↓qxa] | refine p_opt_r (by simp only [pickL, putL, offX, Int.reduceToNat, Int.reduceAdd, Int.reduceMul, Int.reduceMod, Int.reduceSub, Int.reduceNeg, Int.reduceDiv, Nat.reduceAdd, Nat.reduceMul, Nat.reduceLeDiff, List.length_cons, List.length_nil, ↓reduceIte, List.drop_succ_cons, List.drop_zero, List.take_succ_cons, List.take_zero, List.cons_append, List.nil_append, Nat.zero_add, Int.toNat_zero, Nat.zero_mul, Nat.add_zero, Int.zero_add]; exact rfl) ?_ | refine p_loop 5 ?_ | refine p_call (rcorn3 (by omega)) ?_ | refine p_call (rpoint7 (by omega)) ?_ | refine p_call (with00 (by omega)) ?_ | refine p_call (with01 (by omega)) ?_ | refine p_call (with10 (by omega)) ?_ | refine p_call (with11 (by omega)) ?_ | refine p_call (with20 (by omega)) ?_ | refine p_call (with21 (by omega)) ?_ | refine p_call (with30 (by omega)) ?_ | refine p_call (with31 (by omega)) ?_)
  (try simp only [List.cons.injEq, Lf.i.injEq, and_true, true_and]); (try omega)
end Go.Am
/-
  THE TABLE OF RUNS, BY PROGRAM.
-/
set_option maxRecDepth 100000
namespace Go.Am
open Sx
abbrev FB := List Lf → HL → (List Lf → HL → Bool) → Bool
def nf : FB := fun _ _ _ => false
noncomputable def tabB (A : Alg Bool HL) : Tr FB := (.node nf (.node nf (.node nf (.node nf (.node nf (.node nf .leaf (.node (f95 A) .leaf .leaf)) (.node (f47 A) (.node (f79 A) .leaf .leaf) .leaf)) (.node nf (.node nf .leaf (.node (f103 A) .leaf .leaf)) (.node (f55 A) .leaf .leaf))) (.node nf (.node nf (.node nf .leaf (.node (f99 A) .leaf .leaf)) (.node nf (.node (f83 A) .leaf .leaf) .leaf)) (.node nf (.node (f43 A) (.node (f75 A) .leaf .leaf) .leaf) (.node nf (.node (f91 A) .leaf .leaf) .leaf)))) (.node nf (.node nf (.node nf (.node nf .leaf (.node (f97 A) .leaf .leaf)) .leaf) (.node nf (.node (f41 A) .leaf (.node (f105 A) .leaf .leaf)) .leaf)) (.node nf (.node nf (.node nf .leaf (.node (f101 A) .leaf .leaf)) (.node nf (.node (f85 A) .leaf .leaf) .leaf)) .leaf))) (.node nf (.node nf (.node nf (.node nf (.node nf .leaf (.node (f96 A) .leaf .leaf)) (.node (f48 A) (.node (f80 A) .leaf .leaf) .leaf)) (.node nf (.node (f40 A) .leaf (.node (f104 A) .leaf .leaf)) .leaf)) (.node nf (.node nf (.node nf .leaf (.node (f100 A) .leaf .leaf)) (.node (f52 A) .leaf .leaf)) (.node nf (.node (f44 A) .leaf .leaf) (.node nf (.node (f92 A) .leaf .leaf) .leaf)))) (.node nf (.node nf (.node nf (.node nf (.node (f66 A) .leaf .leaf) (.node (f98 A) .leaf .leaf)) (.node (f50 A) (.node (f82 A) .leaf .leaf) .leaf)) (.node nf (.node nf (.node (f74 A) .leaf .leaf) (.node (f106 A) .leaf .leaf)) (.node nf (.node (f90 A) .leaf .leaf) .leaf))) (.node nf (.node nf (.node nf .leaf (.node (f102 A) .leaf .leaf)) .leaf) (.node nf (.node nf (.node (f78 A) .leaf .leaf) .leaf) (.node nf (.node (f94 A) .leaf .leaf) .leaf))))))
/-- Closed functions whose answer is known. -/
def knB (kn : List (FuncId × Bool)) (f : FuncId) : Option Bool := match kn with
  | [] => none
  | p :: l => match Nat.beq p.1 f with
    | true => some p.2
    | false => knB l f
noncomputable def tabT (kn : List (FuncId × Bool)) (A : Alg Bool HL) (k : CK) : FB := match k with
  | .f f => match knB kn f with
    | some t => fun ls h K => match ls with
      | [] => K [.b t] h
      | _ => false
    | none => match Nat.blt f 107 with
      | true => (pathOf f).get nf (tabB A)
      | false => nf
  | .y κ vs l => fun ls h K => execY A (xc 0) sgTab drN (siteTab κ) vs l ls h K
noncomputable abbrev runR (kn : List (FuncId × Bool)) (n : Nat) : CallB := Sx.runT sgTab siteTab (tabT kn) n
def isT (l : List Lf) (_ : HL) : Bool := match l with | [.b t] => t | _ => false
section
variable [Val] [Kno]
def TabP (k : Nat) : Prop := ∀ A ls h K, (pathOf k).get nf (tabB A) ls h K = true → ∃ fn, FnIs (xc k) sgTab k fn ∧ execF A (xc k) sgTab drN fn ls h K = true
theorem TabP.of {k : Nat} {g : Alg Bool HL → FB} {fn : Fn1} (h1 : (fun A : Alg Bool HL => (pathOf k).get nf (tabB A)) = g) (h2 : g = fun A ls h K => execF A (xc k) sgTab drN fn ls h K) (h3 : FnIs (xc k) sgTab k fn) : TabP k := by
  intro A ls h K hk
  refine ⟨fn, h3, ?_⟩
  have := congrFun (h1.trans h2) A
  rw [this] at hk
  exact hk
theorem TabP.no {k : Nat} (h1 : (fun A : Alg Bool HL => (pathOf k).get nf (tabB A)) = fun _ => nf) : TabP k := by
  intro A ls h K hk
  have := congrFun h1 A
  rw [this] at hk
  cases hk

theorem t0 : TabP 0 := .no (by kernel_rfl)
theorem t1 : TabP 1 := .no (by kernel_rfl)
theorem t2 : TabP 2 := .no (by kernel_rfl)
theorem t3 : TabP 3 := .no (by kernel_rfl)
theorem t4 : TabP 4 := .no (by kernel_rfl)
theorem t5 : TabP 5 := .no (by kernel_rfl)
theorem t6 : TabP 6 := .no (by kernel_rfl)
theorem t7 : TabP 7 := .no (by kernel_rfl)
theorem t8 : TabP 8 := .no (by kernel_rfl)
theorem t9 : TabP 9 := .no (by kernel_rfl)
theorem t10 : TabP 10 := .no (by kernel_rfl)
theorem t11 : TabP 11 := .no (by kernel_rfl)
theorem t12 : TabP 12 := .no (by kernel_rfl)
theorem t13 : TabP 13 := .no (by kernel_rfl)
theorem t14 : TabP 14 := .no (by kernel_rfl)
theorem t15 : TabP 15 := .no (by kernel_rfl)
theorem t16 : TabP 16 := .no (by kernel_rfl)
theorem t17 : TabP 17 := .no (by kernel_rfl)
theorem t18 : TabP 18 := .no (by kernel_rfl)
theorem t19 : TabP 19 := .no (by kernel_rfl)
theorem t20 : TabP 20 := .no (by kernel_rfl)
theorem t21 : TabP 21 := .no (by kernel_rfl)
theorem t22 : TabP 22 := .no (by kernel_rfl)
theorem t23 : TabP 23 := .no (by kernel_rfl)
theorem t24 : TabP 24 := .no (by kernel_rfl)
theorem t25 : TabP 25 := .no (by kernel_rfl)
theorem t26 : TabP 26 := .no (by kernel_rfl)
theorem t27 : TabP 27 := .no (by kernel_rfl)
theorem t28 : TabP 28 := .no (by kernel_rfl)
theorem t29 : TabP 29 := .no (by kernel_rfl)
theorem t30 : TabP 30 := .no (by kernel_rfl)
theorem t31 : TabP 31 := .no (by kernel_rfl)
theorem t32 : TabP 32 := .no (by kernel_rfl)
theorem t33 : TabP 33 := .no (by kernel_rfl)
theorem t34 : TabP 34 := .no (by kernel_rfl)
theorem t35 : TabP 35 := .no (by kernel_rfl)
theorem t36 : TabP 36 := .no (by kernel_rfl)
theorem t37 : TabP 37 := .no (by kernel_rfl)
theorem t38 : TabP 38 := .no (by kernel_rfl)
theorem t39 : TabP 39 := .no (by kernel_rfl)
theorem t40 : TabP 40 := .of (g := fun A => f40 A) (by kernel_rfl) (congrFun (congrFun e40 Bool) HL) i40
theorem t41 : TabP 41 := .of (g := fun A => f41 A) (by kernel_rfl) (congrFun (congrFun e41 Bool) HL) i41
theorem t42 : TabP 42 := .no (by kernel_rfl)
theorem t43 : TabP 43 := .of (g := fun A => f43 A) (by kernel_rfl) (congrFun (congrFun e43 Bool) HL) i43
theorem t44 : TabP 44 := .of (g := fun A => f44 A) (by kernel_rfl) (congrFun (congrFun e44 Bool) HL) i44
theorem t45 : TabP 45 := .no (by kernel_rfl)
theorem t46 : TabP 46 := .no (by kernel_rfl)
theorem t47 : TabP 47 := .of (g := fun A => f47 A) (by kernel_rfl) (congrFun (congrFun e47 Bool) HL) i47
theorem t48 : TabP 48 := .of (g := fun A => f48 A) (by kernel_rfl) (congrFun (congrFun e48 Bool) HL) i48
theorem t49 : TabP 49 := .no (by kernel_rfl)
theorem t50 : TabP 50 := .of (g := fun A => f50 A) (by kernel_rfl) (congrFun (congrFun e50 Bool) HL) i50
theorem t51 : TabP 51 := .no (by kernel_rfl)
theorem t52 : TabP 52 := .of (g := fun A => f52 A) (by kernel_rfl) (congrFun (congrFun e52 Bool) HL) i52
theorem t53 : TabP 53 := .no (by kernel_rfl)
theorem t54 : TabP 54 := .no (by kernel_rfl)
theorem t55 : TabP 55 := .of (g := fun A => f55 A) (by kernel_rfl) (congrFun (congrFun e55 Bool) HL) i55
theorem t56 : TabP 56 := .no (by kernel_rfl)
theorem t57 : TabP 57 := .no (by kernel_rfl)
theorem t58 : TabP 58 := .no (by kernel_rfl)
theorem t59 : TabP 59 := .no (by kernel_rfl)
theorem t60 : TabP 60 := .no (by kernel_rfl)
theorem t61 : TabP 61 := .no (by kernel_rfl)
theorem t62 : TabP 62 := .no (by kernel_rfl)
theorem t63 : TabP 63 := .no (by kernel_rfl)
theorem t64 : TabP 64 := .no (by kernel_rfl)
theorem t65 : TabP 65 := .no (by kernel_rfl)
theorem t66 : TabP 66 := .of (g := fun A => f66 A) (by kernel_rfl) (congrFun (congrFun e66 Bool) HL) i66
theorem t67 : TabP 67 := .no (by kernel_rfl)
theorem t68 : TabP 68 := .no (by kernel_rfl)
theorem t69 : TabP 69 := .no (by kernel_rfl)
theorem t70 : TabP 70 := .no (by kernel_rfl)
theorem t71 : TabP 71 := .no (by kernel_rfl)
theorem t72 : TabP 72 := .no (by kernel_rfl)
theorem t73 : TabP 73 := .no (by kernel_rfl)
theorem t74 : TabP 74 := .of (g := fun A => f74 A) (by kernel_rfl) (congrFun (congrFun e74 Bool) HL) i74
theorem t75 : TabP 75 := .of (g := fun A => f75 A) (by kernel_rfl) (congrFun (congrFun e75 Bool) HL) i75
theorem t76 : TabP 76 := .no (by kernel_rfl)
theorem t77 : TabP 77 := .no (by kernel_rfl)
theorem t78 : TabP 78 := .of (g := fun A => f78 A) (by kernel_rfl) (congrFun (congrFun e78 Bool) HL) i78
theorem t79 : TabP 79 := .of (g := fun A => f79 A) (by kernel_rfl) (congrFun (congrFun e79 Bool) HL) i79
theorem t80 : TabP 80 := .of (g := fun A => f80 A) (by kernel_rfl) (congrFun (congrFun e80 Bool) HL) i80
theorem t81 : TabP 81 := .no (by kernel_rfl)
theorem t82 : TabP 82 := .of (g := fun A => f82 A) (by kernel_rfl) (congrFun (congrFun e82 Bool) HL) i82
theorem t83 : TabP 83 := .of (g := fun A => f83 A) (by kernel_rfl) (congrFun (congrFun e83 Bool) HL) i83
theorem t84 : TabP 84 := .no (by kernel_rfl)
theorem t85 : TabP 85 := .of (g := fun A => f85 A) (by kernel_rfl) (congrFun (congrFun e85 Bool) HL) i85
theorem t86 : TabP 86 := .no (by kernel_rfl)
theorem t87 : TabP 87 := .no (by kernel_rfl)
theorem t88 : TabP 88 := .no (by kernel_rfl)
theorem t89 : TabP 89 := .no (by kernel_rfl)
theorem t90 : TabP 90 := .of (g := fun A => f90 A) (by kernel_rfl) (congrFun (congrFun e90 Bool) HL) i90
theorem t91 : TabP 91 := .of (g := fun A => f91 A) (by kernel_rfl) (congrFun (congrFun e91 Bool) HL) i91
theorem t92 : TabP 92 := .of (g := fun A => f92 A) (by kernel_rfl) (congrFun (congrFun e92 Bool) HL) i92
theorem t93 : TabP 93 := .no (by kernel_rfl)
theorem t94 : TabP 94 := .of (g := fun A => f94 A) (by kernel_rfl) (congrFun (congrFun e94 Bool) HL) i94
theorem t95 : TabP 95 := .of (g := fun A => f95 A) (by kernel_rfl) (congrFun (congrFun e95 Bool) HL) i95
theorem t96 : TabP 96 := .of (g := fun A => f96 A) (by kernel_rfl) (congrFun (congrFun e96 Bool) HL) i96
theorem t97 : TabP 97 := .of (g := fun A => f97 A) (by kernel_rfl) (congrFun (congrFun e97 Bool) HL) i97
theorem t98 : TabP 98 := .of (g := fun A => f98 A) (by kernel_rfl) (congrFun (congrFun e98 Bool) HL) i98
theorem t99 : TabP 99 := .of (g := fun A => f99 A) (by kernel_rfl) (congrFun (congrFun e99 Bool) HL) i99
theorem t100 : TabP 100 := .of (g := fun A => f100 A) (by kernel_rfl) (congrFun (congrFun e100 Bool) HL) i100
theorem t101 : TabP 101 := .of (g := fun A => f101 A) (by kernel_rfl) (congrFun (congrFun e101 Bool) HL) i101
theorem t102 : TabP 102 := .of (g := fun A => f102 A) (by kernel_rfl) (congrFun (congrFun e102 Bool) HL) i102
theorem t103 : TabP 103 := .of (g := fun A => f103 A) (by kernel_rfl) (congrFun (congrFun e103 Bool) HL) i103
theorem t104 : TabP 104 := .of (g := fun A => f104 A) (by kernel_rfl) (congrFun (congrFun e104 Bool) HL) i104
theorem t105 : TabP 105 := .of (g := fun A => f105 A) (by kernel_rfl) (congrFun (congrFun e105 Bool) HL) i105
theorem t106 : TabP 106 := .of (g := fun A => f106 A) (by kernel_rfl) (congrFun (congrFun e106 Bool) HL) i106
theorem tabAll : ∀ f, Nat.blt f 107 = true → TabP f
  | 0, _ => t0
  | 1, _ => t1
  | 2, _ => t2
  | 3, _ => t3
  | 4, _ => t4
  | 5, _ => t5
  | 6, _ => t6
  | 7, _ => t7
  | 8, _ => t8
  | 9, _ => t9
  | 10, _ => t10
  | 11, _ => t11
  | 12, _ => t12
  | 13, _ => t13
  | 14, _ => t14
  | 15, _ => t15
  | 16, _ => t16
  | 17, _ => t17
  | 18, _ => t18
  | 19, _ => t19
  | 20, _ => t20
  | 21, _ => t21
  | 22, _ => t22
  | 23, _ => t23
  | 24, _ => t24
  | 25, _ => t25
  | 26, _ => t26
  | 27, _ => t27
  | 28, _ => t28
  | 29, _ => t29
  | 30, _ => t30
  | 31, _ => t31
  | 32, _ => t32
  | 33, _ => t33
  | 34, _ => t34
  | 35, _ => t35
  | 36, _ => t36
  | 37, _ => t37
  | 38, _ => t38
  | 39, _ => t39
  | 40, _ => t40
  | 41, _ => t41
  | 42, _ => t42
  | 43, _ => t43
  | 44, _ => t44
  | 45, _ => t45
  | 46, _ => t46
  | 47, _ => t47
  | 48, _ => t48
  | 49, _ => t49
  | 50, _ => t50
  | 51, _ => t51
  | 52, _ => t52
  | 53, _ => t53
  | 54, _ => t54
  | 55, _ => t55
  | 56, _ => t56
  | 57, _ => t57
  | 58, _ => t58
  | 59, _ => t59
  | 60, _ => t60
  | 61, _ => t61
  | 62, _ => t62
  | 63, _ => t63
  | 64, _ => t64
  | 65, _ => t65
  | 66, _ => t66
  | 67, _ => t67
  | 68, _ => t68
  | 69, _ => t69
  | 70, _ => t70
  | 71, _ => t71
  | 72, _ => t72
  | 73, _ => t73
  | 74, _ => t74
  | 75, _ => t75
  | 76, _ => t76
  | 77, _ => t77
  | 78, _ => t78
  | 79, _ => t79
  | 80, _ => t80
  | 81, _ => t81
  | 82, _ => t82
  | 83, _ => t83
  | 84, _ => t84
  | 85, _ => t85
  | 86, _ => t86
  | 87, _ => t87
  | 88, _ => t88
  | 89, _ => t89
  | 90, _ => t90
  | 91, _ => t91
  | 92, _ => t92
  | 93, _ => t93
  | 94, _ => t94
  | 95, _ => t95
  | 96, _ => t96
  | 97, _ => t97
  | 98, _ => t98
  | 99, _ => t99
  | 100, _ => t100
  | 101, _ => t101
  | 102, _ => t102
  | 103, _ => t103
  | 104, _ => t104
  | 105, _ => t105
  | 106, _ => t106
  | n + 107, h => by rw [Nat.blt_eq] at h; omega
theorem knB_mem {f : FuncId} {t : Bool} : ∀ {l : List (FuncId × Bool)}, knB l f = some t → (f, t) ∈ l
  | p :: l, h => by
    unfold knB at h
    split at h
    · rename_i e
      cases h
      have := Nat.eq_of_beq_eq_true e
      subst this
      exact List.mem_cons_self
    · exact List.mem_cons_of_mem _ (knB_mem h)
theorem run_ok (kn : List (FuncId × Bool)) (hkn : ∀ p ∈ kn, sgTab p.1 = some ⟨[], [lb]⟩ ∧ Kno.kn p.1 [] (.bool p.2)) (n : Nat) : CallBOk cc sgTab siteTab (runR kn n) :=
  Sx.runT_ok (tab := tabT kn) (T := siteTab) (X := xc) (dr := drN) (fun pts ops h n σ σ' hx => dr_ok neuN_ok pts ops h n σ σ' hx) (fun _ => ⟨rfl, rfl⟩) (fun A f ls h K hk => by
    simp only [tabT] at hk
    cases e0 : knB kn f with
    | some t =>
      rw [e0] at hk
      match ls, hk with
      | [], hk =>
        obtain ⟨h1, h2⟩ := hkn _ (knB_mem e0)
        exact .inr ⟨[.b t], fun H => ⟨⟨[], [lb]⟩, [], [.leaf (.b t)], h1, ⟨rfl, rfl, fun _ h => by cases h⟩, ⟨rfl, rfl, fun x hx => by
          simp only [List.mem_singleton] at hx
          subst hx
          intro y hy
          simp only [S0.cells, List.mem_singleton] at hy
          subst hy; trivial⟩, call_known h2 H⟩, hk⟩
    | none =>
      rw [e0] at hk
      cases e : Nat.blt f 107 with
      | true => rw [e] at hk; exact .inl (tabAll f e A ls h K hk)
      | false => rw [e] at hk; cases hk) (fun A κ vs l ls h K hk => ⟨0, hk⟩) n
end
end Go.Am

/-
  CLOSED FUNCTIONS THAT THE KERNEL RUNS: their contracts.
-/
set_option maxRecDepth 100000
namespace Go.Am
open Sx Go.Proofs

/-- A closed function that a run shows to say true. -/
theorem ran {g : FuncId} {n : Nat} (hs : sgTab g = some ⟨[], [lb]⟩) (h : runR [] n (.f g) [] [] isT = true) : Cc g [] [.b true] := by
  obtain ⟨H', h1⟩ := closed_true (run_ok [] (fun _ h => by cases h) n) hs h
  intro H
  refine ⟨⟨[], [lb]⟩, [], [.leaf (.b true)], hs, ⟨rfl, rfl, fun _ h => by cases h⟩, ⟨rfl, rfl, fun x hx => ?_⟩, ⟨0, fun H => frame_ok gl_flat (uCallC_ok mixed h1) rfl rfl H, rfl⟩⟩
  simp only [List.mem_singleton] at hx
  subst hx
  intro y hy
  simp only [S0.cells, List.mem_singleton] at hy
  subst hy; trivial
end Go.Am

/-
  The examples of chapter 3.
-/
set_option maxRecDepth 100000
namespace Go.Am
open Sx Go.Proofs
theorem lives : Cc 44 [] [.b true] := ran (n := 60) rfl (by kernel_rfl)
end Go.Am

/-
  RULES ON TRUTH VALUES.
-/
namespace Go.Am
open Sx Go.Proofs
theorem b_tt {l : List (Lf × Lf)} {K : Bool → Prop} : P1.eqs ((.b true, .b true) :: l) (@hid _ ⟨K⟩) = P1.eqs l (@hid _ ⟨K⟩) := rfl
theorem b_ff {l : List (Lf × Lf)} {K : Bool → Prop} : P1.eqs ((.b false, .b false) :: l) (@hid _ ⟨K⟩) = P1.eqs l (@hid _ ⟨K⟩) := rfl
theorem b_nt {X Y : Prop} : P1.cond (!true) X (@hid _ ⟨Y⟩) = Y := b_cond_f
theorem b_nf {X Y : Prop} : P1.cond (!false) (@hid _ ⟨X⟩) Y = X := b_cond_t
/-- These, in one. -/
def qxb := And.intro @b_tt (And.intro @b_ff (And.intro @b_nt @b_nf))
end Go.Am

/-
  CONTRACTS, BY PROGRAM: CellsMove, by turn.
-/
set_option maxRecDepth 100000
set_option maxHeartbeats 4000000
namespace Go.Am
open Sx Go.Proofs

theorem cellsMv000 {m n x y e : Int} (h : (-16384 ≤ m ∧ m ≤ 16384 ∧ -16384 ≤ n ∧ n ≤ 16384 ∧ (m + n) % 2 = 0) ∧ -4096 ≤ x ∧ x ≤ 4096 ∧ -4096 ≤ y ∧ y ≤ 4096 ∧ 0 ≤ e ∧ e ≤ 255 ∧ e % 3 = 0) : Cc 12 [.i 0, .i m, .i n, .i x, .i y, .i 0, .i e] [.b true] := by
  refine q12 rfl ?_; unfold p12
  have he : e % 3 = 0 := by omega
  by_cases hd : -4096 ≤ x + m ∧ x + m ≤ 4096 ∧ -4096 ≤ y + n ∧ y + n ≤ 4096 <;> by_cases hn : -4096 ≤ x ∧ x ≤ 4096 ∧ -4096 ≤ y - 1 ∧ y - 1 ≤ 4096 <;> by_cases ho : -4096 ≤ (x) + m ∧ (x) + m ≤ 4096 ∧ -4096 ≤ (y - 1) + n ∧ (y - 1) + n ≤ 4096
  all_goals (first | (exfalso; omega) | (repeat (first | simp (disch := omega) only [↓qxs, ↓qxc, ↓qxa, ↓qxb, he] | refine p_call (cmove00 (by omega)) ?_ | refine p_call (cmovel00 (by omega)) ?_ | refine p_call (cmove02 (by omega)) ?_ | refine p_call (cmovel02 (by omega)) ?_ | refine p_call (cmove_no (by omega)) ?_ | refine p_call (v2_ok (by omega)) ?_ | refine p_call (v3_ok (by omega)) ?_ | refine p_call (v3_no (by omega)) ?_ | refine p_call (rmove00 (by omega)) ?_ | refine p_call (rmove02 (by omega)) ?_ | refine p_call (rnb00 (by omega)) ?_ | refine p_call (touch00 (by omega)) ?_ | refine p_call (touch01 (by omega)) ?_ | refine p_call (touch02 (by omega)) ?_ | refine p_call lives ?_)))
theorem cellsMv001 {m n x y e : Int} (h : (-16384 ≤ m ∧ m ≤ 16384 ∧ -16384 ≤ n ∧ n ≤ 16384 ∧ (m + n) % 2 = 0) ∧ -4096 ≤ x ∧ x ≤ 4096 ∧ -4096 ≤ y ∧ y ≤ 4096 ∧ 0 ≤ e ∧ e ≤ 255 ∧ e % 3 = 1) : Cc 12 [.i 0, .i m, .i n, .i x, .i y, .i 0, .i e] [.b true] := by
  refine q12 rfl ?_; unfold p12
  have he : e % 3 = 1 := by omega
  by_cases hd : -4096 ≤ x + m ∧ x + m ≤ 4096 ∧ -4096 ≤ y + n ∧ y + n ≤ 4096
  all_goals (first | (exfalso; omega) | (repeat (first | simp (disch := omega) only [↓qxs, ↓qxc, ↓qxa, ↓qxb, he] | refine p_call (cmove00 (by omega)) ?_ | refine p_call (cmovel00 (by omega)) ?_ | refine p_call (cmove01 (by omega)) ?_ | refine p_call (cmovel01 (by omega)) ?_ | refine p_call (cmove_no (by omega)) ?_ | refine p_call (v2_ok (by omega)) ?_ | refine p_call (v3_ok (by omega)) ?_ | refine p_call (v3_no (by omega)) ?_ | refine p_call (rmove00 (by omega)) ?_ | refine p_call (rmove01 (by omega)) ?_ | refine p_call (rnb01 (by omega)) ?_ | refine p_call (touch00 (by omega)) ?_ | refine p_call (touch01 (by omega)) ?_ | refine p_call (touch02 (by omega)) ?_ | refine p_call lives ?_)))
theorem cellsMv002 {m n x y e : Int} (h : (-16384 ≤ m ∧ m ≤ 16384 ∧ -16384 ≤ n ∧ n ≤ 16384 ∧ (m + n) % 2 = 0) ∧ -4096 ≤ x ∧ x ≤ 4096 ∧ -4096 ≤ y ∧ y ≤ 4096 ∧ 0 ≤ e ∧ e ≤ 255 ∧ e % 3 = 2) : Cc 12 [.i 0, .i m, .i n, .i x, .i y, .i 0, .i e] [.b true] := by
  refine q12 rfl ?_; unfold p12
  have he : e % 3 = 2 := by omega
  by_cases hd : -4096 ≤ x + m ∧ x + m ≤ 4096 ∧ -4096 ≤ y + n ∧ y + n ≤ 4096
  all_goals (first | (exfalso; omega) | (repeat (first | simp (disch := omega) only [↓qxs, ↓qxc, ↓qxa, ↓qxb, he] | refine p_call (cmove00 (by omega)) ?_ | refine p_call (cmovel00 (by omega)) ?_ | refine p_call (cmove03 (by omega)) ?_ | refine p_call (cmovel03 (by omega)) ?_ | refine p_call (cmove_no (by omega)) ?_ | refine p_call (v2_ok (by omega)) ?_ | refine p_call (v3_ok (by omega)) ?_ | refine p_call (v3_no (by omega)) ?_ | refine p_call (rmove00 (by omega)) ?_ | refine p_call (rmove03 (by omega)) ?_ | refine p_call (rnb02 (by omega)) ?_ | refine p_call (touch00 (by omega)) ?_ | refine p_call (touch01 (by omega)) ?_ | refine p_call (touch02 (by omega)) ?_ | refine p_call lives ?_)))
theorem cellsMv010 {m n x y e : Int} (h : (-16384 ≤ m ∧ m ≤ 16384 ∧ -16384 ≤ n ∧ n ≤ 16384 ∧ (m + n) % 2 = 0) ∧ -4096 ≤ x ∧ x ≤ 4096 ∧ -4096 ≤ y ∧ y ≤ 4096 ∧ 0 ≤ e ∧ e ≤ 255 ∧ e % 3 = 0) : Cc 12 [.i 0, .i m, .i n, .i x, .i y, .i 1, .i e] [.b true] := by
  refine q12 rfl ?_; unfold p12
  have he : e % 3 = 0 := by omega
  by_cases hd : -4096 ≤ x + m ∧ x + m ≤ 4096 ∧ -4096 ≤ y + n ∧ y + n ≤ 4096 <;> by_cases hn : -4096 ≤ x + 1 ∧ x + 1 ≤ 4096 ∧ -4096 ≤ y ∧ y ≤ 4096 <;> by_cases ho : -4096 ≤ (x + 1) + m ∧ (x + 1) + m ≤ 4096 ∧ -4096 ≤ (y) + n ∧ (y) + n ≤ 4096
  all_goals (first | (exfalso; omega) | (repeat (first | simp (disch := omega) only [↓qxs, ↓qxc, ↓qxa, ↓qxb, he] | refine p_call (cmove01 (by omega)) ?_ | refine p_call (cmovel01 (by omega)) ?_ | refine p_call (cmove03 (by omega)) ?_ | refine p_call (cmovel03 (by omega)) ?_ | refine p_call (cmove_no (by omega)) ?_ | refine p_call (v2_ok (by omega)) ?_ | refine p_call (v3_ok (by omega)) ?_ | refine p_call (v3_no (by omega)) ?_ | refine p_call (rmove01 (by omega)) ?_ | refine p_call (rmove03 (by omega)) ?_ | refine p_call (rnb10 (by omega)) ?_ | refine p_call (touch10 (by omega)) ?_ | refine p_call (touch11 (by omega)) ?_ | refine p_call (touch12 (by omega)) ?_ | refine p_call lives ?_)))
theorem cellsMv011 {m n x y e : Int} (h : (-16384 ≤ m ∧ m ≤ 16384 ∧ -16384 ≤ n ∧ n ≤ 16384 ∧ (m + n) % 2 = 0) ∧ -4096 ≤ x ∧ x ≤ 4096 ∧ -4096 ≤ y ∧ y ≤ 4096 ∧ 0 ≤ e ∧ e ≤ 255 ∧ e % 3 = 1) : Cc 12 [.i 0, .i m, .i n, .i x, .i y, .i 1, .i e] [.b true] := by
  refine q12 rfl ?_; unfold p12
  have he : e % 3 = 1 := by omega
  by_cases hd : -4096 ≤ x + m ∧ x + m ≤ 4096 ∧ -4096 ≤ y + n ∧ y + n ≤ 4096
  all_goals (first | (exfalso; omega) | (repeat (first | simp (disch := omega) only [↓qxs, ↓qxc, ↓qxa, ↓qxb, he] | refine p_call (cmove01 (by omega)) ?_ | refine p_call (cmovel01 (by omega)) ?_ | refine p_call (cmove00 (by omega)) ?_ | refine p_call (cmovel00 (by omega)) ?_ | refine p_call (cmove_no (by omega)) ?_ | refine p_call (v2_ok (by omega)) ?_ | refine p_call (v3_ok (by omega)) ?_ | refine p_call (v3_no (by omega)) ?_ | refine p_call (rmove01 (by omega)) ?_ | refine p_call (rmove00 (by omega)) ?_ | refine p_call (rnb11 (by omega)) ?_ | refine p_call (touch10 (by omega)) ?_ | refine p_call (touch11 (by omega)) ?_ | refine p_call (touch12 (by omega)) ?_ | refine p_call lives ?_)))
theorem cellsMv012 {m n x y e : Int} (h : (-16384 ≤ m ∧ m ≤ 16384 ∧ -16384 ≤ n ∧ n ≤ 16384 ∧ (m + n) % 2 = 0) ∧ -4096 ≤ x ∧ x ≤ 4096 ∧ -4096 ≤ y ∧ y ≤ 4096 ∧ 0 ≤ e ∧ e ≤ 255 ∧ e % 3 = 2) : Cc 12 [.i 0, .i m, .i n, .i x, .i y, .i 1, .i e] [.b true] := by
  refine q12 rfl ?_; unfold p12
  have he : e % 3 = 2 := by omega
  by_cases hd : -4096 ≤ x + m ∧ x + m ≤ 4096 ∧ -4096 ≤ y + n ∧ y + n ≤ 4096
  all_goals (first | (exfalso; omega) | (repeat (first | simp (disch := omega) only [↓qxs, ↓qxc, ↓qxa, ↓qxb, he] | refine p_call (cmove01 (by omega)) ?_ | refine p_call (cmovel01 (by omega)) ?_ | refine p_call (cmove02 (by omega)) ?_ | refine p_call (cmovel02 (by omega)) ?_ | refine p_call (cmove_no (by omega)) ?_ | refine p_call (v2_ok (by omega)) ?_ | refine p_call (v3_ok (by omega)) ?_ | refine p_call (v3_no (by omega)) ?_ | refine p_call (rmove01 (by omega)) ?_ | refine p_call (rmove02 (by omega)) ?_ | refine p_call (rnb12 (by omega)) ?_ | refine p_call (touch10 (by omega)) ?_ | refine p_call (touch11 (by omega)) ?_ | refine p_call (touch12 (by omega)) ?_ | refine p_call lives ?_)))
theorem cellsMv020 {m n x y e : Int} (h : (-16384 ≤ m ∧ m ≤ 16384 ∧ -16384 ≤ n ∧ n ≤ 16384 ∧ (m + n) % 2 = 0) ∧ -4096 ≤ x ∧ x ≤ 4096 ∧ -4096 ≤ y ∧ y ≤ 4096 ∧ 0 ≤ e ∧ e ≤ 255 ∧ e % 3 = 0) : Cc 12 [.i 0, .i m, .i n, .i x, .i y, .i 2, .i e] [.b true] := by
  refine q12 rfl ?_; unfold p12
  have he : e % 3 = 0 := by omega
  by_cases hd : -4096 ≤ x + m ∧ x + m ≤ 4096 ∧ -4096 ≤ y + n ∧ y + n ≤ 4096 <;> by_cases hn : -4096 ≤ x ∧ x ≤ 4096 ∧ -4096 ≤ y + 1 ∧ y + 1 ≤ 4096 <;> by_cases ho : -4096 ≤ (x) + m ∧ (x) + m ≤ 4096 ∧ -4096 ≤ (y + 1) + n ∧ (y + 1) + n ≤ 4096
  all_goals (first | (exfalso; omega) | (repeat (first | simp (disch := omega) only [↓qxs, ↓qxc, ↓qxa, ↓qxb, he] | refine p_call (cmove02 (by omega)) ?_ | refine p_call (cmovel02 (by omega)) ?_ | refine p_call (cmove00 (by omega)) ?_ | refine p_call (cmovel00 (by omega)) ?_ | refine p_call (cmove_no (by omega)) ?_ | refine p_call (v2_ok (by omega)) ?_ | refine p_call (v3_ok (by omega)) ?_ | refine p_call (v3_no (by omega)) ?_ | refine p_call (rmove02 (by omega)) ?_ | refine p_call (rmove00 (by omega)) ?_ | refine p_call (rnb20 (by omega)) ?_ | refine p_call (touch20 (by omega)) ?_ | refine p_call (touch21 (by omega)) ?_ | refine p_call (touch22 (by omega)) ?_ | refine p_call lives ?_)))
theorem cellsMv021 {m n x y e : Int} (h : (-16384 ≤ m ∧ m ≤ 16384 ∧ -16384 ≤ n ∧ n ≤ 16384 ∧ (m + n) % 2 = 0) ∧ -4096 ≤ x ∧ x ≤ 4096 ∧ -4096 ≤ y ∧ y ≤ 4096 ∧ 0 ≤ e ∧ e ≤ 255 ∧ e % 3 = 1) : Cc 12 [.i 0, .i m, .i n, .i x, .i y, .i 2, .i e] [.b true] := by
  refine q12 rfl ?_; unfold p12
  have he : e % 3 = 1 := by omega
  by_cases hd : -4096 ≤ x + m ∧ x + m ≤ 4096 ∧ -4096 ≤ y + n ∧ y + n ≤ 4096
  all_goals (first | (exfalso; omega) | (repeat (first | simp (disch := omega) only [↓qxs, ↓qxc, ↓qxa, ↓qxb, he] | refine p_call (cmove02 (by omega)) ?_ | refine p_call (cmovel02 (by omega)) ?_ | refine p_call (cmove03 (by omega)) ?_ | refine p_call (cmovel03 (by omega)) ?_ | refine p_call (cmove_no (by omega)) ?_ | refine p_call (v2_ok (by omega)) ?_ | refine p_call (v3_ok (by omega)) ?_ | refine p_call (v3_no (by omega)) ?_ | refine p_call (rmove02 (by omega)) ?_ | refine p_call (rmove03 (by omega)) ?_ | refine p_call (rnb21 (by omega)) ?_ | refine p_call (touch20 (by omega)) ?_ | refine p_call (touch21 (by omega)) ?_ | refine p_call (touch22 (by omega)) ?_ | refine p_call lives ?_)))
theorem cellsMv022 {m n x y e : Int} (h : (-16384 ≤ m ∧ m ≤ 16384 ∧ -16384 ≤ n ∧ n ≤ 16384 ∧ (m + n) % 2 = 0) ∧ -4096 ≤ x ∧ x ≤ 4096 ∧ -4096 ≤ y ∧ y ≤ 4096 ∧ 0 ≤ e ∧ e ≤ 255 ∧ e % 3 = 2) : Cc 12 [.i 0, .i m, .i n, .i x, .i y, .i 2, .i e] [.b true] := by
  refine q12 rfl ?_; unfold p12
  have he : e % 3 = 2 := by omega
  by_cases hd : -4096 ≤ x + m ∧ x + m ≤ 4096 ∧ -4096 ≤ y + n ∧ y + n ≤ 4096
  all_goals (first | (exfalso; omega) | (repeat (first | simp (disch := omega) only [↓qxs, ↓qxc, ↓qxa, ↓qxb, he] | refine p_call (cmove02 (by omega)) ?_ | refine p_call (cmovel02 (by omega)) ?_ | refine p_call (cmove01 (by omega)) ?_ | refine p_call (cmovel01 (by omega)) ?_ | refine p_call (cmove_no (by omega)) ?_ | refine p_call (v2_ok (by omega)) ?_ | refine p_call (v3_ok (by omega)) ?_ | refine p_call (v3_no (by omega)) ?_ | refine p_call (rmove02 (by omega)) ?_ | refine p_call (rmove01 (by omega)) ?_ | refine p_call (rnb22 (by omega)) ?_ | refine p_call (touch20 (by omega)) ?_ | refine p_call (touch21 (by omega)) ?_ | refine p_call (touch22 (by omega)) ?_ | refine p_call lives ?_)))
theorem cellsMv030 {m n x y e : Int} (h : (-16384 ≤ m ∧ m ≤ 16384 ∧ -16384 ≤ n ∧ n ≤ 16384 ∧ (m + n) % 2 = 0) ∧ -4096 ≤ x ∧ x ≤ 4096 ∧ -4096 ≤ y ∧ y ≤ 4096 ∧ 0 ≤ e ∧ e ≤ 255 ∧ e % 3 = 0) : Cc 12 [.i 0, .i m, .i n, .i x, .i y, .i 3, .i e] [.b true] := by
  refine q12 rfl ?_; unfold p12
  have he : e % 3 = 0 := by omega
  by_cases hd : -4096 ≤ x + m ∧ x + m ≤ 4096 ∧ -4096 ≤ y + n ∧ y + n ≤ 4096 <;> by_cases hn : -4096 ≤ x - 1 ∧ x - 1 ≤ 4096 ∧ -4096 ≤ y ∧ y ≤ 4096 <;> by_cases ho : -4096 ≤ (x - 1) + m ∧ (x - 1) + m ≤ 4096 ∧ -4096 ≤ (y) + n ∧ (y) + n ≤ 4096
  all_goals (first | (exfalso; omega) | (repeat (first | simp (disch := omega) only [↓qxs, ↓qxc, ↓qxa, ↓qxb, he] | refine p_call (cmove03 (by omega)) ?_ | refine p_call (cmovel03 (by omega)) ?_ | refine p_call (cmove01 (by omega)) ?_ | refine p_call (cmovel01 (by omega)) ?_ | refine p_call (cmove_no (by omega)) ?_ | refine p_call (v2_ok (by omega)) ?_ | refine p_call (v3_ok (by omega)) ?_ | refine p_call (v3_no (by omega)) ?_ | refine p_call (rmove03 (by omega)) ?_ | refine p_call (rmove01 (by omega)) ?_ | refine p_call (rnb30 (by omega)) ?_ | refine p_call (touch30 (by omega)) ?_ | refine p_call (touch31 (by omega)) ?_ | refine p_call (touch32 (by omega)) ?_ | refine p_call lives ?_)))
theorem cellsMv031 {m n x y e : Int} (h : (-16384 ≤ m ∧ m ≤ 16384 ∧ -16384 ≤ n ∧ n ≤ 16384 ∧ (m + n) % 2 = 0) ∧ -4096 ≤ x ∧ x ≤ 4096 ∧ -4096 ≤ y ∧ y ≤ 4096 ∧ 0 ≤ e ∧ e ≤ 255 ∧ e % 3 = 1) : Cc 12 [.i 0, .i m, .i n, .i x, .i y, .i 3, .i e] [.b true] := by
  refine q12 rfl ?_; unfold p12
  have he : e % 3 = 1 := by omega
  by_cases hd : -4096 ≤ x + m ∧ x + m ≤ 4096 ∧ -4096 ≤ y + n ∧ y + n ≤ 4096
  all_goals (first | (exfalso; omega) | (repeat (first | simp (disch := omega) only [↓qxs, ↓qxc, ↓qxa, ↓qxb, he] | refine p_call (cmove03 (by omega)) ?_ | refine p_call (cmovel03 (by omega)) ?_ | refine p_call (cmove02 (by omega)) ?_ | refine p_call (cmovel02 (by omega)) ?_ | refine p_call (cmove_no (by omega)) ?_ | refine p_call (v2_ok (by omega)) ?_ | refine p_call (v3_ok (by omega)) ?_ | refine p_call (v3_no (by omega)) ?_ | refine p_call (rmove03 (by omega)) ?_ | refine p_call (rmove02 (by omega)) ?_ | refine p_call (rnb31 (by omega)) ?_ | refine p_call (touch30 (by omega)) ?_ | refine p_call (touch31 (by omega)) ?_ | refine p_call (touch32 (by omega)) ?_ | refine p_call lives ?_)))
theorem cellsMv032 {m n x y e : Int} (h : (-16384 ≤ m ∧ m ≤ 16384 ∧ -16384 ≤ n ∧ n ≤ 16384 ∧ (m + n) % 2 = 0) ∧ -4096 ≤ x ∧ x ≤ 4096 ∧ -4096 ≤ y ∧ y ≤ 4096 ∧ 0 ≤ e ∧ e ≤ 255 ∧ e % 3 = 2) : Cc 12 [.i 0, .i m, .i n, .i x, .i y, .i 3, .i e] [.b true] := by
  refine q12 rfl ?_; unfold p12
  have he : e % 3 = 2 := by omega
  by_cases hd : -4096 ≤ x + m ∧ x + m ≤ 4096 ∧ -4096 ≤ y + n ∧ y + n ≤ 4096
  all_goals (first | (exfalso; omega) | (repeat (first | simp (disch := omega) only [↓qxs, ↓qxc, ↓qxa, ↓qxb, he] | refine p_call (cmove03 (by omega)) ?_ | refine p_call (cmovel03 (by omega)) ?_ | refine p_call (cmove00 (by omega)) ?_ | refine p_call (cmovel00 (by omega)) ?_ | refine p_call (cmove_no (by omega)) ?_ | refine p_call (v2_ok (by omega)) ?_ | refine p_call (v3_ok (by omega)) ?_ | refine p_call (v3_no (by omega)) ?_ | refine p_call (rmove03 (by omega)) ?_ | refine p_call (rmove00 (by omega)) ?_ | refine p_call (rnb32 (by omega)) ?_ | refine p_call (touch30 (by omega)) ?_ | refine p_call (touch31 (by omega)) ?_ | refine p_call (touch32 (by omega)) ?_ | refine p_call lives ?_)))
end Go.Am
/-
  CONTRACTS, BY PROGRAM: CellsMove, by turn.
-/
set_option maxRecDepth 100000
set_option maxHeartbeats 4000000
namespace Go.Am
open Sx Go.Proofs

theorem cellsMv100 {m n x y e : Int} (h : (-16384 ≤ m ∧ m ≤ 16384 ∧ -16384 ≤ n ∧ n ≤ 16384 ∧ (m + n) % 2 = 0) ∧ -4096 ≤ x ∧ x ≤ 4096 ∧ -4096 ≤ y ∧ y ≤ 4096 ∧ 0 ≤ e ∧ e ≤ 255 ∧ e % 3 = 0) : Cc 12 [.i 1, .i m, .i n, .i x, .i y, .i 0, .i e] [.b true] := by
  refine q12 rfl ?_; unfold p12
  have he : e % 3 = 0 := by omega
  by_cases hd : -4096 ≤ -y - 1 + m ∧ -y - 1 + m ≤ 4096 ∧ -4096 ≤ x + n ∧ x + n ≤ 4096 <;> by_cases hn : -4096 ≤ x ∧ x ≤ 4096 ∧ -4096 ≤ y - 1 ∧ y - 1 ≤ 4096 <;> by_cases ho : -4096 ≤ -(y - 1) - 1 + m ∧ -(y - 1) - 1 + m ≤ 4096 ∧ -4096 ≤ (x) + n ∧ (x) + n ≤ 4096
  all_goals (first | (exfalso; omega) | (repeat (first | simp (disch := omega) only [↓qxs, ↓qxc, ↓qxa, ↓qxb, he] | refine p_call (cmove10 (by omega)) ?_ | refine p_call (cmovel10 (by omega)) ?_ | refine p_call (cmove12 (by omega)) ?_ | refine p_call (cmovel12 (by omega)) ?_ | refine p_call (cmove_no (by omega)) ?_ | refine p_call (v2_ok (by omega)) ?_ | refine p_call (v3_ok (by omega)) ?_ | refine p_call (v3_no (by omega)) ?_ | refine p_call (rmove10 (by omega)) ?_ | refine p_call (rmove12 (by omega)) ?_ | refine p_call (rnb00 (by omega)) ?_ | refine p_call (touch10 (by omega)) ?_ | refine p_call (touch11 (by omega)) ?_ | refine p_call (touch12 (by omega)) ?_ | refine p_call lives ?_)))
theorem cellsMv101 {m n x y e : Int} (h : (-16384 ≤ m ∧ m ≤ 16384 ∧ -16384 ≤ n ∧ n ≤ 16384 ∧ (m + n) % 2 = 0) ∧ -4096 ≤ x ∧ x ≤ 4096 ∧ -4096 ≤ y ∧ y ≤ 4096 ∧ 0 ≤ e ∧ e ≤ 255 ∧ e % 3 = 1) : Cc 12 [.i 1, .i m, .i n, .i x, .i y, .i 0, .i e] [.b true] := by
  refine q12 rfl ?_; unfold p12
  have he : e % 3 = 1 := by omega
  by_cases hd : -4096 ≤ -y - 1 + m ∧ -y - 1 + m ≤ 4096 ∧ -4096 ≤ x + n ∧ x + n ≤ 4096
  all_goals (first | (exfalso; omega) | (repeat (first | simp (disch := omega) only [↓qxs, ↓qxc, ↓qxa, ↓qxb, he] | refine p_call (cmove10 (by omega)) ?_ | refine p_call (cmovel10 (by omega)) ?_ | refine p_call (cmove11 (by omega)) ?_ | refine p_call (cmovel11 (by omega)) ?_ | refine p_call (cmove_no (by omega)) ?_ | refine p_call (v2_ok (by omega)) ?_ | refine p_call (v3_ok (by omega)) ?_ | refine p_call (v3_no (by omega)) ?_ | refine p_call (rmove10 (by omega)) ?_ | refine p_call (rmove11 (by omega)) ?_ | refine p_call (rnb01 (by omega)) ?_ | refine p_call (touch10 (by omega)) ?_ | refine p_call (touch11 (by omega)) ?_ | refine p_call (touch12 (by omega)) ?_ | refine p_call lives ?_)))
theorem cellsMv102 {m n x y e : Int} (h : (-16384 ≤ m ∧ m ≤ 16384 ∧ -16384 ≤ n ∧ n ≤ 16384 ∧ (m + n) % 2 = 0) ∧ -4096 ≤ x ∧ x ≤ 4096 ∧ -4096 ≤ y ∧ y ≤ 4096 ∧ 0 ≤ e ∧ e ≤ 255 ∧ e % 3 = 2) : Cc 12 [.i 1, .i m, .i n, .i x, .i y, .i 0, .i e] [.b true] := by
  refine q12 rfl ?_; unfold p12
  have he : e % 3 = 2 := by omega
  by_cases hd : -4096 ≤ -y - 1 + m ∧ -y - 1 + m ≤ 4096 ∧ -4096 ≤ x + n ∧ x + n ≤ 4096
  all_goals (first | (exfalso; omega) | (repeat (first | simp (disch := omega) only [↓qxs, ↓qxc, ↓qxa, ↓qxb, he] | refine p_call (cmove10 (by omega)) ?_ | refine p_call (cmovel10 (by omega)) ?_ | refine p_call (cmove13 (by omega)) ?_ | refine p_call (cmovel13 (by omega)) ?_ | refine p_call (cmove_no (by omega)) ?_ | refine p_call (v2_ok (by omega)) ?_ | refine p_call (v3_ok (by omega)) ?_ | refine p_call (v3_no (by omega)) ?_ | refine p_call (rmove10 (by omega)) ?_ | refine p_call (rmove13 (by omega)) ?_ | refine p_call (rnb02 (by omega)) ?_ | refine p_call (touch10 (by omega)) ?_ | refine p_call (touch11 (by omega)) ?_ | refine p_call (touch12 (by omega)) ?_ | refine p_call lives ?_)))
theorem cellsMv110 {m n x y e : Int} (h : (-16384 ≤ m ∧ m ≤ 16384 ∧ -16384 ≤ n ∧ n ≤ 16384 ∧ (m + n) % 2 = 0) ∧ -4096 ≤ x ∧ x ≤ 4096 ∧ -4096 ≤ y ∧ y ≤ 4096 ∧ 0 ≤ e ∧ e ≤ 255 ∧ e % 3 = 0) : Cc 12 [.i 1, .i m, .i n, .i x, .i y, .i 1, .i e] [.b true] := by
  refine q12 rfl ?_; unfold p12
  have he : e % 3 = 0 := by omega
  by_cases hd : -4096 ≤ -y - 1 + m ∧ -y - 1 + m ≤ 4096 ∧ -4096 ≤ x + n ∧ x + n ≤ 4096 <;> by_cases hn : -4096 ≤ x + 1 ∧ x + 1 ≤ 4096 ∧ -4096 ≤ y ∧ y ≤ 4096 <;> by_cases ho : -4096 ≤ -(y) - 1 + m ∧ -(y) - 1 + m ≤ 4096 ∧ -4096 ≤ (x + 1) + n ∧ (x + 1) + n ≤ 4096
  all_goals (first | (exfalso; omega) | (repeat (first | simp (disch := omega) only [↓qxs, ↓qxc, ↓qxa, ↓qxb, he] | refine p_call (cmove11 (by omega)) ?_ | refine p_call (cmovel11 (by omega)) ?_ | refine p_call (cmove13 (by omega)) ?_ | refine p_call (cmovel13 (by omega)) ?_ | refine p_call (cmove_no (by omega)) ?_ | refine p_call (v2_ok (by omega)) ?_ | refine p_call (v3_ok (by omega)) ?_ | refine p_call (v3_no (by omega)) ?_ | refine p_call (rmove11 (by omega)) ?_ | refine p_call (rmove13 (by omega)) ?_ | refine p_call (rnb10 (by omega)) ?_ | refine p_call (touch20 (by omega)) ?_ | refine p_call (touch21 (by omega)) ?_ | refine p_call (touch22 (by omega)) ?_ | refine p_call lives ?_)))
theorem cellsMv111 {m n x y e : Int} (h : (-16384 ≤ m ∧ m ≤ 16384 ∧ -16384 ≤ n ∧ n ≤ 16384 ∧ (m + n) % 2 = 0) ∧ -4096 ≤ x ∧ x ≤ 4096 ∧ -4096 ≤ y ∧ y ≤ 4096 ∧ 0 ≤ e ∧ e ≤ 255 ∧ e % 3 = 1) : Cc 12 [.i 1, .i m, .i n, .i x, .i y, .i 1, .i e] [.b true] := by
  refine q12 rfl ?_; unfold p12
  have he : e % 3 = 1 := by omega
  by_cases hd : -4096 ≤ -y - 1 + m ∧ -y - 1 + m ≤ 4096 ∧ -4096 ≤ x + n ∧ x + n ≤ 4096
  all_goals (first | (exfalso; omega) | (repeat (first | simp (disch := omega) only [↓qxs, ↓qxc, ↓qxa, ↓qxb, he] | refine p_call (cmove11 (by omega)) ?_ | refine p_call (cmovel11 (by omega)) ?_ | refine p_call (cmove10 (by omega)) ?_ | refine p_call (cmovel10 (by omega)) ?_ | refine p_call (cmove_no (by omega)) ?_ | refine p_call (v2_ok (by omega)) ?_ | refine p_call (v3_ok (by omega)) ?_ | refine p_call (v3_no (by omega)) ?_ | refine p_call (rmove11 (by omega)) ?_ | refine p_call (rmove10 (by omega)) ?_ | refine p_call (rnb11 (by omega)) ?_ | refine p_call (touch20 (by omega)) ?_ | refine p_call (touch21 (by omega)) ?_ | refine p_call (touch22 (by omega)) ?_ | refine p_call lives ?_)))
theorem cellsMv112 {m n x y e : Int} (h : (-16384 ≤ m ∧ m ≤ 16384 ∧ -16384 ≤ n ∧ n ≤ 16384 ∧ (m + n) % 2 = 0) ∧ -4096 ≤ x ∧ x ≤ 4096 ∧ -4096 ≤ y ∧ y ≤ 4096 ∧ 0 ≤ e ∧ e ≤ 255 ∧ e % 3 = 2) : Cc 12 [.i 1, .i m, .i n, .i x, .i y, .i 1, .i e] [.b true] := by
  refine q12 rfl ?_; unfold p12
  have he : e % 3 = 2 := by omega
  by_cases hd : -4096 ≤ -y - 1 + m ∧ -y - 1 + m ≤ 4096 ∧ -4096 ≤ x + n ∧ x + n ≤ 4096
  all_goals (first | (exfalso; omega) | (repeat (first | simp (disch := omega) only [↓qxs, ↓qxc, ↓qxa, ↓qxb, he] | refine p_call (cmove11 (by omega)) ?_ | refine p_call (cmovel11 (by omega)) ?_ | refine p_call (cmove12 (by omega)) ?_ | refine p_call (cmovel12 (by omega)) ?_ | refine p_call (cmove_no (by omega)) ?_ | refine p_call (v2_ok (by omega)) ?_ | refine p_call (v3_ok (by omega)) ?_ | refine p_call (v3_no (by omega)) ?_ | refine p_call (rmove11 (by omega)) ?_ | refine p_call (rmove12 (by omega)) ?_ | refine p_call (rnb12 (by omega)) ?_ | refine p_call (touch20 (by omega)) ?_ | refine p_call (touch21 (by omega)) ?_ | refine p_call (touch22 (by omega)) ?_ | refine p_call lives ?_)))
theorem cellsMv120 {m n x y e : Int} (h : (-16384 ≤ m ∧ m ≤ 16384 ∧ -16384 ≤ n ∧ n ≤ 16384 ∧ (m + n) % 2 = 0) ∧ -4096 ≤ x ∧ x ≤ 4096 ∧ -4096 ≤ y ∧ y ≤ 4096 ∧ 0 ≤ e ∧ e ≤ 255 ∧ e % 3 = 0) : Cc 12 [.i 1, .i m, .i n, .i x, .i y, .i 2, .i e] [.b true] := by
  refine q12 rfl ?_; unfold p12
  have he : e % 3 = 0 := by omega
  by_cases hd : -4096 ≤ -y - 1 + m ∧ -y - 1 + m ≤ 4096 ∧ -4096 ≤ x + n ∧ x + n ≤ 4096 <;> by_cases hn : -4096 ≤ x ∧ x ≤ 4096 ∧ -4096 ≤ y + 1 ∧ y + 1 ≤ 4096 <;> by_cases ho : -4096 ≤ -(y + 1) - 1 + m ∧ -(y + 1) - 1 + m ≤ 4096 ∧ -4096 ≤ (x) + n ∧ (x) + n ≤ 4096
  all_goals (first | (exfalso; omega) | (repeat (first | simp (disch := omega) only [↓qxs, ↓qxc, ↓qxa, ↓qxb, he] | refine p_call (cmove12 (by omega)) ?_ | refine p_call (cmovel12 (by omega)) ?_ | refine p_call (cmove10 (by omega)) ?_ | refine p_call (cmovel10 (by omega)) ?_ | refine p_call (cmove_no (by omega)) ?_ | refine p_call (v2_ok (by omega)) ?_ | refine p_call (v3_ok (by omega)) ?_ | refine p_call (v3_no (by omega)) ?_ | refine p_call (rmove12 (by omega)) ?_ | refine p_call (rmove10 (by omega)) ?_ | refine p_call (rnb20 (by omega)) ?_ | refine p_call (touch30 (by omega)) ?_ | refine p_call (touch31 (by omega)) ?_ | refine p_call (touch32 (by omega)) ?_ | refine p_call lives ?_)))
theorem cellsMv121 {m n x y e : Int} (h : (-16384 ≤ m ∧ m ≤ 16384 ∧ -16384 ≤ n ∧ n ≤ 16384 ∧ (m + n) % 2 = 0) ∧ -4096 ≤ x ∧ x ≤ 4096 ∧ -4096 ≤ y ∧ y ≤ 4096 ∧ 0 ≤ e ∧ e ≤ 255 ∧ e % 3 = 1) : Cc 12 [.i 1, .i m, .i n, .i x, .i y, .i 2, .i e] [.b true] := by
  refine q12 rfl ?_; unfold p12
  have he : e % 3 = 1 := by omega
  by_cases hd : -4096 ≤ -y - 1 + m ∧ -y - 1 + m ≤ 4096 ∧ -4096 ≤ x + n ∧ x + n ≤ 4096
  all_goals (first | (exfalso; omega) | (repeat (first | simp (disch := omega) only [↓qxs, ↓qxc, ↓qxa, ↓qxb, he] | refine p_call (cmove12 (by omega)) ?_ | refine p_call (cmovel12 (by omega)) ?_ | refine p_call (cmove13 (by omega)) ?_ | refine p_call (cmovel13 (by omega)) ?_ | refine p_call (cmove_no (by omega)) ?_ | refine p_call (v2_ok (by omega)) ?_ | refine p_call (v3_ok (by omega)) ?_ | refine p_call (v3_no (by omega)) ?_ | refine p_call (rmove12 (by omega)) ?_ | refine p_call (rmove13 (by omega)) ?_ | refine p_call (rnb21 (by omega)) ?_ | refine p_call (touch30 (by omega)) ?_ | refine p_call (touch31 (by omega)) ?_ | refine p_call (touch32 (by omega)) ?_ | refine p_call lives ?_)))
theorem cellsMv122 {m n x y e : Int} (h : (-16384 ≤ m ∧ m ≤ 16384 ∧ -16384 ≤ n ∧ n ≤ 16384 ∧ (m + n) % 2 = 0) ∧ -4096 ≤ x ∧ x ≤ 4096 ∧ -4096 ≤ y ∧ y ≤ 4096 ∧ 0 ≤ e ∧ e ≤ 255 ∧ e % 3 = 2) : Cc 12 [.i 1, .i m, .i n, .i x, .i y, .i 2, .i e] [.b true] := by
  refine q12 rfl ?_; unfold p12
  have he : e % 3 = 2 := by omega
  by_cases hd : -4096 ≤ -y - 1 + m ∧ -y - 1 + m ≤ 4096 ∧ -4096 ≤ x + n ∧ x + n ≤ 4096
  all_goals (first | (exfalso; omega) | (repeat (first | simp (disch := omega) only [↓qxs, ↓qxc, ↓qxa, ↓qxb, he] | refine p_call (cmove12 (by omega)) ?_ | refine p_call (cmovel12 (by omega)) ?_ | refine p_call (cmove11 (by omega)) ?_ | refine p_call (cmovel11 (by omega)) ?_ | refine p_call (cmove_no (by omega)) ?_ | refine p_call (v2_ok (by omega)) ?_ | refine p_call (v3_ok (by omega)) ?_ | refine p_call (v3_no (by omega)) ?_ | refine p_call (rmove12 (by omega)) ?_ | refine p_call (rmove11 (by omega)) ?_ | refine p_call (rnb22 (by omega)) ?_ | refine p_call (touch30 (by omega)) ?_ | refine p_call (touch31 (by omega)) ?_ | refine p_call (touch32 (by omega)) ?_ | refine p_call lives ?_)))
theorem cellsMv130 {m n x y e : Int} (h : (-16384 ≤ m ∧ m ≤ 16384 ∧ -16384 ≤ n ∧ n ≤ 16384 ∧ (m + n) % 2 = 0) ∧ -4096 ≤ x ∧ x ≤ 4096 ∧ -4096 ≤ y ∧ y ≤ 4096 ∧ 0 ≤ e ∧ e ≤ 255 ∧ e % 3 = 0) : Cc 12 [.i 1, .i m, .i n, .i x, .i y, .i 3, .i e] [.b true] := by
  refine q12 rfl ?_; unfold p12
  have he : e % 3 = 0 := by omega
  by_cases hd : -4096 ≤ -y - 1 + m ∧ -y - 1 + m ≤ 4096 ∧ -4096 ≤ x + n ∧ x + n ≤ 4096 <;> by_cases hn : -4096 ≤ x - 1 ∧ x - 1 ≤ 4096 ∧ -4096 ≤ y ∧ y ≤ 4096 <;> by_cases ho : -4096 ≤ -(y) - 1 + m ∧ -(y) - 1 + m ≤ 4096 ∧ -4096 ≤ (x - 1) + n ∧ (x - 1) + n ≤ 4096
  all_goals (first | (exfalso; omega) | (repeat (first | simp (disch := omega) only [↓qxs, ↓qxc, ↓qxa, ↓qxb, he] | refine p_call (cmove13 (by omega)) ?_ | refine p_call (cmovel13 (by omega)) ?_ | refine p_call (cmove11 (by omega)) ?_ | refine p_call (cmovel11 (by omega)) ?_ | refine p_call (cmove_no (by omega)) ?_ | refine p_call (v2_ok (by omega)) ?_ | refine p_call (v3_ok (by omega)) ?_ | refine p_call (v3_no (by omega)) ?_ | refine p_call (rmove13 (by omega)) ?_ | refine p_call (rmove11 (by omega)) ?_ | refine p_call (rnb30 (by omega)) ?_ | refine p_call (touch00 (by omega)) ?_ | refine p_call (touch01 (by omega)) ?_ | refine p_call (touch02 (by omega)) ?_ | refine p_call lives ?_)))
theorem cellsMv131 {m n x y e : Int} (h : (-16384 ≤ m ∧ m ≤ 16384 ∧ -16384 ≤ n ∧ n ≤ 16384 ∧ (m + n) % 2 = 0) ∧ -4096 ≤ x ∧ x ≤ 4096 ∧ -4096 ≤ y ∧ y ≤ 4096 ∧ 0 ≤ e ∧ e ≤ 255 ∧ e % 3 = 1) : Cc 12 [.i 1, .i m, .i n, .i x, .i y, .i 3, .i e] [.b true] := by
  refine q12 rfl ?_; unfold p12
  have he : e % 3 = 1 := by omega
  by_cases hd : -4096 ≤ -y - 1 + m ∧ -y - 1 + m ≤ 4096 ∧ -4096 ≤ x + n ∧ x + n ≤ 4096
  all_goals (first | (exfalso; omega) | (repeat (first | simp (disch := omega) only [↓qxs, ↓qxc, ↓qxa, ↓qxb, he] | refine p_call (cmove13 (by omega)) ?_ | refine p_call (cmovel13 (by omega)) ?_ | refine p_call (cmove12 (by omega)) ?_ | refine p_call (cmovel12 (by omega)) ?_ | refine p_call (cmove_no (by omega)) ?_ | refine p_call (v2_ok (by omega)) ?_ | refine p_call (v3_ok (by omega)) ?_ | refine p_call (v3_no (by omega)) ?_ | refine p_call (rmove13 (by omega)) ?_ | refine p_call (rmove12 (by omega)) ?_ | refine p_call (rnb31 (by omega)) ?_ | refine p_call (touch00 (by omega)) ?_ | refine p_call (touch01 (by omega)) ?_ | refine p_call (touch02 (by omega)) ?_ | refine p_call lives ?_)))
theorem cellsMv132 {m n x y e : Int} (h : (-16384 ≤ m ∧ m ≤ 16384 ∧ -16384 ≤ n ∧ n ≤ 16384 ∧ (m + n) % 2 = 0) ∧ -4096 ≤ x ∧ x ≤ 4096 ∧ -4096 ≤ y ∧ y ≤ 4096 ∧ 0 ≤ e ∧ e ≤ 255 ∧ e % 3 = 2) : Cc 12 [.i 1, .i m, .i n, .i x, .i y, .i 3, .i e] [.b true] := by
  refine q12 rfl ?_; unfold p12
  have he : e % 3 = 2 := by omega
  by_cases hd : -4096 ≤ -y - 1 + m ∧ -y - 1 + m ≤ 4096 ∧ -4096 ≤ x + n ∧ x + n ≤ 4096
  all_goals (first | (exfalso; omega) | (repeat (first | simp (disch := omega) only [↓qxs, ↓qxc, ↓qxa, ↓qxb, he] | refine p_call (cmove13 (by omega)) ?_ | refine p_call (cmovel13 (by omega)) ?_ | refine p_call (cmove10 (by omega)) ?_ | refine p_call (cmovel10 (by omega)) ?_ | refine p_call (cmove_no (by omega)) ?_ | refine p_call (v2_ok (by omega)) ?_ | refine p_call (v3_ok (by omega)) ?_ | refine p_call (v3_no (by omega)) ?_ | refine p_call (rmove13 (by omega)) ?_ | refine p_call (rmove10 (by omega)) ?_ | refine p_call (rnb32 (by omega)) ?_ | refine p_call (touch00 (by omega)) ?_ | refine p_call (touch01 (by omega)) ?_ | refine p_call (touch02 (by omega)) ?_ | refine p_call lives ?_)))
end Go.Am
/-
  CONTRACTS, BY PROGRAM: CellsMove, by turn.
-/
set_option maxRecDepth 100000
set_option maxHeartbeats 4000000
namespace Go.Am
open Sx Go.Proofs

theorem cellsMv200 {m n x y e : Int} (h : (-16384 ≤ m ∧ m ≤ 16384 ∧ -16384 ≤ n ∧ n ≤ 16384 ∧ (m + n) % 2 = 0) ∧ -4096 ≤ x ∧ x ≤ 4096 ∧ -4096 ≤ y ∧ y ≤ 4096 ∧ 0 ≤ e ∧ e ≤ 255 ∧ e % 3 = 0) : Cc 12 [.i 2, .i m, .i n, .i x, .i y, .i 0, .i e] [.b true] := by
  refine q12 rfl ?_; unfold p12
  have he : e % 3 = 0 := by omega
  by_cases hd : -4096 ≤ -x - 1 + m ∧ -x - 1 + m ≤ 4096 ∧ -4096 ≤ -y - 1 + n ∧ -y - 1 + n ≤ 4096 <;> by_cases hn : -4096 ≤ x ∧ x ≤ 4096 ∧ -4096 ≤ y - 1 ∧ y - 1 ≤ 4096 <;> by_cases ho : -4096 ≤ -(x) - 1 + m ∧ -(x) - 1 + m ≤ 4096 ∧ -4096 ≤ -(y - 1) - 1 + n ∧ -(y - 1) - 1 + n ≤ 4096
  all_goals (first | (exfalso; omega) | (repeat (first | simp (disch := omega) only [↓qxs, ↓qxc, ↓qxa, ↓qxb, he] | refine p_call (cmove20 (by omega)) ?_ | refine p_call (cmovel20 (by omega)) ?_ | refine p_call (cmove22 (by omega)) ?_ | refine p_call (cmovel22 (by omega)) ?_ | refine p_call (cmove_no (by omega)) ?_ | refine p_call (v2_ok (by omega)) ?_ | refine p_call (v3_ok (by omega)) ?_ | refine p_call (v3_no (by omega)) ?_ | refine p_call (rmove20 (by omega)) ?_ | refine p_call (rmove22 (by omega)) ?_ | refine p_call (rnb00 (by omega)) ?_ | refine p_call (touch20 (by omega)) ?_ | refine p_call (touch21 (by omega)) ?_ | refine p_call (touch22 (by omega)) ?_ | refine p_call lives ?_)))
theorem cellsMv201 {m n x y e : Int} (h : (-16384 ≤ m ∧ m ≤ 16384 ∧ -16384 ≤ n ∧ n ≤ 16384 ∧ (m + n) % 2 = 0) ∧ -4096 ≤ x ∧ x ≤ 4096 ∧ -4096 ≤ y ∧ y ≤ 4096 ∧ 0 ≤ e ∧ e ≤ 255 ∧ e % 3 = 1) : Cc 12 [.i 2, .i m, .i n, .i x, .i y, .i 0, .i e] [.b true] := by
  refine q12 rfl ?_; unfold p12
  have he : e % 3 = 1 := by omega
  by_cases hd : -4096 ≤ -x - 1 + m ∧ -x - 1 + m ≤ 4096 ∧ -4096 ≤ -y - 1 + n ∧ -y - 1 + n ≤ 4096
  all_goals (first | (exfalso; omega) | (repeat (first | simp (disch := omega) only [↓qxs, ↓qxc, ↓qxa, ↓qxb, he] | refine p_call (cmove20 (by omega)) ?_ | refine p_call (cmovel20 (by omega)) ?_ | refine p_call (cmove21 (by omega)) ?_ | refine p_call (cmovel21 (by omega)) ?_ | refine p_call (cmove_no (by omega)) ?_ | refine p_call (v2_ok (by omega)) ?_ | refine p_call (v3_ok (by omega)) ?_ | refine p_call (v3_no (by omega)) ?_ | refine p_call (rmove20 (by omega)) ?_ | refine p_call (rmove21 (by omega)) ?_ | refine p_call (rnb01 (by omega)) ?_ | refine p_call (touch20 (by omega)) ?_ | refine p_call (touch21 (by omega)) ?_ | refine p_call (touch22 (by omega)) ?_ | refine p_call lives ?_)))
theorem cellsMv202 {m n x y e : Int} (h : (-16384 ≤ m ∧ m ≤ 16384 ∧ -16384 ≤ n ∧ n ≤ 16384 ∧ (m + n) % 2 = 0) ∧ -4096 ≤ x ∧ x ≤ 4096 ∧ -4096 ≤ y ∧ y ≤ 4096 ∧ 0 ≤ e ∧ e ≤ 255 ∧ e % 3 = 2) : Cc 12 [.i 2, .i m, .i n, .i x, .i y, .i 0, .i e] [.b true] := by
  refine q12 rfl ?_; unfold p12
  have he : e % 3 = 2 := by omega
  by_cases hd : -4096 ≤ -x - 1 + m ∧ -x - 1 + m ≤ 4096 ∧ -4096 ≤ -y - 1 + n ∧ -y - 1 + n ≤ 4096
  all_goals (first | (exfalso; omega) | (repeat (first | simp (disch := omega) only [↓qxs, ↓qxc, ↓qxa, ↓qxb, he] | refine p_call (cmove20 (by omega)) ?_ | refine p_call (cmovel20 (by omega)) ?_ | refine p_call (cmove23 (by omega)) ?_ | refine p_call (cmovel23 (by omega)) ?_ | refine p_call (cmove_no (by omega)) ?_ | refine p_call (v2_ok (by omega)) ?_ | refine p_call (v3_ok (by omega)) ?_ | refine p_call (v3_no (by omega)) ?_ | refine p_call (rmove20 (by omega)) ?_ | refine p_call (rmove23 (by omega)) ?_ | refine p_call (rnb02 (by omega)) ?_ | refine p_call (touch20 (by omega)) ?_ | refine p_call (touch21 (by omega)) ?_ | refine p_call (touch22 (by omega)) ?_ | refine p_call lives ?_)))
theorem cellsMv210 {m n x y e : Int} (h : (-16384 ≤ m ∧ m ≤ 16384 ∧ -16384 ≤ n ∧ n ≤ 16384 ∧ (m + n) % 2 = 0) ∧ -4096 ≤ x ∧ x ≤ 4096 ∧ -4096 ≤ y ∧ y ≤ 4096 ∧ 0 ≤ e ∧ e ≤ 255 ∧ e % 3 = 0) : Cc 12 [.i 2, .i m, .i n, .i x, .i y, .i 1, .i e] [.b true] := by
  refine q12 rfl ?_; unfold p12
  have he : e % 3 = 0 := by omega
  by_cases hd : -4096 ≤ -x - 1 + m ∧ -x - 1 + m ≤ 4096 ∧ -4096 ≤ -y - 1 + n ∧ -y - 1 + n ≤ 4096 <;> by_cases hn : -4096 ≤ x + 1 ∧ x + 1 ≤ 4096 ∧ -4096 ≤ y ∧ y ≤ 4096 <;> by_cases ho : -4096 ≤ -(x + 1) - 1 + m ∧ -(x + 1) - 1 + m ≤ 4096 ∧ -4096 ≤ -(y) - 1 + n ∧ -(y) - 1 + n ≤ 4096
  all_goals (first | (exfalso; omega) | (repeat (first | simp (disch := omega) only [↓qxs, ↓qxc, ↓qxa, ↓qxb, he] | refine p_call (cmove21 (by omega)) ?_ | refine p_call (cmovel21 (by omega)) ?_ | refine p_call (cmove23 (by omega)) ?_ | refine p_call (cmovel23 (by omega)) ?_ | refine p_call (cmove_no (by omega)) ?_ | refine p_call (v2_ok (by omega)) ?_ | refine p_call (v3_ok (by omega)) ?_ | refine p_call (v3_no (by omega)) ?_ | refine p_call (rmove21 (by omega)) ?_ | refine p_call (rmove23 (by omega)) ?_ | refine p_call (rnb10 (by omega)) ?_ | refine p_call (touch30 (by omega)) ?_ | refine p_call (touch31 (by omega)) ?_ | refine p_call (touch32 (by omega)) ?_ | refine p_call lives ?_)))
theorem cellsMv211 {m n x y e : Int} (h : (-16384 ≤ m ∧ m ≤ 16384 ∧ -16384 ≤ n ∧ n ≤ 16384 ∧ (m + n) % 2 = 0) ∧ -4096 ≤ x ∧ x ≤ 4096 ∧ -4096 ≤ y ∧ y ≤ 4096 ∧ 0 ≤ e ∧ e ≤ 255 ∧ e % 3 = 1) : Cc 12 [.i 2, .i m, .i n, .i x, .i y, .i 1, .i e] [.b true] := by
  refine q12 rfl ?_; unfold p12
  have he : e % 3 = 1 := by omega
  by_cases hd : -4096 ≤ -x - 1 + m ∧ -x - 1 + m ≤ 4096 ∧ -4096 ≤ -y - 1 + n ∧ -y - 1 + n ≤ 4096
  all_goals (first | (exfalso; omega) | (repeat (first | simp (disch := omega) only [↓qxs, ↓qxc, ↓qxa, ↓qxb, he] | refine p_call (cmove21 (by omega)) ?_ | refine p_call (cmovel21 (by omega)) ?_ | refine p_call (cmove20 (by omega)) ?_ | refine p_call (cmovel20 (by omega)) ?_ | refine p_call (cmove_no (by omega)) ?_ | refine p_call (v2_ok (by omega)) ?_ | refine p_call (v3_ok (by omega)) ?_ | refine p_call (v3_no (by omega)) ?_ | refine p_call (rmove21 (by omega)) ?_ | refine p_call (rmove20 (by omega)) ?_ | refine p_call (rnb11 (by omega)) ?_ | refine p_call (touch30 (by omega)) ?_ | refine p_call (touch31 (by omega)) ?_ | refine p_call (touch32 (by omega)) ?_ | refine p_call lives ?_)))
theorem cellsMv212 {m n x y e : Int} (h : (-16384 ≤ m ∧ m ≤ 16384 ∧ -16384 ≤ n ∧ n ≤ 16384 ∧ (m + n) % 2 = 0) ∧ -4096 ≤ x ∧ x ≤ 4096 ∧ -4096 ≤ y ∧ y ≤ 4096 ∧ 0 ≤ e ∧ e ≤ 255 ∧ e % 3 = 2) : Cc 12 [.i 2, .i m, .i n, .i x, .i y, .i 1, .i e] [.b true] := by
  refine q12 rfl ?_; unfold p12
  have he : e % 3 = 2 := by omega
  by_cases hd : -4096 ≤ -x - 1 + m ∧ -x - 1 + m ≤ 4096 ∧ -4096 ≤ -y - 1 + n ∧ -y - 1 + n ≤ 4096
  all_goals (first | (exfalso; omega) | (repeat (first | simp (disch := omega) only [↓qxs, ↓qxc, ↓qxa, ↓qxb, he] | refine p_call (cmove21 (by omega)) ?_ | refine p_call (cmovel21 (by omega)) ?_ | refine p_call (cmove22 (by omega)) ?_ | refine p_call (cmovel22 (by omega)) ?_ | refine p_call (cmove_no (by omega)) ?_ | refine p_call (v2_ok (by omega)) ?_ | refine p_call (v3_ok (by omega)) ?_ | refine p_call (v3_no (by omega)) ?_ | refine p_call (rmove21 (by omega)) ?_ | refine p_call (rmove22 (by omega)) ?_ | refine p_call (rnb12 (by omega)) ?_ | refine p_call (touch30 (by omega)) ?_ | refine p_call (touch31 (by omega)) ?_ | refine p_call (touch32 (by omega)) ?_ | refine p_call lives ?_)))
theorem cellsMv220 {m n x y e : Int} (h : (-16384 ≤ m ∧ m ≤ 16384 ∧ -16384 ≤ n ∧ n ≤ 16384 ∧ (m + n) % 2 = 0) ∧ -4096 ≤ x ∧ x ≤ 4096 ∧ -4096 ≤ y ∧ y ≤ 4096 ∧ 0 ≤ e ∧ e ≤ 255 ∧ e % 3 = 0) : Cc 12 [.i 2, .i m, .i n, .i x, .i y, .i 2, .i e] [.b true] := by
  refine q12 rfl ?_; unfold p12
  have he : e % 3 = 0 := by omega
  by_cases hd : -4096 ≤ -x - 1 + m ∧ -x - 1 + m ≤ 4096 ∧ -4096 ≤ -y - 1 + n ∧ -y - 1 + n ≤ 4096 <;> by_cases hn : -4096 ≤ x ∧ x ≤ 4096 ∧ -4096 ≤ y + 1 ∧ y + 1 ≤ 4096 <;> by_cases ho : -4096 ≤ -(x) - 1 + m ∧ -(x) - 1 + m ≤ 4096 ∧ -4096 ≤ -(y + 1) - 1 + n ∧ -(y + 1) - 1 + n ≤ 4096
  all_goals (first | (exfalso; omega) | (repeat (first | simp (disch := omega) only [↓qxs, ↓qxc, ↓qxa, ↓qxb, he] | refine p_call (cmove22 (by omega)) ?_ | refine p_call (cmovel22 (by omega)) ?_ | refine p_call (cmove20 (by omega)) ?_ | refine p_call (cmovel20 (by omega)) ?_ | refine p_call (cmove_no (by omega)) ?_ | refine p_call (v2_ok (by omega)) ?_ | refine p_call (v3_ok (by omega)) ?_ | refine p_call (v3_no (by omega)) ?_ | refine p_call (rmove22 (by omega)) ?_ | refine p_call (rmove20 (by omega)) ?_ | refine p_call (rnb20 (by omega)) ?_ | refine p_call (touch00 (by omega)) ?_ | refine p_call (touch01 (by omega)) ?_ | refine p_call (touch02 (by omega)) ?_ | refine p_call lives ?_)))
theorem cellsMv221 {m n x y e : Int} (h : (-16384 ≤ m ∧ m ≤ 16384 ∧ -16384 ≤ n ∧ n ≤ 16384 ∧ (m + n) % 2 = 0) ∧ -4096 ≤ x ∧ x ≤ 4096 ∧ -4096 ≤ y ∧ y ≤ 4096 ∧ 0 ≤ e ∧ e ≤ 255 ∧ e % 3 = 1) : Cc 12 [.i 2, .i m, .i n, .i x, .i y, .i 2, .i e] [.b true] := by
  refine q12 rfl ?_; unfold p12
  have he : e % 3 = 1 := by omega
  by_cases hd : -4096 ≤ -x - 1 + m ∧ -x - 1 + m ≤ 4096 ∧ -4096 ≤ -y - 1 + n ∧ -y - 1 + n ≤ 4096
  all_goals (first | (exfalso; omega) | (repeat (first | simp (disch := omega) only [↓qxs, ↓qxc, ↓qxa, ↓qxb, he] | refine p_call (cmove22 (by omega)) ?_ | refine p_call (cmovel22 (by omega)) ?_ | refine p_call (cmove23 (by omega)) ?_ | refine p_call (cmovel23 (by omega)) ?_ | refine p_call (cmove_no (by omega)) ?_ | refine p_call (v2_ok (by omega)) ?_ | refine p_call (v3_ok (by omega)) ?_ | refine p_call (v3_no (by omega)) ?_ | refine p_call (rmove22 (by omega)) ?_ | refine p_call (rmove23 (by omega)) ?_ | refine p_call (rnb21 (by omega)) ?_ | refine p_call (touch00 (by omega)) ?_ | refine p_call (touch01 (by omega)) ?_ | refine p_call (touch02 (by omega)) ?_ | refine p_call lives ?_)))
theorem cellsMv222 {m n x y e : Int} (h : (-16384 ≤ m ∧ m ≤ 16384 ∧ -16384 ≤ n ∧ n ≤ 16384 ∧ (m + n) % 2 = 0) ∧ -4096 ≤ x ∧ x ≤ 4096 ∧ -4096 ≤ y ∧ y ≤ 4096 ∧ 0 ≤ e ∧ e ≤ 255 ∧ e % 3 = 2) : Cc 12 [.i 2, .i m, .i n, .i x, .i y, .i 2, .i e] [.b true] := by
  refine q12 rfl ?_; unfold p12
  have he : e % 3 = 2 := by omega
  by_cases hd : -4096 ≤ -x - 1 + m ∧ -x - 1 + m ≤ 4096 ∧ -4096 ≤ -y - 1 + n ∧ -y - 1 + n ≤ 4096
  all_goals (first | (exfalso; omega) | (repeat (first | simp (disch := omega) only [↓qxs, ↓qxc, ↓qxa, ↓qxb, he] | refine p_call (cmove22 (by omega)) ?_ | refine p_call (cmovel22 (by omega)) ?_ | refine p_call (cmove21 (by omega)) ?_ | refine p_call (cmovel21 (by omega)) ?_ | refine p_call (cmove_no (by omega)) ?_ | refine p_call (v2_ok (by omega)) ?_ | refine p_call (v3_ok (by omega)) ?_ | refine p_call (v3_no (by omega)) ?_ | refine p_call (rmove22 (by omega)) ?_ | refine p_call (rmove21 (by omega)) ?_ | refine p_call (rnb22 (by omega)) ?_ | refine p_call (touch00 (by omega)) ?_ | refine p_call (touch01 (by omega)) ?_ | refine p_call (touch02 (by omega)) ?_ | refine p_call lives ?_)))
theorem cellsMv230 {m n x y e : Int} (h : (-16384 ≤ m ∧ m ≤ 16384 ∧ -16384 ≤ n ∧ n ≤ 16384 ∧ (m + n) % 2 = 0) ∧ -4096 ≤ x ∧ x ≤ 4096 ∧ -4096 ≤ y ∧ y ≤ 4096 ∧ 0 ≤ e ∧ e ≤ 255 ∧ e % 3 = 0) : Cc 12 [.i 2, .i m, .i n, .i x, .i y, .i 3, .i e] [.b true] := by
  refine q12 rfl ?_; unfold p12
  have he : e % 3 = 0 := by omega
  by_cases hd : -4096 ≤ -x - 1 + m ∧ -x - 1 + m ≤ 4096 ∧ -4096 ≤ -y - 1 + n ∧ -y - 1 + n ≤ 4096 <;> by_cases hn : -4096 ≤ x - 1 ∧ x - 1 ≤ 4096 ∧ -4096 ≤ y ∧ y ≤ 4096 <;> by_cases ho : -4096 ≤ -(x - 1) - 1 + m ∧ -(x - 1) - 1 + m ≤ 4096 ∧ -4096 ≤ -(y) - 1 + n ∧ -(y) - 1 + n ≤ 4096
  all_goals (first | (exfalso; omega) | (repeat (first | simp (disch := omega) only [↓qxs, ↓qxc, ↓qxa, ↓qxb, he] | refine p_call (cmove23 (by omega)) ?_ | refine p_call (cmovel23 (by omega)) ?_ | refine p_call (cmove21 (by omega)) ?_ | refine p_call (cmovel21 (by omega)) ?_ | refine p_call (cmove_no (by omega)) ?_ | refine p_call (v2_ok (by omega)) ?_ | refine p_call (v3_ok (by omega)) ?_ | refine p_call (v3_no (by omega)) ?_ | refine p_call (rmove23 (by omega)) ?_ | refine p_call (rmove21 (by omega)) ?_ | refine p_call (rnb30 (by omega)) ?_ | refine p_call (touch10 (by omega)) ?_ | refine p_call (touch11 (by omega)) ?_ | refine p_call (touch12 (by omega)) ?_ | refine p_call lives ?_)))
theorem cellsMv231 {m n x y e : Int} (h : (-16384 ≤ m ∧ m ≤ 16384 ∧ -16384 ≤ n ∧ n ≤ 16384 ∧ (m + n) % 2 = 0) ∧ -4096 ≤ x ∧ x ≤ 4096 ∧ -4096 ≤ y ∧ y ≤ 4096 ∧ 0 ≤ e ∧ e ≤ 255 ∧ e % 3 = 1) : Cc 12 [.i 2, .i m, .i n, .i x, .i y, .i 3, .i e] [.b true] := by
  refine q12 rfl ?_; unfold p12
  have he : e % 3 = 1 := by omega
  by_cases hd : -4096 ≤ -x - 1 + m ∧ -x - 1 + m ≤ 4096 ∧ -4096 ≤ -y - 1 + n ∧ -y - 1 + n ≤ 4096
  all_goals (first | (exfalso; omega) | (repeat (first | simp (disch := omega) only [↓qxs, ↓qxc, ↓qxa, ↓qxb, he] | refine p_call (cmove23 (by omega)) ?_ | refine p_call (cmovel23 (by omega)) ?_ | refine p_call (cmove22 (by omega)) ?_ | refine p_call (cmovel22 (by omega)) ?_ | refine p_call (cmove_no (by omega)) ?_ | refine p_call (v2_ok (by omega)) ?_ | refine p_call (v3_ok (by omega)) ?_ | refine p_call (v3_no (by omega)) ?_ | refine p_call (rmove23 (by omega)) ?_ | refine p_call (rmove22 (by omega)) ?_ | refine p_call (rnb31 (by omega)) ?_ | refine p_call (touch10 (by omega)) ?_ | refine p_call (touch11 (by omega)) ?_ | refine p_call (touch12 (by omega)) ?_ | refine p_call lives ?_)))
theorem cellsMv232 {m n x y e : Int} (h : (-16384 ≤ m ∧ m ≤ 16384 ∧ -16384 ≤ n ∧ n ≤ 16384 ∧ (m + n) % 2 = 0) ∧ -4096 ≤ x ∧ x ≤ 4096 ∧ -4096 ≤ y ∧ y ≤ 4096 ∧ 0 ≤ e ∧ e ≤ 255 ∧ e % 3 = 2) : Cc 12 [.i 2, .i m, .i n, .i x, .i y, .i 3, .i e] [.b true] := by
  refine q12 rfl ?_; unfold p12
  have he : e % 3 = 2 := by omega
  by_cases hd : -4096 ≤ -x - 1 + m ∧ -x - 1 + m ≤ 4096 ∧ -4096 ≤ -y - 1 + n ∧ -y - 1 + n ≤ 4096
  all_goals (first | (exfalso; omega) | (repeat (first | simp (disch := omega) only [↓qxs, ↓qxc, ↓qxa, ↓qxb, he] | refine p_call (cmove23 (by omega)) ?_ | refine p_call (cmovel23 (by omega)) ?_ | refine p_call (cmove20 (by omega)) ?_ | refine p_call (cmovel20 (by omega)) ?_ | refine p_call (cmove_no (by omega)) ?_ | refine p_call (v2_ok (by omega)) ?_ | refine p_call (v3_ok (by omega)) ?_ | refine p_call (v3_no (by omega)) ?_ | refine p_call (rmove23 (by omega)) ?_ | refine p_call (rmove20 (by omega)) ?_ | refine p_call (rnb32 (by omega)) ?_ | refine p_call (touch10 (by omega)) ?_ | refine p_call (touch11 (by omega)) ?_ | refine p_call (touch12 (by omega)) ?_ | refine p_call lives ?_)))
end Go.Am
/-
  CONTRACTS, BY PROGRAM: CellsMove, by turn.
-/
set_option maxRecDepth 100000
set_option maxHeartbeats 4000000
namespace Go.Am
open Sx Go.Proofs

theorem cellsMv300 {m n x y e : Int} (h : (-16384 ≤ m ∧ m ≤ 16384 ∧ -16384 ≤ n ∧ n ≤ 16384 ∧ (m + n) % 2 = 0) ∧ -4096 ≤ x ∧ x ≤ 4096 ∧ -4096 ≤ y ∧ y ≤ 4096 ∧ 0 ≤ e ∧ e ≤ 255 ∧ e % 3 = 0) : Cc 12 [.i 3, .i m, .i n, .i x, .i y, .i 0, .i e] [.b true] := by
  refine q12 rfl ?_; unfold p12
  have he : e % 3 = 0 := by omega
  by_cases hd : -4096 ≤ y + m ∧ y + m ≤ 4096 ∧ -4096 ≤ -x - 1 + n ∧ -x - 1 + n ≤ 4096 <;> by_cases hn : -4096 ≤ x ∧ x ≤ 4096 ∧ -4096 ≤ y - 1 ∧ y - 1 ≤ 4096 <;> by_cases ho : -4096 ≤ (y - 1) + m ∧ (y - 1) + m ≤ 4096 ∧ -4096 ≤ -(x) - 1 + n ∧ -(x) - 1 + n ≤ 4096
  all_goals (first | (exfalso; omega) | (repeat (first | simp (disch := omega) only [↓qxs, ↓qxc, ↓qxa, ↓qxb, he] | refine p_call (cmove30 (by omega)) ?_ | refine p_call (cmovel30 (by omega)) ?_ | refine p_call (cmove32 (by omega)) ?_ | refine p_call (cmovel32 (by omega)) ?_ | refine p_call (cmove_no (by omega)) ?_ | refine p_call (v2_ok (by omega)) ?_ | refine p_call (v3_ok (by omega)) ?_ | refine p_call (v3_no (by omega)) ?_ | refine p_call (rmove30 (by omega)) ?_ | refine p_call (rmove32 (by omega)) ?_ | refine p_call (rnb00 (by omega)) ?_ | refine p_call (touch30 (by omega)) ?_ | refine p_call (touch31 (by omega)) ?_ | refine p_call (touch32 (by omega)) ?_ | refine p_call lives ?_)))
theorem cellsMv301 {m n x y e : Int} (h : (-16384 ≤ m ∧ m ≤ 16384 ∧ -16384 ≤ n ∧ n ≤ 16384 ∧ (m + n) % 2 = 0) ∧ -4096 ≤ x ∧ x ≤ 4096 ∧ -4096 ≤ y ∧ y ≤ 4096 ∧ 0 ≤ e ∧ e ≤ 255 ∧ e % 3 = 1) : Cc 12 [.i 3, .i m, .i n, .i x, .i y, .i 0, .i e] [.b true] := by
  refine q12 rfl ?_; unfold p12
  have he : e % 3 = 1 := by omega
  by_cases hd : -4096 ≤ y + m ∧ y + m ≤ 4096 ∧ -4096 ≤ -x - 1 + n ∧ -x - 1 + n ≤ 4096
  all_goals (first | (exfalso; omega) | (repeat (first | simp (disch := omega) only [↓qxs, ↓qxc, ↓qxa, ↓qxb, he] | refine p_call (cmove30 (by omega)) ?_ | refine p_call (cmovel30 (by omega)) ?_ | refine p_call (cmove31 (by omega)) ?_ | refine p_call (cmovel31 (by omega)) ?_ | refine p_call (cmove_no (by omega)) ?_ | refine p_call (v2_ok (by omega)) ?_ | refine p_call (v3_ok (by omega)) ?_ | refine p_call (v3_no (by omega)) ?_ | refine p_call (rmove30 (by omega)) ?_ | refine p_call (rmove31 (by omega)) ?_ | refine p_call (rnb01 (by omega)) ?_ | refine p_call (touch30 (by omega)) ?_ | refine p_call (touch31 (by omega)) ?_ | refine p_call (touch32 (by omega)) ?_ | refine p_call lives ?_)))
theorem cellsMv302 {m n x y e : Int} (h : (-16384 ≤ m ∧ m ≤ 16384 ∧ -16384 ≤ n ∧ n ≤ 16384 ∧ (m + n) % 2 = 0) ∧ -4096 ≤ x ∧ x ≤ 4096 ∧ -4096 ≤ y ∧ y ≤ 4096 ∧ 0 ≤ e ∧ e ≤ 255 ∧ e % 3 = 2) : Cc 12 [.i 3, .i m, .i n, .i x, .i y, .i 0, .i e] [.b true] := by
  refine q12 rfl ?_; unfold p12
  have he : e % 3 = 2 := by omega
  by_cases hd : -4096 ≤ y + m ∧ y + m ≤ 4096 ∧ -4096 ≤ -x - 1 + n ∧ -x - 1 + n ≤ 4096
  all_goals (first | (exfalso; omega) | (repeat (first | simp (disch := omega) only [↓qxs, ↓qxc, ↓qxa, ↓qxb, he] | refine p_call (cmove30 (by omega)) ?_ | refine p_call (cmovel30 (by omega)) ?_ | refine p_call (cmove33 (by omega)) ?_ | refine p_call (cmovel33 (by omega)) ?_ | refine p_call (cmove_no (by omega)) ?_ | refine p_call (v2_ok (by omega)) ?_ | refine p_call (v3_ok (by omega)) ?_ | refine p_call (v3_no (by omega)) ?_ | refine p_call (rmove30 (by omega)) ?_ | refine p_call (rmove33 (by omega)) ?_ | refine p_call (rnb02 (by omega)) ?_ | refine p_call (touch30 (by omega)) ?_ | refine p_call (touch31 (by omega)) ?_ | refine p_call (touch32 (by omega)) ?_ | refine p_call lives ?_)))
theorem cellsMv310 {m n x y e : Int} (h : (-16384 ≤ m ∧ m ≤ 16384 ∧ -16384 ≤ n ∧ n ≤ 16384 ∧ (m + n) % 2 = 0) ∧ -4096 ≤ x ∧ x ≤ 4096 ∧ -4096 ≤ y ∧ y ≤ 4096 ∧ 0 ≤ e ∧ e ≤ 255 ∧ e % 3 = 0) : Cc 12 [.i 3, .i m, .i n, .i x, .i y, .i 1, .i e] [.b true] := by
  refine q12 rfl ?_; unfold p12
  have he : e % 3 = 0 := by omega
  by_cases hd : -4096 ≤ y + m ∧ y + m ≤ 4096 ∧ -4096 ≤ -x - 1 + n ∧ -x - 1 + n ≤ 4096 <;> by_cases hn : -4096 ≤ x + 1 ∧ x + 1 ≤ 4096 ∧ -4096 ≤ y ∧ y ≤ 4096 <;> by_cases ho : -4096 ≤ (y) + m ∧ (y) + m ≤ 4096 ∧ -4096 ≤ -(x + 1) - 1 + n ∧ -(x + 1) - 1 + n ≤ 4096
  all_goals (first | (exfalso; omega) | (repeat (first | simp (disch := omega) only [↓qxs, ↓qxc, ↓qxa, ↓qxb, he] | refine p_call (cmove31 (by omega)) ?_ | refine p_call (cmovel31 (by omega)) ?_ | refine p_call (cmove33 (by omega)) ?_ | refine p_call (cmovel33 (by omega)) ?_ | refine p_call (cmove_no (by omega)) ?_ | refine p_call (v2_ok (by omega)) ?_ | refine p_call (v3_ok (by omega)) ?_ | refine p_call (v3_no (by omega)) ?_ | refine p_call (rmove31 (by omega)) ?_ | refine p_call (rmove33 (by omega)) ?_ | refine p_call (rnb10 (by omega)) ?_ | refine p_call (touch00 (by omega)) ?_ | refine p_call (touch01 (by omega)) ?_ | refine p_call (touch02 (by omega)) ?_ | refine p_call lives ?_)))
theorem cellsMv311 {m n x y e : Int} (h : (-16384 ≤ m ∧ m ≤ 16384 ∧ -16384 ≤ n ∧ n ≤ 16384 ∧ (m + n) % 2 = 0) ∧ -4096 ≤ x ∧ x ≤ 4096 ∧ -4096 ≤ y ∧ y ≤ 4096 ∧ 0 ≤ e ∧ e ≤ 255 ∧ e % 3 = 1) : Cc 12 [.i 3, .i m, .i n, .i x, .i y, .i 1, .i e] [.b true] := by
  refine q12 rfl ?_; unfold p12
  have he : e % 3 = 1 := by omega
  by_cases hd : -4096 ≤ y + m ∧ y + m ≤ 4096 ∧ -4096 ≤ -x - 1 + n ∧ -x - 1 + n ≤ 4096
  all_goals (first | (exfalso; omega) | (repeat (first | simp (disch := omega) only [↓qxs, ↓qxc, ↓qxa, ↓qxb, he] | refine p_call (cmove31 (by omega)) ?_ | refine p_call (cmovel31 (by omega)) ?_ | refine p_call (cmove30 (by omega)) ?_ | refine p_call (cmovel30 (by omega)) ?_ | refine p_call (cmove_no (by omega)) ?_ | refine p_call (v2_ok (by omega)) ?_ | refine p_call (v3_ok (by omega)) ?_ | refine p_call (v3_no (by omega)) ?_ | refine p_call (rmove31 (by omega)) ?_ | refine p_call (rmove30 (by omega)) ?_ | refine p_call (rnb11 (by omega)) ?_ | refine p_call (touch00 (by omega)) ?_ | refine p_call (touch01 (by omega)) ?_ | refine p_call (touch02 (by omega)) ?_ | refine p_call lives ?_)))
theorem cellsMv312 {m n x y e : Int} (h : (-16384 ≤ m ∧ m ≤ 16384 ∧ -16384 ≤ n ∧ n ≤ 16384 ∧ (m + n) % 2 = 0) ∧ -4096 ≤ x ∧ x ≤ 4096 ∧ -4096 ≤ y ∧ y ≤ 4096 ∧ 0 ≤ e ∧ e ≤ 255 ∧ e % 3 = 2) : Cc 12 [.i 3, .i m, .i n, .i x, .i y, .i 1, .i e] [.b true] := by
  refine q12 rfl ?_; unfold p12
  have he : e % 3 = 2 := by omega
  by_cases hd : -4096 ≤ y + m ∧ y + m ≤ 4096 ∧ -4096 ≤ -x - 1 + n ∧ -x - 1 + n ≤ 4096
  all_goals (first | (exfalso; omega) | (repeat (first | simp (disch := omega) only [↓qxs, ↓qxc, ↓qxa, ↓qxb, he] | refine p_call (cmove31 (by omega)) ?_ | refine p_call (cmovel31 (by omega)) ?_ | refine p_call (cmove32 (by omega)) ?_ | refine p_call (cmovel32 (by omega)) ?_ | refine p_call (cmove_no (by omega)) ?_ | refine p_call (v2_ok (by omega)) ?_ | refine p_call (v3_ok (by omega)) ?_ | refine p_call (v3_no (by omega)) ?_ | refine p_call (rmove31 (by omega)) ?_ | refine p_call (rmove32 (by omega)) ?_ | refine p_call (rnb12 (by omega)) ?_ | refine p_call (touch00 (by omega)) ?_ | refine p_call (touch01 (by omega)) ?_ | refine p_call (touch02 (by omega)) ?_ | refine p_call lives ?_)))
theorem cellsMv320 {m n x y e : Int} (h : (-16384 ≤ m ∧ m ≤ 16384 ∧ -16384 ≤ n ∧ n ≤ 16384 ∧ (m + n) % 2 = 0) ∧ -4096 ≤ x ∧ x ≤ 4096 ∧ -4096 ≤ y ∧ y ≤ 4096 ∧ 0 ≤ e ∧ e ≤ 255 ∧ e % 3 = 0) : Cc 12 [.i 3, .i m, .i n, .i x, .i y, .i 2, .i e] [.b true] := by
  refine q12 rfl ?_; unfold p12
  have he : e % 3 = 0 := by omega
  by_cases hd : -4096 ≤ y + m ∧ y + m ≤ 4096 ∧ -4096 ≤ -x - 1 + n ∧ -x - 1 + n ≤ 4096 <;> by_cases hn : -4096 ≤ x ∧ x ≤ 4096 ∧ -4096 ≤ y + 1 ∧ y + 1 ≤ 4096 <;> by_cases ho : -4096 ≤ (y + 1) + m ∧ (y + 1) + m ≤ 4096 ∧ -4096 ≤ -(x) - 1 + n ∧ -(x) - 1 + n ≤ 4096
  all_goals (first | (exfalso; omega) | (repeat (first | simp (disch := omega) only [↓qxs, ↓qxc, ↓qxa, ↓qxb, he] | refine p_call (cmove32 (by omega)) ?_ | refine p_call (cmovel32 (by omega)) ?_ | refine p_call (cmove30 (by omega)) ?_ | refine p_call (cmovel30 (by omega)) ?_ | refine p_call (cmove_no (by omega)) ?_ | refine p_call (v2_ok (by omega)) ?_ | refine p_call (v3_ok (by omega)) ?_ | refine p_call (v3_no (by omega)) ?_ | refine p_call (rmove32 (by omega)) ?_ | refine p_call (rmove30 (by omega)) ?_ | refine p_call (rnb20 (by omega)) ?_ | refine p_call (touch10 (by omega)) ?_ | refine p_call (touch11 (by omega)) ?_ | refine p_call (touch12 (by omega)) ?_ | refine p_call lives ?_)))
theorem cellsMv321 {m n x y e : Int} (h : (-16384 ≤ m ∧ m ≤ 16384 ∧ -16384 ≤ n ∧ n ≤ 16384 ∧ (m + n) % 2 = 0) ∧ -4096 ≤ x ∧ x ≤ 4096 ∧ -4096 ≤ y ∧ y ≤ 4096 ∧ 0 ≤ e ∧ e ≤ 255 ∧ e % 3 = 1) : Cc 12 [.i 3, .i m, .i n, .i x, .i y, .i 2, .i e] [.b true] := by
  refine q12 rfl ?_; unfold p12
  have he : e % 3 = 1 := by omega
  by_cases hd : -4096 ≤ y + m ∧ y + m ≤ 4096 ∧ -4096 ≤ -x - 1 + n ∧ -x - 1 + n ≤ 4096
  all_goals (first | (exfalso; omega) | (repeat (first | simp (disch := omega) only [↓qxs, ↓qxc, ↓qxa, ↓qxb, he] | refine p_call (cmove32 (by omega)) ?_ | refine p_call (cmovel32 (by omega)) ?_ | refine p_call (cmove33 (by omega)) ?_ | refine p_call (cmovel33 (by omega)) ?_ | refine p_call (cmove_no (by omega)) ?_ | refine p_call (v2_ok (by omega)) ?_ | refine p_call (v3_ok (by omega)) ?_ | refine p_call (v3_no (by omega)) ?_ | refine p_call (rmove32 (by omega)) ?_ | refine p_call (rmove33 (by omega)) ?_ | refine p_call (rnb21 (by omega)) ?_ | refine p_call (touch10 (by omega)) ?_ | refine p_call (touch11 (by omega)) ?_ | refine p_call (touch12 (by omega)) ?_ | refine p_call lives ?_)))
theorem cellsMv322 {m n x y e : Int} (h : (-16384 ≤ m ∧ m ≤ 16384 ∧ -16384 ≤ n ∧ n ≤ 16384 ∧ (m + n) % 2 = 0) ∧ -4096 ≤ x ∧ x ≤ 4096 ∧ -4096 ≤ y ∧ y ≤ 4096 ∧ 0 ≤ e ∧ e ≤ 255 ∧ e % 3 = 2) : Cc 12 [.i 3, .i m, .i n, .i x, .i y, .i 2, .i e] [.b true] := by
  refine q12 rfl ?_; unfold p12
  have he : e % 3 = 2 := by omega
  by_cases hd : -4096 ≤ y + m ∧ y + m ≤ 4096 ∧ -4096 ≤ -x - 1 + n ∧ -x - 1 + n ≤ 4096
  all_goals (first | (exfalso; omega) | (repeat (first | simp (disch := omega) only [↓qxs, ↓qxc, ↓qxa, ↓qxb, he] | refine p_call (cmove32 (by omega)) ?_ | refine p_call (cmovel32 (by omega)) ?_ | refine p_call (cmove31 (by omega)) ?_ | refine p_call (cmovel31 (by omega)) ?_ | refine p_call (cmove_no (by omega)) ?_ | refine p_call (v2_ok (by omega)) ?_ | refine p_call (v3_ok (by omega)) ?_ | refine p_call (v3_no (by omega)) ?_ | refine p_call (rmove32 (by omega)) ?_ | refine p_call (rmove31 (by omega)) ?_ | refine p_call (rnb22 (by omega)) ?_ | refine p_call (touch10 (by omega)) ?_ | refine p_call (touch11 (by omega)) ?_ | refine p_call (touch12 (by omega)) ?_ | refine p_call lives ?_)))
theorem cellsMv330 {m n x y e : Int} (h : (-16384 ≤ m ∧ m ≤ 16384 ∧ -16384 ≤ n ∧ n ≤ 16384 ∧ (m + n) % 2 = 0) ∧ -4096 ≤ x ∧ x ≤ 4096 ∧ -4096 ≤ y ∧ y ≤ 4096 ∧ 0 ≤ e ∧ e ≤ 255 ∧ e % 3 = 0) : Cc 12 [.i 3, .i m, .i n, .i x, .i y, .i 3, .i e] [.b true] := by
  refine q12 rfl ?_; unfold p12
  have he : e % 3 = 0 := by omega
  by_cases hd : -4096 ≤ y + m ∧ y + m ≤ 4096 ∧ -4096 ≤ -x - 1 + n ∧ -x - 1 + n ≤ 4096 <;> by_cases hn : -4096 ≤ x - 1 ∧ x - 1 ≤ 4096 ∧ -4096 ≤ y ∧ y ≤ 4096 <;> by_cases ho : -4096 ≤ (y) + m ∧ (y) + m ≤ 4096 ∧ -4096 ≤ -(x - 1) - 1 + n ∧ -(x - 1) - 1 + n ≤ 4096
  all_goals (first | (exfalso; omega) | (repeat (first | simp (disch := omega) only [↓qxs, ↓qxc, ↓qxa, ↓qxb, he] | refine p_call (cmove33 (by omega)) ?_ | refine p_call (cmovel33 (by omega)) ?_ | refine p_call (cmove31 (by omega)) ?_ | refine p_call (cmovel31 (by omega)) ?_ | refine p_call (cmove_no (by omega)) ?_ | refine p_call (v2_ok (by omega)) ?_ | refine p_call (v3_ok (by omega)) ?_ | refine p_call (v3_no (by omega)) ?_ | refine p_call (rmove33 (by omega)) ?_ | refine p_call (rmove31 (by omega)) ?_ | refine p_call (rnb30 (by omega)) ?_ | refine p_call (touch20 (by omega)) ?_ | refine p_call (touch21 (by omega)) ?_ | refine p_call (touch22 (by omega)) ?_ | refine p_call lives ?_)))
theorem cellsMv331 {m n x y e : Int} (h : (-16384 ≤ m ∧ m ≤ 16384 ∧ -16384 ≤ n ∧ n ≤ 16384 ∧ (m + n) % 2 = 0) ∧ -4096 ≤ x ∧ x ≤ 4096 ∧ -4096 ≤ y ∧ y ≤ 4096 ∧ 0 ≤ e ∧ e ≤ 255 ∧ e % 3 = 1) : Cc 12 [.i 3, .i m, .i n, .i x, .i y, .i 3, .i e] [.b true] := by
  refine q12 rfl ?_; unfold p12
  have he : e % 3 = 1 := by omega
  by_cases hd : -4096 ≤ y + m ∧ y + m ≤ 4096 ∧ -4096 ≤ -x - 1 + n ∧ -x - 1 + n ≤ 4096
  all_goals (first | (exfalso; omega) | (repeat (first | simp (disch := omega) only [↓qxs, ↓qxc, ↓qxa, ↓qxb, he] | refine p_call (cmove33 (by omega)) ?_ | refine p_call (cmovel33 (by omega)) ?_ | refine p_call (cmove32 (by omega)) ?_ | refine p_call (cmovel32 (by omega)) ?_ | refine p_call (cmove_no (by omega)) ?_ | refine p_call (v2_ok (by omega)) ?_ | refine p_call (v3_ok (by omega)) ?_ | refine p_call (v3_no (by omega)) ?_ | refine p_call (rmove33 (by omega)) ?_ | refine p_call (rmove32 (by omega)) ?_ | refine p_call (rnb31 (by omega)) ?_ | refine p_call (touch20 (by omega)) ?_ | refine p_call (touch21 (by omega)) ?_ | refine p_call (touch22 (by omega)) ?_ | refine p_call lives ?_)))
theorem cellsMv332 {m n x y e : Int} (h : (-16384 ≤ m ∧ m ≤ 16384 ∧ -16384 ≤ n ∧ n ≤ 16384 ∧ (m + n) % 2 = 0) ∧ -4096 ≤ x ∧ x ≤ 4096 ∧ -4096 ≤ y ∧ y ≤ 4096 ∧ 0 ≤ e ∧ e ≤ 255 ∧ e % 3 = 2) : Cc 12 [.i 3, .i m, .i n, .i x, .i y, .i 3, .i e] [.b true] := by
  refine q12 rfl ?_; unfold p12
  have he : e % 3 = 2 := by omega
  by_cases hd : -4096 ≤ y + m ∧ y + m ≤ 4096 ∧ -4096 ≤ -x - 1 + n ∧ -x - 1 + n ≤ 4096
  all_goals (first | (exfalso; omega) | (repeat (first | simp (disch := omega) only [↓qxs, ↓qxc, ↓qxa, ↓qxb, he] | refine p_call (cmove33 (by omega)) ?_ | refine p_call (cmovel33 (by omega)) ?_ | refine p_call (cmove30 (by omega)) ?_ | refine p_call (cmovel30 (by omega)) ?_ | refine p_call (cmove_no (by omega)) ?_ | refine p_call (v2_ok (by omega)) ?_ | refine p_call (v3_ok (by omega)) ?_ | refine p_call (v3_no (by omega)) ?_ | refine p_call (rmove33 (by omega)) ?_ | refine p_call (rmove30 (by omega)) ?_ | refine p_call (rnb32 (by omega)) ?_ | refine p_call (touch20 (by omega)) ?_ | refine p_call (touch21 (by omega)) ?_ | refine p_call (touch22 (by omega)) ?_ | refine p_call lives ?_)))
end Go.Am
/-
  CONTRACTS, BY PROGRAM: CellsMove, by turn.
-/
set_option maxRecDepth 100000
set_option maxHeartbeats 4000000
namespace Go.Am
open Sx Go.Proofs
theorem cellsMv400 {m n x y e : Int} (h : (-16384 ≤ m ∧ m ≤ 16384 ∧ -16384 ≤ n ∧ n ≤ 16384 ∧ (m + n) % 2 = 0) ∧ -4096 ≤ x ∧ x ≤ 4096 ∧ -4096 ≤ y ∧ y ≤ 4096 ∧ 0 ≤ e ∧ e ≤ 255 ∧ e % 3 = 0) : Cc 12 [.i 4, .i m, .i n, .i x, .i y, .i 0, .i e] [.b true] := by
  refine q12 rfl ?_; unfold p12
  have he : e % 3 = 0 := by omega
  by_cases hd : -4096 ≤ -x - 1 + m ∧ -x - 1 + m ≤ 4096 ∧ -4096 ≤ y + n ∧ y + n ≤ 4096 <;> by_cases hn : -4096 ≤ x ∧ x ≤ 4096 ∧ -4096 ≤ y - 1 ∧ y - 1 ≤ 4096 <;> by_cases ho : -4096 ≤ -(x) - 1 + m ∧ -(x) - 1 + m ≤ 4096 ∧ -4096 ≤ (y - 1) + n ∧ (y - 1) + n ≤ 4096
  all_goals (first | (exfalso; omega) | (repeat (first | simp (disch := omega) only [↓qxs, ↓qxc, ↓qxa, ↓qxb, he] | refine p_call (cmove40 (by omega)) ?_ | refine p_call (cmovel40 (by omega)) ?_ | refine p_call (cmove42 (by omega)) ?_ | refine p_call (cmovel42 (by omega)) ?_ | refine p_call (cmove_no (by omega)) ?_ | refine p_call (v2_ok (by omega)) ?_ | refine p_call (v3_ok (by omega)) ?_ | refine p_call (v3_no (by omega)) ?_ | refine p_call (rmove40 (by omega)) ?_ | refine p_call (rmove42 (by omega)) ?_ | refine p_call (rnb00 (by omega)) ?_ | refine p_call (touch00 (by omega)) ?_ | refine p_call (touch01 (by omega)) ?_ | refine p_call (touch02 (by omega)) ?_ | refine p_call lives ?_)))
theorem cellsMv401 {m n x y e : Int} (h : (-16384 ≤ m ∧ m ≤ 16384 ∧ -16384 ≤ n ∧ n ≤ 16384 ∧ (m + n) % 2 = 0) ∧ -4096 ≤ x ∧ x ≤ 4096 ∧ -4096 ≤ y ∧ y ≤ 4096 ∧ 0 ≤ e ∧ e ≤ 255 ∧ e % 3 = 1) : Cc 12 [.i 4, .i m, .i n, .i x, .i y, .i 0, .i e] [.b true] := by
  refine q12 rfl ?_; unfold p12
  have he : e % 3 = 1 := by omega
  by_cases hd : -4096 ≤ -x - 1 + m ∧ -x - 1 + m ≤ 4096 ∧ -4096 ≤ y + n ∧ y + n ≤ 4096
  all_goals (first | (exfalso; omega) | (repeat (first | simp (disch := omega) only [↓qxs, ↓qxc, ↓qxa, ↓qxb, he] | refine p_call (cmove40 (by omega)) ?_ | refine p_call (cmovel40 (by omega)) ?_ | refine p_call (cmove41 (by omega)) ?_ | refine p_call (cmovel41 (by omega)) ?_ | refine p_call (cmove_no (by omega)) ?_ | refine p_call (v2_ok (by omega)) ?_ | refine p_call (v3_ok (by omega)) ?_ | refine p_call (v3_no (by omega)) ?_ | refine p_call (rmove40 (by omega)) ?_ | refine p_call (rmove41 (by omega)) ?_ | refine p_call (rnb01 (by omega)) ?_ | refine p_call (touch00 (by omega)) ?_ | refine p_call (touch01 (by omega)) ?_ | refine p_call (touch02 (by omega)) ?_ | refine p_call lives ?_)))
theorem cellsMv402 {m n x y e : Int} (h : (-16384 ≤ m ∧ m ≤ 16384 ∧ -16384 ≤ n ∧ n ≤ 16384 ∧ (m + n) % 2 = 0) ∧ -4096 ≤ x ∧ x ≤ 4096 ∧ -4096 ≤ y ∧ y ≤ 4096 ∧ 0 ≤ e ∧ e ≤ 255 ∧ e % 3 = 2) : Cc 12 [.i 4, .i m, .i n, .i x, .i y, .i 0, .i e] [.b true] := by
  refine q12 rfl ?_; unfold p12
  have he : e % 3 = 2 := by omega
  by_cases hd : -4096 ≤ -x - 1 + m ∧ -x - 1 + m ≤ 4096 ∧ -4096 ≤ y + n ∧ y + n ≤ 4096
  all_goals (first | (exfalso; omega) | (repeat (first | simp (disch := omega) only [↓qxs, ↓qxc, ↓qxa, ↓qxb, he] | refine p_call (cmove40 (by omega)) ?_ | refine p_call (cmovel40 (by omega)) ?_ | refine p_call (cmove43 (by omega)) ?_ | refine p_call (cmovel43 (by omega)) ?_ | refine p_call (cmove_no (by omega)) ?_ | refine p_call (v2_ok (by omega)) ?_ | refine p_call (v3_ok (by omega)) ?_ | refine p_call (v3_no (by omega)) ?_ | refine p_call (rmove40 (by omega)) ?_ | refine p_call (rmove43 (by omega)) ?_ | refine p_call (rnb02 (by omega)) ?_ | refine p_call (touch00 (by omega)) ?_ | refine p_call (touch01 (by omega)) ?_ | refine p_call (touch02 (by omega)) ?_ | refine p_call lives ?_)))
theorem cellsMv410 {m n x y e : Int} (h : (-16384 ≤ m ∧ m ≤ 16384 ∧ -16384 ≤ n ∧ n ≤ 16384 ∧ (m + n) % 2 = 0) ∧ -4096 ≤ x ∧ x ≤ 4096 ∧ -4096 ≤ y ∧ y ≤ 4096 ∧ 0 ≤ e ∧ e ≤ 255 ∧ e % 3 = 0) : Cc 12 [.i 4, .i m, .i n, .i x, .i y, .i 1, .i e] [.b true] := by
  refine q12 rfl ?_; unfold p12
  have he : e % 3 = 0 := by omega
  by_cases hd : -4096 ≤ -x - 1 + m ∧ -x - 1 + m ≤ 4096 ∧ -4096 ≤ y + n ∧ y + n ≤ 4096 <;> by_cases hn : -4096 ≤ x + 1 ∧ x + 1 ≤ 4096 ∧ -4096 ≤ y ∧ y ≤ 4096 <;> by_cases ho : -4096 ≤ -(x + 1) - 1 + m ∧ -(x + 1) - 1 + m ≤ 4096 ∧ -4096 ≤ (y) + n ∧ (y) + n ≤ 4096
  all_goals (first | (exfalso; omega) | (repeat (first | simp (disch := omega) only [↓qxs, ↓qxc, ↓qxa, ↓qxb, he] | refine p_call (cmove41 (by omega)) ?_ | refine p_call (cmovel41 (by omega)) ?_ | refine p_call (cmove43 (by omega)) ?_ | refine p_call (cmovel43 (by omega)) ?_ | refine p_call (cmove_no (by omega)) ?_ | refine p_call (v2_ok (by omega)) ?_ | refine p_call (v3_ok (by omega)) ?_ | refine p_call (v3_no (by omega)) ?_ | refine p_call (rmove41 (by omega)) ?_ | refine p_call (rmove43 (by omega)) ?_ | refine p_call (rnb10 (by omega)) ?_ | refine p_call (touch30 (by omega)) ?_ | refine p_call (touch31 (by omega)) ?_ | refine p_call (touch32 (by omega)) ?_ | refine p_call lives ?_)))
theorem cellsMv411 {m n x y e : Int} (h : (-16384 ≤ m ∧ m ≤ 16384 ∧ -16384 ≤ n ∧ n ≤ 16384 ∧ (m + n) % 2 = 0) ∧ -4096 ≤ x ∧ x ≤ 4096 ∧ -4096 ≤ y ∧ y ≤ 4096 ∧ 0 ≤ e ∧ e ≤ 255 ∧ e % 3 = 1) : Cc 12 [.i 4, .i m, .i n, .i x, .i y, .i 1, .i e] [.b true] := by
  refine q12 rfl ?_; unfold p12
  have he : e % 3 = 1 := by omega
  by_cases hd : -4096 ≤ -x - 1 + m ∧ -x - 1 + m ≤ 4096 ∧ -4096 ≤ y + n ∧ y + n ≤ 4096
  all_goals (first | (exfalso; omega) | (repeat (first | simp (disch := omega) only [↓qxs, ↓qxc, ↓qxa, ↓qxb, he] | refine p_call (cmove41 (by omega)) ?_ | refine p_call (cmovel41 (by omega)) ?_ | refine p_call (cmove40 (by omega)) ?_ | refine p_call (cmovel40 (by omega)) ?_ | refine p_call (cmove_no (by omega)) ?_ | refine p_call (v2_ok (by omega)) ?_ | refine p_call (v3_ok (by omega)) ?_ | refine p_call (v3_no (by omega)) ?_ | refine p_call (rmove41 (by omega)) ?_ | refine p_call (rmove40 (by omega)) ?_ | refine p_call (rnb11 (by omega)) ?_ | refine p_call (touch30 (by omega)) ?_ | refine p_call (touch31 (by omega)) ?_ | refine p_call (touch32 (by omega)) ?_ | refine p_call lives ?_)))
theorem cellsMv412 {m n x y e : Int} (h : (-16384 ≤ m ∧ m ≤ 16384 ∧ -16384 ≤ n ∧ n ≤ 16384 ∧ (m + n) % 2 = 0) ∧ -4096 ≤ x ∧ x ≤ 4096 ∧ -4096 ≤ y ∧ y ≤ 4096 ∧ 0 ≤ e ∧ e ≤ 255 ∧ e % 3 = 2) : Cc 12 [.i 4, .i m, .i n, .i x, .i y, .i 1, .i e] [.b true] := by
  refine q12 rfl ?_; unfold p12
  have he : e % 3 = 2 := by omega
  by_cases hd : -4096 ≤ -x - 1 + m ∧ -x - 1 + m ≤ 4096 ∧ -4096 ≤ y + n ∧ y + n ≤ 4096
  all_goals (first | (exfalso; omega) | (repeat (first | simp (disch := omega) only [↓qxs, ↓qxc, ↓qxa, ↓qxb, he] | refine p_call (cmove41 (by omega)) ?_ | refine p_call (cmovel41 (by omega)) ?_ | refine p_call (cmove42 (by omega)) ?_ | refine p_call (cmovel42 (by omega)) ?_ | refine p_call (cmove_no (by omega)) ?_ | refine p_call (v2_ok (by omega)) ?_ | refine p_call (v3_ok (by omega)) ?_ | refine p_call (v3_no (by omega)) ?_ | refine p_call (rmove41 (by omega)) ?_ | refine p_call (rmove42 (by omega)) ?_ | refine p_call (rnb12 (by omega)) ?_ | refine p_call (touch30 (by omega)) ?_ | refine p_call (touch31 (by omega)) ?_ | refine p_call (touch32 (by omega)) ?_ | refine p_call lives ?_)))
theorem cellsMv420 {m n x y e : Int} (h : (-16384 ≤ m ∧ m ≤ 16384 ∧ -16384 ≤ n ∧ n ≤ 16384 ∧ (m + n) % 2 = 0) ∧ -4096 ≤ x ∧ x ≤ 4096 ∧ -4096 ≤ y ∧ y ≤ 4096 ∧ 0 ≤ e ∧ e ≤ 255 ∧ e % 3 = 0) : Cc 12 [.i 4, .i m, .i n, .i x, .i y, .i 2, .i e] [.b true] := by
  refine q12 rfl ?_; unfold p12
  have he : e % 3 = 0 := by omega
  by_cases hd : -4096 ≤ -x - 1 + m ∧ -x - 1 + m ≤ 4096 ∧ -4096 ≤ y + n ∧ y + n ≤ 4096 <;> by_cases hn : -4096 ≤ x ∧ x ≤ 4096 ∧ -4096 ≤ y + 1 ∧ y + 1 ≤ 4096 <;> by_cases ho : -4096 ≤ -(x) - 1 + m ∧ -(x) - 1 + m ≤ 4096 ∧ -4096 ≤ (y + 1) + n ∧ (y + 1) + n ≤ 4096
  all_goals (first | (exfalso; omega) | (repeat (first | simp (disch := omega) only [↓qxs, ↓qxc, ↓qxa, ↓qxb, he] | refine p_call (cmove42 (by omega)) ?_ | refine p_call (cmovel42 (by omega)) ?_ | refine p_call (cmove40 (by omega)) ?_ | refine p_call (cmovel40 (by omega)) ?_ | refine p_call (cmove_no (by omega)) ?_ | refine p_call (v2_ok (by omega)) ?_ | refine p_call (v3_ok (by omega)) ?_ | refine p_call (v3_no (by omega)) ?_ | refine p_call (rmove42 (by omega)) ?_ | refine p_call (rmove40 (by omega)) ?_ | refine p_call (rnb20 (by omega)) ?_ | refine p_call (touch20 (by omega)) ?_ | refine p_call (touch21 (by omega)) ?_ | refine p_call (touch22 (by omega)) ?_ | refine p_call lives ?_)))
theorem cellsMv421 {m n x y e : Int} (h : (-16384 ≤ m ∧ m ≤ 16384 ∧ -16384 ≤ n ∧ n ≤ 16384 ∧ (m + n) % 2 = 0) ∧ -4096 ≤ x ∧ x ≤ 4096 ∧ -4096 ≤ y ∧ y ≤ 4096 ∧ 0 ≤ e ∧ e ≤ 255 ∧ e % 3 = 1) : Cc 12 [.i 4, .i m, .i n, .i x, .i y, .i 2, .i e] [.b true] := by
  refine q12 rfl ?_; unfold p12
  have he : e % 3 = 1 := by omega
  by_cases hd : -4096 ≤ -x - 1 + m ∧ -x - 1 + m ≤ 4096 ∧ -4096 ≤ y + n ∧ y + n ≤ 4096
  all_goals (first | (exfalso; omega) | (repeat (first | simp (disch := omega) only [↓qxs, ↓qxc, ↓qxa, ↓qxb, he] | refine p_call (cmove42 (by omega)) ?_ | refine p_call (cmovel42 (by omega)) ?_ | refine p_call (cmove43 (by omega)) ?_ | refine p_call (cmovel43 (by omega)) ?_ | refine p_call (cmove_no (by omega)) ?_ | refine p_call (v2_ok (by omega)) ?_ | refine p_call (v3_ok (by omega)) ?_ | refine p_call (v3_no (by omega)) ?_ | refine p_call (rmove42 (by omega)) ?_ | refine p_call (rmove43 (by omega)) ?_ | refine p_call (rnb21 (by omega)) ?_ | refine p_call (touch20 (by omega)) ?_ | refine p_call (touch21 (by omega)) ?_ | refine p_call (touch22 (by omega)) ?_ | refine p_call lives ?_)))
theorem cellsMv422 {m n x y e : Int} (h : (-16384 ≤ m ∧ m ≤ 16384 ∧ -16384 ≤ n ∧ n ≤ 16384 ∧ (m + n) % 2 = 0) ∧ -4096 ≤ x ∧ x ≤ 4096 ∧ -4096 ≤ y ∧ y ≤ 4096 ∧ 0 ≤ e ∧ e ≤ 255 ∧ e % 3 = 2) : Cc 12 [.i 4, .i m, .i n, .i x, .i y, .i 2, .i e] [.b true] := by
  refine q12 rfl ?_; unfold p12
  have he : e % 3 = 2 := by omega
  by_cases hd : -4096 ≤ -x - 1 + m ∧ -x - 1 + m ≤ 4096 ∧ -4096 ≤ y + n ∧ y + n ≤ 4096
  all_goals (first | (exfalso; omega) | (repeat (first | simp (disch := omega) only [↓qxs, ↓qxc, ↓qxa, ↓qxb, he] | refine p_call (cmove42 (by omega)) ?_ | refine p_call (cmovel42 (by omega)) ?_ | refine p_call (cmove41 (by omega)) ?_ | refine p_call (cmovel41 (by omega)) ?_ | refine p_call (cmove_no (by omega)) ?_ | refine p_call (v2_ok (by omega)) ?_ | refine p_call (v3_ok (by omega)) ?_ | refine p_call (v3_no (by omega)) ?_ | refine p_call (rmove42 (by omega)) ?_ | refine p_call (rmove41 (by omega)) ?_ | refine p_call (rnb22 (by omega)) ?_ | refine p_call (touch20 (by omega)) ?_ | refine p_call (touch21 (by omega)) ?_ | refine p_call (touch22 (by omega)) ?_ | refine p_call lives ?_)))
theorem cellsMv430 {m n x y e : Int} (h : (-16384 ≤ m ∧ m ≤ 16384 ∧ -16384 ≤ n ∧ n ≤ 16384 ∧ (m + n) % 2 = 0) ∧ -4096 ≤ x ∧ x ≤ 4096 ∧ -4096 ≤ y ∧ y ≤ 4096 ∧ 0 ≤ e ∧ e ≤ 255 ∧ e % 3 = 0) : Cc 12 [.i 4, .i m, .i n, .i x, .i y, .i 3, .i e] [.b true] := by
  refine q12 rfl ?_; unfold p12
  have he : e % 3 = 0 := by omega
  by_cases hd : -4096 ≤ -x - 1 + m ∧ -x - 1 + m ≤ 4096 ∧ -4096 ≤ y + n ∧ y + n ≤ 4096 <;> by_cases hn : -4096 ≤ x - 1 ∧ x - 1 ≤ 4096 ∧ -4096 ≤ y ∧ y ≤ 4096 <;> by_cases ho : -4096 ≤ -(x - 1) - 1 + m ∧ -(x - 1) - 1 + m ≤ 4096 ∧ -4096 ≤ (y) + n ∧ (y) + n ≤ 4096
  all_goals (first | (exfalso; omega) | (repeat (first | simp (disch := omega) only [↓qxs, ↓qxc, ↓qxa, ↓qxb, he] | refine p_call (cmove43 (by omega)) ?_ | refine p_call (cmovel43 (by omega)) ?_ | refine p_call (cmove41 (by omega)) ?_ | refine p_call (cmovel41 (by omega)) ?_ | refine p_call (cmove_no (by omega)) ?_ | refine p_call (v2_ok (by omega)) ?_ | refine p_call (v3_ok (by omega)) ?_ | refine p_call (v3_no (by omega)) ?_ | refine p_call (rmove43 (by omega)) ?_ | refine p_call (rmove41 (by omega)) ?_ | refine p_call (rnb30 (by omega)) ?_ | refine p_call (touch10 (by omega)) ?_ | refine p_call (touch11 (by omega)) ?_ | refine p_call (touch12 (by omega)) ?_ | refine p_call lives ?_)))
theorem cellsMv431 {m n x y e : Int} (h : (-16384 ≤ m ∧ m ≤ 16384 ∧ -16384 ≤ n ∧ n ≤ 16384 ∧ (m + n) % 2 = 0) ∧ -4096 ≤ x ∧ x ≤ 4096 ∧ -4096 ≤ y ∧ y ≤ 4096 ∧ 0 ≤ e ∧ e ≤ 255 ∧ e % 3 = 1) : Cc 12 [.i 4, .i m, .i n, .i x, .i y, .i 3, .i e] [.b true] := by
  refine q12 rfl ?_; unfold p12
  have he : e % 3 = 1 := by omega
  by_cases hd : -4096 ≤ -x - 1 + m ∧ -x - 1 + m ≤ 4096 ∧ -4096 ≤ y + n ∧ y + n ≤ 4096
  all_goals (first | (exfalso; omega) | (repeat (first | simp (disch := omega) only [↓qxs, ↓qxc, ↓qxa, ↓qxb, he] | refine p_call (cmove43 (by omega)) ?_ | refine p_call (cmovel43 (by omega)) ?_ | refine p_call (cmove42 (by omega)) ?_ | refine p_call (cmovel42 (by omega)) ?_ | refine p_call (cmove_no (by omega)) ?_ | refine p_call (v2_ok (by omega)) ?_ | refine p_call (v3_ok (by omega)) ?_ | refine p_call (v3_no (by omega)) ?_ | refine p_call (rmove43 (by omega)) ?_ | refine p_call (rmove42 (by omega)) ?_ | refine p_call (rnb31 (by omega)) ?_ | refine p_call (touch10 (by omega)) ?_ | refine p_call (touch11 (by omega)) ?_ | refine p_call (touch12 (by omega)) ?_ | refine p_call lives ?_)))
theorem cellsMv432 {m n x y e : Int} (h : (-16384 ≤ m ∧ m ≤ 16384 ∧ -16384 ≤ n ∧ n ≤ 16384 ∧ (m + n) % 2 = 0) ∧ -4096 ≤ x ∧ x ≤ 4096 ∧ -4096 ≤ y ∧ y ≤ 4096 ∧ 0 ≤ e ∧ e ≤ 255 ∧ e % 3 = 2) : Cc 12 [.i 4, .i m, .i n, .i x, .i y, .i 3, .i e] [.b true] := by
  refine q12 rfl ?_; unfold p12
  have he : e % 3 = 2 := by omega
  by_cases hd : -4096 ≤ -x - 1 + m ∧ -x - 1 + m ≤ 4096 ∧ -4096 ≤ y + n ∧ y + n ≤ 4096
  all_goals (first | (exfalso; omega) | (repeat (first | simp (disch := omega) only [↓qxs, ↓qxc, ↓qxa, ↓qxb, he] | refine p_call (cmove43 (by omega)) ?_ | refine p_call (cmovel43 (by omega)) ?_ | refine p_call (cmove40 (by omega)) ?_ | refine p_call (cmovel40 (by omega)) ?_ | refine p_call (cmove_no (by omega)) ?_ | refine p_call (v2_ok (by omega)) ?_ | refine p_call (v3_ok (by omega)) ?_ | refine p_call (v3_no (by omega)) ?_ | refine p_call (rmove43 (by omega)) ?_ | refine p_call (rmove40 (by omega)) ?_ | refine p_call (rnb32 (by omega)) ?_ | refine p_call (touch10 (by omega)) ?_ | refine p_call (touch11 (by omega)) ?_ | refine p_call (touch12 (by omega)) ?_ | refine p_call lives ?_)))
end Go.Am

/-
  CONTRACTS, BY PROGRAM: CellsMove, by turn.
-/
set_option maxRecDepth 100000
set_option maxHeartbeats 4000000
namespace Go.Am
open Sx Go.Proofs
theorem cellsMv500 {m n x y e : Int} (h : (-16384 ≤ m ∧ m ≤ 16384 ∧ -16384 ≤ n ∧ n ≤ 16384 ∧ (m + n) % 2 = 0) ∧ -4096 ≤ x ∧ x ≤ 4096 ∧ -4096 ≤ y ∧ y ≤ 4096 ∧ 0 ≤ e ∧ e ≤ 255 ∧ e % 3 = 0) : Cc 12 [.i 5, .i m, .i n, .i x, .i y, .i 0, .i e] [.b true] := by
  refine q12 rfl ?_; unfold p12
  have he : e % 3 = 0 := by omega
  by_cases hd : -4096 ≤ -y - 1 + m ∧ -y - 1 + m ≤ 4096 ∧ -4096 ≤ -x - 1 + n ∧ -x - 1 + n ≤ 4096 <;> by_cases hn : -4096 ≤ x ∧ x ≤ 4096 ∧ -4096 ≤ y - 1 ∧ y - 1 ≤ 4096 <;> by_cases ho : -4096 ≤ -(y - 1) - 1 + m ∧ -(y - 1) - 1 + m ≤ 4096 ∧ -4096 ≤ -(x) - 1 + n ∧ -(x) - 1 + n ≤ 4096
  all_goals (first | (exfalso; omega) | (repeat (first | simp (disch := omega) only [↓qxs, ↓qxc, ↓qxa, ↓qxb, he] | refine p_call (cmove50 (by omega)) ?_ | refine p_call (cmovel50 (by omega)) ?_ | refine p_call (cmove52 (by omega)) ?_ | refine p_call (cmovel52 (by omega)) ?_ | refine p_call (cmove_no (by omega)) ?_ | refine p_call (v2_ok (by omega)) ?_ | refine p_call (v3_ok (by omega)) ?_ | refine p_call (v3_no (by omega)) ?_ | refine p_call (rmove50 (by omega)) ?_ | refine p_call (rmove52 (by omega)) ?_ | refine p_call (rnb00 (by omega)) ?_ | refine p_call (touch10 (by omega)) ?_ | refine p_call (touch11 (by omega)) ?_ | refine p_call (touch12 (by omega)) ?_ | refine p_call lives ?_)))
theorem cellsMv501 {m n x y e : Int} (h : (-16384 ≤ m ∧ m ≤ 16384 ∧ -16384 ≤ n ∧ n ≤ 16384 ∧ (m + n) % 2 = 0) ∧ -4096 ≤ x ∧ x ≤ 4096 ∧ -4096 ≤ y ∧ y ≤ 4096 ∧ 0 ≤ e ∧ e ≤ 255 ∧ e % 3 = 1) : Cc 12 [.i 5, .i m, .i n, .i x, .i y, .i 0, .i e] [.b true] := by
  refine q12 rfl ?_; unfold p12
  have he : e % 3 = 1 := by omega
  by_cases hd : -4096 ≤ -y - 1 + m ∧ -y - 1 + m ≤ 4096 ∧ -4096 ≤ -x - 1 + n ∧ -x - 1 + n ≤ 4096
  all_goals (first | (exfalso; omega) | (repeat (first | simp (disch := omega) only [↓qxs, ↓qxc, ↓qxa, ↓qxb, he] | refine p_call (cmove50 (by omega)) ?_ | refine p_call (cmovel50 (by omega)) ?_ | refine p_call (cmove51 (by omega)) ?_ | refine p_call (cmovel51 (by omega)) ?_ | refine p_call (cmove_no (by omega)) ?_ | refine p_call (v2_ok (by omega)) ?_ | refine p_call (v3_ok (by omega)) ?_ | refine p_call (v3_no (by omega)) ?_ | refine p_call (rmove50 (by omega)) ?_ | refine p_call (rmove51 (by omega)) ?_ | refine p_call (rnb01 (by omega)) ?_ | refine p_call (touch10 (by omega)) ?_ | refine p_call (touch11 (by omega)) ?_ | refine p_call (touch12 (by omega)) ?_ | refine p_call lives ?_)))
theorem cellsMv502 {m n x y e : Int} (h : (-16384 ≤ m ∧ m ≤ 16384 ∧ -16384 ≤ n ∧ n ≤ 16384 ∧ (m + n) % 2 = 0) ∧ -4096 ≤ x ∧ x ≤ 4096 ∧ -4096 ≤ y ∧ y ≤ 4096 ∧ 0 ≤ e ∧ e ≤ 255 ∧ e % 3 = 2) : Cc 12 [.i 5, .i m, .i n, .i x, .i y, .i 0, .i e] [.b true] := by
  refine q12 rfl ?_; unfold p12
  have he : e % 3 = 2 := by omega
  by_cases hd : -4096 ≤ -y - 1 + m ∧ -y - 1 + m ≤ 4096 ∧ -4096 ≤ -x - 1 + n ∧ -x - 1 + n ≤ 4096
  all_goals (first | (exfalso; omega) | (repeat (first | simp (disch := omega) only [↓qxs, ↓qxc, ↓qxa, ↓qxb, he] | refine p_call (cmove50 (by omega)) ?_ | refine p_call (cmovel50 (by omega)) ?_ | refine p_call (cmove53 (by omega)) ?_ | refine p_call (cmovel53 (by omega)) ?_ | refine p_call (cmove_no (by omega)) ?_ | refine p_call (v2_ok (by omega)) ?_ | refine p_call (v3_ok (by omega)) ?_ | refine p_call (v3_no (by omega)) ?_ | refine p_call (rmove50 (by omega)) ?_ | refine p_call (rmove53 (by omega)) ?_ | refine p_call (rnb02 (by omega)) ?_ | refine p_call (touch10 (by omega)) ?_ | refine p_call (touch11 (by omega)) ?_ | refine p_call (touch12 (by omega)) ?_ | refine p_call lives ?_)))
theorem cellsMv510 {m n x y e : Int} (h : (-16384 ≤ m ∧ m ≤ 16384 ∧ -16384 ≤ n ∧ n ≤ 16384 ∧ (m + n) % 2 = 0) ∧ -4096 ≤ x ∧ x ≤ 4096 ∧ -4096 ≤ y ∧ y ≤ 4096 ∧ 0 ≤ e ∧ e ≤ 255 ∧ e % 3 = 0) : Cc 12 [.i 5, .i m, .i n, .i x, .i y, .i 1, .i e] [.b true] := by
  refine q12 rfl ?_; unfold p12
  have he : e % 3 = 0 := by omega
  by_cases hd : -4096 ≤ -y - 1 + m ∧ -y - 1 + m ≤ 4096 ∧ -4096 ≤ -x - 1 + n ∧ -x - 1 + n ≤ 4096 <;> by_cases hn : -4096 ≤ x + 1 ∧ x + 1 ≤ 4096 ∧ -4096 ≤ y ∧ y ≤ 4096 <;> by_cases ho : -4096 ≤ -(y) - 1 + m ∧ -(y) - 1 + m ≤ 4096 ∧ -4096 ≤ -(x + 1) - 1 + n ∧ -(x + 1) - 1 + n ≤ 4096
  all_goals (first | (exfalso; omega) | (repeat (first | simp (disch := omega) only [↓qxs, ↓qxc, ↓qxa, ↓qxb, he] | refine p_call (cmove51 (by omega)) ?_ | refine p_call (cmovel51 (by omega)) ?_ | refine p_call (cmove53 (by omega)) ?_ | refine p_call (cmovel53 (by omega)) ?_ | refine p_call (cmove_no (by omega)) ?_ | refine p_call (v2_ok (by omega)) ?_ | refine p_call (v3_ok (by omega)) ?_ | refine p_call (v3_no (by omega)) ?_ | refine p_call (rmove51 (by omega)) ?_ | refine p_call (rmove53 (by omega)) ?_ | refine p_call (rnb10 (by omega)) ?_ | refine p_call (touch00 (by omega)) ?_ | refine p_call (touch01 (by omega)) ?_ | refine p_call (touch02 (by omega)) ?_ | refine p_call lives ?_)))
theorem cellsMv511 {m n x y e : Int} (h : (-16384 ≤ m ∧ m ≤ 16384 ∧ -16384 ≤ n ∧ n ≤ 16384 ∧ (m + n) % 2 = 0) ∧ -4096 ≤ x ∧ x ≤ 4096 ∧ -4096 ≤ y ∧ y ≤ 4096 ∧ 0 ≤ e ∧ e ≤ 255 ∧ e % 3 = 1) : Cc 12 [.i 5, .i m, .i n, .i x, .i y, .i 1, .i e] [.b true] := by
  refine q12 rfl ?_; unfold p12
  have he : e % 3 = 1 := by omega
  by_cases hd : -4096 ≤ -y - 1 + m ∧ -y - 1 + m ≤ 4096 ∧ -4096 ≤ -x - 1 + n ∧ -x - 1 + n ≤ 4096
  all_goals (first | (exfalso; omega) | (repeat (first | simp (disch := omega) only [↓qxs, ↓qxc, ↓qxa, ↓qxb, he] | refine p_call (cmove51 (by omega)) ?_ | refine p_call (cmovel51 (by omega)) ?_ | refine p_call (cmove50 (by omega)) ?_ | refine p_call (cmovel50 (by omega)) ?_ | refine p_call (cmove_no (by omega)) ?_ | refine p_call (v2_ok (by omega)) ?_ | refine p_call (v3_ok (by omega)) ?_ | refine p_call (v3_no (by omega)) ?_ | refine p_call (rmove51 (by omega)) ?_ | refine p_call (rmove50 (by omega)) ?_ | refine p_call (rnb11 (by omega)) ?_ | refine p_call (touch00 (by omega)) ?_ | refine p_call (touch01 (by omega)) ?_ | refine p_call (touch02 (by omega)) ?_ | refine p_call lives ?_)))
theorem cellsMv512 {m n x y e : Int} (h : (-16384 ≤ m ∧ m ≤ 16384 ∧ -16384 ≤ n ∧ n ≤ 16384 ∧ (m + n) % 2 = 0) ∧ -4096 ≤ x ∧ x ≤ 4096 ∧ -4096 ≤ y ∧ y ≤ 4096 ∧ 0 ≤ e ∧ e ≤ 255 ∧ e % 3 = 2) : Cc 12 [.i 5, .i m, .i n, .i x, .i y, .i 1, .i e] [.b true] := by
  refine q12 rfl ?_; unfold p12
  have he : e % 3 = 2 := by omega
  by_cases hd : -4096 ≤ -y - 1 + m ∧ -y - 1 + m ≤ 4096 ∧ -4096 ≤ -x - 1 + n ∧ -x - 1 + n ≤ 4096
  all_goals (first | (exfalso; omega) | (repeat (first | simp (disch := omega) only [↓qxs, ↓qxc, ↓qxa, ↓qxb, he] | refine p_call (cmove51 (by omega)) ?_ | refine p_call (cmovel51 (by omega)) ?_ | refine p_call (cmove52 (by omega)) ?_ | refine p_call (cmovel52 (by omega)) ?_ | refine p_call (cmove_no (by omega)) ?_ | refine p_call (v2_ok (by omega)) ?_ | refine p_call (v3_ok (by omega)) ?_ | refine p_call (v3_no (by omega)) ?_ | refine p_call (rmove51 (by omega)) ?_ | refine p_call (rmove52 (by omega)) ?_ | refine p_call (rnb12 (by omega)) ?_ | refine p_call (touch00 (by omega)) ?_ | refine p_call (touch01 (by omega)) ?_ | refine p_call (touch02 (by omega)) ?_ | refine p_call lives ?_)))
theorem cellsMv520 {m n x y e : Int} (h : (-16384 ≤ m ∧ m ≤ 16384 ∧ -16384 ≤ n ∧ n ≤ 16384 ∧ (m + n) % 2 = 0) ∧ -4096 ≤ x ∧ x ≤ 4096 ∧ -4096 ≤ y ∧ y ≤ 4096 ∧ 0 ≤ e ∧ e ≤ 255 ∧ e % 3 = 0) : Cc 12 [.i 5, .i m, .i n, .i x, .i y, .i 2, .i e] [.b true] := by
  refine q12 rfl ?_; unfold p12
  have he : e % 3 = 0 := by omega
  by_cases hd : -4096 ≤ -y - 1 + m ∧ -y - 1 + m ≤ 4096 ∧ -4096 ≤ -x - 1 + n ∧ -x - 1 + n ≤ 4096 <;> by_cases hn : -4096 ≤ x ∧ x ≤ 4096 ∧ -4096 ≤ y + 1 ∧ y + 1 ≤ 4096 <;> by_cases ho : -4096 ≤ -(y + 1) - 1 + m ∧ -(y + 1) - 1 + m ≤ 4096 ∧ -4096 ≤ -(x) - 1 + n ∧ -(x) - 1 + n ≤ 4096
  all_goals (first | (exfalso; omega) | (repeat (first | simp (disch := omega) only [↓qxs, ↓qxc, ↓qxa, ↓qxb, he] | refine p_call (cmove52 (by omega)) ?_ | refine p_call (cmovel52 (by omega)) ?_ | refine p_call (cmove50 (by omega)) ?_ | refine p_call (cmovel50 (by omega)) ?_ | refine p_call (cmove_no (by omega)) ?_ | refine p_call (v2_ok (by omega)) ?_ | refine p_call (v3_ok (by omega)) ?_ | refine p_call (v3_no (by omega)) ?_ | refine p_call (rmove52 (by omega)) ?_ | refine p_call (rmove50 (by omega)) ?_ | refine p_call (rnb20 (by omega)) ?_ | refine p_call (touch30 (by omega)) ?_ | refine p_call (touch31 (by omega)) ?_ | refine p_call (touch32 (by omega)) ?_ | refine p_call lives ?_)))
theorem cellsMv521 {m n x y e : Int} (h : (-16384 ≤ m ∧ m ≤ 16384 ∧ -16384 ≤ n ∧ n ≤ 16384 ∧ (m + n) % 2 = 0) ∧ -4096 ≤ x ∧ x ≤ 4096 ∧ -4096 ≤ y ∧ y ≤ 4096 ∧ 0 ≤ e ∧ e ≤ 255 ∧ e % 3 = 1) : Cc 12 [.i 5, .i m, .i n, .i x, .i y, .i 2, .i e] [.b true] := by
  refine q12 rfl ?_; unfold p12
  have he : e % 3 = 1 := by omega
  by_cases hd : -4096 ≤ -y - 1 + m ∧ -y - 1 + m ≤ 4096 ∧ -4096 ≤ -x - 1 + n ∧ -x - 1 + n ≤ 4096
  all_goals (first | (exfalso; omega) | (repeat (first | simp (disch := omega) only [↓qxs, ↓qxc, ↓qxa, ↓qxb, he] | refine p_call (cmove52 (by omega)) ?_ | refine p_call (cmovel52 (by omega)) ?_ | refine p_call (cmove53 (by omega)) ?_ | refine p_call (cmovel53 (by omega)) ?_ | refine p_call (cmove_no (by omega)) ?_ | refine p_call (v2_ok (by omega)) ?_ | refine p_call (v3_ok (by omega)) ?_ | refine p_call (v3_no (by omega)) ?_ | refine p_call (rmove52 (by omega)) ?_ | refine p_call (rmove53 (by omega)) ?_ | refine p_call (rnb21 (by omega)) ?_ | refine p_call (touch30 (by omega)) ?_ | refine p_call (touch31 (by omega)) ?_ | refine p_call (touch32 (by omega)) ?_ | refine p_call lives ?_)))
theorem cellsMv522 {m n x y e : Int} (h : (-16384 ≤ m ∧ m ≤ 16384 ∧ -16384 ≤ n ∧ n ≤ 16384 ∧ (m + n) % 2 = 0) ∧ -4096 ≤ x ∧ x ≤ 4096 ∧ -4096 ≤ y ∧ y ≤ 4096 ∧ 0 ≤ e ∧ e ≤ 255 ∧ e % 3 = 2) : Cc 12 [.i 5, .i m, .i n, .i x, .i y, .i 2, .i e] [.b true] := by
  refine q12 rfl ?_; unfold p12
  have he : e % 3 = 2 := by omega
  by_cases hd : -4096 ≤ -y - 1 + m ∧ -y - 1 + m ≤ 4096 ∧ -4096 ≤ -x - 1 + n ∧ -x - 1 + n ≤ 4096
  all_goals (first | (exfalso; omega) | (repeat (first | simp (disch := omega) only [↓qxs, ↓qxc, ↓qxa, ↓qxb, he] | refine p_call (cmove52 (by omega)) ?_ | refine p_call (cmovel52 (by omega)) ?_ | refine p_call (cmove51 (by omega)) ?_ | refine p_call (cmovel51 (by omega)) ?_ | refine p_call (cmove_no (by omega)) ?_ | refine p_call (v2_ok (by omega)) ?_ | refine p_call (v3_ok (by omega)) ?_ | refine p_call (v3_no (by omega)) ?_ | refine p_call (rmove52 (by omega)) ?_ | refine p_call (rmove51 (by omega)) ?_ | refine p_call (rnb22 (by omega)) ?_ | refine p_call (touch30 (by omega)) ?_ | refine p_call (touch31 (by omega)) ?_ | refine p_call (touch32 (by omega)) ?_ | refine p_call lives ?_)))
theorem cellsMv530 {m n x y e : Int} (h : (-16384 ≤ m ∧ m ≤ 16384 ∧ -16384 ≤ n ∧ n ≤ 16384 ∧ (m + n) % 2 = 0) ∧ -4096 ≤ x ∧ x ≤ 4096 ∧ -4096 ≤ y ∧ y ≤ 4096 ∧ 0 ≤ e ∧ e ≤ 255 ∧ e % 3 = 0) : Cc 12 [.i 5, .i m, .i n, .i x, .i y, .i 3, .i e] [.b true] := by
  refine q12 rfl ?_; unfold p12
  have he : e % 3 = 0 := by omega
  by_cases hd : -4096 ≤ -y - 1 + m ∧ -y - 1 + m ≤ 4096 ∧ -4096 ≤ -x - 1 + n ∧ -x - 1 + n ≤ 4096 <;> by_cases hn : -4096 ≤ x - 1 ∧ x - 1 ≤ 4096 ∧ -4096 ≤ y ∧ y ≤ 4096 <;> by_cases ho : -4096 ≤ -(y) - 1 + m ∧ -(y) - 1 + m ≤ 4096 ∧ -4096 ≤ -(x - 1) - 1 + n ∧ -(x - 1) - 1 + n ≤ 4096
  all_goals (first | (exfalso; omega) | (repeat (first | simp (disch := omega) only [↓qxs, ↓qxc, ↓qxa, ↓qxb, he] | refine p_call (cmove53 (by omega)) ?_ | refine p_call (cmovel53 (by omega)) ?_ | refine p_call (cmove51 (by omega)) ?_ | refine p_call (cmovel51 (by omega)) ?_ | refine p_call (cmove_no (by omega)) ?_ | refine p_call (v2_ok (by omega)) ?_ | refine p_call (v3_ok (by omega)) ?_ | refine p_call (v3_no (by omega)) ?_ | refine p_call (rmove53 (by omega)) ?_ | refine p_call (rmove51 (by omega)) ?_ | refine p_call (rnb30 (by omega)) ?_ | refine p_call (touch20 (by omega)) ?_ | refine p_call (touch21 (by omega)) ?_ | refine p_call (touch22 (by omega)) ?_ | refine p_call lives ?_)))
theorem cellsMv531 {m n x y e : Int} (h : (-16384 ≤ m ∧ m ≤ 16384 ∧ -16384 ≤ n ∧ n ≤ 16384 ∧ (m + n) % 2 = 0) ∧ -4096 ≤ x ∧ x ≤ 4096 ∧ -4096 ≤ y ∧ y ≤ 4096 ∧ 0 ≤ e ∧ e ≤ 255 ∧ e % 3 = 1) : Cc 12 [.i 5, .i m, .i n, .i x, .i y, .i 3, .i e] [.b true] := by
  refine q12 rfl ?_; unfold p12
  have he : e % 3 = 1 := by omega
  by_cases hd : -4096 ≤ -y - 1 + m ∧ -y - 1 + m ≤ 4096 ∧ -4096 ≤ -x - 1 + n ∧ -x - 1 + n ≤ 4096
  all_goals (first | (exfalso; omega) | (repeat (first | simp (disch := omega) only [↓qxs, ↓qxc, ↓qxa, ↓qxb, he] | refine p_call (cmove53 (by omega)) ?_ | refine p_call (cmovel53 (by omega)) ?_ | refine p_call (cmove52 (by omega)) ?_ | refine p_call (cmovel52 (by omega)) ?_ | refine p_call (cmove_no (by omega)) ?_ | refine p_call (v2_ok (by omega)) ?_ | refine p_call (v3_ok (by omega)) ?_ | refine p_call (v3_no (by omega)) ?_ | refine p_call (rmove53 (by omega)) ?_ | refine p_call (rmove52 (by omega)) ?_ | refine p_call (rnb31 (by omega)) ?_ | refine p_call (touch20 (by omega)) ?_ | refine p_call (touch21 (by omega)) ?_ | refine p_call (touch22 (by omega)) ?_ | refine p_call lives ?_)))
theorem cellsMv532 {m n x y e : Int} (h : (-16384 ≤ m ∧ m ≤ 16384 ∧ -16384 ≤ n ∧ n ≤ 16384 ∧ (m + n) % 2 = 0) ∧ -4096 ≤ x ∧ x ≤ 4096 ∧ -4096 ≤ y ∧ y ≤ 4096 ∧ 0 ≤ e ∧ e ≤ 255 ∧ e % 3 = 2) : Cc 12 [.i 5, .i m, .i n, .i x, .i y, .i 3, .i e] [.b true] := by
  refine q12 rfl ?_; unfold p12
  have he : e % 3 = 2 := by omega
  by_cases hd : -4096 ≤ -y - 1 + m ∧ -y - 1 + m ≤ 4096 ∧ -4096 ≤ -x - 1 + n ∧ -x - 1 + n ≤ 4096
  all_goals (first | (exfalso; omega) | (repeat (first | simp (disch := omega) only [↓qxs, ↓qxc, ↓qxa, ↓qxb, he] | refine p_call (cmove53 (by omega)) ?_ | refine p_call (cmovel53 (by omega)) ?_ | refine p_call (cmove50 (by omega)) ?_ | refine p_call (cmovel50 (by omega)) ?_ | refine p_call (cmove_no (by omega)) ?_ | refine p_call (v2_ok (by omega)) ?_ | refine p_call (v3_ok (by omega)) ?_ | refine p_call (v3_no (by omega)) ?_ | refine p_call (rmove53 (by omega)) ?_ | refine p_call (rmove50 (by omega)) ?_ | refine p_call (rnb32 (by omega)) ?_ | refine p_call (touch20 (by omega)) ?_ | refine p_call (touch21 (by omega)) ?_ | refine p_call (touch22 (by omega)) ?_ | refine p_call lives ?_)))
end Go.Am

