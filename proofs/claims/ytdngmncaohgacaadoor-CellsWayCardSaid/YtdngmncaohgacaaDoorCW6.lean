/-
  PART 6 OF THE PROOF: C7 C9a C9b C9c C9d W1 W2 Lv3 Hx1 Hx2 Hx3 W3 Cd1 Cs1 Cs2 Cs3 W4 Cd2 (no conditions).
-/
import Derived.Test.YtdngmncaohgacaaDoorCW5
import Derived.SevenTiedAt
import Derived.Test.YtdngmncaohgacaaDoorCards
import Derived.Test.YtdngmncaohgacaaDoorTie
set_option linter.unusedSectionVars false
set_option linter.unusedSimpArgs false
set_option linter.unusedVariables false
set_option linter.constructorNameAsVariable false
set_option linter.defProp false
/-
 CONTRACTS, BY PROGRAM: moves of cells.
-/
set_option maxRecDepth 100000
namespace Go.Am
open Sx Go.Proofs
theorem middle {x y q : Int} (h : -1000000 ≤ x ∧ x ≤ 1000000 ∧ -1000000 ≤ y ∧ y ≤ 1000000) : Cc 82 [.i x, .i y, .i q] [.i (2 * x + 1), .i (2 * y + 1)] := by
 refine q82 rfl ?_; unfold p82
 repeat (first | simp (disch := omega) only [↓qxs, ↓qxc, ↓qxa])
 (try simp only [List.cons.injEq, Lf.i.injEq, and_true, true_and]); (try omega)
theorem eR {m n x y : Int} (h : (-16384 ≤ m ∧ m ≤ 16384 ∧ -16384 ≤ n ∧ n ≤ 16384 ∧ (m + n) % 2 = 0) ∧ -4096 ≤ x ∧ x ≤ 4096 ∧ -4096 ≤ y ∧ y ≤ 4096) : Cc 80 [.i 0, .i m, .i n, .i x, .i y, .i 0] [.i (x + m), .i (y + n), .i 0] := by
 refine q80 rfl ?_; unfold p80
 repeat (first | simp (disch := omega) only [↓qxs, ↓qxc, ↓qxa, ↓gs0] | refine az (by simp only [aW, putL, offX, Int.reduceToNat, Int.reduceAdd, Int.reduceMul, Int.reduceMod, Int.reduceSub, Int.reduceNeg, Int.reduceDiv, Nat.reduceAdd, Nat.reduceMul, Nat.reduceLeDiff, List.length_cons, List.length_nil, ↓reduceIte, List.drop_succ_cons, List.drop_zero, List.take_succ_cons, List.take_zero, List.cons_append, List.nil_append, Nat.zero_add, Int.toNat_zero, Nat.zero_mul, Nat.add_zero, Int.zero_add]; exact rfl) ?_ | refine au 6 ?_ | refine aa (middle (by omega)) ?_ | refine aa (aG (by omega)) ?_)
 (try simp only [List.cons.injEq, Lf.i.injEq, and_true, true_and]); (try omega)
theorem eS {m n x y : Int} (h : (-16384 ≤ m ∧ m ≤ 16384 ∧ -16384 ≤ n ∧ n ≤ 16384 ∧ (m + n) % 2 = 0) ∧ -4096 ≤ x ∧ x ≤ 4096 ∧ -4096 ≤ y ∧ y ≤ 4096) : Cc 80 [.i 0, .i m, .i n, .i x, .i y, .i 1] [.i (x + m), .i (y + n), .i 1] := by
 refine q80 rfl ?_; unfold p80
 repeat (first | simp (disch := omega) only [↓qxs, ↓qxc, ↓qxa, ↓gs1] | refine az (by simp only [aW, putL, offX, Int.reduceToNat, Int.reduceAdd, Int.reduceMul, Int.reduceMod, Int.reduceSub, Int.reduceNeg, Int.reduceDiv, Nat.reduceAdd, Nat.reduceMul, Nat.reduceLeDiff, List.length_cons, List.length_nil, ↓reduceIte, List.drop_succ_cons, List.drop_zero, List.take_succ_cons, List.take_zero, List.cons_append, List.nil_append, Nat.zero_add, Int.toNat_zero, Nat.zero_mul, Nat.add_zero, Int.zero_add]; exact rfl) ?_ | refine au 6 ?_ | refine aa (middle (by omega)) ?_ | refine aa (aG (by omega)) ?_)
 (try simp only [List.cons.injEq, Lf.i.injEq, and_true, true_and]); (try omega)
theorem eT {m n x y : Int} (h : (-16384 ≤ m ∧ m ≤ 16384 ∧ -16384 ≤ n ∧ n ≤ 16384 ∧ (m + n) % 2 = 0) ∧ -4096 ≤ x ∧ x ≤ 4096 ∧ -4096 ≤ y ∧ y ≤ 4096) : Cc 80 [.i 0, .i m, .i n, .i x, .i y, .i 2] [.i (x + m), .i (y + n), .i 2] := by
 refine q80 rfl ?_; unfold p80
 repeat (first | simp (disch := omega) only [↓qxs, ↓qxc, ↓qxa, ↓gs2] | refine az (by simp only [aW, putL, offX, Int.reduceToNat, Int.reduceAdd, Int.reduceMul, Int.reduceMod, Int.reduceSub, Int.reduceNeg, Int.reduceDiv, Nat.reduceAdd, Nat.reduceMul, Nat.reduceLeDiff, List.length_cons, List.length_nil, ↓reduceIte, List.drop_succ_cons, List.drop_zero, List.take_succ_cons, List.take_zero, List.cons_append, List.nil_append, Nat.zero_add, Int.toNat_zero, Nat.zero_mul, Nat.add_zero, Int.zero_add]; exact rfl) ?_ | refine au 6 ?_ | refine aa (middle (by omega)) ?_ | refine aa (aG (by omega)) ?_)
 (try simp only [List.cons.injEq, Lf.i.injEq, and_true, true_and]); (try omega)
theorem eU {m n x y : Int} (h : (-16384 ≤ m ∧ m ≤ 16384 ∧ -16384 ≤ n ∧ n ≤ 16384 ∧ (m + n) % 2 = 0) ∧ -4096 ≤ x ∧ x ≤ 4096 ∧ -4096 ≤ y ∧ y ≤ 4096) : Cc 80 [.i 0, .i m, .i n, .i x, .i y, .i 3] [.i (x + m), .i (y + n), .i 3] := by
 refine q80 rfl ?_; unfold p80
 repeat (first | simp (disch := omega) only [↓qxs, ↓qxc, ↓qxa, ↓gs3] | refine az (by simp only [aW, putL, offX, Int.reduceToNat, Int.reduceAdd, Int.reduceMul, Int.reduceMod, Int.reduceSub, Int.reduceNeg, Int.reduceDiv, Nat.reduceAdd, Nat.reduceMul, Nat.reduceLeDiff, List.length_cons, List.length_nil, ↓reduceIte, List.drop_succ_cons, List.drop_zero, List.take_succ_cons, List.take_zero, List.cons_append, List.nil_append, Nat.zero_add, Int.toNat_zero, Nat.zero_mul, Nat.add_zero, Int.zero_add]; exact rfl) ?_ | refine au 6 ?_ | refine aa (middle (by omega)) ?_ | refine aa (aG (by omega)) ?_)
 (try simp only [List.cons.injEq, Lf.i.injEq, and_true, true_and]); (try omega)
theorem eV {m n x y : Int} (h : (-16384 ≤ m ∧ m ≤ 16384 ∧ -16384 ≤ n ∧ n ≤ 16384 ∧ (m + n) % 2 = 0) ∧ -4096 ≤ x ∧ x ≤ 4096 ∧ -4096 ≤ y ∧ y ≤ 4096) : Cc 80 [.i 1, .i m, .i n, .i x, .i y, .i 0] [.i (-y - 1 + m), .i (x + n), .i 1] := by
 refine q80 rfl ?_; unfold p80
 repeat (first | simp (disch := omega) only [↓qxs, ↓qxc, ↓qxa, ↓gs0] | refine az (by simp only [aW, putL, offX, Int.reduceToNat, Int.reduceAdd, Int.reduceMul, Int.reduceMod, Int.reduceSub, Int.reduceNeg, Int.reduceDiv, Nat.reduceAdd, Nat.reduceMul, Nat.reduceLeDiff, List.length_cons, List.length_nil, ↓reduceIte, List.drop_succ_cons, List.drop_zero, List.take_succ_cons, List.take_zero, List.cons_append, List.nil_append, Nat.zero_add, Int.toNat_zero, Nat.zero_mul, Nat.add_zero, Int.zero_add]; exact rfl) ?_ | refine au 6 ?_ | refine aa (middle (by omega)) ?_ | refine aa (aH (by omega)) ?_)
 (try simp only [List.cons.injEq, Lf.i.injEq, and_true, true_and]); (try omega)
theorem eW {m n x y : Int} (h : (-16384 ≤ m ∧ m ≤ 16384 ∧ -16384 ≤ n ∧ n ≤ 16384 ∧ (m + n) % 2 = 0) ∧ -4096 ≤ x ∧ x ≤ 4096 ∧ -4096 ≤ y ∧ y ≤ 4096) : Cc 80 [.i 1, .i m, .i n, .i x, .i y, .i 1] [.i (-y - 1 + m), .i (x + n), .i 2] := by
 refine q80 rfl ?_; unfold p80
 repeat (first | simp (disch := omega) only [↓qxs, ↓qxc, ↓qxa, ↓gs1] | refine az (by simp only [aW, putL, offX, Int.reduceToNat, Int.reduceAdd, Int.reduceMul, Int.reduceMod, Int.reduceSub, Int.reduceNeg, Int.reduceDiv, Nat.reduceAdd, Nat.reduceMul, Nat.reduceLeDiff, List.length_cons, List.length_nil, ↓reduceIte, List.drop_succ_cons, List.drop_zero, List.take_succ_cons, List.take_zero, List.cons_append, List.nil_append, Nat.zero_add, Int.toNat_zero, Nat.zero_mul, Nat.add_zero, Int.zero_add]; exact rfl) ?_ | refine au 6 ?_ | refine aa (middle (by omega)) ?_ | refine aa (aH (by omega)) ?_)
 (try simp only [List.cons.injEq, Lf.i.injEq, and_true, true_and]); (try omega)
theorem eX {m n x y : Int} (h : (-16384 ≤ m ∧ m ≤ 16384 ∧ -16384 ≤ n ∧ n ≤ 16384 ∧ (m + n) % 2 = 0) ∧ -4096 ≤ x ∧ x ≤ 4096 ∧ -4096 ≤ y ∧ y ≤ 4096) : Cc 80 [.i 1, .i m, .i n, .i x, .i y, .i 2] [.i (-y - 1 + m), .i (x + n), .i 3] := by
 refine q80 rfl ?_; unfold p80
 repeat (first | simp (disch := omega) only [↓qxs, ↓qxc, ↓qxa, ↓gs2] | refine az (by simp only [aW, putL, offX, Int.reduceToNat, Int.reduceAdd, Int.reduceMul, Int.reduceMod, Int.reduceSub, Int.reduceNeg, Int.reduceDiv, Nat.reduceAdd, Nat.reduceMul, Nat.reduceLeDiff, List.length_cons, List.length_nil, ↓reduceIte, List.drop_succ_cons, List.drop_zero, List.take_succ_cons, List.take_zero, List.cons_append, List.nil_append, Nat.zero_add, Int.toNat_zero, Nat.zero_mul, Nat.add_zero, Int.zero_add]; exact rfl) ?_ | refine au 6 ?_ | refine aa (middle (by omega)) ?_ | refine aa (aH (by omega)) ?_)
 (try simp only [List.cons.injEq, Lf.i.injEq, and_true, true_and]); (try omega)
theorem eY {m n x y : Int} (h : (-16384 ≤ m ∧ m ≤ 16384 ∧ -16384 ≤ n ∧ n ≤ 16384 ∧ (m + n) % 2 = 0) ∧ -4096 ≤ x ∧ x ≤ 4096 ∧ -4096 ≤ y ∧ y ≤ 4096) : Cc 80 [.i 1, .i m, .i n, .i x, .i y, .i 3] [.i (-y - 1 + m), .i (x + n), .i 0] := by
 refine q80 rfl ?_; unfold p80
 repeat (first | simp (disch := omega) only [↓qxs, ↓qxc, ↓qxa, ↓gs3] | refine az (by simp only [aW, putL, offX, Int.reduceToNat, Int.reduceAdd, Int.reduceMul, Int.reduceMod, Int.reduceSub, Int.reduceNeg, Int.reduceDiv, Nat.reduceAdd, Nat.reduceMul, Nat.reduceLeDiff, List.length_cons, List.length_nil, ↓reduceIte, List.drop_succ_cons, List.drop_zero, List.take_succ_cons, List.take_zero, List.cons_append, List.nil_append, Nat.zero_add, Int.toNat_zero, Nat.zero_mul, Nat.add_zero, Int.zero_add]; exact rfl) ?_ | refine au 6 ?_ | refine aa (middle (by omega)) ?_ | refine aa (aH (by omega)) ?_)
 (try simp only [List.cons.injEq, Lf.i.injEq, and_true, true_and]); (try omega)
theorem eZ {m n x y : Int} (h : (-16384 ≤ m ∧ m ≤ 16384 ∧ -16384 ≤ n ∧ n ≤ 16384 ∧ (m + n) % 2 = 0) ∧ -4096 ≤ x ∧ x ≤ 4096 ∧ -4096 ≤ y ∧ y ≤ 4096) : Cc 80 [.i 2, .i m, .i n, .i x, .i y, .i 0] [.i (-x - 1 + m), .i (-y - 1 + n), .i 2] := by
 refine q80 rfl ?_; unfold p80
 repeat (first | simp (disch := omega) only [↓qxs, ↓qxc, ↓qxa, ↓gs0] | refine az (by simp only [aW, putL, offX, Int.reduceToNat, Int.reduceAdd, Int.reduceMul, Int.reduceMod, Int.reduceSub, Int.reduceNeg, Int.reduceDiv, Nat.reduceAdd, Nat.reduceMul, Nat.reduceLeDiff, List.length_cons, List.length_nil, ↓reduceIte, List.drop_succ_cons, List.drop_zero, List.take_succ_cons, List.take_zero, List.cons_append, List.nil_append, Nat.zero_add, Int.toNat_zero, Nat.zero_mul, Nat.add_zero, Int.zero_add]; exact rfl) ?_ | refine au 6 ?_ | refine aa (middle (by omega)) ?_ | refine aa (aI (by omega)) ?_)
 (try simp only [List.cons.injEq, Lf.i.injEq, and_true, true_and]); (try omega)
theorem fa {m n x y : Int} (h : (-16384 ≤ m ∧ m ≤ 16384 ∧ -16384 ≤ n ∧ n ≤ 16384 ∧ (m + n) % 2 = 0) ∧ -4096 ≤ x ∧ x ≤ 4096 ∧ -4096 ≤ y ∧ y ≤ 4096) : Cc 80 [.i 2, .i m, .i n, .i x, .i y, .i 1] [.i (-x - 1 + m), .i (-y - 1 + n), .i 3] := by
 refine q80 rfl ?_; unfold p80
 repeat (first | simp (disch := omega) only [↓qxs, ↓qxc, ↓qxa, ↓gs1] | refine az (by simp only [aW, putL, offX, Int.reduceToNat, Int.reduceAdd, Int.reduceMul, Int.reduceMod, Int.reduceSub, Int.reduceNeg, Int.reduceDiv, Nat.reduceAdd, Nat.reduceMul, Nat.reduceLeDiff, List.length_cons, List.length_nil, ↓reduceIte, List.drop_succ_cons, List.drop_zero, List.take_succ_cons, List.take_zero, List.cons_append, List.nil_append, Nat.zero_add, Int.toNat_zero, Nat.zero_mul, Nat.add_zero, Int.zero_add]; exact rfl) ?_ | refine au 6 ?_ | refine aa (middle (by omega)) ?_ | refine aa (aI (by omega)) ?_)
 (try simp only [List.cons.injEq, Lf.i.injEq, and_true, true_and]); (try omega)
theorem fb {m n x y : Int} (h : (-16384 ≤ m ∧ m ≤ 16384 ∧ -16384 ≤ n ∧ n ≤ 16384 ∧ (m + n) % 2 = 0) ∧ -4096 ≤ x ∧ x ≤ 4096 ∧ -4096 ≤ y ∧ y ≤ 4096) : Cc 80 [.i 2, .i m, .i n, .i x, .i y, .i 2] [.i (-x - 1 + m), .i (-y - 1 + n), .i 0] := by
 refine q80 rfl ?_; unfold p80
 repeat (first | simp (disch := omega) only [↓qxs, ↓qxc, ↓qxa, ↓gs2] | refine az (by simp only [aW, putL, offX, Int.reduceToNat, Int.reduceAdd, Int.reduceMul, Int.reduceMod, Int.reduceSub, Int.reduceNeg, Int.reduceDiv, Nat.reduceAdd, Nat.reduceMul, Nat.reduceLeDiff, List.length_cons, List.length_nil, ↓reduceIte, List.drop_succ_cons, List.drop_zero, List.take_succ_cons, List.take_zero, List.cons_append, List.nil_append, Nat.zero_add, Int.toNat_zero, Nat.zero_mul, Nat.add_zero, Int.zero_add]; exact rfl) ?_ | refine au 6 ?_ | refine aa (middle (by omega)) ?_ | refine aa (aI (by omega)) ?_)
 (try simp only [List.cons.injEq, Lf.i.injEq, and_true, true_and]); (try omega)
theorem fc {m n x y : Int} (h : (-16384 ≤ m ∧ m ≤ 16384 ∧ -16384 ≤ n ∧ n ≤ 16384 ∧ (m + n) % 2 = 0) ∧ -4096 ≤ x ∧ x ≤ 4096 ∧ -4096 ≤ y ∧ y ≤ 4096) : Cc 80 [.i 2, .i m, .i n, .i x, .i y, .i 3] [.i (-x - 1 + m), .i (-y - 1 + n), .i 1] := by
 refine q80 rfl ?_; unfold p80
 repeat (first | simp (disch := omega) only [↓qxs, ↓qxc, ↓qxa, ↓gs3] | refine az (by simp only [aW, putL, offX, Int.reduceToNat, Int.reduceAdd, Int.reduceMul, Int.reduceMod, Int.reduceSub, Int.reduceNeg, Int.reduceDiv, Nat.reduceAdd, Nat.reduceMul, Nat.reduceLeDiff, List.length_cons, List.length_nil, ↓reduceIte, List.drop_succ_cons, List.drop_zero, List.take_succ_cons, List.take_zero, List.cons_append, List.nil_append, Nat.zero_add, Int.toNat_zero, Nat.zero_mul, Nat.add_zero, Int.zero_add]; exact rfl) ?_ | refine au 6 ?_ | refine aa (middle (by omega)) ?_ | refine aa (aI (by omega)) ?_)
 (try simp only [List.cons.injEq, Lf.i.injEq, and_true, true_and]); (try omega)
theorem fe {m n x y : Int} (h : (-16384 ≤ m ∧ m ≤ 16384 ∧ -16384 ≤ n ∧ n ≤ 16384 ∧ (m + n) % 2 = 0) ∧ -4096 ≤ x ∧ x ≤ 4096 ∧ -4096 ≤ y ∧ y ≤ 4096) : Cc 80 [.i 3, .i m, .i n, .i x, .i y, .i 0] [.i (y + m), .i (-x - 1 + n), .i 3] := by
 refine q80 rfl ?_; unfold p80
 repeat (first | simp (disch := omega) only [↓qxs, ↓qxc, ↓qxa, ↓gs0] | refine az (by simp only [aW, putL, offX, Int.reduceToNat, Int.reduceAdd, Int.reduceMul, Int.reduceMod, Int.reduceSub, Int.reduceNeg, Int.reduceDiv, Nat.reduceAdd, Nat.reduceMul, Nat.reduceLeDiff, List.length_cons, List.length_nil, ↓reduceIte, List.drop_succ_cons, List.drop_zero, List.take_succ_cons, List.take_zero, List.cons_append, List.nil_append, Nat.zero_add, Int.toNat_zero, Nat.zero_mul, Nat.add_zero, Int.zero_add]; exact rfl) ?_ | refine au 6 ?_ | refine aa (middle (by omega)) ?_ | refine aa (aJ (by omega)) ?_)
 (try simp only [List.cons.injEq, Lf.i.injEq, and_true, true_and]); (try omega)
theorem ff {m n x y : Int} (h : (-16384 ≤ m ∧ m ≤ 16384 ∧ -16384 ≤ n ∧ n ≤ 16384 ∧ (m + n) % 2 = 0) ∧ -4096 ≤ x ∧ x ≤ 4096 ∧ -4096 ≤ y ∧ y ≤ 4096) : Cc 80 [.i 3, .i m, .i n, .i x, .i y, .i 1] [.i (y + m), .i (-x - 1 + n), .i 0] := by
 refine q80 rfl ?_; unfold p80
 repeat (first | simp (disch := omega) only [↓qxs, ↓qxc, ↓qxa, ↓gs1] | refine az (by simp only [aW, putL, offX, Int.reduceToNat, Int.reduceAdd, Int.reduceMul, Int.reduceMod, Int.reduceSub, Int.reduceNeg, Int.reduceDiv, Nat.reduceAdd, Nat.reduceMul, Nat.reduceLeDiff, List.length_cons, List.length_nil, ↓reduceIte, List.drop_succ_cons, List.drop_zero, List.take_succ_cons, List.take_zero, List.cons_append, List.nil_append, Nat.zero_add, Int.toNat_zero, Nat.zero_mul, Nat.add_zero, Int.zero_add]; exact rfl) ?_ | refine au 6 ?_ | refine aa (middle (by omega)) ?_ | refine aa (aJ (by omega)) ?_)
 (try simp only [List.cons.injEq, Lf.i.injEq, and_true, true_and]); (try omega)
theorem fg {m n x y : Int} (h : (-16384 ≤ m ∧ m ≤ 16384 ∧ -16384 ≤ n ∧ n ≤ 16384 ∧ (m + n) % 2 = 0) ∧ -4096 ≤ x ∧ x ≤ 4096 ∧ -4096 ≤ y ∧ y ≤ 4096) : Cc 80 [.i 3, .i m, .i n, .i x, .i y, .i 2] [.i (y + m), .i (-x - 1 + n), .i 1] := by
 refine q80 rfl ?_; unfold p80
 repeat (first | simp (disch := omega) only [↓qxs, ↓qxc, ↓qxa, ↓gs2] | refine az (by simp only [aW, putL, offX, Int.reduceToNat, Int.reduceAdd, Int.reduceMul, Int.reduceMod, Int.reduceSub, Int.reduceNeg, Int.reduceDiv, Nat.reduceAdd, Nat.reduceMul, Nat.reduceLeDiff, List.length_cons, List.length_nil, ↓reduceIte, List.drop_succ_cons, List.drop_zero, List.take_succ_cons, List.take_zero, List.cons_append, List.nil_append, Nat.zero_add, Int.toNat_zero, Nat.zero_mul, Nat.add_zero, Int.zero_add]; exact rfl) ?_ | refine au 6 ?_ | refine aa (middle (by omega)) ?_ | refine aa (aJ (by omega)) ?_)
 (try simp only [List.cons.injEq, Lf.i.injEq, and_true, true_and]); (try omega)
theorem fh {m n x y : Int} (h : (-16384 ≤ m ∧ m ≤ 16384 ∧ -16384 ≤ n ∧ n ≤ 16384 ∧ (m + n) % 2 = 0) ∧ -4096 ≤ x ∧ x ≤ 4096 ∧ -4096 ≤ y ∧ y ≤ 4096) : Cc 80 [.i 3, .i m, .i n, .i x, .i y, .i 3] [.i (y + m), .i (-x - 1 + n), .i 2] := by
 refine q80 rfl ?_; unfold p80
 repeat (first | simp (disch := omega) only [↓qxs, ↓qxc, ↓qxa, ↓gs3] | refine az (by simp only [aW, putL, offX, Int.reduceToNat, Int.reduceAdd, Int.reduceMul, Int.reduceMod, Int.reduceSub, Int.reduceNeg, Int.reduceDiv, Nat.reduceAdd, Nat.reduceMul, Nat.reduceLeDiff, List.length_cons, List.length_nil, ↓reduceIte, List.drop_succ_cons, List.drop_zero, List.take_succ_cons, List.take_zero, List.cons_append, List.nil_append, Nat.zero_add, Int.toNat_zero, Nat.zero_mul, Nat.add_zero, Int.zero_add]; exact rfl) ?_ | refine au 6 ?_ | refine aa (middle (by omega)) ?_ | refine aa (aJ (by omega)) ?_)
 (try simp only [List.cons.injEq, Lf.i.injEq, and_true, true_and]); (try omega)
theorem fi {m n x y : Int} (h : (-16384 ≤ m ∧ m ≤ 16384 ∧ -16384 ≤ n ∧ n ≤ 16384 ∧ (m + n) % 2 = 0) ∧ -4096 ≤ x ∧ x ≤ 4096 ∧ -4096 ≤ y ∧ y ≤ 4096) : Cc 80 [.i 4, .i m, .i n, .i x, .i y, .i 0] [.i (-x - 1 + m), .i (y + n), .i 0] := by
 refine q80 rfl ?_; unfold p80
 repeat (first | simp (disch := omega) only [↓qxs, ↓qxc, ↓qxa, ↓gs0] | refine az (by simp only [aW, putL, offX, Int.reduceToNat, Int.reduceAdd, Int.reduceMul, Int.reduceMod, Int.reduceSub, Int.reduceNeg, Int.reduceDiv, Nat.reduceAdd, Nat.reduceMul, Nat.reduceLeDiff, List.length_cons, List.length_nil, ↓reduceIte, List.drop_succ_cons, List.drop_zero, List.take_succ_cons, List.take_zero, List.cons_append, List.nil_append, Nat.zero_add, Int.toNat_zero, Nat.zero_mul, Nat.add_zero, Int.zero_add]; exact rfl) ?_ | refine au 6 ?_ | refine aa (middle (by omega)) ?_ | refine aa (aK (by omega)) ?_)
 (try simp only [List.cons.injEq, Lf.i.injEq, and_true, true_and]); (try omega)
theorem fj {m n x y : Int} (h : (-16384 ≤ m ∧ m ≤ 16384 ∧ -16384 ≤ n ∧ n ≤ 16384 ∧ (m + n) % 2 = 0) ∧ -4096 ≤ x ∧ x ≤ 4096 ∧ -4096 ≤ y ∧ y ≤ 4096) : Cc 80 [.i 4, .i m, .i n, .i x, .i y, .i 1] [.i (-x - 1 + m), .i (y + n), .i 3] := by
 refine q80 rfl ?_; unfold p80
 repeat (first | simp (disch := omega) only [↓qxs, ↓qxc, ↓qxa, ↓gs1] | refine az (by simp only [aW, putL, offX, Int.reduceToNat, Int.reduceAdd, Int.reduceMul, Int.reduceMod, Int.reduceSub, Int.reduceNeg, Int.reduceDiv, Nat.reduceAdd, Nat.reduceMul, Nat.reduceLeDiff, List.length_cons, List.length_nil, ↓reduceIte, List.drop_succ_cons, List.drop_zero, List.take_succ_cons, List.take_zero, List.cons_append, List.nil_append, Nat.zero_add, Int.toNat_zero, Nat.zero_mul, Nat.add_zero, Int.zero_add]; exact rfl) ?_ | refine au 6 ?_ | refine aa (middle (by omega)) ?_ | refine aa (aK (by omega)) ?_)
 (try simp only [List.cons.injEq, Lf.i.injEq, and_true, true_and]); (try omega)
theorem fk {m n x y : Int} (h : (-16384 ≤ m ∧ m ≤ 16384 ∧ -16384 ≤ n ∧ n ≤ 16384 ∧ (m + n) % 2 = 0) ∧ -4096 ≤ x ∧ x ≤ 4096 ∧ -4096 ≤ y ∧ y ≤ 4096) : Cc 80 [.i 4, .i m, .i n, .i x, .i y, .i 2] [.i (-x - 1 + m), .i (y + n), .i 2] := by
 refine q80 rfl ?_; unfold p80
 repeat (first | simp (disch := omega) only [↓qxs, ↓qxc, ↓qxa, ↓gs2] | refine az (by simp only [aW, putL, offX, Int.reduceToNat, Int.reduceAdd, Int.reduceMul, Int.reduceMod, Int.reduceSub, Int.reduceNeg, Int.reduceDiv, Nat.reduceAdd, Nat.reduceMul, Nat.reduceLeDiff, List.length_cons, List.length_nil, ↓reduceIte, List.drop_succ_cons, List.drop_zero, List.take_succ_cons, List.take_zero, List.cons_append, List.nil_append, Nat.zero_add, Int.toNat_zero, Nat.zero_mul, Nat.add_zero, Int.zero_add]; exact rfl) ?_ | refine au 6 ?_ | refine aa (middle (by omega)) ?_ | refine aa (aK (by omega)) ?_)
 (try simp only [List.cons.injEq, Lf.i.injEq, and_true, true_and]); (try omega)
theorem fl {m n x y : Int} (h : (-16384 ≤ m ∧ m ≤ 16384 ∧ -16384 ≤ n ∧ n ≤ 16384 ∧ (m + n) % 2 = 0) ∧ -4096 ≤ x ∧ x ≤ 4096 ∧ -4096 ≤ y ∧ y ≤ 4096) : Cc 80 [.i 4, .i m, .i n, .i x, .i y, .i 3] [.i (-x - 1 + m), .i (y + n), .i 1] := by
 refine q80 rfl ?_; unfold p80
 repeat (first | simp (disch := omega) only [↓qxs, ↓qxc, ↓qxa, ↓gs3] | refine az (by simp only [aW, putL, offX, Int.reduceToNat, Int.reduceAdd, Int.reduceMul, Int.reduceMod, Int.reduceSub, Int.reduceNeg, Int.reduceDiv, Nat.reduceAdd, Nat.reduceMul, Nat.reduceLeDiff, List.length_cons, List.length_nil, ↓reduceIte, List.drop_succ_cons, List.drop_zero, List.take_succ_cons, List.take_zero, List.cons_append, List.nil_append, Nat.zero_add, Int.toNat_zero, Nat.zero_mul, Nat.add_zero, Int.zero_add]; exact rfl) ?_ | refine au 6 ?_ | refine aa (middle (by omega)) ?_ | refine aa (aK (by omega)) ?_)
 (try simp only [List.cons.injEq, Lf.i.injEq, and_true, true_and]); (try omega)
theorem fm {m n x y : Int} (h : (-16384 ≤ m ∧ m ≤ 16384 ∧ -16384 ≤ n ∧ n ≤ 16384 ∧ (m + n) % 2 = 0) ∧ -4096 ≤ x ∧ x ≤ 4096 ∧ -4096 ≤ y ∧ y ≤ 4096) : Cc 80 [.i 5, .i m, .i n, .i x, .i y, .i 0] [.i (-y - 1 + m), .i (-x - 1 + n), .i 1] := by
 refine q80 rfl ?_; unfold p80
 repeat (first | simp (disch := omega) only [↓qxs, ↓qxc, ↓qxa, ↓gs0] | refine az (by simp only [aW, putL, offX, Int.reduceToNat, Int.reduceAdd, Int.reduceMul, Int.reduceMod, Int.reduceSub, Int.reduceNeg, Int.reduceDiv, Nat.reduceAdd, Nat.reduceMul, Nat.reduceLeDiff, List.length_cons, List.length_nil, ↓reduceIte, List.drop_succ_cons, List.drop_zero, List.take_succ_cons, List.take_zero, List.cons_append, List.nil_append, Nat.zero_add, Int.toNat_zero, Nat.zero_mul, Nat.add_zero, Int.zero_add]; exact rfl) ?_ | refine au 6 ?_ | refine aa (middle (by omega)) ?_ | refine aa (aL (by omega)) ?_)
 (try simp only [List.cons.injEq, Lf.i.injEq, and_true, true_and]); (try omega)
theorem fo {m n x y : Int} (h : (-16384 ≤ m ∧ m ≤ 16384 ∧ -16384 ≤ n ∧ n ≤ 16384 ∧ (m + n) % 2 = 0) ∧ -4096 ≤ x ∧ x ≤ 4096 ∧ -4096 ≤ y ∧ y ≤ 4096) : Cc 80 [.i 5, .i m, .i n, .i x, .i y, .i 1] [.i (-y - 1 + m), .i (-x - 1 + n), .i 0] := by
 refine q80 rfl ?_; unfold p80
 repeat (first | simp (disch := omega) only [↓qxs, ↓qxc, ↓qxa, ↓gs1] | refine az (by simp only [aW, putL, offX, Int.reduceToNat, Int.reduceAdd, Int.reduceMul, Int.reduceMod, Int.reduceSub, Int.reduceNeg, Int.reduceDiv, Nat.reduceAdd, Nat.reduceMul, Nat.reduceLeDiff, List.length_cons, List.length_nil, ↓reduceIte, List.drop_succ_cons, List.drop_zero, List.take_succ_cons, List.take_zero, List.cons_append, List.nil_append, Nat.zero_add, Int.toNat_zero, Nat.zero_mul, Nat.add_zero, Int.zero_add]; exact rfl) ?_ | refine au 6 ?_ | refine aa (middle (by omega)) ?_ | refine aa (aL (by omega)) ?_)
 (try simp only [List.cons.injEq, Lf.i.injEq, and_true, true_and]); (try omega)
theorem fp {m n x y : Int} (h : (-16384 ≤ m ∧ m ≤ 16384 ∧ -16384 ≤ n ∧ n ≤ 16384 ∧ (m + n) % 2 = 0) ∧ -4096 ≤ x ∧ x ≤ 4096 ∧ -4096 ≤ y ∧ y ≤ 4096) : Cc 80 [.i 5, .i m, .i n, .i x, .i y, .i 2] [.i (-y - 1 + m), .i (-x - 1 + n), .i 3] := by
 refine q80 rfl ?_; unfold p80
 repeat (first | simp (disch := omega) only [↓qxs, ↓qxc, ↓qxa, ↓gs2] | refine az (by simp only [aW, putL, offX, Int.reduceToNat, Int.reduceAdd, Int.reduceMul, Int.reduceMod, Int.reduceSub, Int.reduceNeg, Int.reduceDiv, Nat.reduceAdd, Nat.reduceMul, Nat.reduceLeDiff, List.length_cons, List.length_nil, ↓reduceIte, List.drop_succ_cons, List.drop_zero, List.take_succ_cons, List.take_zero, List.cons_append, List.nil_append, Nat.zero_add, Int.toNat_zero, Nat.zero_mul, Nat.add_zero, Int.zero_add]; exact rfl) ?_ | refine au 6 ?_ | refine aa (middle (by omega)) ?_ | refine aa (aL (by omega)) ?_)
 (try simp only [List.cons.injEq, Lf.i.injEq, and_true, true_and]); (try omega)
theorem fq {m n x y : Int} (h : (-16384 ≤ m ∧ m ≤ 16384 ∧ -16384 ≤ n ∧ n ≤ 16384 ∧ (m + n) % 2 = 0) ∧ -4096 ≤ x ∧ x ≤ 4096 ∧ -4096 ≤ y ∧ y ≤ 4096) : Cc 80 [.i 5, .i m, .i n, .i x, .i y, .i 3] [.i (-y - 1 + m), .i (-x - 1 + n), .i 2] := by
 refine q80 rfl ?_; unfold p80
 repeat (first | simp (disch := omega) only [↓qxs, ↓qxc, ↓qxa, ↓gs3] | refine az (by simp only [aW, putL, offX, Int.reduceToNat, Int.reduceAdd, Int.reduceMul, Int.reduceMod, Int.reduceSub, Int.reduceNeg, Int.reduceDiv, Nat.reduceAdd, Nat.reduceMul, Nat.reduceLeDiff, List.length_cons, List.length_nil, ↓reduceIte, List.drop_succ_cons, List.drop_zero, List.take_succ_cons, List.take_zero, List.cons_append, List.nil_append, Nat.zero_add, Int.toNat_zero, Nat.zero_mul, Nat.add_zero, Int.zero_add]; exact rfl) ?_ | refine au 6 ?_ | refine aa (middle (by omega)) ?_ | refine aa (aL (by omega)) ?_)
 (try simp only [List.cons.injEq, Lf.i.injEq, and_true, true_and]); (try omega)
theorem ft {m n x y : Int} (h : (-16384 ≤ m ∧ m ≤ 16384 ∧ -16384 ≤ n ∧ n ≤ 16384 ∧ (m + n) % 2 = 0) ∧ -4096 ≤ x ∧ x ≤ 4096 ∧ -4096 ≤ y ∧ y ≤ 4096) : Cc 80 [.i 6, .i m, .i n, .i x, .i y, .i 0] [.i (x + m), .i (-y - 1 + n), .i 2] := by
 refine q80 rfl ?_; unfold p80
 repeat (first | simp (disch := omega) only [↓qxs, ↓qxc, ↓qxa, ↓gs0] | refine az (by simp only [aW, putL, offX, Int.reduceToNat, Int.reduceAdd, Int.reduceMul, Int.reduceMod, Int.reduceSub, Int.reduceNeg, Int.reduceDiv, Nat.reduceAdd, Nat.reduceMul, Nat.reduceLeDiff, List.length_cons, List.length_nil, ↓reduceIte, List.drop_succ_cons, List.drop_zero, List.take_succ_cons, List.take_zero, List.cons_append, List.nil_append, Nat.zero_add, Int.toNat_zero, Nat.zero_mul, Nat.add_zero, Int.zero_add]; exact rfl) ?_ | refine au 6 ?_ | refine aa (middle (by omega)) ?_ | refine aa (aM (by omega)) ?_)
 (try simp only [List.cons.injEq, Lf.i.injEq, and_true, true_and]); (try omega)
theorem fv {m n x y : Int} (h : (-16384 ≤ m ∧ m ≤ 16384 ∧ -16384 ≤ n ∧ n ≤ 16384 ∧ (m + n) % 2 = 0) ∧ -4096 ≤ x ∧ x ≤ 4096 ∧ -4096 ≤ y ∧ y ≤ 4096) : Cc 80 [.i 6, .i m, .i n, .i x, .i y, .i 1] [.i (x + m), .i (-y - 1 + n), .i 1] := by
 refine q80 rfl ?_; unfold p80
 repeat (first | simp (disch := omega) only [↓qxs, ↓qxc, ↓qxa, ↓gs1] | refine az (by simp only [aW, putL, offX, Int.reduceToNat, Int.reduceAdd, Int.reduceMul, Int.reduceMod, Int.reduceSub, Int.reduceNeg, Int.reduceDiv, Nat.reduceAdd, Nat.reduceMul, Nat.reduceLeDiff, List.length_cons, List.length_nil, ↓reduceIte, List.drop_succ_cons, List.drop_zero, List.take_succ_cons, List.take_zero, List.cons_append, List.nil_append, Nat.zero_add, Int.toNat_zero, Nat.zero_mul, Nat.add_zero, Int.zero_add]; exact rfl) ?_ | refine au 6 ?_ | refine aa (middle (by omega)) ?_ | refine aa (aM (by omega)) ?_)
 (try simp only [List.cons.injEq, Lf.i.injEq, and_true, true_and]); (try omega)
theorem fw {m n x y : Int} (h : (-16384 ≤ m ∧ m ≤ 16384 ∧ -16384 ≤ n ∧ n ≤ 16384 ∧ (m + n) % 2 = 0) ∧ -4096 ≤ x ∧ x ≤ 4096 ∧ -4096 ≤ y ∧ y ≤ 4096) : Cc 80 [.i 6, .i m, .i n, .i x, .i y, .i 2] [.i (x + m), .i (-y - 1 + n), .i 0] := by
 refine q80 rfl ?_; unfold p80
 repeat (first | simp (disch := omega) only [↓qxs, ↓qxc, ↓qxa, ↓gs2] | refine az (by simp only [aW, putL, offX, Int.reduceToNat, Int.reduceAdd, Int.reduceMul, Int.reduceMod, Int.reduceSub, Int.reduceNeg, Int.reduceDiv, Nat.reduceAdd, Nat.reduceMul, Nat.reduceLeDiff, List.length_cons, List.length_nil, ↓reduceIte, List.drop_succ_cons, List.drop_zero, List.take_succ_cons, List.take_zero, List.cons_append, List.nil_append, Nat.zero_add, Int.toNat_zero, Nat.zero_mul, Nat.add_zero, Int.zero_add]; exact rfl) ?_ | refine au 6 ?_ | refine aa (middle (by omega)) ?_ | refine aa (aM (by omega)) ?_)
 (try simp only [List.cons.injEq, Lf.i.injEq, and_true, true_and]); (try omega)
theorem fy {m n x y : Int} (h : (-16384 ≤ m ∧ m ≤ 16384 ∧ -16384 ≤ n ∧ n ≤ 16384 ∧ (m + n) % 2 = 0) ∧ -4096 ≤ x ∧ x ≤ 4096 ∧ -4096 ≤ y ∧ y ≤ 4096) : Cc 80 [.i 6, .i m, .i n, .i x, .i y, .i 3] [.i (x + m), .i (-y - 1 + n), .i 3] := by
 refine q80 rfl ?_; unfold p80
 repeat (first | simp (disch := omega) only [↓qxs, ↓qxc, ↓qxa, ↓gs3] | refine az (by simp only [aW, putL, offX, Int.reduceToNat, Int.reduceAdd, Int.reduceMul, Int.reduceMod, Int.reduceSub, Int.reduceNeg, Int.reduceDiv, Nat.reduceAdd, Nat.reduceMul, Nat.reduceLeDiff, List.length_cons, List.length_nil, ↓reduceIte, List.drop_succ_cons, List.drop_zero, List.take_succ_cons, List.take_zero, List.cons_append, List.nil_append, Nat.zero_add, Int.toNat_zero, Nat.zero_mul, Nat.add_zero, Int.zero_add]; exact rfl) ?_ | refine au 6 ?_ | refine aa (middle (by omega)) ?_ | refine aa (aM (by omega)) ?_)
 (try simp only [List.cons.injEq, Lf.i.injEq, and_true, true_and]); (try omega)
theorem fz {m n x y : Int} (h : (-16384 ≤ m ∧ m ≤ 16384 ∧ -16384 ≤ n ∧ n ≤ 16384 ∧ (m + n) % 2 = 0) ∧ -4096 ≤ x ∧ x ≤ 4096 ∧ -4096 ≤ y ∧ y ≤ 4096) : Cc 80 [.i 7, .i m, .i n, .i x, .i y, .i 0] [.i (y + m), .i (x + n), .i 3] := by
 refine q80 rfl ?_; unfold p80
 repeat (first | simp (disch := omega) only [↓qxs, ↓qxc, ↓qxa, ↓gs0] | refine az (by simp only [aW, putL, offX, Int.reduceToNat, Int.reduceAdd, Int.reduceMul, Int.reduceMod, Int.reduceSub, Int.reduceNeg, Int.reduceDiv, Nat.reduceAdd, Nat.reduceMul, Nat.reduceLeDiff, List.length_cons, List.length_nil, ↓reduceIte, List.drop_succ_cons, List.drop_zero, List.take_succ_cons, List.take_zero, List.cons_append, List.nil_append, Nat.zero_add, Int.toNat_zero, Nat.zero_mul, Nat.add_zero, Int.zero_add]; exact rfl) ?_ | refine au 6 ?_ | refine aa (middle (by omega)) ?_ | refine aa (aO (by omega)) ?_)
 (try simp only [List.cons.injEq, Lf.i.injEq, and_true, true_and]); (try omega)
theorem fA {m n x y : Int} (h : (-16384 ≤ m ∧ m ≤ 16384 ∧ -16384 ≤ n ∧ n ≤ 16384 ∧ (m + n) % 2 = 0) ∧ -4096 ≤ x ∧ x ≤ 4096 ∧ -4096 ≤ y ∧ y ≤ 4096) : Cc 80 [.i 7, .i m, .i n, .i x, .i y, .i 1] [.i (y + m), .i (x + n), .i 2] := by
 refine q80 rfl ?_; unfold p80
 repeat (first | simp (disch := omega) only [↓qxs, ↓qxc, ↓qxa, ↓gs1] | refine az (by simp only [aW, putL, offX, Int.reduceToNat, Int.reduceAdd, Int.reduceMul, Int.reduceMod, Int.reduceSub, Int.reduceNeg, Int.reduceDiv, Nat.reduceAdd, Nat.reduceMul, Nat.reduceLeDiff, List.length_cons, List.length_nil, ↓reduceIte, List.drop_succ_cons, List.drop_zero, List.take_succ_cons, List.take_zero, List.cons_append, List.nil_append, Nat.zero_add, Int.toNat_zero, Nat.zero_mul, Nat.add_zero, Int.zero_add]; exact rfl) ?_ | refine au 6 ?_ | refine aa (middle (by omega)) ?_ | refine aa (aO (by omega)) ?_)
 (try simp only [List.cons.injEq, Lf.i.injEq, and_true, true_and]); (try omega)
theorem fC {m n x y : Int} (h : (-16384 ≤ m ∧ m ≤ 16384 ∧ -16384 ≤ n ∧ n ≤ 16384 ∧ (m + n) % 2 = 0) ∧ -4096 ≤ x ∧ x ≤ 4096 ∧ -4096 ≤ y ∧ y ≤ 4096) : Cc 80 [.i 7, .i m, .i n, .i x, .i y, .i 2] [.i (y + m), .i (x + n), .i 1] := by
 refine q80 rfl ?_; unfold p80
 repeat (first | simp (disch := omega) only [↓qxs, ↓qxc, ↓qxa, ↓gs2] | refine az (by simp only [aW, putL, offX, Int.reduceToNat, Int.reduceAdd, Int.reduceMul, Int.reduceMod, Int.reduceSub, Int.reduceNeg, Int.reduceDiv, Nat.reduceAdd, Nat.reduceMul, Nat.reduceLeDiff, List.length_cons, List.length_nil, ↓reduceIte, List.drop_succ_cons, List.drop_zero, List.take_succ_cons, List.take_zero, List.cons_append, List.nil_append, Nat.zero_add, Int.toNat_zero, Nat.zero_mul, Nat.add_zero, Int.zero_add]; exact rfl) ?_ | refine au 6 ?_ | refine aa (middle (by omega)) ?_ | refine aa (aO (by omega)) ?_)
 (try simp only [List.cons.injEq, Lf.i.injEq, and_true, true_and]); (try omega)
theorem fD {m n x y : Int} (h : (-16384 ≤ m ∧ m ≤ 16384 ∧ -16384 ≤ n ∧ n ≤ 16384 ∧ (m + n) % 2 = 0) ∧ -4096 ≤ x ∧ x ≤ 4096 ∧ -4096 ≤ y ∧ y ≤ 4096) : Cc 80 [.i 7, .i m, .i n, .i x, .i y, .i 3] [.i (y + m), .i (x + n), .i 0] := by
 refine q80 rfl ?_; unfold p80
 repeat (first | simp (disch := omega) only [↓qxs, ↓qxc, ↓qxa, ↓gs3] | refine az (by simp only [aW, putL, offX, Int.reduceToNat, Int.reduceAdd, Int.reduceMul, Int.reduceMod, Int.reduceSub, Int.reduceNeg, Int.reduceDiv, Nat.reduceAdd, Nat.reduceMul, Nat.reduceLeDiff, List.length_cons, List.length_nil, ↓reduceIte, List.drop_succ_cons, List.drop_zero, List.take_succ_cons, List.take_zero, List.cons_append, List.nil_append, Nat.zero_add, Int.toNat_zero, Nat.zero_mul, Nat.add_zero, Int.zero_add]; exact rfl) ?_ | refine au 6 ?_ | refine aa (middle (by omega)) ?_ | refine aa (aO (by omega)) ?_)
 (try simp only [List.cons.injEq, Lf.i.injEq, and_true, true_and]); (try omega)
end Go.Am
/-
 CONTRACTS, BY PROGRAM: moves between cells.
-/
set_option maxRecDepth 100000
namespace Go.Am
open Sx Go.Proofs
theorem cbet000 {x y u v : Int} (h : -4096 ≤ x ∧ x ≤ 4096 ∧ -4096 ≤ y ∧ y ≤ 4096 ∧ -4096 ≤ u ∧ u ≤ 4096 ∧ -4096 ≤ v ∧ v ≤ 4096 ∧ (x + y + u + v) % 2 = 0) : Cc 55 [.i x, .i y, .i 0, .i u, .i v, .i 0] [.i 0, .i (u - (x)), .i (v - (y)), .i 0] := by
 refine q55 rfl ?_; unfold p55
 repeat (first | simp (disch := omega) only [↓qxs, ↓qxc, ↓qxa] | refine au 9 ?_ | refine aa (ai (by omega)) ?_ | refine aa (middle (by omega)) ?_ | refine aa (aG (by omega)) ?_ | refine aa (aH (by omega)) ?_ | refine aa (aI (by omega)) ?_ | refine aa (aJ (by omega)) ?_ | refine aa (aK (by omega)) ?_ | refine aa (aL (by omega)) ?_ | refine aa (aM (by omega)) ?_ | refine aa (aO (by omega)) ?_ | refine aa (af (by omega)) ?_ | refine aa (ay (by omega)) ?_ | refine aa (eR (by omega)) ?_ | refine aa (eV (by omega)) ?_ | refine aa (eZ (by omega)) ?_ | refine aa (fe (by omega)) ?_ | refine aa (fi (by omega)) ?_ | refine aa (fm (by omega)) ?_ | refine aa (ft (by omega)) ?_ | refine aa (fz (by omega)) ?_)
 (try simp only [List.cons.injEq, Lf.i.injEq, and_true, true_and]); (try omega)
theorem cbet001 {x y u v : Int} (h : -4096 ≤ x ∧ x ≤ 4096 ∧ -4096 ≤ y ∧ y ≤ 4096 ∧ -4096 ≤ u ∧ u ≤ 4096 ∧ -4096 ≤ v ∧ v ≤ 4096 ∧ (x + y + u + v) % 2 = 1) : Cc 55 [.i x, .i y, .i 0, .i u, .i v, .i 0] [.i 4, .i (u - (-x - 1)), .i (v - (y)), .i 0] := by
 refine q55 rfl ?_; unfold p55
 repeat (first | simp (disch := omega) only [↓qxs, ↓qxc, ↓qxa] | refine au 9 ?_ | refine aa (ai (by omega)) ?_ | refine aa (middle (by omega)) ?_ | refine aa (aG (by omega)) ?_ | refine aa (aH (by omega)) ?_ | refine aa (aI (by omega)) ?_ | refine aa (aJ (by omega)) ?_ | refine aa (aK (by omega)) ?_ | refine aa (aL (by omega)) ?_ | refine aa (aM (by omega)) ?_ | refine aa (aO (by omega)) ?_ | refine aa (af (by omega)) ?_ | refine aa (ay (by omega)) ?_ | refine aa (eR (by omega)) ?_ | refine aa (eV (by omega)) ?_ | refine aa (eZ (by omega)) ?_ | refine aa (fe (by omega)) ?_ | refine aa (fi (by omega)) ?_ | refine aa (fm (by omega)) ?_ | refine aa (ft (by omega)) ?_ | refine aa (fz (by omega)) ?_)
 (try simp only [List.cons.injEq, Lf.i.injEq, and_true, true_and]); (try omega)
theorem cbet010 {x y u v : Int} (h : -4096 ≤ x ∧ x ≤ 4096 ∧ -4096 ≤ y ∧ y ≤ 4096 ∧ -4096 ≤ u ∧ u ≤ 4096 ∧ -4096 ≤ v ∧ v ≤ 4096 ∧ (x + y + u + v) % 2 = 0) : Cc 55 [.i x, .i y, .i 0, .i u, .i v, .i 1] [.i 5, .i (u - (-y - 1)), .i (v - (-x - 1)), .i 0] := by
 refine q55 rfl ?_; unfold p55
 repeat (first | simp (disch := omega) only [↓qxs, ↓qxc, ↓qxa] | refine au 9 ?_ | refine aa (ai (by omega)) ?_ | refine aa (middle (by omega)) ?_ | refine aa (aG (by omega)) ?_ | refine aa (aH (by omega)) ?_ | refine aa (aI (by omega)) ?_ | refine aa (aJ (by omega)) ?_ | refine aa (aK (by omega)) ?_ | refine aa (aL (by omega)) ?_ | refine aa (aM (by omega)) ?_ | refine aa (aO (by omega)) ?_ | refine aa (af (by omega)) ?_ | refine aa (ay (by omega)) ?_ | refine aa (eR (by omega)) ?_ | refine aa (eV (by omega)) ?_ | refine aa (eZ (by omega)) ?_ | refine aa (fe (by omega)) ?_ | refine aa (fi (by omega)) ?_ | refine aa (fm (by omega)) ?_ | refine aa (ft (by omega)) ?_ | refine aa (fz (by omega)) ?_)
 (try simp only [List.cons.injEq, Lf.i.injEq, and_true, true_and]); (try omega)
theorem cbet011 {x y u v : Int} (h : -4096 ≤ x ∧ x ≤ 4096 ∧ -4096 ≤ y ∧ y ≤ 4096 ∧ -4096 ≤ u ∧ u ≤ 4096 ∧ -4096 ≤ v ∧ v ≤ 4096 ∧ (x + y + u + v) % 2 = 1) : Cc 55 [.i x, .i y, .i 0, .i u, .i v, .i 1] [.i 1, .i (u - (-y - 1)), .i (v - (x)), .i 0] := by
 refine q55 rfl ?_; unfold p55
 repeat (first | simp (disch := omega) only [↓qxs, ↓qxc, ↓qxa] | refine au 9 ?_ | refine aa (ai (by omega)) ?_ | refine aa (middle (by omega)) ?_ | refine aa (aG (by omega)) ?_ | refine aa (aH (by omega)) ?_ | refine aa (aI (by omega)) ?_ | refine aa (aJ (by omega)) ?_ | refine aa (aK (by omega)) ?_ | refine aa (aL (by omega)) ?_ | refine aa (aM (by omega)) ?_ | refine aa (aO (by omega)) ?_ | refine aa (af (by omega)) ?_ | refine aa (ay (by omega)) ?_ | refine aa (eR (by omega)) ?_ | refine aa (eV (by omega)) ?_ | refine aa (eZ (by omega)) ?_ | refine aa (fe (by omega)) ?_ | refine aa (fi (by omega)) ?_ | refine aa (fm (by omega)) ?_ | refine aa (ft (by omega)) ?_ | refine aa (fz (by omega)) ?_)
 (try simp only [List.cons.injEq, Lf.i.injEq, and_true, true_and]); (try omega)
theorem cbet020 {x y u v : Int} (h : -4096 ≤ x ∧ x ≤ 4096 ∧ -4096 ≤ y ∧ y ≤ 4096 ∧ -4096 ≤ u ∧ u ≤ 4096 ∧ -4096 ≤ v ∧ v ≤ 4096 ∧ (x + y + u + v) % 2 = 0) : Cc 55 [.i x, .i y, .i 0, .i u, .i v, .i 2] [.i 2, .i (u - (-x - 1)), .i (v - (-y - 1)), .i 0] := by
 refine q55 rfl ?_; unfold p55
 repeat (first | simp (disch := omega) only [↓qxs, ↓qxc, ↓qxa] | refine au 9 ?_ | refine aa (ai (by omega)) ?_ | refine aa (middle (by omega)) ?_ | refine aa (aG (by omega)) ?_ | refine aa (aH (by omega)) ?_ | refine aa (aI (by omega)) ?_ | refine aa (aJ (by omega)) ?_ | refine aa (aK (by omega)) ?_ | refine aa (aL (by omega)) ?_ | refine aa (aM (by omega)) ?_ | refine aa (aO (by omega)) ?_ | refine aa (af (by omega)) ?_ | refine aa (ay (by omega)) ?_ | refine aa (eR (by omega)) ?_ | refine aa (eV (by omega)) ?_ | refine aa (eZ (by omega)) ?_ | refine aa (fe (by omega)) ?_ | refine aa (fi (by omega)) ?_ | refine aa (fm (by omega)) ?_ | refine aa (ft (by omega)) ?_ | refine aa (fz (by omega)) ?_)
 (try simp only [List.cons.injEq, Lf.i.injEq, and_true, true_and]); (try omega)
theorem cbet021 {x y u v : Int} (h : -4096 ≤ x ∧ x ≤ 4096 ∧ -4096 ≤ y ∧ y ≤ 4096 ∧ -4096 ≤ u ∧ u ≤ 4096 ∧ -4096 ≤ v ∧ v ≤ 4096 ∧ (x + y + u + v) % 2 = 1) : Cc 55 [.i x, .i y, .i 0, .i u, .i v, .i 2] [.i 6, .i (u - (x)), .i (v - (-y - 1)), .i 0] := by
 refine q55 rfl ?_; unfold p55
 repeat (first | simp (disch := omega) only [↓qxs, ↓qxc, ↓qxa] | refine au 9 ?_ | refine aa (ai (by omega)) ?_ | refine aa (middle (by omega)) ?_ | refine aa (aG (by omega)) ?_ | refine aa (aH (by omega)) ?_ | refine aa (aI (by omega)) ?_ | refine aa (aJ (by omega)) ?_ | refine aa (aK (by omega)) ?_ | refine aa (aL (by omega)) ?_ | refine aa (aM (by omega)) ?_ | refine aa (aO (by omega)) ?_ | refine aa (af (by omega)) ?_ | refine aa (ay (by omega)) ?_ | refine aa (eR (by omega)) ?_ | refine aa (eV (by omega)) ?_ | refine aa (eZ (by omega)) ?_ | refine aa (fe (by omega)) ?_ | refine aa (fi (by omega)) ?_ | refine aa (fm (by omega)) ?_ | refine aa (ft (by omega)) ?_ | refine aa (fz (by omega)) ?_)
 (try simp only [List.cons.injEq, Lf.i.injEq, and_true, true_and]); (try omega)
theorem cbet030 {x y u v : Int} (h : -4096 ≤ x ∧ x ≤ 4096 ∧ -4096 ≤ y ∧ y ≤ 4096 ∧ -4096 ≤ u ∧ u ≤ 4096 ∧ -4096 ≤ v ∧ v ≤ 4096 ∧ (x + y + u + v) % 2 = 0) : Cc 55 [.i x, .i y, .i 0, .i u, .i v, .i 3] [.i 7, .i (u - (y)), .i (v - (x)), .i 0] := by
 refine q55 rfl ?_; unfold p55
 repeat (first | simp (disch := omega) only [↓qxs, ↓qxc, ↓qxa] | refine au 9 ?_ | refine aa (ai (by omega)) ?_ | refine aa (middle (by omega)) ?_ | refine aa (aG (by omega)) ?_ | refine aa (aH (by omega)) ?_ | refine aa (aI (by omega)) ?_ | refine aa (aJ (by omega)) ?_ | refine aa (aK (by omega)) ?_ | refine aa (aL (by omega)) ?_ | refine aa (aM (by omega)) ?_ | refine aa (aO (by omega)) ?_ | refine aa (af (by omega)) ?_ | refine aa (ay (by omega)) ?_ | refine aa (eR (by omega)) ?_ | refine aa (eV (by omega)) ?_ | refine aa (eZ (by omega)) ?_ | refine aa (fe (by omega)) ?_ | refine aa (fi (by omega)) ?_ | refine aa (fm (by omega)) ?_ | refine aa (ft (by omega)) ?_ | refine aa (fz (by omega)) ?_)
 (try simp only [List.cons.injEq, Lf.i.injEq, and_true, true_and]); (try omega)
theorem cbet031 {x y u v : Int} (h : -4096 ≤ x ∧ x ≤ 4096 ∧ -4096 ≤ y ∧ y ≤ 4096 ∧ -4096 ≤ u ∧ u ≤ 4096 ∧ -4096 ≤ v ∧ v ≤ 4096 ∧ (x + y + u + v) % 2 = 1) : Cc 55 [.i x, .i y, .i 0, .i u, .i v, .i 3] [.i 3, .i (u - (y)), .i (v - (-x - 1)), .i 0] := by
 refine q55 rfl ?_; unfold p55
 repeat (first | simp (disch := omega) only [↓qxs, ↓qxc, ↓qxa] | refine au 9 ?_ | refine aa (ai (by omega)) ?_ | refine aa (middle (by omega)) ?_ | refine aa (aG (by omega)) ?_ | refine aa (aH (by omega)) ?_ | refine aa (aI (by omega)) ?_ | refine aa (aJ (by omega)) ?_ | refine aa (aK (by omega)) ?_ | refine aa (aL (by omega)) ?_ | refine aa (aM (by omega)) ?_ | refine aa (aO (by omega)) ?_ | refine aa (af (by omega)) ?_ | refine aa (ay (by omega)) ?_ | refine aa (eR (by omega)) ?_ | refine aa (eV (by omega)) ?_ | refine aa (eZ (by omega)) ?_ | refine aa (fe (by omega)) ?_ | refine aa (fi (by omega)) ?_ | refine aa (fm (by omega)) ?_ | refine aa (ft (by omega)) ?_ | refine aa (fz (by omega)) ?_)
 (try simp only [List.cons.injEq, Lf.i.injEq, and_true, true_and]); (try omega)
end Go.Am
/-
 CONTRACTS, BY PROGRAM: moves between cells.
-/
set_option maxRecDepth 100000
namespace Go.Am
open Sx Go.Proofs
theorem cbet100 {x y u v : Int} (h : -4096 ≤ x ∧ x ≤ 4096 ∧ -4096 ≤ y ∧ y ≤ 4096 ∧ -4096 ≤ u ∧ u ≤ 4096 ∧ -4096 ≤ v ∧ v ≤ 4096 ∧ (x + y + u + v) % 2 = 0) : Cc 55 [.i x, .i y, .i 1, .i u, .i v, .i 0] [.i 5, .i (u - (-y - 1)), .i (v - (-x - 1)), .i 0] := by
 refine q55 rfl ?_; unfold p55
 repeat (first | simp (disch := omega) only [↓qxs, ↓qxc, ↓qxa] | refine au 9 ?_ | refine aa (ai (by omega)) ?_ | refine aa (middle (by omega)) ?_ | refine aa (aG (by omega)) ?_ | refine aa (aH (by omega)) ?_ | refine aa (aI (by omega)) ?_ | refine aa (aJ (by omega)) ?_ | refine aa (aK (by omega)) ?_ | refine aa (aL (by omega)) ?_ | refine aa (aM (by omega)) ?_ | refine aa (aO (by omega)) ?_ | refine aa (af (by omega)) ?_ | refine aa (ay (by omega)) ?_ | refine aa (eS (by omega)) ?_ | refine aa (eW (by omega)) ?_ | refine aa (fa (by omega)) ?_ | refine aa (ff (by omega)) ?_ | refine aa (fj (by omega)) ?_ | refine aa (fo (by omega)) ?_ | refine aa (fv (by omega)) ?_ | refine aa (fA (by omega)) ?_)
 (try simp only [List.cons.injEq, Lf.i.injEq, and_true, true_and]); (try omega)
theorem cbet101 {x y u v : Int} (h : -4096 ≤ x ∧ x ≤ 4096 ∧ -4096 ≤ y ∧ y ≤ 4096 ∧ -4096 ≤ u ∧ u ≤ 4096 ∧ -4096 ≤ v ∧ v ≤ 4096 ∧ (x + y + u + v) % 2 = 1) : Cc 55 [.i x, .i y, .i 1, .i u, .i v, .i 0] [.i 3, .i (u - (y)), .i (v - (-x - 1)), .i 0] := by
 refine q55 rfl ?_; unfold p55
 repeat (first | simp (disch := omega) only [↓qxs, ↓qxc, ↓qxa] | refine au 9 ?_ | refine aa (ai (by omega)) ?_ | refine aa (middle (by omega)) ?_ | refine aa (aG (by omega)) ?_ | refine aa (aH (by omega)) ?_ | refine aa (aI (by omega)) ?_ | refine aa (aJ (by omega)) ?_ | refine aa (aK (by omega)) ?_ | refine aa (aL (by omega)) ?_ | refine aa (aM (by omega)) ?_ | refine aa (aO (by omega)) ?_ | refine aa (af (by omega)) ?_ | refine aa (ay (by omega)) ?_ | refine aa (eS (by omega)) ?_ | refine aa (eW (by omega)) ?_ | refine aa (fa (by omega)) ?_ | refine aa (ff (by omega)) ?_ | refine aa (fj (by omega)) ?_ | refine aa (fo (by omega)) ?_ | refine aa (fv (by omega)) ?_ | refine aa (fA (by omega)) ?_)
 (try simp only [List.cons.injEq, Lf.i.injEq, and_true, true_and]); (try omega)
theorem cbet110 {x y u v : Int} (h : -4096 ≤ x ∧ x ≤ 4096 ∧ -4096 ≤ y ∧ y ≤ 4096 ∧ -4096 ≤ u ∧ u ≤ 4096 ∧ -4096 ≤ v ∧ v ≤ 4096 ∧ (x + y + u + v) % 2 = 0) : Cc 55 [.i x, .i y, .i 1, .i u, .i v, .i 1] [.i 0, .i (u - (x)), .i (v - (y)), .i 0] := by
 refine q55 rfl ?_; unfold p55
 repeat (first | simp (disch := omega) only [↓qxs, ↓qxc, ↓qxa] | refine au 9 ?_ | refine aa (ai (by omega)) ?_ | refine aa (middle (by omega)) ?_ | refine aa (aG (by omega)) ?_ | refine aa (aH (by omega)) ?_ | refine aa (aI (by omega)) ?_ | refine aa (aJ (by omega)) ?_ | refine aa (aK (by omega)) ?_ | refine aa (aL (by omega)) ?_ | refine aa (aM (by omega)) ?_ | refine aa (aO (by omega)) ?_ | refine aa (af (by omega)) ?_ | refine aa (ay (by omega)) ?_ | refine aa (eS (by omega)) ?_ | refine aa (eW (by omega)) ?_ | refine aa (fa (by omega)) ?_ | refine aa (ff (by omega)) ?_ | refine aa (fj (by omega)) ?_ | refine aa (fo (by omega)) ?_ | refine aa (fv (by omega)) ?_ | refine aa (fA (by omega)) ?_)
 (try simp only [List.cons.injEq, Lf.i.injEq, and_true, true_and]); (try omega)
theorem cbet111 {x y u v : Int} (h : -4096 ≤ x ∧ x ≤ 4096 ∧ -4096 ≤ y ∧ y ≤ 4096 ∧ -4096 ≤ u ∧ u ≤ 4096 ∧ -4096 ≤ v ∧ v ≤ 4096 ∧ (x + y + u + v) % 2 = 1) : Cc 55 [.i x, .i y, .i 1, .i u, .i v, .i 1] [.i 6, .i (u - (x)), .i (v - (-y - 1)), .i 0] := by
 refine q55 rfl ?_; unfold p55
 repeat (first | simp (disch := omega) only [↓qxs, ↓qxc, ↓qxa] | refine au 9 ?_ | refine aa (ai (by omega)) ?_ | refine aa (middle (by omega)) ?_ | refine aa (aG (by omega)) ?_ | refine aa (aH (by omega)) ?_ | refine aa (aI (by omega)) ?_ | refine aa (aJ (by omega)) ?_ | refine aa (aK (by omega)) ?_ | refine aa (aL (by omega)) ?_ | refine aa (aM (by omega)) ?_ | refine aa (aO (by omega)) ?_ | refine aa (af (by omega)) ?_ | refine aa (ay (by omega)) ?_ | refine aa (eS (by omega)) ?_ | refine aa (eW (by omega)) ?_ | refine aa (fa (by omega)) ?_ | refine aa (ff (by omega)) ?_ | refine aa (fj (by omega)) ?_ | refine aa (fo (by omega)) ?_ | refine aa (fv (by omega)) ?_ | refine aa (fA (by omega)) ?_)
 (try simp only [List.cons.injEq, Lf.i.injEq, and_true, true_and]); (try omega)
theorem cbet120 {x y u v : Int} (h : -4096 ≤ x ∧ x ≤ 4096 ∧ -4096 ≤ y ∧ y ≤ 4096 ∧ -4096 ≤ u ∧ u ≤ 4096 ∧ -4096 ≤ v ∧ v ≤ 4096 ∧ (x + y + u + v) % 2 = 0) : Cc 55 [.i x, .i y, .i 1, .i u, .i v, .i 2] [.i 7, .i (u - (y)), .i (v - (x)), .i 0] := by
 refine q55 rfl ?_; unfold p55
 repeat (first | simp (disch := omega) only [↓qxs, ↓qxc, ↓qxa] | refine au 9 ?_ | refine aa (ai (by omega)) ?_ | refine aa (middle (by omega)) ?_ | refine aa (aG (by omega)) ?_ | refine aa (aH (by omega)) ?_ | refine aa (aI (by omega)) ?_ | refine aa (aJ (by omega)) ?_ | refine aa (aK (by omega)) ?_ | refine aa (aL (by omega)) ?_ | refine aa (aM (by omega)) ?_ | refine aa (aO (by omega)) ?_ | refine aa (af (by omega)) ?_ | refine aa (ay (by omega)) ?_ | refine aa (eS (by omega)) ?_ | refine aa (eW (by omega)) ?_ | refine aa (fa (by omega)) ?_ | refine aa (ff (by omega)) ?_ | refine aa (fj (by omega)) ?_ | refine aa (fo (by omega)) ?_ | refine aa (fv (by omega)) ?_ | refine aa (fA (by omega)) ?_)
 (try simp only [List.cons.injEq, Lf.i.injEq, and_true, true_and]); (try omega)
theorem cbet121 {x y u v : Int} (h : -4096 ≤ x ∧ x ≤ 4096 ∧ -4096 ≤ y ∧ y ≤ 4096 ∧ -4096 ≤ u ∧ u ≤ 4096 ∧ -4096 ≤ v ∧ v ≤ 4096 ∧ (x + y + u + v) % 2 = 1) : Cc 55 [.i x, .i y, .i 1, .i u, .i v, .i 2] [.i 1, .i (u - (-y - 1)), .i (v - (x)), .i 0] := by
 refine q55 rfl ?_; unfold p55
 repeat (first | simp (disch := omega) only [↓qxs, ↓qxc, ↓qxa] | refine au 9 ?_ | refine aa (ai (by omega)) ?_ | refine aa (middle (by omega)) ?_ | refine aa (aG (by omega)) ?_ | refine aa (aH (by omega)) ?_ | refine aa (aI (by omega)) ?_ | refine aa (aJ (by omega)) ?_ | refine aa (aK (by omega)) ?_ | refine aa (aL (by omega)) ?_ | refine aa (aM (by omega)) ?_ | refine aa (aO (by omega)) ?_ | refine aa (af (by omega)) ?_ | refine aa (ay (by omega)) ?_ | refine aa (eS (by omega)) ?_ | refine aa (eW (by omega)) ?_ | refine aa (fa (by omega)) ?_ | refine aa (ff (by omega)) ?_ | refine aa (fj (by omega)) ?_ | refine aa (fo (by omega)) ?_ | refine aa (fv (by omega)) ?_ | refine aa (fA (by omega)) ?_)
 (try simp only [List.cons.injEq, Lf.i.injEq, and_true, true_and]); (try omega)
theorem cbet130 {x y u v : Int} (h : -4096 ≤ x ∧ x ≤ 4096 ∧ -4096 ≤ y ∧ y ≤ 4096 ∧ -4096 ≤ u ∧ u ≤ 4096 ∧ -4096 ≤ v ∧ v ≤ 4096 ∧ (x + y + u + v) % 2 = 0) : Cc 55 [.i x, .i y, .i 1, .i u, .i v, .i 3] [.i 2, .i (u - (-x - 1)), .i (v - (-y - 1)), .i 0] := by
 refine q55 rfl ?_; unfold p55
 repeat (first | simp (disch := omega) only [↓qxs, ↓qxc, ↓qxa] | refine au 9 ?_ | refine aa (ai (by omega)) ?_ | refine aa (middle (by omega)) ?_ | refine aa (aG (by omega)) ?_ | refine aa (aH (by omega)) ?_ | refine aa (aI (by omega)) ?_ | refine aa (aJ (by omega)) ?_ | refine aa (aK (by omega)) ?_ | refine aa (aL (by omega)) ?_ | refine aa (aM (by omega)) ?_ | refine aa (aO (by omega)) ?_ | refine aa (af (by omega)) ?_ | refine aa (ay (by omega)) ?_ | refine aa (eS (by omega)) ?_ | refine aa (eW (by omega)) ?_ | refine aa (fa (by omega)) ?_ | refine aa (ff (by omega)) ?_ | refine aa (fj (by omega)) ?_ | refine aa (fo (by omega)) ?_ | refine aa (fv (by omega)) ?_ | refine aa (fA (by omega)) ?_)
 (try simp only [List.cons.injEq, Lf.i.injEq, and_true, true_and]); (try omega)
theorem cbet131 {x y u v : Int} (h : -4096 ≤ x ∧ x ≤ 4096 ∧ -4096 ≤ y ∧ y ≤ 4096 ∧ -4096 ≤ u ∧ u ≤ 4096 ∧ -4096 ≤ v ∧ v ≤ 4096 ∧ (x + y + u + v) % 2 = 1) : Cc 55 [.i x, .i y, .i 1, .i u, .i v, .i 3] [.i 4, .i (u - (-x - 1)), .i (v - (y)), .i 0] := by
 refine q55 rfl ?_; unfold p55
 repeat (first | simp (disch := omega) only [↓qxs, ↓qxc, ↓qxa] | refine au 9 ?_ | refine aa (ai (by omega)) ?_ | refine aa (middle (by omega)) ?_ | refine aa (aG (by omega)) ?_ | refine aa (aH (by omega)) ?_ | refine aa (aI (by omega)) ?_ | refine aa (aJ (by omega)) ?_ | refine aa (aK (by omega)) ?_ | refine aa (aL (by omega)) ?_ | refine aa (aM (by omega)) ?_ | refine aa (aO (by omega)) ?_ | refine aa (af (by omega)) ?_ | refine aa (ay (by omega)) ?_ | refine aa (eS (by omega)) ?_ | refine aa (eW (by omega)) ?_ | refine aa (fa (by omega)) ?_ | refine aa (ff (by omega)) ?_ | refine aa (fj (by omega)) ?_ | refine aa (fo (by omega)) ?_ | refine aa (fv (by omega)) ?_ | refine aa (fA (by omega)) ?_)
 (try simp only [List.cons.injEq, Lf.i.injEq, and_true, true_and]); (try omega)
end Go.Am
/-
 CONTRACTS, BY PROGRAM: moves between cells.
-/
set_option maxRecDepth 100000
namespace Go.Am
open Sx Go.Proofs
theorem cbet200 {x y u v : Int} (h : -4096 ≤ x ∧ x ≤ 4096 ∧ -4096 ≤ y ∧ y ≤ 4096 ∧ -4096 ≤ u ∧ u ≤ 4096 ∧ -4096 ≤ v ∧ v ≤ 4096 ∧ (x + y + u + v) % 2 = 0) : Cc 55 [.i x, .i y, .i 2, .i u, .i v, .i 0] [.i 2, .i (u - (-x - 1)), .i (v - (-y - 1)), .i 0] := by
 refine q55 rfl ?_; unfold p55
 repeat (first | simp (disch := omega) only [↓qxs, ↓qxc, ↓qxa] | refine au 9 ?_ | refine aa (ai (by omega)) ?_ | refine aa (middle (by omega)) ?_ | refine aa (aG (by omega)) ?_ | refine aa (aH (by omega)) ?_ | refine aa (aI (by omega)) ?_ | refine aa (aJ (by omega)) ?_ | refine aa (aK (by omega)) ?_ | refine aa (aL (by omega)) ?_ | refine aa (aM (by omega)) ?_ | refine aa (aO (by omega)) ?_ | refine aa (af (by omega)) ?_ | refine aa (ay (by omega)) ?_ | refine aa (eT (by omega)) ?_ | refine aa (eX (by omega)) ?_ | refine aa (fb (by omega)) ?_ | refine aa (fg (by omega)) ?_ | refine aa (fk (by omega)) ?_ | refine aa (fp (by omega)) ?_ | refine aa (fw (by omega)) ?_ | refine aa (fC (by omega)) ?_)
 (try simp only [List.cons.injEq, Lf.i.injEq, and_true, true_and]); (try omega)
theorem cbet201 {x y u v : Int} (h : -4096 ≤ x ∧ x ≤ 4096 ∧ -4096 ≤ y ∧ y ≤ 4096 ∧ -4096 ≤ u ∧ u ≤ 4096 ∧ -4096 ≤ v ∧ v ≤ 4096 ∧ (x + y + u + v) % 2 = 1) : Cc 55 [.i x, .i y, .i 2, .i u, .i v, .i 0] [.i 6, .i (u - (x)), .i (v - (-y - 1)), .i 0] := by
 refine q55 rfl ?_; unfold p55
 repeat (first | simp (disch := omega) only [↓qxs, ↓qxc, ↓qxa] | refine au 9 ?_ | refine aa (ai (by omega)) ?_ | refine aa (middle (by omega)) ?_ | refine aa (aG (by omega)) ?_ | refine aa (aH (by omega)) ?_ | refine aa (aI (by omega)) ?_ | refine aa (aJ (by omega)) ?_ | refine aa (aK (by omega)) ?_ | refine aa (aL (by omega)) ?_ | refine aa (aM (by omega)) ?_ | refine aa (aO (by omega)) ?_ | refine aa (af (by omega)) ?_ | refine aa (ay (by omega)) ?_ | refine aa (eT (by omega)) ?_ | refine aa (eX (by omega)) ?_ | refine aa (fb (by omega)) ?_ | refine aa (fg (by omega)) ?_ | refine aa (fk (by omega)) ?_ | refine aa (fp (by omega)) ?_ | refine aa (fw (by omega)) ?_ | refine aa (fC (by omega)) ?_)
 (try simp only [List.cons.injEq, Lf.i.injEq, and_true, true_and]); (try omega)
theorem cbet210 {x y u v : Int} (h : -4096 ≤ x ∧ x ≤ 4096 ∧ -4096 ≤ y ∧ y ≤ 4096 ∧ -4096 ≤ u ∧ u ≤ 4096 ∧ -4096 ≤ v ∧ v ≤ 4096 ∧ (x + y + u + v) % 2 = 0) : Cc 55 [.i x, .i y, .i 2, .i u, .i v, .i 1] [.i 7, .i (u - (y)), .i (v - (x)), .i 0] := by
 refine q55 rfl ?_; unfold p55
 repeat (first | simp (disch := omega) only [↓qxs, ↓qxc, ↓qxa] | refine au 9 ?_ | refine aa (ai (by omega)) ?_ | refine aa (middle (by omega)) ?_ | refine aa (aG (by omega)) ?_ | refine aa (aH (by omega)) ?_ | refine aa (aI (by omega)) ?_ | refine aa (aJ (by omega)) ?_ | refine aa (aK (by omega)) ?_ | refine aa (aL (by omega)) ?_ | refine aa (aM (by omega)) ?_ | refine aa (aO (by omega)) ?_ | refine aa (af (by omega)) ?_ | refine aa (ay (by omega)) ?_ | refine aa (eT (by omega)) ?_ | refine aa (eX (by omega)) ?_ | refine aa (fb (by omega)) ?_ | refine aa (fg (by omega)) ?_ | refine aa (fk (by omega)) ?_ | refine aa (fp (by omega)) ?_ | refine aa (fw (by omega)) ?_ | refine aa (fC (by omega)) ?_)
 (try simp only [List.cons.injEq, Lf.i.injEq, and_true, true_and]); (try omega)
theorem cbet211 {x y u v : Int} (h : -4096 ≤ x ∧ x ≤ 4096 ∧ -4096 ≤ y ∧ y ≤ 4096 ∧ -4096 ≤ u ∧ u ≤ 4096 ∧ -4096 ≤ v ∧ v ≤ 4096 ∧ (x + y + u + v) % 2 = 1) : Cc 55 [.i x, .i y, .i 2, .i u, .i v, .i 1] [.i 3, .i (u - (y)), .i (v - (-x - 1)), .i 0] := by
 refine q55 rfl ?_; unfold p55
 repeat (first | simp (disch := omega) only [↓qxs, ↓qxc, ↓qxa] | refine au 9 ?_ | refine aa (ai (by omega)) ?_ | refine aa (middle (by omega)) ?_ | refine aa (aG (by omega)) ?_ | refine aa (aH (by omega)) ?_ | refine aa (aI (by omega)) ?_ | refine aa (aJ (by omega)) ?_ | refine aa (aK (by omega)) ?_ | refine aa (aL (by omega)) ?_ | refine aa (aM (by omega)) ?_ | refine aa (aO (by omega)) ?_ | refine aa (af (by omega)) ?_ | refine aa (ay (by omega)) ?_ | refine aa (eT (by omega)) ?_ | refine aa (eX (by omega)) ?_ | refine aa (fb (by omega)) ?_ | refine aa (fg (by omega)) ?_ | refine aa (fk (by omega)) ?_ | refine aa (fp (by omega)) ?_ | refine aa (fw (by omega)) ?_ | refine aa (fC (by omega)) ?_)
 (try simp only [List.cons.injEq, Lf.i.injEq, and_true, true_and]); (try omega)
theorem cbet220 {x y u v : Int} (h : -4096 ≤ x ∧ x ≤ 4096 ∧ -4096 ≤ y ∧ y ≤ 4096 ∧ -4096 ≤ u ∧ u ≤ 4096 ∧ -4096 ≤ v ∧ v ≤ 4096 ∧ (x + y + u + v) % 2 = 0) : Cc 55 [.i x, .i y, .i 2, .i u, .i v, .i 2] [.i 0, .i (u - (x)), .i (v - (y)), .i 0] := by
 refine q55 rfl ?_; unfold p55
 repeat (first | simp (disch := omega) only [↓qxs, ↓qxc, ↓qxa] | refine au 9 ?_ | refine aa (ai (by omega)) ?_ | refine aa (middle (by omega)) ?_ | refine aa (aG (by omega)) ?_ | refine aa (aH (by omega)) ?_ | refine aa (aI (by omega)) ?_ | refine aa (aJ (by omega)) ?_ | refine aa (aK (by omega)) ?_ | refine aa (aL (by omega)) ?_ | refine aa (aM (by omega)) ?_ | refine aa (aO (by omega)) ?_ | refine aa (af (by omega)) ?_ | refine aa (ay (by omega)) ?_ | refine aa (eT (by omega)) ?_ | refine aa (eX (by omega)) ?_ | refine aa (fb (by omega)) ?_ | refine aa (fg (by omega)) ?_ | refine aa (fk (by omega)) ?_ | refine aa (fp (by omega)) ?_ | refine aa (fw (by omega)) ?_ | refine aa (fC (by omega)) ?_)
 (try simp only [List.cons.injEq, Lf.i.injEq, and_true, true_and]); (try omega)
theorem cbet221 {x y u v : Int} (h : -4096 ≤ x ∧ x ≤ 4096 ∧ -4096 ≤ y ∧ y ≤ 4096 ∧ -4096 ≤ u ∧ u ≤ 4096 ∧ -4096 ≤ v ∧ v ≤ 4096 ∧ (x + y + u + v) % 2 = 1) : Cc 55 [.i x, .i y, .i 2, .i u, .i v, .i 2] [.i 4, .i (u - (-x - 1)), .i (v - (y)), .i 0] := by
 refine q55 rfl ?_; unfold p55
 repeat (first | simp (disch := omega) only [↓qxs, ↓qxc, ↓qxa] | refine au 9 ?_ | refine aa (ai (by omega)) ?_ | refine aa (middle (by omega)) ?_ | refine aa (aG (by omega)) ?_ | refine aa (aH (by omega)) ?_ | refine aa (aI (by omega)) ?_ | refine aa (aJ (by omega)) ?_ | refine aa (aK (by omega)) ?_ | refine aa (aL (by omega)) ?_ | refine aa (aM (by omega)) ?_ | refine aa (aO (by omega)) ?_ | refine aa (af (by omega)) ?_ | refine aa (ay (by omega)) ?_ | refine aa (eT (by omega)) ?_ | refine aa (eX (by omega)) ?_ | refine aa (fb (by omega)) ?_ | refine aa (fg (by omega)) ?_ | refine aa (fk (by omega)) ?_ | refine aa (fp (by omega)) ?_ | refine aa (fw (by omega)) ?_ | refine aa (fC (by omega)) ?_)
 (try simp only [List.cons.injEq, Lf.i.injEq, and_true, true_and]); (try omega)
theorem cbet230 {x y u v : Int} (h : -4096 ≤ x ∧ x ≤ 4096 ∧ -4096 ≤ y ∧ y ≤ 4096 ∧ -4096 ≤ u ∧ u ≤ 4096 ∧ -4096 ≤ v ∧ v ≤ 4096 ∧ (x + y + u + v) % 2 = 0) : Cc 55 [.i x, .i y, .i 2, .i u, .i v, .i 3] [.i 5, .i (u - (-y - 1)), .i (v - (-x - 1)), .i 0] := by
 refine q55 rfl ?_; unfold p55
 repeat (first | simp (disch := omega) only [↓qxs, ↓qxc, ↓qxa] | refine au 9 ?_ | refine aa (ai (by omega)) ?_ | refine aa (middle (by omega)) ?_ | refine aa (aG (by omega)) ?_ | refine aa (aH (by omega)) ?_ | refine aa (aI (by omega)) ?_ | refine aa (aJ (by omega)) ?_ | refine aa (aK (by omega)) ?_ | refine aa (aL (by omega)) ?_ | refine aa (aM (by omega)) ?_ | refine aa (aO (by omega)) ?_ | refine aa (af (by omega)) ?_ | refine aa (ay (by omega)) ?_ | refine aa (eT (by omega)) ?_ | refine aa (eX (by omega)) ?_ | refine aa (fb (by omega)) ?_ | refine aa (fg (by omega)) ?_ | refine aa (fk (by omega)) ?_ | refine aa (fp (by omega)) ?_ | refine aa (fw (by omega)) ?_ | refine aa (fC (by omega)) ?_)
 (try simp only [List.cons.injEq, Lf.i.injEq, and_true, true_and]); (try omega)
theorem cbet231 {x y u v : Int} (h : -4096 ≤ x ∧ x ≤ 4096 ∧ -4096 ≤ y ∧ y ≤ 4096 ∧ -4096 ≤ u ∧ u ≤ 4096 ∧ -4096 ≤ v ∧ v ≤ 4096 ∧ (x + y + u + v) % 2 = 1) : Cc 55 [.i x, .i y, .i 2, .i u, .i v, .i 3] [.i 1, .i (u - (-y - 1)), .i (v - (x)), .i 0] := by
 refine q55 rfl ?_; unfold p55
 repeat (first | simp (disch := omega) only [↓qxs, ↓qxc, ↓qxa] | refine au 9 ?_ | refine aa (ai (by omega)) ?_ | refine aa (middle (by omega)) ?_ | refine aa (aG (by omega)) ?_ | refine aa (aH (by omega)) ?_ | refine aa (aI (by omega)) ?_ | refine aa (aJ (by omega)) ?_ | refine aa (aK (by omega)) ?_ | refine aa (aL (by omega)) ?_ | refine aa (aM (by omega)) ?_ | refine aa (aO (by omega)) ?_ | refine aa (af (by omega)) ?_ | refine aa (ay (by omega)) ?_ | refine aa (eT (by omega)) ?_ | refine aa (eX (by omega)) ?_ | refine aa (fb (by omega)) ?_ | refine aa (fg (by omega)) ?_ | refine aa (fk (by omega)) ?_ | refine aa (fp (by omega)) ?_ | refine aa (fw (by omega)) ?_ | refine aa (fC (by omega)) ?_)
 (try simp only [List.cons.injEq, Lf.i.injEq, and_true, true_and]); (try omega)
end Go.Am
/-
 CONTRACTS, BY PROGRAM: moves between cells.
-/
set_option maxRecDepth 100000
namespace Go.Am
open Sx Go.Proofs
theorem cbet300 {x y u v : Int} (h : -4096 ≤ x ∧ x ≤ 4096 ∧ -4096 ≤ y ∧ y ≤ 4096 ∧ -4096 ≤ u ∧ u ≤ 4096 ∧ -4096 ≤ v ∧ v ≤ 4096 ∧ (x + y + u + v) % 2 = 0) : Cc 55 [.i x, .i y, .i 3, .i u, .i v, .i 0] [.i 7, .i (u - (y)), .i (v - (x)), .i 0] := by
 refine q55 rfl ?_; unfold p55
 repeat (first | simp (disch := omega) only [↓qxs, ↓qxc, ↓qxa] | refine au 9 ?_ | refine aa (ai (by omega)) ?_ | refine aa (middle (by omega)) ?_ | refine aa (aG (by omega)) ?_ | refine aa (aH (by omega)) ?_ | refine aa (aI (by omega)) ?_ | refine aa (aJ (by omega)) ?_ | refine aa (aK (by omega)) ?_ | refine aa (aL (by omega)) ?_ | refine aa (aM (by omega)) ?_ | refine aa (aO (by omega)) ?_ | refine aa (af (by omega)) ?_ | refine aa (ay (by omega)) ?_ | refine aa (eU (by omega)) ?_ | refine aa (eY (by omega)) ?_ | refine aa (fc (by omega)) ?_ | refine aa (fh (by omega)) ?_ | refine aa (fl (by omega)) ?_ | refine aa (fq (by omega)) ?_ | refine aa (fy (by omega)) ?_ | refine aa (fD (by omega)) ?_)
 (try simp only [List.cons.injEq, Lf.i.injEq, and_true, true_and]); (try omega)
theorem cbet301 {x y u v : Int} (h : -4096 ≤ x ∧ x ≤ 4096 ∧ -4096 ≤ y ∧ y ≤ 4096 ∧ -4096 ≤ u ∧ u ≤ 4096 ∧ -4096 ≤ v ∧ v ≤ 4096 ∧ (x + y + u + v) % 2 = 1) : Cc 55 [.i x, .i y, .i 3, .i u, .i v, .i 0] [.i 1, .i (u - (-y - 1)), .i (v - (x)), .i 0] := by
 refine q55 rfl ?_; unfold p55
 repeat (first | simp (disch := omega) only [↓qxs, ↓qxc, ↓qxa] | refine au 9 ?_ | refine aa (ai (by omega)) ?_ | refine aa (middle (by omega)) ?_ | refine aa (aG (by omega)) ?_ | refine aa (aH (by omega)) ?_ | refine aa (aI (by omega)) ?_ | refine aa (aJ (by omega)) ?_ | refine aa (aK (by omega)) ?_ | refine aa (aL (by omega)) ?_ | refine aa (aM (by omega)) ?_ | refine aa (aO (by omega)) ?_ | refine aa (af (by omega)) ?_ | refine aa (ay (by omega)) ?_ | refine aa (eU (by omega)) ?_ | refine aa (eY (by omega)) ?_ | refine aa (fc (by omega)) ?_ | refine aa (fh (by omega)) ?_ | refine aa (fl (by omega)) ?_ | refine aa (fq (by omega)) ?_ | refine aa (fy (by omega)) ?_ | refine aa (fD (by omega)) ?_)
 (try simp only [List.cons.injEq, Lf.i.injEq, and_true, true_and]); (try omega)
theorem cbet310 {x y u v : Int} (h : -4096 ≤ x ∧ x ≤ 4096 ∧ -4096 ≤ y ∧ y ≤ 4096 ∧ -4096 ≤ u ∧ u ≤ 4096 ∧ -4096 ≤ v ∧ v ≤ 4096 ∧ (x + y + u + v) % 2 = 0) : Cc 55 [.i x, .i y, .i 3, .i u, .i v, .i 1] [.i 2, .i (u - (-x - 1)), .i (v - (-y - 1)), .i 0] := by
 refine q55 rfl ?_; unfold p55
 repeat (first | simp (disch := omega) only [↓qxs, ↓qxc, ↓qxa] | refine au 9 ?_ | refine aa (ai (by omega)) ?_ | refine aa (middle (by omega)) ?_ | refine aa (aG (by omega)) ?_ | refine aa (aH (by omega)) ?_ | refine aa (aI (by omega)) ?_ | refine aa (aJ (by omega)) ?_ | refine aa (aK (by omega)) ?_ | refine aa (aL (by omega)) ?_ | refine aa (aM (by omega)) ?_ | refine aa (aO (by omega)) ?_ | refine aa (af (by omega)) ?_ | refine aa (ay (by omega)) ?_ | refine aa (eU (by omega)) ?_ | refine aa (eY (by omega)) ?_ | refine aa (fc (by omega)) ?_ | refine aa (fh (by omega)) ?_ | refine aa (fl (by omega)) ?_ | refine aa (fq (by omega)) ?_ | refine aa (fy (by omega)) ?_ | refine aa (fD (by omega)) ?_)
 (try simp only [List.cons.injEq, Lf.i.injEq, and_true, true_and]); (try omega)
theorem cbet311 {x y u v : Int} (h : -4096 ≤ x ∧ x ≤ 4096 ∧ -4096 ≤ y ∧ y ≤ 4096 ∧ -4096 ≤ u ∧ u ≤ 4096 ∧ -4096 ≤ v ∧ v ≤ 4096 ∧ (x + y + u + v) % 2 = 1) : Cc 55 [.i x, .i y, .i 3, .i u, .i v, .i 1] [.i 4, .i (u - (-x - 1)), .i (v - (y)), .i 0] := by
 refine q55 rfl ?_; unfold p55
 repeat (first | simp (disch := omega) only [↓qxs, ↓qxc, ↓qxa] | refine au 9 ?_ | refine aa (ai (by omega)) ?_ | refine aa (middle (by omega)) ?_ | refine aa (aG (by omega)) ?_ | refine aa (aH (by omega)) ?_ | refine aa (aI (by omega)) ?_ | refine aa (aJ (by omega)) ?_ | refine aa (aK (by omega)) ?_ | refine aa (aL (by omega)) ?_ | refine aa (aM (by omega)) ?_ | refine aa (aO (by omega)) ?_ | refine aa (af (by omega)) ?_ | refine aa (ay (by omega)) ?_ | refine aa (eU (by omega)) ?_ | refine aa (eY (by omega)) ?_ | refine aa (fc (by omega)) ?_ | refine aa (fh (by omega)) ?_ | refine aa (fl (by omega)) ?_ | refine aa (fq (by omega)) ?_ | refine aa (fy (by omega)) ?_ | refine aa (fD (by omega)) ?_)
 (try simp only [List.cons.injEq, Lf.i.injEq, and_true, true_and]); (try omega)
theorem cbet320 {x y u v : Int} (h : -4096 ≤ x ∧ x ≤ 4096 ∧ -4096 ≤ y ∧ y ≤ 4096 ∧ -4096 ≤ u ∧ u ≤ 4096 ∧ -4096 ≤ v ∧ v ≤ 4096 ∧ (x + y + u + v) % 2 = 0) : Cc 55 [.i x, .i y, .i 3, .i u, .i v, .i 2] [.i 5, .i (u - (-y - 1)), .i (v - (-x - 1)), .i 0] := by
 refine q55 rfl ?_; unfold p55
 repeat (first | simp (disch := omega) only [↓qxs, ↓qxc, ↓qxa] | refine au 9 ?_ | refine aa (ai (by omega)) ?_ | refine aa (middle (by omega)) ?_ | refine aa (aG (by omega)) ?_ | refine aa (aH (by omega)) ?_ | refine aa (aI (by omega)) ?_ | refine aa (aJ (by omega)) ?_ | refine aa (aK (by omega)) ?_ | refine aa (aL (by omega)) ?_ | refine aa (aM (by omega)) ?_ | refine aa (aO (by omega)) ?_ | refine aa (af (by omega)) ?_ | refine aa (ay (by omega)) ?_ | refine aa (eU (by omega)) ?_ | refine aa (eY (by omega)) ?_ | refine aa (fc (by omega)) ?_ | refine aa (fh (by omega)) ?_ | refine aa (fl (by omega)) ?_ | refine aa (fq (by omega)) ?_ | refine aa (fy (by omega)) ?_ | refine aa (fD (by omega)) ?_)
 (try simp only [List.cons.injEq, Lf.i.injEq, and_true, true_and]); (try omega)
theorem cbet321 {x y u v : Int} (h : -4096 ≤ x ∧ x ≤ 4096 ∧ -4096 ≤ y ∧ y ≤ 4096 ∧ -4096 ≤ u ∧ u ≤ 4096 ∧ -4096 ≤ v ∧ v ≤ 4096 ∧ (x + y + u + v) % 2 = 1) : Cc 55 [.i x, .i y, .i 3, .i u, .i v, .i 2] [.i 3, .i (u - (y)), .i (v - (-x - 1)), .i 0] := by
 refine q55 rfl ?_; unfold p55
 repeat (first | simp (disch := omega) only [↓qxs, ↓qxc, ↓qxa] | refine au 9 ?_ | refine aa (ai (by omega)) ?_ | refine aa (middle (by omega)) ?_ | refine aa (aG (by omega)) ?_ | refine aa (aH (by omega)) ?_ | refine aa (aI (by omega)) ?_ | refine aa (aJ (by omega)) ?_ | refine aa (aK (by omega)) ?_ | refine aa (aL (by omega)) ?_ | refine aa (aM (by omega)) ?_ | refine aa (aO (by omega)) ?_ | refine aa (af (by omega)) ?_ | refine aa (ay (by omega)) ?_ | refine aa (eU (by omega)) ?_ | refine aa (eY (by omega)) ?_ | refine aa (fc (by omega)) ?_ | refine aa (fh (by omega)) ?_ | refine aa (fl (by omega)) ?_ | refine aa (fq (by omega)) ?_ | refine aa (fy (by omega)) ?_ | refine aa (fD (by omega)) ?_)
 (try simp only [List.cons.injEq, Lf.i.injEq, and_true, true_and]); (try omega)
theorem cbet330 {x y u v : Int} (h : -4096 ≤ x ∧ x ≤ 4096 ∧ -4096 ≤ y ∧ y ≤ 4096 ∧ -4096 ≤ u ∧ u ≤ 4096 ∧ -4096 ≤ v ∧ v ≤ 4096 ∧ (x + y + u + v) % 2 = 0) : Cc 55 [.i x, .i y, .i 3, .i u, .i v, .i 3] [.i 0, .i (u - (x)), .i (v - (y)), .i 0] := by
 refine q55 rfl ?_; unfold p55
 repeat (first | simp (disch := omega) only [↓qxs, ↓qxc, ↓qxa] | refine au 9 ?_ | refine aa (ai (by omega)) ?_ | refine aa (middle (by omega)) ?_ | refine aa (aG (by omega)) ?_ | refine aa (aH (by omega)) ?_ | refine aa (aI (by omega)) ?_ | refine aa (aJ (by omega)) ?_ | refine aa (aK (by omega)) ?_ | refine aa (aL (by omega)) ?_ | refine aa (aM (by omega)) ?_ | refine aa (aO (by omega)) ?_ | refine aa (af (by omega)) ?_ | refine aa (ay (by omega)) ?_ | refine aa (eU (by omega)) ?_ | refine aa (eY (by omega)) ?_ | refine aa (fc (by omega)) ?_ | refine aa (fh (by omega)) ?_ | refine aa (fl (by omega)) ?_ | refine aa (fq (by omega)) ?_ | refine aa (fy (by omega)) ?_ | refine aa (fD (by omega)) ?_)
 (try simp only [List.cons.injEq, Lf.i.injEq, and_true, true_and]); (try omega)
theorem cbet331 {x y u v : Int} (h : -4096 ≤ x ∧ x ≤ 4096 ∧ -4096 ≤ y ∧ y ≤ 4096 ∧ -4096 ≤ u ∧ u ≤ 4096 ∧ -4096 ≤ v ∧ v ≤ 4096 ∧ (x + y + u + v) % 2 = 1) : Cc 55 [.i x, .i y, .i 3, .i u, .i v, .i 3] [.i 6, .i (u - (x)), .i (v - (-y - 1)), .i 0] := by
 refine q55 rfl ?_; unfold p55
 repeat (first | simp (disch := omega) only [↓qxs, ↓qxc, ↓qxa] | refine au 9 ?_ | refine aa (ai (by omega)) ?_ | refine aa (middle (by omega)) ?_ | refine aa (aG (by omega)) ?_ | refine aa (aH (by omega)) ?_ | refine aa (aI (by omega)) ?_ | refine aa (aJ (by omega)) ?_ | refine aa (aK (by omega)) ?_ | refine aa (aL (by omega)) ?_ | refine aa (aM (by omega)) ?_ | refine aa (aO (by omega)) ?_ | refine aa (af (by omega)) ?_ | refine aa (ay (by omega)) ?_ | refine aa (eU (by omega)) ?_ | refine aa (eY (by omega)) ?_ | refine aa (fc (by omega)) ?_ | refine aa (fh (by omega)) ?_ | refine aa (fl (by omega)) ?_ | refine aa (fq (by omega)) ?_ | refine aa (fy (by omega)) ?_ | refine aa (fD (by omega)) ?_)
 (try simp only [List.cons.injEq, Lf.i.injEq, and_true, true_and]); (try omega)
end Go.Am
/-
 CONTRACTS, BY PROGRAM: moves of lines, products of moves.
-/
set_option maxRecDepth 100000
namespace Go.Am
open Sx Go.Proofs
theorem fX {c : Int} (h : -4096 ≤ c ∧ c ≤ 4096) : Cc 61 [.i 1, .i c] [.i 4, .i (2 * c), .i 0, .i 0] := by
 refine q61 rfl ?_; unfold p61
 repeat (first | simp (disch := omega) only [↓qxs, ↓qxc, ↓qxa] | refine aa (aD (by omega)) ?_)
 (try simp only [List.cons.injEq, Lf.i.injEq, and_true, true_and]); (try omega)
theorem fY {c : Int} (h : -4096 ≤ c ∧ c ≤ 4096) : Cc 61 [.i 2, .i c] [.i 6, .i 0, .i (2 * c), .i 0] := by
 refine q61 rfl ?_; unfold p61
 repeat (first | simp (disch := omega) only [↓qxs, ↓qxc, ↓qxa] | refine aa (aD (by omega)) ?_)
 (try simp only [List.cons.injEq, Lf.i.injEq, and_true, true_and]); (try omega)
theorem cj {c : Int} (h : -4096 ≤ c ∧ c ≤ 4096) : Cc 61 [.i 3, .i c] [.i 5, .i c, .i c, .i 0] := by
 refine q61 rfl ?_; unfold p61
 repeat (first | simp (disch := omega) only [↓qxs, ↓qxc, ↓qxa] | refine aa (aD (by omega)) ?_)
 (try simp only [List.cons.injEq, Lf.i.injEq, and_true, true_and]); (try omega)
theorem cm {c : Int} (h : -4096 ≤ c ∧ c ≤ 4096) : Cc 61 [.i 4, .i c] [.i 7, .i (0 - c), .i c, .i 0] := by
 refine q61 rfl ?_; unfold p61
 repeat (first | simp (disch := omega) only [↓qxs, ↓qxc, ↓qxa] | refine aa (aD (by omega)) ?_)
 (try simp only [List.cons.injEq, Lf.i.injEq, and_true, true_and]); (try omega)
theorem mnum0 : Cc 87 [.i 1, .i 0, .i 0, .i 1] [.i 0] := by
 refine q87 rfl ?_; unfold p87
 repeat (first | simp (disch := omega) only [↓qxs, ↓qxc, ↓qxa] | refine az (by simp only [aW, putL, offX, Int.reduceToNat, Int.reduceAdd, Int.reduceMul, Int.reduceMod, Int.reduceSub, Int.reduceNeg, Int.reduceDiv, Nat.reduceAdd, Nat.reduceMul, Nat.reduceLeDiff, List.length_cons, List.length_nil, ↓reduceIte, List.drop_succ_cons, List.drop_zero, List.take_succ_cons, List.take_zero, List.cons_append, List.nil_append, Nat.zero_add, Int.toNat_zero, Nat.zero_mul, Nat.add_zero, Int.zero_add]; exact rfl) ?_ | refine au 9 ?_)
 (try simp only [List.cons.injEq, Lf.i.injEq, and_true, true_and]); (try omega)
theorem mnum1 : Cc 87 [.i 0, .i (-1), .i 1, .i 0] [.i 1] := by
 refine q87 rfl ?_; unfold p87
 repeat (first | simp (disch := omega) only [↓qxs, ↓qxc, ↓qxa] | refine az (by simp only [aW, putL, offX, Int.reduceToNat, Int.reduceAdd, Int.reduceMul, Int.reduceMod, Int.reduceSub, Int.reduceNeg, Int.reduceDiv, Nat.reduceAdd, Nat.reduceMul, Nat.reduceLeDiff, List.length_cons, List.length_nil, ↓reduceIte, List.drop_succ_cons, List.drop_zero, List.take_succ_cons, List.take_zero, List.cons_append, List.nil_append, Nat.zero_add, Int.toNat_zero, Nat.zero_mul, Nat.add_zero, Int.zero_add]; exact rfl) ?_ | refine au 9 ?_)
 (try simp only [List.cons.injEq, Lf.i.injEq, and_true, true_and]); (try omega)
theorem mnum2 : Cc 87 [.i (-1), .i 0, .i 0, .i (-1)] [.i 2] := by
 refine q87 rfl ?_; unfold p87
 repeat (first | simp (disch := omega) only [↓qxs, ↓qxc, ↓qxa] | refine az (by simp only [aW, putL, offX, Int.reduceToNat, Int.reduceAdd, Int.reduceMul, Int.reduceMod, Int.reduceSub, Int.reduceNeg, Int.reduceDiv, Nat.reduceAdd, Nat.reduceMul, Nat.reduceLeDiff, List.length_cons, List.length_nil, ↓reduceIte, List.drop_succ_cons, List.drop_zero, List.take_succ_cons, List.take_zero, List.cons_append, List.nil_append, Nat.zero_add, Int.toNat_zero, Nat.zero_mul, Nat.add_zero, Int.zero_add]; exact rfl) ?_ | refine au 9 ?_)
 (try simp only [List.cons.injEq, Lf.i.injEq, and_true, true_and]); (try omega)
theorem mnum3 : Cc 87 [.i 0, .i 1, .i (-1), .i 0] [.i 3] := by
 refine q87 rfl ?_; unfold p87
 repeat (first | simp (disch := omega) only [↓qxs, ↓qxc, ↓qxa] | refine az (by simp only [aW, putL, offX, Int.reduceToNat, Int.reduceAdd, Int.reduceMul, Int.reduceMod, Int.reduceSub, Int.reduceNeg, Int.reduceDiv, Nat.reduceAdd, Nat.reduceMul, Nat.reduceLeDiff, List.length_cons, List.length_nil, ↓reduceIte, List.drop_succ_cons, List.drop_zero, List.take_succ_cons, List.take_zero, List.cons_append, List.nil_append, Nat.zero_add, Int.toNat_zero, Nat.zero_mul, Nat.add_zero, Int.zero_add]; exact rfl) ?_ | refine au 9 ?_)
 (try simp only [List.cons.injEq, Lf.i.injEq, and_true, true_and]); (try omega)
theorem mnum4 : Cc 87 [.i (-1), .i 0, .i 0, .i 1] [.i 4] := by
 refine q87 rfl ?_; unfold p87
 repeat (first | simp (disch := omega) only [↓qxs, ↓qxc, ↓qxa] | refine az (by simp only [aW, putL, offX, Int.reduceToNat, Int.reduceAdd, Int.reduceMul, Int.reduceMod, Int.reduceSub, Int.reduceNeg, Int.reduceDiv, Nat.reduceAdd, Nat.reduceMul, Nat.reduceLeDiff, List.length_cons, List.length_nil, ↓reduceIte, List.drop_succ_cons, List.drop_zero, List.take_succ_cons, List.take_zero, List.cons_append, List.nil_append, Nat.zero_add, Int.toNat_zero, Nat.zero_mul, Nat.add_zero, Int.zero_add]; exact rfl) ?_ | refine au 9 ?_)
 (try simp only [List.cons.injEq, Lf.i.injEq, and_true, true_and]); (try omega)
theorem mnum5 : Cc 87 [.i 0, .i (-1), .i (-1), .i 0] [.i 5] := by
 refine q87 rfl ?_; unfold p87
 repeat (first | simp (disch := omega) only [↓qxs, ↓qxc, ↓qxa] | refine az (by simp only [aW, putL, offX, Int.reduceToNat, Int.reduceAdd, Int.reduceMul, Int.reduceMod, Int.reduceSub, Int.reduceNeg, Int.reduceDiv, Nat.reduceAdd, Nat.reduceMul, Nat.reduceLeDiff, List.length_cons, List.length_nil, ↓reduceIte, List.drop_succ_cons, List.drop_zero, List.take_succ_cons, List.take_zero, List.cons_append, List.nil_append, Nat.zero_add, Int.toNat_zero, Nat.zero_mul, Nat.add_zero, Int.zero_add]; exact rfl) ?_ | refine au 9 ?_)
 (try simp only [List.cons.injEq, Lf.i.injEq, and_true, true_and]); (try omega)
theorem mnum6 : Cc 87 [.i 1, .i 0, .i 0, .i (-1)] [.i 6] := by
 refine q87 rfl ?_; unfold p87
 repeat (first | simp (disch := omega) only [↓qxs, ↓qxc, ↓qxa] | refine az (by simp only [aW, putL, offX, Int.reduceToNat, Int.reduceAdd, Int.reduceMul, Int.reduceMod, Int.reduceSub, Int.reduceNeg, Int.reduceDiv, Nat.reduceAdd, Nat.reduceMul, Nat.reduceLeDiff, List.length_cons, List.length_nil, ↓reduceIte, List.drop_succ_cons, List.drop_zero, List.take_succ_cons, List.take_zero, List.cons_append, List.nil_append, Nat.zero_add, Int.toNat_zero, Nat.zero_mul, Nat.add_zero, Int.zero_add]; exact rfl) ?_ | refine au 9 ?_)
 (try simp only [List.cons.injEq, Lf.i.injEq, and_true, true_and]); (try omega)
theorem mnum7 : Cc 87 [.i 0, .i 1, .i 1, .i 0] [.i 7] := by
 refine q87 rfl ?_; unfold p87
 repeat (first | simp (disch := omega) only [↓qxs, ↓qxc, ↓qxa] | refine az (by simp only [aW, putL, offX, Int.reduceToNat, Int.reduceAdd, Int.reduceMul, Int.reduceMod, Int.reduceSub, Int.reduceNeg, Int.reduceDiv, Nat.reduceAdd, Nat.reduceMul, Nat.reduceLeDiff, List.length_cons, List.length_nil, ↓reduceIte, List.drop_succ_cons, List.drop_zero, List.take_succ_cons, List.take_zero, List.cons_append, List.nil_append, Nat.zero_add, Int.toNat_zero, Nat.zero_mul, Nat.add_zero, Int.zero_add]; exact rfl) ?_ | refine au 9 ?_)
 (try simp only [List.cons.injEq, Lf.i.injEq, and_true, true_and]); (try omega)
theorem mlim0 {m n : Int} (h : -16384 ≤ m ∧ m ≤ 16384 ∧ -16384 ≤ n ∧ n ≤ 16384 ∧ (m + n) % 2 = 0) : Cc 86 [.i 0, .i m, .i n] [.i 0, .i m, .i n, .i 0] := by
 refine q86 rfl ?_; unfold p86
 repeat (first | simp (disch := omega) only [↓qxs, ↓qxc, ↓qxa] | refine aa (af (by omega)) ?_)
 (try simp only [List.cons.injEq, Lf.i.injEq, and_true, true_and]); (try omega)
theorem mlim1 {m n : Int} (h : -16384 ≤ m ∧ m ≤ 16384 ∧ -16384 ≤ n ∧ n ≤ 16384 ∧ (m + n) % 2 = 0) : Cc 86 [.i 1, .i m, .i n] [.i 1, .i m, .i n, .i 0] := by
 refine q86 rfl ?_; unfold p86
 repeat (first | simp (disch := omega) only [↓qxs, ↓qxc, ↓qxa] | refine aa (af (by omega)) ?_)
 (try simp only [List.cons.injEq, Lf.i.injEq, and_true, true_and]); (try omega)
theorem mlim2 {m n : Int} (h : -16384 ≤ m ∧ m ≤ 16384 ∧ -16384 ≤ n ∧ n ≤ 16384 ∧ (m + n) % 2 = 0) : Cc 86 [.i 2, .i m, .i n] [.i 2, .i m, .i n, .i 0] := by
 refine q86 rfl ?_; unfold p86
 repeat (first | simp (disch := omega) only [↓qxs, ↓qxc, ↓qxa] | refine aa (af (by omega)) ?_)
 (try simp only [List.cons.injEq, Lf.i.injEq, and_true, true_and]); (try omega)
theorem mlim3 {m n : Int} (h : -16384 ≤ m ∧ m ≤ 16384 ∧ -16384 ≤ n ∧ n ≤ 16384 ∧ (m + n) % 2 = 0) : Cc 86 [.i 3, .i m, .i n] [.i 3, .i m, .i n, .i 0] := by
 refine q86 rfl ?_; unfold p86
 repeat (first | simp (disch := omega) only [↓qxs, ↓qxc, ↓qxa] | refine aa (af (by omega)) ?_)
 (try simp only [List.cons.injEq, Lf.i.injEq, and_true, true_and]); (try omega)
theorem mlim4 {m n : Int} (h : -16384 ≤ m ∧ m ≤ 16384 ∧ -16384 ≤ n ∧ n ≤ 16384 ∧ (m + n) % 2 = 0) : Cc 86 [.i 4, .i m, .i n] [.i 4, .i m, .i n, .i 0] := by
 refine q86 rfl ?_; unfold p86
 repeat (first | simp (disch := omega) only [↓qxs, ↓qxc, ↓qxa] | refine aa (af (by omega)) ?_)
 (try simp only [List.cons.injEq, Lf.i.injEq, and_true, true_and]); (try omega)
theorem mlim5 {m n : Int} (h : -16384 ≤ m ∧ m ≤ 16384 ∧ -16384 ≤ n ∧ n ≤ 16384 ∧ (m + n) % 2 = 0) : Cc 86 [.i 5, .i m, .i n] [.i 5, .i m, .i n, .i 0] := by
 refine q86 rfl ?_; unfold p86
 repeat (first | simp (disch := omega) only [↓qxs, ↓qxc, ↓qxa] | refine aa (af (by omega)) ?_)
 (try simp only [List.cons.injEq, Lf.i.injEq, and_true, true_and]); (try omega)
theorem mlim6 {m n : Int} (h : -16384 ≤ m ∧ m ≤ 16384 ∧ -16384 ≤ n ∧ n ≤ 16384 ∧ (m + n) % 2 = 0) : Cc 86 [.i 6, .i m, .i n] [.i 6, .i m, .i n, .i 0] := by
 refine q86 rfl ?_; unfold p86
 repeat (first | simp (disch := omega) only [↓qxs, ↓qxc, ↓qxa] | refine aa (af (by omega)) ?_)
 (try simp only [List.cons.injEq, Lf.i.injEq, and_true, true_and]); (try omega)
theorem mlim7 {m n : Int} (h : -16384 ≤ m ∧ m ≤ 16384 ∧ -16384 ≤ n ∧ n ≤ 16384 ∧ (m + n) % 2 = 0) : Cc 86 [.i 7, .i m, .i n] [.i 7, .i m, .i n, .i 0] := by
 refine q86 rfl ?_; unfold p86
 repeat (first | simp (disch := omega) only [↓qxs, ↓qxc, ↓qxa] | refine aa (af (by omega)) ?_)
 (try simp only [List.cons.injEq, Lf.i.injEq, and_true, true_and]); (try omega)
theorem mmul04 : Cc 88 [.i 1, .i 0, .i 0, .i 1, .i (-1), .i 0, .i 0, .i 1] [.i (-1), .i 0, .i 0, .i 1] := by
 refine q88 rfl ?_; unfold p88
 repeat (first | simp (disch := omega) only [↓qxs, ↓qxc, ↓qxa] | refine aa (mof4 (by omega)) ?_)
 (try simp only [List.cons.injEq, Lf.i.injEq, and_true, true_and]); (try omega)
theorem mthen04 {m n u v : Int} (h : (-16384 ≤ m ∧ m ≤ 16384 ∧ -16384 ≤ n ∧ n ≤ 16384 ∧ (m + n) % 2 = 0) ∧ -16384 ≤ u ∧ u ≤ 16384 ∧ -16384 ≤ v ∧ v ≤ 16384 ∧ (u + v) % 2 = 0 ∧ -16384 ≤ -(m) + u ∧ -(m) + u ≤ 16384 ∧ -16384 ≤ n + v ∧ n + v ≤ 16384 ∧ (-(m) + u + (n + v)) % 2 = 0) : Cc 62 [.i 0, .i m, .i n, .i 4, .i u, .i v] [.i 4, .i (-(m) + u), .i (n + v), .i 0] := by
 refine q62 rfl ?_; unfold p62
 repeat (first | simp (disch := omega) only [↓qxs, ↓qxc, ↓qxa, ↓gt0, ↓gt4] | refine aa (af (by omega)) ?_ | refine aa (mof4 (by omega)) ?_ | refine aa mmul04 ?_ | refine aa mnum4 ?_ | refine aa (mlim4 (by omega)) ?_)
 (try simp only [List.cons.injEq, Lf.i.injEq, and_true, true_and]); (try omega)
theorem mmul05 : Cc 88 [.i 1, .i 0, .i 0, .i 1, .i 0, .i (-1), .i (-1), .i 0] [.i 0, .i (-1), .i (-1), .i 0] := by
 refine q88 rfl ?_; unfold p88
 repeat (first | simp (disch := omega) only [↓qxs, ↓qxc, ↓qxa] | refine aa (mof5 (by omega)) ?_)
 (try simp only [List.cons.injEq, Lf.i.injEq, and_true, true_and]); (try omega)
theorem mR {m n u v : Int} (h : (-16384 ≤ m ∧ m ≤ 16384 ∧ -16384 ≤ n ∧ n ≤ 16384 ∧ (m + n) % 2 = 0) ∧ -16384 ≤ u ∧ u ≤ 16384 ∧ -16384 ≤ v ∧ v ≤ 16384 ∧ (u + v) % 2 = 0 ∧ -16384 ≤ -(n) + u ∧ -(n) + u ≤ 16384 ∧ -16384 ≤ -(m) + v ∧ -(m) + v ≤ 16384 ∧ (-(n) + u + (-(m) + v)) % 2 = 0) : Cc 62 [.i 0, .i m, .i n, .i 5, .i u, .i v] [.i 5, .i (-(n) + u), .i (-(m) + v), .i 0] := by
 refine q62 rfl ?_; unfold p62
 repeat (first | simp (disch := omega) only [↓qxs, ↓qxc, ↓qxa, ↓gt0, ↓gt5] | refine aa (af (by omega)) ?_ | refine aa (mof5 (by omega)) ?_ | refine aa mmul05 ?_ | refine aa mnum5 ?_ | refine aa (mlim5 (by omega)) ?_)
 (try simp only [List.cons.injEq, Lf.i.injEq, and_true, true_and]); (try omega)
theorem mmul06 : Cc 88 [.i 1, .i 0, .i 0, .i 1, .i 1, .i 0, .i 0, .i (-1)] [.i 1, .i 0, .i 0, .i (-1)] := by
 refine q88 rfl ?_; unfold p88
 repeat (first | simp (disch := omega) only [↓qxs, ↓qxc, ↓qxa] | refine aa (mof6 (by omega)) ?_)
 (try simp only [List.cons.injEq, Lf.i.injEq, and_true, true_and]); (try omega)
theorem mthen06 {m n u v : Int} (h : (-16384 ≤ m ∧ m ≤ 16384 ∧ -16384 ≤ n ∧ n ≤ 16384 ∧ (m + n) % 2 = 0) ∧ -16384 ≤ u ∧ u ≤ 16384 ∧ -16384 ≤ v ∧ v ≤ 16384 ∧ (u + v) % 2 = 0 ∧ -16384 ≤ m + u ∧ m + u ≤ 16384 ∧ -16384 ≤ -(n) + v ∧ -(n) + v ≤ 16384 ∧ (m + u + (-(n) + v)) % 2 = 0) : Cc 62 [.i 0, .i m, .i n, .i 6, .i u, .i v] [.i 6, .i (m + u), .i (-(n) + v), .i 0] := by
 refine q62 rfl ?_; unfold p62
 repeat (first | simp (disch := omega) only [↓qxs, ↓qxc, ↓qxa, ↓gt0, ↓gt6] | refine aa (af (by omega)) ?_ | refine aa (mof6 (by omega)) ?_ | refine aa mmul06 ?_ | refine aa mnum6 ?_ | refine aa (mlim6 (by omega)) ?_)
 (try simp only [List.cons.injEq, Lf.i.injEq, and_true, true_and]); (try omega)
theorem mmul07 : Cc 88 [.i 1, .i 0, .i 0, .i 1, .i 0, .i 1, .i 1, .i 0] [.i 0, .i 1, .i 1, .i 0] := by
 refine q88 rfl ?_; unfold p88
 repeat (first | simp (disch := omega) only [↓qxs, ↓qxc, ↓qxa] | refine aa (mof7 (by omega)) ?_)
 (try simp only [List.cons.injEq, Lf.i.injEq, and_true, true_and]); (try omega)
theorem mS {m n u v : Int} (h : (-16384 ≤ m ∧ m ≤ 16384 ∧ -16384 ≤ n ∧ n ≤ 16384 ∧ (m + n) % 2 = 0) ∧ -16384 ≤ u ∧ u ≤ 16384 ∧ -16384 ≤ v ∧ v ≤ 16384 ∧ (u + v) % 2 = 0 ∧ -16384 ≤ n + u ∧ n + u ≤ 16384 ∧ -16384 ≤ m + v ∧ m + v ≤ 16384 ∧ (n + u + (m + v)) % 2 = 0) : Cc 62 [.i 0, .i m, .i n, .i 7, .i u, .i v] [.i 7, .i (n + u), .i (m + v), .i 0] := by
 refine q62 rfl ?_; unfold p62
 repeat (first | simp (disch := omega) only [↓qxs, ↓qxc, ↓qxa, ↓gt0, ↓gt7] | refine aa (af (by omega)) ?_ | refine aa (mof7 (by omega)) ?_ | refine aa mmul07 ?_ | refine aa mnum7 ?_ | refine aa (mlim7 (by omega)) ?_)
 (try simp only [List.cons.injEq, Lf.i.injEq, and_true, true_and]); (try omega)
theorem mmul14 : Cc 88 [.i 0, .i (-1), .i 1, .i 0, .i (-1), .i 0, .i 0, .i 1] [.i 0, .i 1, .i 1, .i 0] := by
 refine q88 rfl ?_; unfold p88
 repeat (first | simp (disch := omega) only [↓qxs, ↓qxc, ↓qxa] | refine aa (mof4 (by omega)) ?_)
 (try simp only [List.cons.injEq, Lf.i.injEq, and_true, true_and]); (try omega)
theorem mthen14 {m n u v : Int} (h : (-16384 ≤ m ∧ m ≤ 16384 ∧ -16384 ≤ n ∧ n ≤ 16384 ∧ (m + n) % 2 = 0) ∧ -16384 ≤ u ∧ u ≤ 16384 ∧ -16384 ≤ v ∧ v ≤ 16384 ∧ (u + v) % 2 = 0 ∧ -16384 ≤ -(m) + u ∧ -(m) + u ≤ 16384 ∧ -16384 ≤ n + v ∧ n + v ≤ 16384 ∧ (-(m) + u + (n + v)) % 2 = 0) : Cc 62 [.i 1, .i m, .i n, .i 4, .i u, .i v] [.i 7, .i (-(m) + u), .i (n + v), .i 0] := by
 refine q62 rfl ?_; unfold p62
 repeat (first | simp (disch := omega) only [↓qxs, ↓qxc, ↓qxa, ↓gt1, ↓gt4] | refine aa (af (by omega)) ?_ | refine aa (mof4 (by omega)) ?_ | refine aa mmul14 ?_ | refine aa mnum7 ?_ | refine aa (mlim7 (by omega)) ?_)
 (try simp only [List.cons.injEq, Lf.i.injEq, and_true, true_and]); (try omega)
theorem mmul15 : Cc 88 [.i 0, .i (-1), .i 1, .i 0, .i 0, .i (-1), .i (-1), .i 0] [.i (-1), .i 0, .i 0, .i 1] := by
 refine q88 rfl ?_; unfold p88
 repeat (first | simp (disch := omega) only [↓qxs, ↓qxc, ↓qxa] | refine aa (mof5 (by omega)) ?_)
 (try simp only [List.cons.injEq, Lf.i.injEq, and_true, true_and]); (try omega)
theorem mT {m n u v : Int} (h : (-16384 ≤ m ∧ m ≤ 16384 ∧ -16384 ≤ n ∧ n ≤ 16384 ∧ (m + n) % 2 = 0) ∧ -16384 ≤ u ∧ u ≤ 16384 ∧ -16384 ≤ v ∧ v ≤ 16384 ∧ (u + v) % 2 = 0 ∧ -16384 ≤ -(n) + u ∧ -(n) + u ≤ 16384 ∧ -16384 ≤ -(m) + v ∧ -(m) + v ≤ 16384 ∧ (-(n) + u + (-(m) + v)) % 2 = 0) : Cc 62 [.i 1, .i m, .i n, .i 5, .i u, .i v] [.i 4, .i (-(n) + u), .i (-(m) + v), .i 0] := by
 refine q62 rfl ?_; unfold p62
 repeat (first | simp (disch := omega) only [↓qxs, ↓qxc, ↓qxa, ↓gt1, ↓gt5] | refine aa (af (by omega)) ?_ | refine aa (mof5 (by omega)) ?_ | refine aa mmul15 ?_ | refine aa mnum4 ?_ | refine aa (mlim4 (by omega)) ?_)
 (try simp only [List.cons.injEq, Lf.i.injEq, and_true, true_and]); (try omega)
theorem mmul16 : Cc 88 [.i 0, .i (-1), .i 1, .i 0, .i 1, .i 0, .i 0, .i (-1)] [.i 0, .i (-1), .i (-1), .i 0] := by
 refine q88 rfl ?_; unfold p88
 repeat (first | simp (disch := omega) only [↓qxs, ↓qxc, ↓qxa] | refine aa (mof6 (by omega)) ?_)
 (try simp only [List.cons.injEq, Lf.i.injEq, and_true, true_and]); (try omega)
theorem mthen16 {m n u v : Int} (h : (-16384 ≤ m ∧ m ≤ 16384 ∧ -16384 ≤ n ∧ n ≤ 16384 ∧ (m + n) % 2 = 0) ∧ -16384 ≤ u ∧ u ≤ 16384 ∧ -16384 ≤ v ∧ v ≤ 16384 ∧ (u + v) % 2 = 0 ∧ -16384 ≤ m + u ∧ m + u ≤ 16384 ∧ -16384 ≤ -(n) + v ∧ -(n) + v ≤ 16384 ∧ (m + u + (-(n) + v)) % 2 = 0) : Cc 62 [.i 1, .i m, .i n, .i 6, .i u, .i v] [.i 5, .i (m + u), .i (-(n) + v), .i 0] := by
 refine q62 rfl ?_; unfold p62
 repeat (first | simp (disch := omega) only [↓qxs, ↓qxc, ↓qxa, ↓gt1, ↓gt6] | refine aa (af (by omega)) ?_ | refine aa (mof6 (by omega)) ?_ | refine aa mmul16 ?_ | refine aa mnum5 ?_ | refine aa (mlim5 (by omega)) ?_)
 (try simp only [List.cons.injEq, Lf.i.injEq, and_true, true_and]); (try omega)
theorem mmul17 : Cc 88 [.i 0, .i (-1), .i 1, .i 0, .i 0, .i 1, .i 1, .i 0] [.i 1, .i 0, .i 0, .i (-1)] := by
 refine q88 rfl ?_; unfold p88
 repeat (first | simp (disch := omega) only [↓qxs, ↓qxc, ↓qxa] | refine aa (mof7 (by omega)) ?_)
 (try simp only [List.cons.injEq, Lf.i.injEq, and_true, true_and]); (try omega)
theorem mU {m n u v : Int} (h : (-16384 ≤ m ∧ m ≤ 16384 ∧ -16384 ≤ n ∧ n ≤ 16384 ∧ (m + n) % 2 = 0) ∧ -16384 ≤ u ∧ u ≤ 16384 ∧ -16384 ≤ v ∧ v ≤ 16384 ∧ (u + v) % 2 = 0 ∧ -16384 ≤ n + u ∧ n + u ≤ 16384 ∧ -16384 ≤ m + v ∧ m + v ≤ 16384 ∧ (n + u + (m + v)) % 2 = 0) : Cc 62 [.i 1, .i m, .i n, .i 7, .i u, .i v] [.i 6, .i (n + u), .i (m + v), .i 0] := by
 refine q62 rfl ?_; unfold p62
 repeat (first | simp (disch := omega) only [↓qxs, ↓qxc, ↓qxa, ↓gt1, ↓gt7] | refine aa (af (by omega)) ?_ | refine aa (mof7 (by omega)) ?_ | refine aa mmul17 ?_ | refine aa mnum6 ?_ | refine aa (mlim6 (by omega)) ?_)
 (try simp only [List.cons.injEq, Lf.i.injEq, and_true, true_and]); (try omega)
theorem mmul24 : Cc 88 [.i (-1), .i 0, .i 0, .i (-1), .i (-1), .i 0, .i 0, .i 1] [.i 1, .i 0, .i 0, .i (-1)] := by
 refine q88 rfl ?_; unfold p88
 repeat (first | simp (disch := omega) only [↓qxs, ↓qxc, ↓qxa] | refine aa (mof4 (by omega)) ?_)
 (try simp only [List.cons.injEq, Lf.i.injEq, and_true, true_and]); (try omega)
theorem mthen24 {m n u v : Int} (h : (-16384 ≤ m ∧ m ≤ 16384 ∧ -16384 ≤ n ∧ n ≤ 16384 ∧ (m + n) % 2 = 0) ∧ -16384 ≤ u ∧ u ≤ 16384 ∧ -16384 ≤ v ∧ v ≤ 16384 ∧ (u + v) % 2 = 0 ∧ -16384 ≤ -(m) + u ∧ -(m) + u ≤ 16384 ∧ -16384 ≤ n + v ∧ n + v ≤ 16384 ∧ (-(m) + u + (n + v)) % 2 = 0) : Cc 62 [.i 2, .i m, .i n, .i 4, .i u, .i v] [.i 6, .i (-(m) + u), .i (n + v), .i 0] := by
 refine q62 rfl ?_; unfold p62
 repeat (first | simp (disch := omega) only [↓qxs, ↓qxc, ↓qxa, ↓gt2, ↓gt4] | refine aa (af (by omega)) ?_ | refine aa (mof4 (by omega)) ?_ | refine aa mmul24 ?_ | refine aa mnum6 ?_ | refine aa (mlim6 (by omega)) ?_)
 (try simp only [List.cons.injEq, Lf.i.injEq, and_true, true_and]); (try omega)
theorem mmul25 : Cc 88 [.i (-1), .i 0, .i 0, .i (-1), .i 0, .i (-1), .i (-1), .i 0] [.i 0, .i 1, .i 1, .i 0] := by
 refine q88 rfl ?_; unfold p88
 repeat (first | simp (disch := omega) only [↓qxs, ↓qxc, ↓qxa] | refine aa (mof5 (by omega)) ?_)
 (try simp only [List.cons.injEq, Lf.i.injEq, and_true, true_and]); (try omega)
theorem mV {m n u v : Int} (h : (-16384 ≤ m ∧ m ≤ 16384 ∧ -16384 ≤ n ∧ n ≤ 16384 ∧ (m + n) % 2 = 0) ∧ -16384 ≤ u ∧ u ≤ 16384 ∧ -16384 ≤ v ∧ v ≤ 16384 ∧ (u + v) % 2 = 0 ∧ -16384 ≤ -(n) + u ∧ -(n) + u ≤ 16384 ∧ -16384 ≤ -(m) + v ∧ -(m) + v ≤ 16384 ∧ (-(n) + u + (-(m) + v)) % 2 = 0) : Cc 62 [.i 2, .i m, .i n, .i 5, .i u, .i v] [.i 7, .i (-(n) + u), .i (-(m) + v), .i 0] := by
 refine q62 rfl ?_; unfold p62
 repeat (first | simp (disch := omega) only [↓qxs, ↓qxc, ↓qxa, ↓gt2, ↓gt5] | refine aa (af (by omega)) ?_ | refine aa (mof5 (by omega)) ?_ | refine aa mmul25 ?_ | refine aa mnum7 ?_ | refine aa (mlim7 (by omega)) ?_)
 (try simp only [List.cons.injEq, Lf.i.injEq, and_true, true_and]); (try omega)
theorem mmul26 : Cc 88 [.i (-1), .i 0, .i 0, .i (-1), .i 1, .i 0, .i 0, .i (-1)] [.i (-1), .i 0, .i 0, .i 1] := by
 refine q88 rfl ?_; unfold p88
 repeat (first | simp (disch := omega) only [↓qxs, ↓qxc, ↓qxa] | refine aa (mof6 (by omega)) ?_)
 (try simp only [List.cons.injEq, Lf.i.injEq, and_true, true_and]); (try omega)
theorem mthen26 {m n u v : Int} (h : (-16384 ≤ m ∧ m ≤ 16384 ∧ -16384 ≤ n ∧ n ≤ 16384 ∧ (m + n) % 2 = 0) ∧ -16384 ≤ u ∧ u ≤ 16384 ∧ -16384 ≤ v ∧ v ≤ 16384 ∧ (u + v) % 2 = 0 ∧ -16384 ≤ m + u ∧ m + u ≤ 16384 ∧ -16384 ≤ -(n) + v ∧ -(n) + v ≤ 16384 ∧ (m + u + (-(n) + v)) % 2 = 0) : Cc 62 [.i 2, .i m, .i n, .i 6, .i u, .i v] [.i 4, .i (m + u), .i (-(n) + v), .i 0] := by
 refine q62 rfl ?_; unfold p62
 repeat (first | simp (disch := omega) only [↓qxs, ↓qxc, ↓qxa, ↓gt2, ↓gt6] | refine aa (af (by omega)) ?_ | refine aa (mof6 (by omega)) ?_ | refine aa mmul26 ?_ | refine aa mnum4 ?_ | refine aa (mlim4 (by omega)) ?_)
 (try simp only [List.cons.injEq, Lf.i.injEq, and_true, true_and]); (try omega)
theorem mmul27 : Cc 88 [.i (-1), .i 0, .i 0, .i (-1), .i 0, .i 1, .i 1, .i 0] [.i 0, .i (-1), .i (-1), .i 0] := by
 refine q88 rfl ?_; unfold p88
 repeat (first | simp (disch := omega) only [↓qxs, ↓qxc, ↓qxa] | refine aa (mof7 (by omega)) ?_)
 (try simp only [List.cons.injEq, Lf.i.injEq, and_true, true_and]); (try omega)
theorem mW {m n u v : Int} (h : (-16384 ≤ m ∧ m ≤ 16384 ∧ -16384 ≤ n ∧ n ≤ 16384 ∧ (m + n) % 2 = 0) ∧ -16384 ≤ u ∧ u ≤ 16384 ∧ -16384 ≤ v ∧ v ≤ 16384 ∧ (u + v) % 2 = 0 ∧ -16384 ≤ n + u ∧ n + u ≤ 16384 ∧ -16384 ≤ m + v ∧ m + v ≤ 16384 ∧ (n + u + (m + v)) % 2 = 0) : Cc 62 [.i 2, .i m, .i n, .i 7, .i u, .i v] [.i 5, .i (n + u), .i (m + v), .i 0] := by
 refine q62 rfl ?_; unfold p62
 repeat (first | simp (disch := omega) only [↓qxs, ↓qxc, ↓qxa, ↓gt2, ↓gt7] | refine aa (af (by omega)) ?_ | refine aa (mof7 (by omega)) ?_ | refine aa mmul27 ?_ | refine aa mnum5 ?_ | refine aa (mlim5 (by omega)) ?_)
 (try simp only [List.cons.injEq, Lf.i.injEq, and_true, true_and]); (try omega)
theorem mmul34 : Cc 88 [.i 0, .i 1, .i (-1), .i 0, .i (-1), .i 0, .i 0, .i 1] [.i 0, .i (-1), .i (-1), .i 0] := by
 refine q88 rfl ?_; unfold p88
 repeat (first | simp (disch := omega) only [↓qxs, ↓qxc, ↓qxa] | refine aa (mof4 (by omega)) ?_)
 (try simp only [List.cons.injEq, Lf.i.injEq, and_true, true_and]); (try omega)
theorem mthen34 {m n u v : Int} (h : (-16384 ≤ m ∧ m ≤ 16384 ∧ -16384 ≤ n ∧ n ≤ 16384 ∧ (m + n) % 2 = 0) ∧ -16384 ≤ u ∧ u ≤ 16384 ∧ -16384 ≤ v ∧ v ≤ 16384 ∧ (u + v) % 2 = 0 ∧ -16384 ≤ -(m) + u ∧ -(m) + u ≤ 16384 ∧ -16384 ≤ n + v ∧ n + v ≤ 16384 ∧ (-(m) + u + (n + v)) % 2 = 0) : Cc 62 [.i 3, .i m, .i n, .i 4, .i u, .i v] [.i 5, .i (-(m) + u), .i (n + v), .i 0] := by
 refine q62 rfl ?_; unfold p62
 repeat (first | simp (disch := omega) only [↓qxs, ↓qxc, ↓qxa, ↓gt3, ↓gt4] | refine aa (af (by omega)) ?_ | refine aa (mof4 (by omega)) ?_ | refine aa mmul34 ?_ | refine aa mnum5 ?_ | refine aa (mlim5 (by omega)) ?_)
 (try simp only [List.cons.injEq, Lf.i.injEq, and_true, true_and]); (try omega)
theorem mmul35 : Cc 88 [.i 0, .i 1, .i (-1), .i 0, .i 0, .i (-1), .i (-1), .i 0] [.i 1, .i 0, .i 0, .i (-1)] := by
 refine q88 rfl ?_; unfold p88
 repeat (first | simp (disch := omega) only [↓qxs, ↓qxc, ↓qxa] | refine aa (mof5 (by omega)) ?_)
 (try simp only [List.cons.injEq, Lf.i.injEq, and_true, true_and]); (try omega)
theorem mX {m n u v : Int} (h : (-16384 ≤ m ∧ m ≤ 16384 ∧ -16384 ≤ n ∧ n ≤ 16384 ∧ (m + n) % 2 = 0) ∧ -16384 ≤ u ∧ u ≤ 16384 ∧ -16384 ≤ v ∧ v ≤ 16384 ∧ (u + v) % 2 = 0 ∧ -16384 ≤ -(n) + u ∧ -(n) + u ≤ 16384 ∧ -16384 ≤ -(m) + v ∧ -(m) + v ≤ 16384 ∧ (-(n) + u + (-(m) + v)) % 2 = 0) : Cc 62 [.i 3, .i m, .i n, .i 5, .i u, .i v] [.i 6, .i (-(n) + u), .i (-(m) + v), .i 0] := by
 refine q62 rfl ?_; unfold p62
 repeat (first | simp (disch := omega) only [↓qxs, ↓qxc, ↓qxa, ↓gt3, ↓gt5] | refine aa (af (by omega)) ?_ | refine aa (mof5 (by omega)) ?_ | refine aa mmul35 ?_ | refine aa mnum6 ?_ | refine aa (mlim6 (by omega)) ?_)
 (try simp only [List.cons.injEq, Lf.i.injEq, and_true, true_and]); (try omega)
theorem mmul36 : Cc 88 [.i 0, .i 1, .i (-1), .i 0, .i 1, .i 0, .i 0, .i (-1)] [.i 0, .i 1, .i 1, .i 0] := by
 refine q88 rfl ?_; unfold p88
 repeat (first | simp (disch := omega) only [↓qxs, ↓qxc, ↓qxa] | refine aa (mof6 (by omega)) ?_)
 (try simp only [List.cons.injEq, Lf.i.injEq, and_true, true_and]); (try omega)
theorem mthen36 {m n u v : Int} (h : (-16384 ≤ m ∧ m ≤ 16384 ∧ -16384 ≤ n ∧ n ≤ 16384 ∧ (m + n) % 2 = 0) ∧ -16384 ≤ u ∧ u ≤ 16384 ∧ -16384 ≤ v ∧ v ≤ 16384 ∧ (u + v) % 2 = 0 ∧ -16384 ≤ m + u ∧ m + u ≤ 16384 ∧ -16384 ≤ -(n) + v ∧ -(n) + v ≤ 16384 ∧ (m + u + (-(n) + v)) % 2 = 0) : Cc 62 [.i 3, .i m, .i n, .i 6, .i u, .i v] [.i 7, .i (m + u), .i (-(n) + v), .i 0] := by
 refine q62 rfl ?_; unfold p62
 repeat (first | simp (disch := omega) only [↓qxs, ↓qxc, ↓qxa, ↓gt3, ↓gt6] | refine aa (af (by omega)) ?_ | refine aa (mof6 (by omega)) ?_ | refine aa mmul36 ?_ | refine aa mnum7 ?_ | refine aa (mlim7 (by omega)) ?_)
 (try simp only [List.cons.injEq, Lf.i.injEq, and_true, true_and]); (try omega)
theorem mmul37 : Cc 88 [.i 0, .i 1, .i (-1), .i 0, .i 0, .i 1, .i 1, .i 0] [.i (-1), .i 0, .i 0, .i 1] := by
 refine q88 rfl ?_; unfold p88
 repeat (first | simp (disch := omega) only [↓qxs, ↓qxc, ↓qxa] | refine aa (mof7 (by omega)) ?_)
 (try simp only [List.cons.injEq, Lf.i.injEq, and_true, true_and]); (try omega)
theorem mY {m n u v : Int} (h : (-16384 ≤ m ∧ m ≤ 16384 ∧ -16384 ≤ n ∧ n ≤ 16384 ∧ (m + n) % 2 = 0) ∧ -16384 ≤ u ∧ u ≤ 16384 ∧ -16384 ≤ v ∧ v ≤ 16384 ∧ (u + v) % 2 = 0 ∧ -16384 ≤ n + u ∧ n + u ≤ 16384 ∧ -16384 ≤ m + v ∧ m + v ≤ 16384 ∧ (n + u + (m + v)) % 2 = 0) : Cc 62 [.i 3, .i m, .i n, .i 7, .i u, .i v] [.i 4, .i (n + u), .i (m + v), .i 0] := by
 refine q62 rfl ?_; unfold p62
 repeat (first | simp (disch := omega) only [↓qxs, ↓qxc, ↓qxa, ↓gt3, ↓gt7] | refine aa (af (by omega)) ?_ | refine aa (mof7 (by omega)) ?_ | refine aa mmul37 ?_ | refine aa mnum4 ?_ | refine aa (mlim4 (by omega)) ?_)
 (try simp only [List.cons.injEq, Lf.i.injEq, and_true, true_and]); (try omega)
theorem mmul44 : Cc 88 [.i (-1), .i 0, .i 0, .i 1, .i (-1), .i 0, .i 0, .i 1] [.i 1, .i 0, .i 0, .i 1] := by
 refine q88 rfl ?_; unfold p88
 repeat (first | simp (disch := omega) only [↓qxs, ↓qxc, ↓qxa] | refine aa (mof4 (by omega)) ?_)
 (try simp only [List.cons.injEq, Lf.i.injEq, and_true, true_and]); (try omega)
theorem mthen44 {m n u v : Int} (h : (-16384 ≤ m ∧ m ≤ 16384 ∧ -16384 ≤ n ∧ n ≤ 16384 ∧ (m + n) % 2 = 0) ∧ -16384 ≤ u ∧ u ≤ 16384 ∧ -16384 ≤ v ∧ v ≤ 16384 ∧ (u + v) % 2 = 0 ∧ -16384 ≤ -(m) + u ∧ -(m) + u ≤ 16384 ∧ -16384 ≤ n + v ∧ n + v ≤ 16384 ∧ (-(m) + u + (n + v)) % 2 = 0) : Cc 62 [.i 4, .i m, .i n, .i 4, .i u, .i v] [.i 0, .i (-(m) + u), .i (n + v), .i 0] := by
 refine q62 rfl ?_; unfold p62
 repeat (first | simp (disch := omega) only [↓qxs, ↓qxc, ↓qxa, ↓gt4, ↓gt4] | refine aa (af (by omega)) ?_ | refine aa (mof4 (by omega)) ?_ | refine aa mmul44 ?_ | refine aa mnum0 ?_ | refine aa (mlim0 (by omega)) ?_)
 (try simp only [List.cons.injEq, Lf.i.injEq, and_true, true_and]); (try omega)
theorem mmul45 : Cc 88 [.i (-1), .i 0, .i 0, .i 1, .i 0, .i (-1), .i (-1), .i 0] [.i 0, .i (-1), .i 1, .i 0] := by
 refine q88 rfl ?_; unfold p88
 repeat (first | simp (disch := omega) only [↓qxs, ↓qxc, ↓qxa] | refine aa (mof5 (by omega)) ?_)
 (try simp only [List.cons.injEq, Lf.i.injEq, and_true, true_and]); (try omega)
theorem mZ {m n u v : Int} (h : (-16384 ≤ m ∧ m ≤ 16384 ∧ -16384 ≤ n ∧ n ≤ 16384 ∧ (m + n) % 2 = 0) ∧ -16384 ≤ u ∧ u ≤ 16384 ∧ -16384 ≤ v ∧ v ≤ 16384 ∧ (u + v) % 2 = 0 ∧ -16384 ≤ -(n) + u ∧ -(n) + u ≤ 16384 ∧ -16384 ≤ -(m) + v ∧ -(m) + v ≤ 16384 ∧ (-(n) + u + (-(m) + v)) % 2 = 0) : Cc 62 [.i 4, .i m, .i n, .i 5, .i u, .i v] [.i 1, .i (-(n) + u), .i (-(m) + v), .i 0] := by
 refine q62 rfl ?_; unfold p62
 repeat (first | simp (disch := omega) only [↓qxs, ↓qxc, ↓qxa, ↓gt4, ↓gt5] | refine aa (af (by omega)) ?_ | refine aa (mof5 (by omega)) ?_ | refine aa mmul45 ?_ | refine aa mnum1 ?_ | refine aa (mlim1 (by omega)) ?_)
 (try simp only [List.cons.injEq, Lf.i.injEq, and_true, true_and]); (try omega)
theorem mmul46 : Cc 88 [.i (-1), .i 0, .i 0, .i 1, .i 1, .i 0, .i 0, .i (-1)] [.i (-1), .i 0, .i 0, .i (-1)] := by
 refine q88 rfl ?_; unfold p88
 repeat (first | simp (disch := omega) only [↓qxs, ↓qxc, ↓qxa] | refine aa (mof6 (by omega)) ?_)
 (try simp only [List.cons.injEq, Lf.i.injEq, and_true, true_and]); (try omega)
theorem mthen46 {m n u v : Int} (h : (-16384 ≤ m ∧ m ≤ 16384 ∧ -16384 ≤ n ∧ n ≤ 16384 ∧ (m + n) % 2 = 0) ∧ -16384 ≤ u ∧ u ≤ 16384 ∧ -16384 ≤ v ∧ v ≤ 16384 ∧ (u + v) % 2 = 0 ∧ -16384 ≤ m + u ∧ m + u ≤ 16384 ∧ -16384 ≤ -(n) + v ∧ -(n) + v ≤ 16384 ∧ (m + u + (-(n) + v)) % 2 = 0) : Cc 62 [.i 4, .i m, .i n, .i 6, .i u, .i v] [.i 2, .i (m + u), .i (-(n) + v), .i 0] := by
 refine q62 rfl ?_; unfold p62
 repeat (first | simp (disch := omega) only [↓qxs, ↓qxc, ↓qxa, ↓gt4, ↓gt6] | refine aa (af (by omega)) ?_ | refine aa (mof6 (by omega)) ?_ | refine aa mmul46 ?_ | refine aa mnum2 ?_ | refine aa (mlim2 (by omega)) ?_)
 (try simp only [List.cons.injEq, Lf.i.injEq, and_true, true_and]); (try omega)
theorem mmul47 : Cc 88 [.i (-1), .i 0, .i 0, .i 1, .i 0, .i 1, .i 1, .i 0] [.i 0, .i 1, .i (-1), .i 0] := by
 refine q88 rfl ?_; unfold p88
 repeat (first | simp (disch := omega) only [↓qxs, ↓qxc, ↓qxa] | refine aa (mof7 (by omega)) ?_)
 (try simp only [List.cons.injEq, Lf.i.injEq, and_true, true_and]); (try omega)
theorem na {m n u v : Int} (h : (-16384 ≤ m ∧ m ≤ 16384 ∧ -16384 ≤ n ∧ n ≤ 16384 ∧ (m + n) % 2 = 0) ∧ -16384 ≤ u ∧ u ≤ 16384 ∧ -16384 ≤ v ∧ v ≤ 16384 ∧ (u + v) % 2 = 0 ∧ -16384 ≤ n + u ∧ n + u ≤ 16384 ∧ -16384 ≤ m + v ∧ m + v ≤ 16384 ∧ (n + u + (m + v)) % 2 = 0) : Cc 62 [.i 4, .i m, .i n, .i 7, .i u, .i v] [.i 3, .i (n + u), .i (m + v), .i 0] := by
 refine q62 rfl ?_; unfold p62
 repeat (first | simp (disch := omega) only [↓qxs, ↓qxc, ↓qxa, ↓gt4, ↓gt7] | refine aa (af (by omega)) ?_ | refine aa (mof7 (by omega)) ?_ | refine aa mmul47 ?_ | refine aa mnum3 ?_ | refine aa (mlim3 (by omega)) ?_)
 (try simp only [List.cons.injEq, Lf.i.injEq, and_true, true_and]); (try omega)
theorem mmul54 : Cc 88 [.i 0, .i (-1), .i (-1), .i 0, .i (-1), .i 0, .i 0, .i 1] [.i 0, .i 1, .i (-1), .i 0] := by
 refine q88 rfl ?_; unfold p88
 repeat (first | simp (disch := omega) only [↓qxs, ↓qxc, ↓qxa] | refine aa (mof4 (by omega)) ?_)
 (try simp only [List.cons.injEq, Lf.i.injEq, and_true, true_and]); (try omega)
theorem mthen54 {m n u v : Int} (h : (-16384 ≤ m ∧ m ≤ 16384 ∧ -16384 ≤ n ∧ n ≤ 16384 ∧ (m + n) % 2 = 0) ∧ -16384 ≤ u ∧ u ≤ 16384 ∧ -16384 ≤ v ∧ v ≤ 16384 ∧ (u + v) % 2 = 0 ∧ -16384 ≤ -(m) + u ∧ -(m) + u ≤ 16384 ∧ -16384 ≤ n + v ∧ n + v ≤ 16384 ∧ (-(m) + u + (n + v)) % 2 = 0) : Cc 62 [.i 5, .i m, .i n, .i 4, .i u, .i v] [.i 3, .i (-(m) + u), .i (n + v), .i 0] := by
 refine q62 rfl ?_; unfold p62
 repeat (first | simp (disch := omega) only [↓qxs, ↓qxc, ↓qxa, ↓gt5, ↓gt4] | refine aa (af (by omega)) ?_ | refine aa (mof4 (by omega)) ?_ | refine aa mmul54 ?_ | refine aa mnum3 ?_ | refine aa (mlim3 (by omega)) ?_)
 (try simp only [List.cons.injEq, Lf.i.injEq, and_true, true_and]); (try omega)
theorem mmul55 : Cc 88 [.i 0, .i (-1), .i (-1), .i 0, .i 0, .i (-1), .i (-1), .i 0] [.i 1, .i 0, .i 0, .i 1] := by
 refine q88 rfl ?_; unfold p88
 repeat (first | simp (disch := omega) only [↓qxs, ↓qxc, ↓qxa] | refine aa (mof5 (by omega)) ?_)
 (try simp only [List.cons.injEq, Lf.i.injEq, and_true, true_and]); (try omega)
theorem nb {m n u v : Int} (h : (-16384 ≤ m ∧ m ≤ 16384 ∧ -16384 ≤ n ∧ n ≤ 16384 ∧ (m + n) % 2 = 0) ∧ -16384 ≤ u ∧ u ≤ 16384 ∧ -16384 ≤ v ∧ v ≤ 16384 ∧ (u + v) % 2 = 0 ∧ -16384 ≤ -(n) + u ∧ -(n) + u ≤ 16384 ∧ -16384 ≤ -(m) + v ∧ -(m) + v ≤ 16384 ∧ (-(n) + u + (-(m) + v)) % 2 = 0) : Cc 62 [.i 5, .i m, .i n, .i 5, .i u, .i v] [.i 0, .i (-(n) + u), .i (-(m) + v), .i 0] := by
 refine q62 rfl ?_; unfold p62
 repeat (first | simp (disch := omega) only [↓qxs, ↓qxc, ↓qxa, ↓gt5, ↓gt5] | refine aa (af (by omega)) ?_ | refine aa (mof5 (by omega)) ?_ | refine aa mmul55 ?_ | refine aa mnum0 ?_ | refine aa (mlim0 (by omega)) ?_)
 (try simp only [List.cons.injEq, Lf.i.injEq, and_true, true_and]); (try omega)
theorem mmul56 : Cc 88 [.i 0, .i (-1), .i (-1), .i 0, .i 1, .i 0, .i 0, .i (-1)] [.i 0, .i (-1), .i 1, .i 0] := by
 refine q88 rfl ?_; unfold p88
 repeat (first | simp (disch := omega) only [↓qxs, ↓qxc, ↓qxa] | refine aa (mof6 (by omega)) ?_)
 (try simp only [List.cons.injEq, Lf.i.injEq, and_true, true_and]); (try omega)
theorem mthen56 {m n u v : Int} (h : (-16384 ≤ m ∧ m ≤ 16384 ∧ -16384 ≤ n ∧ n ≤ 16384 ∧ (m + n) % 2 = 0) ∧ -16384 ≤ u ∧ u ≤ 16384 ∧ -16384 ≤ v ∧ v ≤ 16384 ∧ (u + v) % 2 = 0 ∧ -16384 ≤ m + u ∧ m + u ≤ 16384 ∧ -16384 ≤ -(n) + v ∧ -(n) + v ≤ 16384 ∧ (m + u + (-(n) + v)) % 2 = 0) : Cc 62 [.i 5, .i m, .i n, .i 6, .i u, .i v] [.i 1, .i (m + u), .i (-(n) + v), .i 0] := by
 refine q62 rfl ?_; unfold p62
 repeat (first | simp (disch := omega) only [↓qxs, ↓qxc, ↓qxa, ↓gt5, ↓gt6] | refine aa (af (by omega)) ?_ | refine aa (mof6 (by omega)) ?_ | refine aa mmul56 ?_ | refine aa mnum1 ?_ | refine aa (mlim1 (by omega)) ?_)
 (try simp only [List.cons.injEq, Lf.i.injEq, and_true, true_and]); (try omega)
theorem mmul57 : Cc 88 [.i 0, .i (-1), .i (-1), .i 0, .i 0, .i 1, .i 1, .i 0] [.i (-1), .i 0, .i 0, .i (-1)] := by
 refine q88 rfl ?_; unfold p88
 repeat (first | simp (disch := omega) only [↓qxs, ↓qxc, ↓qxa] | refine aa (mof7 (by omega)) ?_)
 (try simp only [List.cons.injEq, Lf.i.injEq, and_true, true_and]); (try omega)
theorem nc {m n u v : Int} (h : (-16384 ≤ m ∧ m ≤ 16384 ∧ -16384 ≤ n ∧ n ≤ 16384 ∧ (m + n) % 2 = 0) ∧ -16384 ≤ u ∧ u ≤ 16384 ∧ -16384 ≤ v ∧ v ≤ 16384 ∧ (u + v) % 2 = 0 ∧ -16384 ≤ n + u ∧ n + u ≤ 16384 ∧ -16384 ≤ m + v ∧ m + v ≤ 16384 ∧ (n + u + (m + v)) % 2 = 0) : Cc 62 [.i 5, .i m, .i n, .i 7, .i u, .i v] [.i 2, .i (n + u), .i (m + v), .i 0] := by
 refine q62 rfl ?_; unfold p62
 repeat (first | simp (disch := omega) only [↓qxs, ↓qxc, ↓qxa, ↓gt5, ↓gt7] | refine aa (af (by omega)) ?_ | refine aa (mof7 (by omega)) ?_ | refine aa mmul57 ?_ | refine aa mnum2 ?_ | refine aa (mlim2 (by omega)) ?_)
 (try simp only [List.cons.injEq, Lf.i.injEq, and_true, true_and]); (try omega)
theorem mmul64 : Cc 88 [.i 1, .i 0, .i 0, .i (-1), .i (-1), .i 0, .i 0, .i 1] [.i (-1), .i 0, .i 0, .i (-1)] := by
 refine q88 rfl ?_; unfold p88
 repeat (first | simp (disch := omega) only [↓qxs, ↓qxc, ↓qxa] | refine aa (mof4 (by omega)) ?_)
 (try simp only [List.cons.injEq, Lf.i.injEq, and_true, true_and]); (try omega)
theorem mthen64 {m n u v : Int} (h : (-16384 ≤ m ∧ m ≤ 16384 ∧ -16384 ≤ n ∧ n ≤ 16384 ∧ (m + n) % 2 = 0) ∧ -16384 ≤ u ∧ u ≤ 16384 ∧ -16384 ≤ v ∧ v ≤ 16384 ∧ (u + v) % 2 = 0 ∧ -16384 ≤ -(m) + u ∧ -(m) + u ≤ 16384 ∧ -16384 ≤ n + v ∧ n + v ≤ 16384 ∧ (-(m) + u + (n + v)) % 2 = 0) : Cc 62 [.i 6, .i m, .i n, .i 4, .i u, .i v] [.i 2, .i (-(m) + u), .i (n + v), .i 0] := by
 refine q62 rfl ?_; unfold p62
 repeat (first | simp (disch := omega) only [↓qxs, ↓qxc, ↓qxa, ↓gt6, ↓gt4] | refine aa (af (by omega)) ?_ | refine aa (mof4 (by omega)) ?_ | refine aa mmul64 ?_ | refine aa mnum2 ?_ | refine aa (mlim2 (by omega)) ?_)
 (try simp only [List.cons.injEq, Lf.i.injEq, and_true, true_and]); (try omega)
theorem mmul65 : Cc 88 [.i 1, .i 0, .i 0, .i (-1), .i 0, .i (-1), .i (-1), .i 0] [.i 0, .i 1, .i (-1), .i 0] := by
 refine q88 rfl ?_; unfold p88
 repeat (first | simp (disch := omega) only [↓qxs, ↓qxc, ↓qxa] | refine aa (mof5 (by omega)) ?_)
 (try simp only [List.cons.injEq, Lf.i.injEq, and_true, true_and]); (try omega)
theorem nd {m n u v : Int} (h : (-16384 ≤ m ∧ m ≤ 16384 ∧ -16384 ≤ n ∧ n ≤ 16384 ∧ (m + n) % 2 = 0) ∧ -16384 ≤ u ∧ u ≤ 16384 ∧ -16384 ≤ v ∧ v ≤ 16384 ∧ (u + v) % 2 = 0 ∧ -16384 ≤ -(n) + u ∧ -(n) + u ≤ 16384 ∧ -16384 ≤ -(m) + v ∧ -(m) + v ≤ 16384 ∧ (-(n) + u + (-(m) + v)) % 2 = 0) : Cc 62 [.i 6, .i m, .i n, .i 5, .i u, .i v] [.i 3, .i (-(n) + u), .i (-(m) + v), .i 0] := by
 refine q62 rfl ?_; unfold p62
 repeat (first | simp (disch := omega) only [↓qxs, ↓qxc, ↓qxa, ↓gt6, ↓gt5] | refine aa (af (by omega)) ?_ | refine aa (mof5 (by omega)) ?_ | refine aa mmul65 ?_ | refine aa mnum3 ?_ | refine aa (mlim3 (by omega)) ?_)
 (try simp only [List.cons.injEq, Lf.i.injEq, and_true, true_and]); (try omega)
theorem mmul66 : Cc 88 [.i 1, .i 0, .i 0, .i (-1), .i 1, .i 0, .i 0, .i (-1)] [.i 1, .i 0, .i 0, .i 1] := by
 refine q88 rfl ?_; unfold p88
 repeat (first | simp (disch := omega) only [↓qxs, ↓qxc, ↓qxa] | refine aa (mof6 (by omega)) ?_)
 (try simp only [List.cons.injEq, Lf.i.injEq, and_true, true_and]); (try omega)
theorem mthen66 {m n u v : Int} (h : (-16384 ≤ m ∧ m ≤ 16384 ∧ -16384 ≤ n ∧ n ≤ 16384 ∧ (m + n) % 2 = 0) ∧ -16384 ≤ u ∧ u ≤ 16384 ∧ -16384 ≤ v ∧ v ≤ 16384 ∧ (u + v) % 2 = 0 ∧ -16384 ≤ m + u ∧ m + u ≤ 16384 ∧ -16384 ≤ -(n) + v ∧ -(n) + v ≤ 16384 ∧ (m + u + (-(n) + v)) % 2 = 0) : Cc 62 [.i 6, .i m, .i n, .i 6, .i u, .i v] [.i 0, .i (m + u), .i (-(n) + v), .i 0] := by
 refine q62 rfl ?_; unfold p62
 repeat (first | simp (disch := omega) only [↓qxs, ↓qxc, ↓qxa, ↓gt6, ↓gt6] | refine aa (af (by omega)) ?_ | refine aa (mof6 (by omega)) ?_ | refine aa mmul66 ?_ | refine aa mnum0 ?_ | refine aa (mlim0 (by omega)) ?_)
 (try simp only [List.cons.injEq, Lf.i.injEq, and_true, true_and]); (try omega)
theorem mmul67 : Cc 88 [.i 1, .i 0, .i 0, .i (-1), .i 0, .i 1, .i 1, .i 0] [.i 0, .i (-1), .i 1, .i 0] := by
 refine q88 rfl ?_; unfold p88
 repeat (first | simp (disch := omega) only [↓qxs, ↓qxc, ↓qxa] | refine aa (mof7 (by omega)) ?_)
 (try simp only [List.cons.injEq, Lf.i.injEq, and_true, true_and]); (try omega)
theorem ne {m n u v : Int} (h : (-16384 ≤ m ∧ m ≤ 16384 ∧ -16384 ≤ n ∧ n ≤ 16384 ∧ (m + n) % 2 = 0) ∧ -16384 ≤ u ∧ u ≤ 16384 ∧ -16384 ≤ v ∧ v ≤ 16384 ∧ (u + v) % 2 = 0 ∧ -16384 ≤ n + u ∧ n + u ≤ 16384 ∧ -16384 ≤ m + v ∧ m + v ≤ 16384 ∧ (n + u + (m + v)) % 2 = 0) : Cc 62 [.i 6, .i m, .i n, .i 7, .i u, .i v] [.i 1, .i (n + u), .i (m + v), .i 0] := by
 refine q62 rfl ?_; unfold p62
 repeat (first | simp (disch := omega) only [↓qxs, ↓qxc, ↓qxa, ↓gt6, ↓gt7] | refine aa (af (by omega)) ?_ | refine aa (mof7 (by omega)) ?_ | refine aa mmul67 ?_ | refine aa mnum1 ?_ | refine aa (mlim1 (by omega)) ?_)
 (try simp only [List.cons.injEq, Lf.i.injEq, and_true, true_and]); (try omega)
theorem mmul74 : Cc 88 [.i 0, .i 1, .i 1, .i 0, .i (-1), .i 0, .i 0, .i 1] [.i 0, .i (-1), .i 1, .i 0] := by
 refine q88 rfl ?_; unfold p88
 repeat (first | simp (disch := omega) only [↓qxs, ↓qxc, ↓qxa] | refine aa (mof4 (by omega)) ?_)
 (try simp only [List.cons.injEq, Lf.i.injEq, and_true, true_and]); (try omega)
theorem mthen74 {m n u v : Int} (h : (-16384 ≤ m ∧ m ≤ 16384 ∧ -16384 ≤ n ∧ n ≤ 16384 ∧ (m + n) % 2 = 0) ∧ -16384 ≤ u ∧ u ≤ 16384 ∧ -16384 ≤ v ∧ v ≤ 16384 ∧ (u + v) % 2 = 0 ∧ -16384 ≤ -(m) + u ∧ -(m) + u ≤ 16384 ∧ -16384 ≤ n + v ∧ n + v ≤ 16384 ∧ (-(m) + u + (n + v)) % 2 = 0) : Cc 62 [.i 7, .i m, .i n, .i 4, .i u, .i v] [.i 1, .i (-(m) + u), .i (n + v), .i 0] := by
 refine q62 rfl ?_; unfold p62
 repeat (first | simp (disch := omega) only [↓qxs, ↓qxc, ↓qxa, ↓gt7, ↓gt4] | refine aa (af (by omega)) ?_ | refine aa (mof4 (by omega)) ?_ | refine aa mmul74 ?_ | refine aa mnum1 ?_ | refine aa (mlim1 (by omega)) ?_)
 (try simp only [List.cons.injEq, Lf.i.injEq, and_true, true_and]); (try omega)
theorem mmul75 : Cc 88 [.i 0, .i 1, .i 1, .i 0, .i 0, .i (-1), .i (-1), .i 0] [.i (-1), .i 0, .i 0, .i (-1)] := by
 refine q88 rfl ?_; unfold p88
 repeat (first | simp (disch := omega) only [↓qxs, ↓qxc, ↓qxa] | refine aa (mof5 (by omega)) ?_)
 (try simp only [List.cons.injEq, Lf.i.injEq, and_true, true_and]); (try omega)
theorem ng {m n u v : Int} (h : (-16384 ≤ m ∧ m ≤ 16384 ∧ -16384 ≤ n ∧ n ≤ 16384 ∧ (m + n) % 2 = 0) ∧ -16384 ≤ u ∧ u ≤ 16384 ∧ -16384 ≤ v ∧ v ≤ 16384 ∧ (u + v) % 2 = 0 ∧ -16384 ≤ -(n) + u ∧ -(n) + u ≤ 16384 ∧ -16384 ≤ -(m) + v ∧ -(m) + v ≤ 16384 ∧ (-(n) + u + (-(m) + v)) % 2 = 0) : Cc 62 [.i 7, .i m, .i n, .i 5, .i u, .i v] [.i 2, .i (-(n) + u), .i (-(m) + v), .i 0] := by
 refine q62 rfl ?_; unfold p62
 repeat (first | simp (disch := omega) only [↓qxs, ↓qxc, ↓qxa, ↓gt7, ↓gt5] | refine aa (af (by omega)) ?_ | refine aa (mof5 (by omega)) ?_ | refine aa mmul75 ?_ | refine aa mnum2 ?_ | refine aa (mlim2 (by omega)) ?_)
 (try simp only [List.cons.injEq, Lf.i.injEq, and_true, true_and]); (try omega)
theorem mmul76 : Cc 88 [.i 0, .i 1, .i 1, .i 0, .i 1, .i 0, .i 0, .i (-1)] [.i 0, .i 1, .i (-1), .i 0] := by
 refine q88 rfl ?_; unfold p88
 repeat (first | simp (disch := omega) only [↓qxs, ↓qxc, ↓qxa] | refine aa (mof6 (by omega)) ?_)
 (try simp only [List.cons.injEq, Lf.i.injEq, and_true, true_and]); (try omega)
theorem mthen76 {m n u v : Int} (h : (-16384 ≤ m ∧ m ≤ 16384 ∧ -16384 ≤ n ∧ n ≤ 16384 ∧ (m + n) % 2 = 0) ∧ -16384 ≤ u ∧ u ≤ 16384 ∧ -16384 ≤ v ∧ v ≤ 16384 ∧ (u + v) % 2 = 0 ∧ -16384 ≤ m + u ∧ m + u ≤ 16384 ∧ -16384 ≤ -(n) + v ∧ -(n) + v ≤ 16384 ∧ (m + u + (-(n) + v)) % 2 = 0) : Cc 62 [.i 7, .i m, .i n, .i 6, .i u, .i v] [.i 3, .i (m + u), .i (-(n) + v), .i 0] := by
 refine q62 rfl ?_; unfold p62
 repeat (first | simp (disch := omega) only [↓qxs, ↓qxc, ↓qxa, ↓gt7, ↓gt6] | refine aa (af (by omega)) ?_ | refine aa (mof6 (by omega)) ?_ | refine aa mmul76 ?_ | refine aa mnum3 ?_ | refine aa (mlim3 (by omega)) ?_)
 (try simp only [List.cons.injEq, Lf.i.injEq, and_true, true_and]); (try omega)
theorem mmul77 : Cc 88 [.i 0, .i 1, .i 1, .i 0, .i 0, .i 1, .i 1, .i 0] [.i 1, .i 0, .i 0, .i 1] := by
 refine q88 rfl ?_; unfold p88
 repeat (first | simp (disch := omega) only [↓qxs, ↓qxc, ↓qxa] | refine aa (mof7 (by omega)) ?_)
 (try simp only [List.cons.injEq, Lf.i.injEq, and_true, true_and]); (try omega)
theorem nh {m n u v : Int} (h : (-16384 ≤ m ∧ m ≤ 16384 ∧ -16384 ≤ n ∧ n ≤ 16384 ∧ (m + n) % 2 = 0) ∧ -16384 ≤ u ∧ u ≤ 16384 ∧ -16384 ≤ v ∧ v ≤ 16384 ∧ (u + v) % 2 = 0 ∧ -16384 ≤ n + u ∧ n + u ≤ 16384 ∧ -16384 ≤ m + v ∧ m + v ≤ 16384 ∧ (n + u + (m + v)) % 2 = 0) : Cc 62 [.i 7, .i m, .i n, .i 7, .i u, .i v] [.i 0, .i (n + u), .i (m + v), .i 0] := by
 refine q62 rfl ?_; unfold p62
 repeat (first | simp (disch := omega) only [↓qxs, ↓qxc, ↓qxa, ↓gt7, ↓gt7] | refine aa (af (by omega)) ?_ | refine aa (mof7 (by omega)) ?_ | refine aa mmul77 ?_ | refine aa mnum0 ?_ | refine aa (mlim0 (by omega)) ?_)
 (try simp only [List.cons.injEq, Lf.i.injEq, and_true, true_and]); (try omega)
theorem qE {m n : Int} (h : -16384 ≤ m ∧ m ≤ 16384 ∧ -16384 ≤ n ∧ n ≤ 16384 ∧ (m + n) % 2 = 0) : Cc 63 [.i 0, .i m, .i n] [.b false] := by
 refine q63 rfl ?_; unfold p63
 repeat (first | simp (disch := omega) only [↓qxs, ↓qxc, ↓qxa] | refine aa (af (by omega)) ?_)
 (try simp only [List.cons.injEq, Lf.i.injEq, and_true, true_and]); (try omega)
theorem qF {m n : Int} (h : -16384 ≤ m ∧ m ≤ 16384 ∧ -16384 ≤ n ∧ n ≤ 16384 ∧ (m + n) % 2 = 0) : Cc 63 [.i 1, .i m, .i n] [.b false] := by
 refine q63 rfl ?_; unfold p63
 repeat (first | simp (disch := omega) only [↓qxs, ↓qxc, ↓qxa] | refine aa (af (by omega)) ?_)
 (try simp only [List.cons.injEq, Lf.i.injEq, and_true, true_and]); (try omega)
theorem qG {m n : Int} (h : -16384 ≤ m ∧ m ≤ 16384 ∧ -16384 ≤ n ∧ n ≤ 16384 ∧ (m + n) % 2 = 0) : Cc 63 [.i 2, .i m, .i n] [.b false] := by
 refine q63 rfl ?_; unfold p63
 repeat (first | simp (disch := omega) only [↓qxs, ↓qxc, ↓qxa] | refine aa (af (by omega)) ?_)
 (try simp only [List.cons.injEq, Lf.i.injEq, and_true, true_and]); (try omega)
theorem qH {m n : Int} (h : -16384 ≤ m ∧ m ≤ 16384 ∧ -16384 ≤ n ∧ n ≤ 16384 ∧ (m + n) % 2 = 0) : Cc 63 [.i 3, .i m, .i n] [.b false] := by
 refine q63 rfl ?_; unfold p63
 repeat (first | simp (disch := omega) only [↓qxs, ↓qxc, ↓qxa] | refine aa (af (by omega)) ?_)
 (try simp only [List.cons.injEq, Lf.i.injEq, and_true, true_and]); (try omega)
theorem qI {m n : Int} (h : -16384 ≤ m ∧ m ≤ 16384 ∧ -16384 ≤ n ∧ n ≤ 16384 ∧ (m + n) % 2 = 0) : Cc 63 [.i 4, .i m, .i n] [.b true] := by
 refine q63 rfl ?_; unfold p63
 repeat (first | simp (disch := omega) only [↓qxs, ↓qxc, ↓qxa] | refine aa (af (by omega)) ?_)
 (try simp only [List.cons.injEq, Lf.i.injEq, and_true, true_and]); (try omega)
theorem qJ {m n : Int} (h : -16384 ≤ m ∧ m ≤ 16384 ∧ -16384 ≤ n ∧ n ≤ 16384 ∧ (m + n) % 2 = 0) : Cc 63 [.i 5, .i m, .i n] [.b true] := by
 refine q63 rfl ?_; unfold p63
 repeat (first | simp (disch := omega) only [↓qxs, ↓qxc, ↓qxa] | refine aa (af (by omega)) ?_)
 (try simp only [List.cons.injEq, Lf.i.injEq, and_true, true_and]); (try omega)
theorem qK {m n : Int} (h : -16384 ≤ m ∧ m ≤ 16384 ∧ -16384 ≤ n ∧ n ≤ 16384 ∧ (m + n) % 2 = 0) : Cc 63 [.i 6, .i m, .i n] [.b true] := by
 refine q63 rfl ?_; unfold p63
 repeat (first | simp (disch := omega) only [↓qxs, ↓qxc, ↓qxa] | refine aa (af (by omega)) ?_)
 (try simp only [List.cons.injEq, Lf.i.injEq, and_true, true_and]); (try omega)
theorem qL {m n : Int} (h : -16384 ≤ m ∧ m ≤ 16384 ∧ -16384 ≤ n ∧ n ≤ 16384 ∧ (m + n) % 2 = 0) : Cc 63 [.i 7, .i m, .i n] [.b true] := by
 refine q63 rfl ?_; unfold p63
 repeat (first | simp (disch := omega) only [↓qxs, ↓qxc, ↓qxa] | refine aa (af (by omega)) ?_)
 (try simp only [List.cons.injEq, Lf.i.injEq, and_true, true_and]); (try omega)
end Go.Am

/-
 CONTRACTS, BY PROGRAM: one step of a way.
-/
set_option maxRecDepth 100000
namespace Go.Am
open Sx Go.Proofs
def way0 (a b t m n x y q : Int) : Prop :=
 (q = 0 ∧ (a + b + x + y) % 2 = 0 ∧ t = 0 ∧ m = x - (a) ∧ n = y - (b)) ∨
 (q = 0 ∧ (a + b + x + y) % 2 = 1 ∧ t = 4 ∧ m = x - (-a - 1) ∧ n = y - (b)) ∨
 (q = 1 ∧ (a + b + x + y) % 2 = 0 ∧ t = 5 ∧ m = x - (-b - 1) ∧ n = y - (-a - 1)) ∨
 (q = 1 ∧ (a + b + x + y) % 2 = 1 ∧ t = 1 ∧ m = x - (-b - 1) ∧ n = y - (a)) ∨
 (q = 2 ∧ (a + b + x + y) % 2 = 0 ∧ t = 2 ∧ m = x - (-a - 1) ∧ n = y - (-b - 1)) ∨
 (q = 2 ∧ (a + b + x + y) % 2 = 1 ∧ t = 6 ∧ m = x - (a) ∧ n = y - (-b - 1)) ∨
 (q = 3 ∧ (a + b + x + y) % 2 = 0 ∧ t = 7 ∧ m = x - (b) ∧ n = y - (a)) ∨
 (q = 3 ∧ (a + b + x + y) % 2 = 1 ∧ t = 3 ∧ m = x - (b) ∧ n = y - (-a - 1))
theorem wayst0 {a b t m n x y q e : Int} (hb : -200 ≤ a ∧ a ≤ 200 ∧ -200 ≤ b ∧ b ≤ 200 ∧ -200 ≤ x ∧ x ≤ 200 ∧ -200 ≤ y ∧ y ≤ 200) (he : 0 ≤ e ∧ e < 3) (h : way0 a b t m n x y q) :
  ∃ k c u v r T C D t2 m2 n2, Cc 40 [.i x, .i y, .i q, .i e] [.i k, .i c, .i 0] ∧ Cc 47 [.i x, .i y, .i q, .i e] [.i u, .i v, .i r, .i 0] ∧ Cc 61 [.i k, .i c] [.i T, .i C, .i D, .i 0] ∧ Cc 62 [.i t, .i m, .i n, .i T, .i C, .i D] [.i t2, .i m2, .i n2, .i 0] ∧ way0 a b t2 m2 n2 u v r ∧ (4 ≤ t2 ↔ t < 4) ∧ x - 1 ≤ u ∧ u ≤ x + 1 ∧ y - 1 ≤ v ∧ v ≤ y + 1 := by
 have he3 : e = 0 ∨ e = 1 ∨ e = 2 := by omega
 rcases h with ⟨rfl, hp, rfl, rfl, rfl⟩ | ⟨rfl, hp, rfl, rfl, rfl⟩ | ⟨rfl, hp, rfl, rfl, rfl⟩ | ⟨rfl, hp, rfl, rfl, rfl⟩ | ⟨rfl, hp, rfl, rfl, rfl⟩ | ⟨rfl, hp, rfl, rfl, rfl⟩ | ⟨rfl, hp, rfl, rfl, rfl⟩ | ⟨rfl, hp, rfl, rfl, rfl⟩ <;> rcases he3 with rfl | rfl | rfl
 ·exact ⟨_, _, _, _, _, _, _, _, _, _, _, eA (by omega), oa (by omega), fY (by omega), mthen06 (by omega), Or.inr (Or.inr (Or.inr (Or.inr (Or.inr (Or.inl ⟨rfl, by omega, rfl, by omega, by omega⟩))))), by decide, by omega⟩
 ·exact ⟨_, _, _, _, _, _, _, _, _, _, _, eB (by omega), ob (by omega), cj (by omega), mR (by omega), Or.inr (Or.inr (Or.inl ⟨rfl, by omega, rfl, by omega, by omega⟩)), by decide, by omega⟩
 ·exact ⟨_, _, _, _, _, _, _, _, _, _, _, eC (by omega), oc (by omega), cm (by omega), mS (by omega), Or.inr (Or.inr (Or.inr (Or.inr (Or.inr (Or.inr (Or.inl ⟨rfl, by omega, rfl, by omega, by omega⟩)))))), by decide, by omega⟩
 ·exact ⟨_, _, _, _, _, _, _, _, _, _, _, eA (by omega), oa (by omega), fY (by omega), mthen46 (by omega), Or.inr (Or.inr (Or.inr (Or.inr (Or.inl ⟨rfl, by omega, rfl, by omega, by omega⟩)))), by decide, by omega⟩
 ·exact ⟨_, _, _, _, _, _, _, _, _, _, _, eB (by omega), ob (by omega), cj (by omega), mZ (by omega), Or.inr (Or.inr (Or.inr (Or.inl ⟨rfl, by omega, rfl, by omega, by omega⟩))), by decide, by omega⟩
 ·exact ⟨_, _, _, _, _, _, _, _, _, _, _, eC (by omega), oc (by omega), cm (by omega), na (by omega), Or.inr (Or.inr (Or.inr (Or.inr (Or.inr (Or.inr (Or.inr (⟨rfl, by omega, rfl, by omega, by omega⟩))))))), by decide, by omega⟩
 ·exact ⟨_, _, _, _, _, _, _, _, _, _, _, eD (by omega), od (by omega), fX (by omega), mthen54 (by omega), Or.inr (Or.inr (Or.inr (Or.inr (Or.inr (Or.inr (Or.inr (⟨rfl, by omega, rfl, by omega, by omega⟩))))))), by decide, by omega⟩
 ·exact ⟨_, _, _, _, _, _, _, _, _, _, _, eE (by omega), oe (by omega), cj (by omega), nb (by omega), Or.inl ⟨rfl, by omega, rfl, by omega, by omega⟩, by decide, by omega⟩
 ·exact ⟨_, _, _, _, _, _, _, _, _, _, _, eF (by omega), og (by omega), cm (by omega), nc (by omega), Or.inr (Or.inr (Or.inr (Or.inr (Or.inl ⟨rfl, by omega, rfl, by omega, by omega⟩)))), by decide, by omega⟩
 ·exact ⟨_, _, _, _, _, _, _, _, _, _, _, eD (by omega), od (by omega), fX (by omega), mthen14 (by omega), Or.inr (Or.inr (Or.inr (Or.inr (Or.inr (Or.inr (Or.inl ⟨rfl, by omega, rfl, by omega, by omega⟩)))))), by decide, by omega⟩
 ·exact ⟨_, _, _, _, _, _, _, _, _, _, _, eE (by omega), oe (by omega), cj (by omega), mT (by omega), Or.inr (Or.inl ⟨rfl, by omega, rfl, by omega, by omega⟩), by decide, by omega⟩
 ·exact ⟨_, _, _, _, _, _, _, _, _, _, _, eF (by omega), og (by omega), cm (by omega), mU (by omega), Or.inr (Or.inr (Or.inr (Or.inr (Or.inr (Or.inl ⟨rfl, by omega, rfl, by omega, by omega⟩))))), by decide, by omega⟩
 ·exact ⟨_, _, _, _, _, _, _, _, _, _, _, eG (by omega), oh (by omega), fY (by omega), mthen26 (by omega), Or.inr (Or.inl ⟨rfl, by omega, rfl, by omega, by omega⟩), by decide, by omega⟩
 ·exact ⟨_, _, _, _, _, _, _, _, _, _, _, eH (by omega), ol (by omega), cj (by omega), mV (by omega), Or.inr (Or.inr (Or.inr (Or.inr (Or.inr (Or.inr (Or.inl ⟨rfl, by omega, rfl, by omega, by omega⟩)))))), by decide, by omega⟩
 ·exact ⟨_, _, _, _, _, _, _, _, _, _, _, eI (by omega), om (by omega), cm (by omega), mW (by omega), Or.inr (Or.inr (Or.inl ⟨rfl, by omega, rfl, by omega, by omega⟩)), by decide, by omega⟩
 ·exact ⟨_, _, _, _, _, _, _, _, _, _, _, eG (by omega), oh (by omega), fY (by omega), mthen66 (by omega), Or.inl ⟨rfl, by omega, rfl, by omega, by omega⟩, by decide, by omega⟩
 ·exact ⟨_, _, _, _, _, _, _, _, _, _, _, eH (by omega), ol (by omega), cj (by omega), nd (by omega), Or.inr (Or.inr (Or.inr (Or.inr (Or.inr (Or.inr (Or.inr (⟨rfl, by omega, rfl, by omega, by omega⟩))))))), by decide, by omega⟩
 ·exact ⟨_, _, _, _, _, _, _, _, _, _, _, eI (by omega), om (by omega), cm (by omega), ne (by omega), Or.inr (Or.inr (Or.inr (Or.inl ⟨rfl, by omega, rfl, by omega, by omega⟩))), by decide, by omega⟩
 ·exact ⟨_, _, _, _, _, _, _, _, _, _, _, eJ (by omega), oo (by omega), fX (by omega), mthen74 (by omega), Or.inr (Or.inr (Or.inr (Or.inl ⟨rfl, by omega, rfl, by omega, by omega⟩))), by decide, by omega⟩
 ·exact ⟨_, _, _, _, _, _, _, _, _, _, _, eK (by omega), oq (by omega), cj (by omega), ng (by omega), Or.inr (Or.inr (Or.inr (Or.inr (Or.inl ⟨rfl, by omega, rfl, by omega, by omega⟩)))), by decide, by omega⟩
 ·exact ⟨_, _, _, _, _, _, _, _, _, _, _, eL (by omega), ot (by omega), cm (by omega), nh (by omega), Or.inl ⟨rfl, by omega, rfl, by omega, by omega⟩, by decide, by omega⟩
 ·exact ⟨_, _, _, _, _, _, _, _, _, _, _, eJ (by omega), oo (by omega), fX (by omega), mthen34 (by omega), Or.inr (Or.inr (Or.inl ⟨rfl, by omega, rfl, by omega, by omega⟩)), by decide, by omega⟩
 ·exact ⟨_, _, _, _, _, _, _, _, _, _, _, eK (by omega), oq (by omega), cj (by omega), mX (by omega), Or.inr (Or.inr (Or.inr (Or.inr (Or.inr (Or.inl ⟨rfl, by omega, rfl, by omega, by omega⟩))))), by decide, by omega⟩
 ·exact ⟨_, _, _, _, _, _, _, _, _, _, _, eL (by omega), ot (by omega), cm (by omega), mY (by omega), Or.inr (Or.inl ⟨rfl, by omega, rfl, by omega, by omega⟩), by decide, by omega⟩
theorem wayend0 {a b t m n x y q : Int} (hb : -200 ≤ a ∧ a ≤ 200 ∧ -200 ≤ b ∧ b ≤ 200 ∧ -200 ≤ x ∧ x ≤ 200 ∧ -200 ≤ y ∧ y ≤ 200) (h : way0 a b t m n x y q) :
  Cc 55 [.i a, .i b, .i 0, .i x, .i y, .i q] [.i t, .i m, .i n, .i 0] ∧ Cc 63 [.i t, .i m, .i n] [.b (decide (4 ≤ t))] := by
 rcases h with ⟨rfl, hp, rfl, rfl, rfl⟩ | ⟨rfl, hp, rfl, rfl, rfl⟩ | ⟨rfl, hp, rfl, rfl, rfl⟩ | ⟨rfl, hp, rfl, rfl, rfl⟩ | ⟨rfl, hp, rfl, rfl, rfl⟩ | ⟨rfl, hp, rfl, rfl, rfl⟩ | ⟨rfl, hp, rfl, rfl, rfl⟩ | ⟨rfl, hp, rfl, rfl, rfl⟩
 ·exact ⟨cbet000 (by omega), qE (by omega)⟩
 ·exact ⟨cbet001 (by omega), qI (by omega)⟩
 ·exact ⟨cbet010 (by omega), qJ (by omega)⟩
 ·exact ⟨cbet011 (by omega), qF (by omega)⟩
 ·exact ⟨cbet020 (by omega), qG (by omega)⟩
 ·exact ⟨cbet021 (by omega), qK (by omega)⟩
 ·exact ⟨cbet030 (by omega), qL (by omega)⟩
 ·exact ⟨cbet031 (by omega), qH (by omega)⟩
def way1 (a b t m n x y q : Int) : Prop :=
 (q = 0 ∧ (a + b + x + y) % 2 = 0 ∧ t = 5 ∧ m = x - (-b - 1) ∧ n = y - (-a - 1)) ∨
 (q = 0 ∧ (a + b + x + y) % 2 = 1 ∧ t = 3 ∧ m = x - (b) ∧ n = y - (-a - 1)) ∨
 (q = 1 ∧ (a + b + x + y) % 2 = 0 ∧ t = 0 ∧ m = x - (a) ∧ n = y - (b)) ∨
 (q = 1 ∧ (a + b + x + y) % 2 = 1 ∧ t = 6 ∧ m = x - (a) ∧ n = y - (-b - 1)) ∨
 (q = 2 ∧ (a + b + x + y) % 2 = 0 ∧ t = 7 ∧ m = x - (b) ∧ n = y - (a)) ∨
 (q = 2 ∧ (a + b + x + y) % 2 = 1 ∧ t = 1 ∧ m = x - (-b - 1) ∧ n = y - (a)) ∨
 (q = 3 ∧ (a + b + x + y) % 2 = 0 ∧ t = 2 ∧ m = x - (-a - 1) ∧ n = y - (-b - 1)) ∨
 (q = 3 ∧ (a + b + x + y) % 2 = 1 ∧ t = 4 ∧ m = x - (-a - 1) ∧ n = y - (b))
theorem wayst1 {a b t m n x y q e : Int} (hb : -200 ≤ a ∧ a ≤ 200 ∧ -200 ≤ b ∧ b ≤ 200 ∧ -200 ≤ x ∧ x ≤ 200 ∧ -200 ≤ y ∧ y ≤ 200) (he : 0 ≤ e ∧ e < 3) (h : way1 a b t m n x y q) :
  ∃ k c u v r T C D t2 m2 n2, Cc 40 [.i x, .i y, .i q, .i e] [.i k, .i c, .i 0] ∧ Cc 47 [.i x, .i y, .i q, .i e] [.i u, .i v, .i r, .i 0] ∧ Cc 61 [.i k, .i c] [.i T, .i C, .i D, .i 0] ∧ Cc 62 [.i t, .i m, .i n, .i T, .i C, .i D] [.i t2, .i m2, .i n2, .i 0] ∧ way1 a b t2 m2 n2 u v r ∧ (4 ≤ t2 ↔ t < 4) ∧ x - 1 ≤ u ∧ u ≤ x + 1 ∧ y - 1 ≤ v ∧ v ≤ y + 1 := by
 have he3 : e = 0 ∨ e = 1 ∨ e = 2 := by omega
 rcases h with ⟨rfl, hp, rfl, rfl, rfl⟩ | ⟨rfl, hp, rfl, rfl, rfl⟩ | ⟨rfl, hp, rfl, rfl, rfl⟩ | ⟨rfl, hp, rfl, rfl, rfl⟩ | ⟨rfl, hp, rfl, rfl, rfl⟩ | ⟨rfl, hp, rfl, rfl, rfl⟩ | ⟨rfl, hp, rfl, rfl, rfl⟩ | ⟨rfl, hp, rfl, rfl, rfl⟩ <;> rcases he3 with rfl | rfl | rfl
 ·exact ⟨_, _, _, _, _, _, _, _, _, _, _, eA (by omega), oa (by omega), fY (by omega), mthen56 (by omega), Or.inr (Or.inr (Or.inr (Or.inr (Or.inr (Or.inl ⟨rfl, by omega, rfl, by omega, by omega⟩))))), by decide, by omega⟩
 ·exact ⟨_, _, _, _, _, _, _, _, _, _, _, eB (by omega), ob (by omega), cj (by omega), nb (by omega), Or.inr (Or.inr (Or.inl ⟨rfl, by omega, rfl, by omega, by omega⟩)), by decide, by omega⟩
 ·exact ⟨_, _, _, _, _, _, _, _, _, _, _, eC (by omega), oc (by omega), cm (by omega), nc (by omega), Or.inr (Or.inr (Or.inr (Or.inr (Or.inr (Or.inr (Or.inl ⟨rfl, by omega, rfl, by omega, by omega⟩)))))), by decide, by omega⟩
 ·exact ⟨_, _, _, _, _, _, _, _, _, _, _, eA (by omega), oa (by omega), fY (by omega), mthen36 (by omega), Or.inr (Or.inr (Or.inr (Or.inr (Or.inl ⟨rfl, by omega, rfl, by omega, by omega⟩)))), by decide, by omega⟩
 ·exact ⟨_, _, _, _, _, _, _, _, _, _, _, eB (by omega), ob (by omega), cj (by omega), mX (by omega), Or.inr (Or.inr (Or.inr (Or.inl ⟨rfl, by omega, rfl, by omega, by omega⟩))), by decide, by omega⟩
 ·exact ⟨_, _, _, _, _, _, _, _, _, _, _, eC (by omega), oc (by omega), cm (by omega), mY (by omega), Or.inr (Or.inr (Or.inr (Or.inr (Or.inr (Or.inr (Or.inr (⟨rfl, by omega, rfl, by omega, by omega⟩))))))), by decide, by omega⟩
 ·exact ⟨_, _, _, _, _, _, _, _, _, _, _, eD (by omega), od (by omega), fX (by omega), mthen04 (by omega), Or.inr (Or.inr (Or.inr (Or.inr (Or.inr (Or.inr (Or.inr (⟨rfl, by omega, rfl, by omega, by omega⟩))))))), by decide, by omega⟩
 ·exact ⟨_, _, _, _, _, _, _, _, _, _, _, eE (by omega), oe (by omega), cj (by omega), mR (by omega), Or.inl ⟨rfl, by omega, rfl, by omega, by omega⟩, by decide, by omega⟩
 ·exact ⟨_, _, _, _, _, _, _, _, _, _, _, eF (by omega), og (by omega), cm (by omega), mS (by omega), Or.inr (Or.inr (Or.inr (Or.inr (Or.inl ⟨rfl, by omega, rfl, by omega, by omega⟩)))), by decide, by omega⟩
 ·exact ⟨_, _, _, _, _, _, _, _, _, _, _, eD (by omega), od (by omega), fX (by omega), mthen64 (by omega), Or.inr (Or.inr (Or.inr (Or.inr (Or.inr (Or.inr (Or.inl ⟨rfl, by omega, rfl, by omega, by omega⟩)))))), by decide, by omega⟩
 ·exact ⟨_, _, _, _, _, _, _, _, _, _, _, eE (by omega), oe (by omega), cj (by omega), nd (by omega), Or.inr (Or.inl ⟨rfl, by omega, rfl, by omega, by omega⟩), by decide, by omega⟩
 ·exact ⟨_, _, _, _, _, _, _, _, _, _, _, eF (by omega), og (by omega), cm (by omega), ne (by omega), Or.inr (Or.inr (Or.inr (Or.inr (Or.inr (Or.inl ⟨rfl, by omega, rfl, by omega, by omega⟩))))), by decide, by omega⟩
 ·exact ⟨_, _, _, _, _, _, _, _, _, _, _, eG (by omega), oh (by omega), fY (by omega), mthen76 (by omega), Or.inr (Or.inl ⟨rfl, by omega, rfl, by omega, by omega⟩), by decide, by omega⟩
 ·exact ⟨_, _, _, _, _, _, _, _, _, _, _, eH (by omega), ol (by omega), cj (by omega), ng (by omega), Or.inr (Or.inr (Or.inr (Or.inr (Or.inr (Or.inr (Or.inl ⟨rfl, by omega, rfl, by omega, by omega⟩)))))), by decide, by omega⟩
 ·exact ⟨_, _, _, _, _, _, _, _, _, _, _, eI (by omega), om (by omega), cm (by omega), nh (by omega), Or.inr (Or.inr (Or.inl ⟨rfl, by omega, rfl, by omega, by omega⟩)), by decide, by omega⟩
 ·exact ⟨_, _, _, _, _, _, _, _, _, _, _, eG (by omega), oh (by omega), fY (by omega), mthen16 (by omega), Or.inl ⟨rfl, by omega, rfl, by omega, by omega⟩, by decide, by omega⟩
 ·exact ⟨_, _, _, _, _, _, _, _, _, _, _, eH (by omega), ol (by omega), cj (by omega), mT (by omega), Or.inr (Or.inr (Or.inr (Or.inr (Or.inr (Or.inr (Or.inr (⟨rfl, by omega, rfl, by omega, by omega⟩))))))), by decide, by omega⟩
 ·exact ⟨_, _, _, _, _, _, _, _, _, _, _, eI (by omega), om (by omega), cm (by omega), mU (by omega), Or.inr (Or.inr (Or.inr (Or.inl ⟨rfl, by omega, rfl, by omega, by omega⟩))), by decide, by omega⟩
 ·exact ⟨_, _, _, _, _, _, _, _, _, _, _, eJ (by omega), oo (by omega), fX (by omega), mthen24 (by omega), Or.inr (Or.inr (Or.inr (Or.inl ⟨rfl, by omega, rfl, by omega, by omega⟩))), by decide, by omega⟩
 ·exact ⟨_, _, _, _, _, _, _, _, _, _, _, eK (by omega), oq (by omega), cj (by omega), mV (by omega), Or.inr (Or.inr (Or.inr (Or.inr (Or.inl ⟨rfl, by omega, rfl, by omega, by omega⟩)))), by decide, by omega⟩
 ·exact ⟨_, _, _, _, _, _, _, _, _, _, _, eL (by omega), ot (by omega), cm (by omega), mW (by omega), Or.inl ⟨rfl, by omega, rfl, by omega, by omega⟩, by decide, by omega⟩
 ·exact ⟨_, _, _, _, _, _, _, _, _, _, _, eJ (by omega), oo (by omega), fX (by omega), mthen44 (by omega), Or.inr (Or.inr (Or.inl ⟨rfl, by omega, rfl, by omega, by omega⟩)), by decide, by omega⟩
 ·exact ⟨_, _, _, _, _, _, _, _, _, _, _, eK (by omega), oq (by omega), cj (by omega), mZ (by omega), Or.inr (Or.inr (Or.inr (Or.inr (Or.inr (Or.inl ⟨rfl, by omega, rfl, by omega, by omega⟩))))), by decide, by omega⟩
 ·exact ⟨_, _, _, _, _, _, _, _, _, _, _, eL (by omega), ot (by omega), cm (by omega), na (by omega), Or.inr (Or.inl ⟨rfl, by omega, rfl, by omega, by omega⟩), by decide, by omega⟩
theorem wayend1 {a b t m n x y q : Int} (hb : -200 ≤ a ∧ a ≤ 200 ∧ -200 ≤ b ∧ b ≤ 200 ∧ -200 ≤ x ∧ x ≤ 200 ∧ -200 ≤ y ∧ y ≤ 200) (h : way1 a b t m n x y q) :
  Cc 55 [.i a, .i b, .i 1, .i x, .i y, .i q] [.i t, .i m, .i n, .i 0] ∧ Cc 63 [.i t, .i m, .i n] [.b (decide (4 ≤ t))] := by
 rcases h with ⟨rfl, hp, rfl, rfl, rfl⟩ | ⟨rfl, hp, rfl, rfl, rfl⟩ | ⟨rfl, hp, rfl, rfl, rfl⟩ | ⟨rfl, hp, rfl, rfl, rfl⟩ | ⟨rfl, hp, rfl, rfl, rfl⟩ | ⟨rfl, hp, rfl, rfl, rfl⟩ | ⟨rfl, hp, rfl, rfl, rfl⟩ | ⟨rfl, hp, rfl, rfl, rfl⟩
 ·exact ⟨cbet100 (by omega), qJ (by omega)⟩
 ·exact ⟨cbet101 (by omega), qH (by omega)⟩
 ·exact ⟨cbet110 (by omega), qE (by omega)⟩
 ·exact ⟨cbet111 (by omega), qK (by omega)⟩
 ·exact ⟨cbet120 (by omega), qL (by omega)⟩
 ·exact ⟨cbet121 (by omega), qF (by omega)⟩
 ·exact ⟨cbet130 (by omega), qG (by omega)⟩
 ·exact ⟨cbet131 (by omega), qI (by omega)⟩
def way2 (a b t m n x y q : Int) : Prop :=
 (q = 0 ∧ (a + b + x + y) % 2 = 0 ∧ t = 2 ∧ m = x - (-a - 1) ∧ n = y - (-b - 1)) ∨
 (q = 0 ∧ (a + b + x + y) % 2 = 1 ∧ t = 6 ∧ m = x - (a) ∧ n = y - (-b - 1)) ∨
 (q = 1 ∧ (a + b + x + y) % 2 = 0 ∧ t = 7 ∧ m = x - (b) ∧ n = y - (a)) ∨
 (q = 1 ∧ (a + b + x + y) % 2 = 1 ∧ t = 3 ∧ m = x - (b) ∧ n = y - (-a - 1)) ∨
 (q = 2 ∧ (a + b + x + y) % 2 = 0 ∧ t = 0 ∧ m = x - (a) ∧ n = y - (b)) ∨
 (q = 2 ∧ (a + b + x + y) % 2 = 1 ∧ t = 4 ∧ m = x - (-a - 1) ∧ n = y - (b)) ∨
 (q = 3 ∧ (a + b + x + y) % 2 = 0 ∧ t = 5 ∧ m = x - (-b - 1) ∧ n = y - (-a - 1)) ∨
 (q = 3 ∧ (a + b + x + y) % 2 = 1 ∧ t = 1 ∧ m = x - (-b - 1) ∧ n = y - (a))
theorem wayst2 {a b t m n x y q e : Int} (hb : -200 ≤ a ∧ a ≤ 200 ∧ -200 ≤ b ∧ b ≤ 200 ∧ -200 ≤ x ∧ x ≤ 200 ∧ -200 ≤ y ∧ y ≤ 200) (he : 0 ≤ e ∧ e < 3) (h : way2 a b t m n x y q) :
  ∃ k c u v r T C D t2 m2 n2, Cc 40 [.i x, .i y, .i q, .i e] [.i k, .i c, .i 0] ∧ Cc 47 [.i x, .i y, .i q, .i e] [.i u, .i v, .i r, .i 0] ∧ Cc 61 [.i k, .i c] [.i T, .i C, .i D, .i 0] ∧ Cc 62 [.i t, .i m, .i n, .i T, .i C, .i D] [.i t2, .i m2, .i n2, .i 0] ∧ way2 a b t2 m2 n2 u v r ∧ (4 ≤ t2 ↔ t < 4) ∧ x - 1 ≤ u ∧ u ≤ x + 1 ∧ y - 1 ≤ v ∧ v ≤ y + 1 := by
 have he3 : e = 0 ∨ e = 1 ∨ e = 2 := by omega
 rcases h with ⟨rfl, hp, rfl, rfl, rfl⟩ | ⟨rfl, hp, rfl, rfl, rfl⟩ | ⟨rfl, hp, rfl, rfl, rfl⟩ | ⟨rfl, hp, rfl, rfl, rfl⟩ | ⟨rfl, hp, rfl, rfl, rfl⟩ | ⟨rfl, hp, rfl, rfl, rfl⟩ | ⟨rfl, hp, rfl, rfl, rfl⟩ | ⟨rfl, hp, rfl, rfl, rfl⟩ <;> rcases he3 with rfl | rfl | rfl
 ·exact ⟨_, _, _, _, _, _, _, _, _, _, _, eA (by omega), oa (by omega), fY (by omega), mthen26 (by omega), Or.inr (Or.inr (Or.inr (Or.inr (Or.inr (Or.inl ⟨rfl, by omega, rfl, by omega, by omega⟩))))), by decide, by omega⟩
 ·exact ⟨_, _, _, _, _, _, _, _, _, _, _, eB (by omega), ob (by omega), cj (by omega), mV (by omega), Or.inr (Or.inr (Or.inl ⟨rfl, by omega, rfl, by omega, by omega⟩)), by decide, by omega⟩
 ·exact ⟨_, _, _, _, _, _, _, _, _, _, _, eC (by omega), oc (by omega), cm (by omega), mW (by omega), Or.inr (Or.inr (Or.inr (Or.inr (Or.inr (Or.inr (Or.inl ⟨rfl, by omega, rfl, by omega, by omega⟩)))))), by decide, by omega⟩
 ·exact ⟨_, _, _, _, _, _, _, _, _, _, _, eA (by omega), oa (by omega), fY (by omega), mthen66 (by omega), Or.inr (Or.inr (Or.inr (Or.inr (Or.inl ⟨rfl, by omega, rfl, by omega, by omega⟩)))), by decide, by omega⟩
 ·exact ⟨_, _, _, _, _, _, _, _, _, _, _, eB (by omega), ob (by omega), cj (by omega), nd (by omega), Or.inr (Or.inr (Or.inr (Or.inl ⟨rfl, by omega, rfl, by omega, by omega⟩))), by decide, by omega⟩
 ·exact ⟨_, _, _, _, _, _, _, _, _, _, _, eC (by omega), oc (by omega), cm (by omega), ne (by omega), Or.inr (Or.inr (Or.inr (Or.inr (Or.inr (Or.inr (Or.inr (⟨rfl, by omega, rfl, by omega, by omega⟩))))))), by decide, by omega⟩
 ·exact ⟨_, _, _, _, _, _, _, _, _, _, _, eD (by omega), od (by omega), fX (by omega), mthen74 (by omega), Or.inr (Or.inr (Or.inr (Or.inr (Or.inr (Or.inr (Or.inr (⟨rfl, by omega, rfl, by omega, by omega⟩))))))), by decide, by omega⟩
 ·exact ⟨_, _, _, _, _, _, _, _, _, _, _, eE (by omega), oe (by omega), cj (by omega), ng (by omega), Or.inl ⟨rfl, by omega, rfl, by omega, by omega⟩, by decide, by omega⟩
 ·exact ⟨_, _, _, _, _, _, _, _, _, _, _, eF (by omega), og (by omega), cm (by omega), nh (by omega), Or.inr (Or.inr (Or.inr (Or.inr (Or.inl ⟨rfl, by omega, rfl, by omega, by omega⟩)))), by decide, by omega⟩
 ·exact ⟨_, _, _, _, _, _, _, _, _, _, _, eD (by omega), od (by omega), fX (by omega), mthen34 (by omega), Or.inr (Or.inr (Or.inr (Or.inr (Or.inr (Or.inr (Or.inl ⟨rfl, by omega, rfl, by omega, by omega⟩)))))), by decide, by omega⟩
 ·exact ⟨_, _, _, _, _, _, _, _, _, _, _, eE (by omega), oe (by omega), cj (by omega), mX (by omega), Or.inr (Or.inl ⟨rfl, by omega, rfl, by omega, by omega⟩), by decide, by omega⟩
 ·exact ⟨_, _, _, _, _, _, _, _, _, _, _, eF (by omega), og (by omega), cm (by omega), mY (by omega), Or.inr (Or.inr (Or.inr (Or.inr (Or.inr (Or.inl ⟨rfl, by omega, rfl, by omega, by omega⟩))))), by decide, by omega⟩
 ·exact ⟨_, _, _, _, _, _, _, _, _, _, _, eG (by omega), oh (by omega), fY (by omega), mthen06 (by omega), Or.inr (Or.inl ⟨rfl, by omega, rfl, by omega, by omega⟩), by decide, by omega⟩
 ·exact ⟨_, _, _, _, _, _, _, _, _, _, _, eH (by omega), ol (by omega), cj (by omega), mR (by omega), Or.inr (Or.inr (Or.inr (Or.inr (Or.inr (Or.inr (Or.inl ⟨rfl, by omega, rfl, by omega, by omega⟩)))))), by decide, by omega⟩
 ·exact ⟨_, _, _, _, _, _, _, _, _, _, _, eI (by omega), om (by omega), cm (by omega), mS (by omega), Or.inr (Or.inr (Or.inl ⟨rfl, by omega, rfl, by omega, by omega⟩)), by decide, by omega⟩
 ·exact ⟨_, _, _, _, _, _, _, _, _, _, _, eG (by omega), oh (by omega), fY (by omega), mthen46 (by omega), Or.inl ⟨rfl, by omega, rfl, by omega, by omega⟩, by decide, by omega⟩
 ·exact ⟨_, _, _, _, _, _, _, _, _, _, _, eH (by omega), ol (by omega), cj (by omega), mZ (by omega), Or.inr (Or.inr (Or.inr (Or.inr (Or.inr (Or.inr (Or.inr (⟨rfl, by omega, rfl, by omega, by omega⟩))))))), by decide, by omega⟩
 ·exact ⟨_, _, _, _, _, _, _, _, _, _, _, eI (by omega), om (by omega), cm (by omega), na (by omega), Or.inr (Or.inr (Or.inr (Or.inl ⟨rfl, by omega, rfl, by omega, by omega⟩))), by decide, by omega⟩
 ·exact ⟨_, _, _, _, _, _, _, _, _, _, _, eJ (by omega), oo (by omega), fX (by omega), mthen54 (by omega), Or.inr (Or.inr (Or.inr (Or.inl ⟨rfl, by omega, rfl, by omega, by omega⟩))), by decide, by omega⟩
 ·exact ⟨_, _, _, _, _, _, _, _, _, _, _, eK (by omega), oq (by omega), cj (by omega), nb (by omega), Or.inr (Or.inr (Or.inr (Or.inr (Or.inl ⟨rfl, by omega, rfl, by omega, by omega⟩)))), by decide, by omega⟩
 ·exact ⟨_, _, _, _, _, _, _, _, _, _, _, eL (by omega), ot (by omega), cm (by omega), nc (by omega), Or.inl ⟨rfl, by omega, rfl, by omega, by omega⟩, by decide, by omega⟩
 ·exact ⟨_, _, _, _, _, _, _, _, _, _, _, eJ (by omega), oo (by omega), fX (by omega), mthen14 (by omega), Or.inr (Or.inr (Or.inl ⟨rfl, by omega, rfl, by omega, by omega⟩)), by decide, by omega⟩
 ·exact ⟨_, _, _, _, _, _, _, _, _, _, _, eK (by omega), oq (by omega), cj (by omega), mT (by omega), Or.inr (Or.inr (Or.inr (Or.inr (Or.inr (Or.inl ⟨rfl, by omega, rfl, by omega, by omega⟩))))), by decide, by omega⟩
 ·exact ⟨_, _, _, _, _, _, _, _, _, _, _, eL (by omega), ot (by omega), cm (by omega), mU (by omega), Or.inr (Or.inl ⟨rfl, by omega, rfl, by omega, by omega⟩), by decide, by omega⟩
theorem wayend2 {a b t m n x y q : Int} (hb : -200 ≤ a ∧ a ≤ 200 ∧ -200 ≤ b ∧ b ≤ 200 ∧ -200 ≤ x ∧ x ≤ 200 ∧ -200 ≤ y ∧ y ≤ 200) (h : way2 a b t m n x y q) :
  Cc 55 [.i a, .i b, .i 2, .i x, .i y, .i q] [.i t, .i m, .i n, .i 0] ∧ Cc 63 [.i t, .i m, .i n] [.b (decide (4 ≤ t))] := by
 rcases h with ⟨rfl, hp, rfl, rfl, rfl⟩ | ⟨rfl, hp, rfl, rfl, rfl⟩ | ⟨rfl, hp, rfl, rfl, rfl⟩ | ⟨rfl, hp, rfl, rfl, rfl⟩ | ⟨rfl, hp, rfl, rfl, rfl⟩ | ⟨rfl, hp, rfl, rfl, rfl⟩ | ⟨rfl, hp, rfl, rfl, rfl⟩ | ⟨rfl, hp, rfl, rfl, rfl⟩
 ·exact ⟨cbet200 (by omega), qG (by omega)⟩
 ·exact ⟨cbet201 (by omega), qK (by omega)⟩
 ·exact ⟨cbet210 (by omega), qL (by omega)⟩
 ·exact ⟨cbet211 (by omega), qH (by omega)⟩
 ·exact ⟨cbet220 (by omega), qE (by omega)⟩
 ·exact ⟨cbet221 (by omega), qI (by omega)⟩
 ·exact ⟨cbet230 (by omega), qJ (by omega)⟩
 ·exact ⟨cbet231 (by omega), qF (by omega)⟩
def way3 (a b t m n x y q : Int) : Prop :=
 (q = 0 ∧ (a + b + x + y) % 2 = 0 ∧ t = 7 ∧ m = x - (b) ∧ n = y - (a)) ∨
 (q = 0 ∧ (a + b + x + y) % 2 = 1 ∧ t = 1 ∧ m = x - (-b - 1) ∧ n = y - (a)) ∨
 (q = 1 ∧ (a + b + x + y) % 2 = 0 ∧ t = 2 ∧ m = x - (-a - 1) ∧ n = y - (-b - 1)) ∨
 (q = 1 ∧ (a + b + x + y) % 2 = 1 ∧ t = 4 ∧ m = x - (-a - 1) ∧ n = y - (b)) ∨
 (q = 2 ∧ (a + b + x + y) % 2 = 0 ∧ t = 5 ∧ m = x - (-b - 1) ∧ n = y - (-a - 1)) ∨
 (q = 2 ∧ (a + b + x + y) % 2 = 1 ∧ t = 3 ∧ m = x - (b) ∧ n = y - (-a - 1)) ∨
 (q = 3 ∧ (a + b + x + y) % 2 = 0 ∧ t = 0 ∧ m = x - (a) ∧ n = y - (b)) ∨
 (q = 3 ∧ (a + b + x + y) % 2 = 1 ∧ t = 6 ∧ m = x - (a) ∧ n = y - (-b - 1))
theorem wayst3 {a b t m n x y q e : Int} (hb : -200 ≤ a ∧ a ≤ 200 ∧ -200 ≤ b ∧ b ≤ 200 ∧ -200 ≤ x ∧ x ≤ 200 ∧ -200 ≤ y ∧ y ≤ 200) (he : 0 ≤ e ∧ e < 3) (h : way3 a b t m n x y q) :
  ∃ k c u v r T C D t2 m2 n2, Cc 40 [.i x, .i y, .i q, .i e] [.i k, .i c, .i 0] ∧ Cc 47 [.i x, .i y, .i q, .i e] [.i u, .i v, .i r, .i 0] ∧ Cc 61 [.i k, .i c] [.i T, .i C, .i D, .i 0] ∧ Cc 62 [.i t, .i m, .i n, .i T, .i C, .i D] [.i t2, .i m2, .i n2, .i 0] ∧ way3 a b t2 m2 n2 u v r ∧ (4 ≤ t2 ↔ t < 4) ∧ x - 1 ≤ u ∧ u ≤ x + 1 ∧ y - 1 ≤ v ∧ v ≤ y + 1 := by
 have he3 : e = 0 ∨ e = 1 ∨ e = 2 := by omega
 rcases h with ⟨rfl, hp, rfl, rfl, rfl⟩ | ⟨rfl, hp, rfl, rfl, rfl⟩ | ⟨rfl, hp, rfl, rfl, rfl⟩ | ⟨rfl, hp, rfl, rfl, rfl⟩ | ⟨rfl, hp, rfl, rfl, rfl⟩ | ⟨rfl, hp, rfl, rfl, rfl⟩ | ⟨rfl, hp, rfl, rfl, rfl⟩ | ⟨rfl, hp, rfl, rfl, rfl⟩ <;> rcases he3 with rfl | rfl | rfl
 ·exact ⟨_, _, _, _, _, _, _, _, _, _, _, eA (by omega), oa (by omega), fY (by omega), mthen76 (by omega), Or.inr (Or.inr (Or.inr (Or.inr (Or.inr (Or.inl ⟨rfl, by omega, rfl, by omega, by omega⟩))))), by decide, by omega⟩
 ·exact ⟨_, _, _, _, _, _, _, _, _, _, _, eB (by omega), ob (by omega), cj (by omega), ng (by omega), Or.inr (Or.inr (Or.inl ⟨rfl, by omega, rfl, by omega, by omega⟩)), by decide, by omega⟩
 ·exact ⟨_, _, _, _, _, _, _, _, _, _, _, eC (by omega), oc (by omega), cm (by omega), nh (by omega), Or.inr (Or.inr (Or.inr (Or.inr (Or.inr (Or.inr (Or.inl ⟨rfl, by omega, rfl, by omega, by omega⟩)))))), by decide, by omega⟩
 ·exact ⟨_, _, _, _, _, _, _, _, _, _, _, eA (by omega), oa (by omega), fY (by omega), mthen16 (by omega), Or.inr (Or.inr (Or.inr (Or.inr (Or.inl ⟨rfl, by omega, rfl, by omega, by omega⟩)))), by decide, by omega⟩
 ·exact ⟨_, _, _, _, _, _, _, _, _, _, _, eB (by omega), ob (by omega), cj (by omega), mT (by omega), Or.inr (Or.inr (Or.inr (Or.inl ⟨rfl, by omega, rfl, by omega, by omega⟩))), by decide, by omega⟩
 ·exact ⟨_, _, _, _, _, _, _, _, _, _, _, eC (by omega), oc (by omega), cm (by omega), mU (by omega), Or.inr (Or.inr (Or.inr (Or.inr (Or.inr (Or.inr (Or.inr (⟨rfl, by omega, rfl, by omega, by omega⟩))))))), by decide, by omega⟩
 ·exact ⟨_, _, _, _, _, _, _, _, _, _, _, eD (by omega), od (by omega), fX (by omega), mthen24 (by omega), Or.inr (Or.inr (Or.inr (Or.inr (Or.inr (Or.inr (Or.inr (⟨rfl, by omega, rfl, by omega, by omega⟩))))))), by decide, by omega⟩
 ·exact ⟨_, _, _, _, _, _, _, _, _, _, _, eE (by omega), oe (by omega), cj (by omega), mV (by omega), Or.inl ⟨rfl, by omega, rfl, by omega, by omega⟩, by decide, by omega⟩
 ·exact ⟨_, _, _, _, _, _, _, _, _, _, _, eF (by omega), og (by omega), cm (by omega), mW (by omega), Or.inr (Or.inr (Or.inr (Or.inr (Or.inl ⟨rfl, by omega, rfl, by omega, by omega⟩)))), by decide, by omega⟩
 ·exact ⟨_, _, _, _, _, _, _, _, _, _, _, eD (by omega), od (by omega), fX (by omega), mthen44 (by omega), Or.inr (Or.inr (Or.inr (Or.inr (Or.inr (Or.inr (Or.inl ⟨rfl, by omega, rfl, by omega, by omega⟩)))))), by decide, by omega⟩
 ·exact ⟨_, _, _, _, _, _, _, _, _, _, _, eE (by omega), oe (by omega), cj (by omega), mZ (by omega), Or.inr (Or.inl ⟨rfl, by omega, rfl, by omega, by omega⟩), by decide, by omega⟩
 ·exact ⟨_, _, _, _, _, _, _, _, _, _, _, eF (by omega), og (by omega), cm (by omega), na (by omega), Or.inr (Or.inr (Or.inr (Or.inr (Or.inr (Or.inl ⟨rfl, by omega, rfl, by omega, by omega⟩))))), by decide, by omega⟩
 ·exact ⟨_, _, _, _, _, _, _, _, _, _, _, eG (by omega), oh (by omega), fY (by omega), mthen56 (by omega), Or.inr (Or.inl ⟨rfl, by omega, rfl, by omega, by omega⟩), by decide, by omega⟩
 ·exact ⟨_, _, _, _, _, _, _, _, _, _, _, eH (by omega), ol (by omega), cj (by omega), nb (by omega), Or.inr (Or.inr (Or.inr (Or.inr (Or.inr (Or.inr (Or.inl ⟨rfl, by omega, rfl, by omega, by omega⟩)))))), by decide, by omega⟩
 ·exact ⟨_, _, _, _, _, _, _, _, _, _, _, eI (by omega), om (by omega), cm (by omega), nc (by omega), Or.inr (Or.inr (Or.inl ⟨rfl, by omega, rfl, by omega, by omega⟩)), by decide, by omega⟩
 ·exact ⟨_, _, _, _, _, _, _, _, _, _, _, eG (by omega), oh (by omega), fY (by omega), mthen36 (by omega), Or.inl ⟨rfl, by omega, rfl, by omega, by omega⟩, by decide, by omega⟩
 ·exact ⟨_, _, _, _, _, _, _, _, _, _, _, eH (by omega), ol (by omega), cj (by omega), mX (by omega), Or.inr (Or.inr (Or.inr (Or.inr (Or.inr (Or.inr (Or.inr (⟨rfl, by omega, rfl, by omega, by omega⟩))))))), by decide, by omega⟩
 ·exact ⟨_, _, _, _, _, _, _, _, _, _, _, eI (by omega), om (by omega), cm (by omega), mY (by omega), Or.inr (Or.inr (Or.inr (Or.inl ⟨rfl, by omega, rfl, by omega, by omega⟩))), by decide, by omega⟩
 ·exact ⟨_, _, _, _, _, _, _, _, _, _, _, eJ (by omega), oo (by omega), fX (by omega), mthen04 (by omega), Or.inr (Or.inr (Or.inr (Or.inl ⟨rfl, by omega, rfl, by omega, by omega⟩))), by decide, by omega⟩
 ·exact ⟨_, _, _, _, _, _, _, _, _, _, _, eK (by omega), oq (by omega), cj (by omega), mR (by omega), Or.inr (Or.inr (Or.inr (Or.inr (Or.inl ⟨rfl, by omega, rfl, by omega, by omega⟩)))), by decide, by omega⟩
 ·exact ⟨_, _, _, _, _, _, _, _, _, _, _, eL (by omega), ot (by omega), cm (by omega), mS (by omega), Or.inl ⟨rfl, by omega, rfl, by omega, by omega⟩, by decide, by omega⟩
 ·exact ⟨_, _, _, _, _, _, _, _, _, _, _, eJ (by omega), oo (by omega), fX (by omega), mthen64 (by omega), Or.inr (Or.inr (Or.inl ⟨rfl, by omega, rfl, by omega, by omega⟩)), by decide, by omega⟩
 ·exact ⟨_, _, _, _, _, _, _, _, _, _, _, eK (by omega), oq (by omega), cj (by omega), nd (by omega), Or.inr (Or.inr (Or.inr (Or.inr (Or.inr (Or.inl ⟨rfl, by omega, rfl, by omega, by omega⟩))))), by decide, by omega⟩
 ·exact ⟨_, _, _, _, _, _, _, _, _, _, _, eL (by omega), ot (by omega), cm (by omega), ne (by omega), Or.inr (Or.inl ⟨rfl, by omega, rfl, by omega, by omega⟩), by decide, by omega⟩
theorem wayend3 {a b t m n x y q : Int} (hb : -200 ≤ a ∧ a ≤ 200 ∧ -200 ≤ b ∧ b ≤ 200 ∧ -200 ≤ x ∧ x ≤ 200 ∧ -200 ≤ y ∧ y ≤ 200) (h : way3 a b t m n x y q) :
  Cc 55 [.i a, .i b, .i 3, .i x, .i y, .i q] [.i t, .i m, .i n, .i 0] ∧ Cc 63 [.i t, .i m, .i n] [.b (decide (4 ≤ t))] := by
 rcases h with ⟨rfl, hp, rfl, rfl, rfl⟩ | ⟨rfl, hp, rfl, rfl, rfl⟩ | ⟨rfl, hp, rfl, rfl, rfl⟩ | ⟨rfl, hp, rfl, rfl, rfl⟩ | ⟨rfl, hp, rfl, rfl, rfl⟩ | ⟨rfl, hp, rfl, rfl, rfl⟩ | ⟨rfl, hp, rfl, rfl, rfl⟩ | ⟨rfl, hp, rfl, rfl, rfl⟩
 ·exact ⟨cbet300 (by omega), qL (by omega)⟩
 ·exact ⟨cbet301 (by omega), qF (by omega)⟩
 ·exact ⟨cbet310 (by omega), qG (by omega)⟩
 ·exact ⟨cbet311 (by omega), qI (by omega)⟩
 ·exact ⟨cbet320 (by omega), qJ (by omega)⟩
 ·exact ⟨cbet321 (by omega), qH (by omega)⟩
 ·exact ⟨cbet330 (by omega), qE (by omega)⟩
 ·exact ⟨cbet331 (by omega), qK (by omega)⟩
end Go.Am

/-
 The examples of chapter 3.
-/
set_option maxRecDepth 100000
namespace Go.Am
open Sx Go.Proofs
theorem lives : Cc 44 [] [.b true] := fun H => known_of (n := 60) rfl rfl rfl rfl (by kernel_rfl) H
end Go.Am

/-
 SLICES IN THE HEAP: what lies behind them, how they are read and lengthened.
-/
set_option maxRecDepth 100000
namespace Go.Am
namespace Sx
theorem jr {vs : List Value} {off n : Nat} {cs : List Value} : cut vs off n = some cs ↔ off + n ≤ vs.length ∧ (vs.drop off).take n = cs := by
 unfold cut
 split
 ·rename_i h; simp [h]
 ·rename_i h; simp [h]
theorem cut_len {vs : List Value} {off n : Nat} {cs : List Value} (h : cut vs off n = some cs) : cs.length = n := by
 obtain ⟨h1, rfl⟩ := jr.1 h
 rw [List.length_take, List.length_drop]; omega
theorem cut_cut {vs : List Value} {off n : Nat} {cs : List Value} (h : cut vs off n = some cs) {o k : Nat} (hk : o + k ≤ n) : cut vs (off + o) k = some ((cs.drop o).take k) := by
 obtain ⟨h1, rfl⟩ := jr.1 h
 refine jr.2 ⟨by omega, ?_⟩
 rw [List.drop_take, List.drop_drop, List.take_take, Nat.min_eq_left (by omega)]
theorem jM {vs : List Value} {n : Nat} (h : vs.length = n) : cut vs 0 n = some vs := jr.2 ⟨by omega, by rw [List.drop_zero, List.take_of_length_le (by omega)]⟩
def Pre (h0 h : HL) : Prop := ∃ G, h = h0 ++ G
theorem Pre.refl (h : HL) : Pre h h := ⟨[], by simp⟩
theorem Pre.trans {a b c : HL} (h : Pre a b) (k : Pre b c) : Pre a c := by
 obtain ⟨G, rfl⟩ := h
 obtain ⟨G', rfl⟩ := k
 exact ⟨G ++ G', by simp⟩
theorem Pre.app {a b : HL} (h : Pre a b) (G : HL) : Pre a (b ++ G) := h.trans ⟨G, rfl⟩
theorem Pre.len {a b : HL} (h : Pre a b) : a.length ≤ b.length := by obtain ⟨G, rfl⟩ := h; simp
theorem Pre.get {a b : HL} (h : Pre a b) {i : Nat} {o : HO} (hi : a[i]? = some o) : b[i]? = some o := by
 obtain ⟨G, rfl⟩ := h
 have : i < a.length := by
  rcases Nat.lt_or_ge i a.length with h | h
  ·exact h
  ·rw [List.getElem?_eq_none h] at hi; cases hi
 rw [List.getElem?_append_left this]; exact hi
theorem Pre.set {a b : HL} (h : Pre a b) {i : Nat} (hi : a.length ≤ i) (o : HO) : Pre a (b.set i o) := by
 obtain ⟨G, rfl⟩ := h
 rw [List.set_append_right _ _ hi]
 exact ⟨_, rfl⟩
def Ptr (h : HL) (p : Value) (cs : List Value) : Prop := ∃ id o vs e rw, p = .pointer (some ⟨id, o, none⟩) ∧ h[id]? = some (.o (.cells vs e rw)) ∧ cut vs o cs.length = some cs
def SlC (h : HL) (v : Value) (e n : Nat) (cs : List Value) : Prop :=
 cs.length = n * e ∧ ((v = .slice none 0 0 ∧ n = 0) ∨ ∃ id off cx vs rw, v = .slice (some ⟨id, off, tag e⟩) n cx ∧ h[id]? = some (.o (.cells vs e rw)) ∧ cut vs off (n * e) = some cs)
def LsH {α : Type} (h : HL) (v : Value) (e : Nat) (enc : α → List Value) (l : List α) : Prop := (∀ a ∈ l, (enc a).length = e) ∧ SlC h v e l.length (l.flatMap enc)
def Mk (n0 : Nat) (h : HL) (v : Value) (e n : Nat) (cs : List Value) : Prop :=
 cs.length = n * e ∧ ((v = .slice none 0 0 ∧ n = 0) ∨ ∃ id, n0 ≤ id ∧ v = .slice (some ⟨id, 0, tag e⟩) n 0 ∧ h[id]? = some (.o (.cells cs e true)))
def MkL {α : Type} (n0 : Nat) (h : HL) (v : Value) (e : Nat) (enc : α → List Value) (l : List α) : Prop := (∀ a ∈ l, (enc a).length = e) ∧ Mk n0 h v e l.length (l.flatMap enc)
noncomputable def blk : Value → Option Nat
 | .slice (some a) _ _ => some a.block
 | _ => none
theorem Ptr.keep {h h' : HL} {p : Value} {cs : List Value} (hp : Ptr h p cs) (hk : ∀ (j : Nat) o, h[j]? = some o → h'[j]? = some o) : Ptr h' p cs := by
 obtain ⟨id, o, vs, e, rw', h1, h2, h3⟩ := hp
 exact ⟨id, o, vs, e, rw', h1, hk _ _ h2, h3⟩
theorem SlC.keep {h h' : HL} {v : Value} {e n : Nat} {cs : List Value} (hs : SlC h v e n cs) (hk : ∀ (j : Nat) o, h[j]? = some o → blk v = some j → h'[j]? = some o) : SlC h' v e n cs := by
 obtain ⟨h0, h1 | ⟨id, off, cx, vs, rw', rfl, h2, h3⟩⟩ := hs
 ·exact ⟨h0, .inl h1⟩
 ·exact ⟨h0, .inr ⟨id, off, cx, vs, rw', rfl, hk _ _ h2 rfl, h3⟩⟩
theorem SlC.pre {h h' : HL} {v : Value} {e n : Nat} {cs : List Value} (hs : SlC h v e n cs) (hp : Pre h h') : SlC h' v e n cs := hs.keep fun _ _ h _ => hp.get h
theorem LsH.keep {α : Type} {h h' : HL} {v : Value} {e : Nat} {enc : α → List Value} {l : List α} (hs : LsH h v e enc l) (hk : ∀ (j : Nat) o, h[j]? = some o → blk v = some j → h'[j]? = some o) : LsH h' v e enc l := ⟨hs.1, hs.2.keep hk⟩
theorem LsH.pre {α : Type} {h h' : HL} {v : Value} {e : Nat} {enc : α → List Value} {l : List α} (hs : LsH h v e enc l) (hp : Pre h h') : LsH h' v e enc l := ⟨hs.1, hs.2.pre hp⟩
theorem SlC.len {h : HL} {v : Value} {e n : Nat} {cs : List Value} (hs : SlC h v e n cs) : lenS v = some (.ofNat n) := by
 obtain ⟨_, ⟨rfl, rfl⟩ | ⟨id, off, cx, vs, rw', rfl, _⟩⟩ := hs <;> rfl
theorem LsH.len {α : Type} {h : HL} {v : Value} {e : Nat} {enc : α → List Value} {l : List α} (hs : LsH h v e enc l) : lenS v = some (.ofNat l.length) := hs.2.len
theorem Mk.sl {n0 : Nat} {h : HL} {v : Value} {e n : Nat} {cs : List Value} (hs : Mk n0 h v e n cs) : SlC h v e n cs := by
 obtain ⟨h0, h1 | ⟨id, _, rfl, h2⟩⟩ := hs
 ·exact ⟨h0, .inl h1⟩
 ·exact ⟨h0, .inr ⟨id, 0, 0, cs, true, rfl, h2, jM h0⟩⟩
theorem MkL.ls {α : Type} {n0 : Nat} {h : HL} {v : Value} {e : Nat} {enc : α → List Value} {l : List α} (hs : MkL n0 h v e enc l) : LsH h v e enc l := ⟨hs.1, hs.2.sl⟩
theorem Mk.nil (n0 : Nat) (h : HL) (e : Nat) : Mk n0 h (.slice none 0 0) e 0 [] := ⟨by simp, .inl ⟨rfl, rfl⟩⟩
theorem MkL.nil {α : Type} (n0 : Nat) (h : HL) (e : Nat) (enc : α → List Value) : MkL n0 h (.slice none 0 0) e enc [] := ⟨by simp, Mk.nil n0 h e⟩
theorem LsH.nil {α : Type} (h : HL) (e : Nat) (enc : α → List Value) : LsH h (.slice none 0 0) e enc [] := (MkL.nil 0 h e enc).ls
theorem Mk.keep {n0 : Nat} {h h' : HL} {v : Value} {e n : Nat} {cs : List Value} (hs : Mk n0 h v e n cs) (hk : ∀ (j : Nat) o, h[j]? = some o → blk v = some j → h'[j]? = some o) : Mk n0 h' v e n cs := by
 obtain ⟨h0, h1 | ⟨id, h1, rfl, h2⟩⟩ := hs
 ·exact ⟨h0, .inl h1⟩
 ·exact ⟨h0, .inr ⟨id, h1, rfl, hk _ _ h2 rfl⟩⟩
theorem Mk.pre {n0 : Nat} {h h' : HL} {v : Value} {e n : Nat} {cs : List Value} (hs : Mk n0 h v e n cs) (hp : Pre h h') : Mk n0 h' v e n cs := hs.keep fun _ _ h _ => hp.get h
theorem MkL.keep {α : Type} {n0 : Nat} {h h' : HL} {v : Value} {e : Nat} {enc : α → List Value} {l : List α} (hs : MkL n0 h v e enc l) (hk : ∀ (j : Nat) o, h[j]? = some o → blk v = some j → h'[j]? = some o) : MkL n0 h' v e enc l := ⟨hs.1, hs.2.keep hk⟩
theorem MkL.pre {α : Type} {n0 : Nat} {h h' : HL} {v : Value} {e : Nat} {enc : α → List Value} {l : List α} (hs : MkL n0 h v e enc l) (hp : Pre h h') : MkL n0 h' v e enc l := ⟨hs.1, hs.2.pre hp⟩
theorem lA {α : Type} {e : Nat} {enc : α → List Value} : ∀ {l : List α}, (∀ a ∈ l, (enc a).length = e) → ∀ {i : Nat} {a : α}, l[i]? = some a → ((l.flatMap enc).drop (i * e)).take e = enc a
 | b :: l, h, 0, a, hi => by
  simp only [List.getElem?_cons_zero, Option.some.injEq] at hi
  subst hi
  have := h b List.mem_cons_self
  rw [Nat.zero_mul, List.drop_zero, List.flatMap_cons, List.take_append_of_le_length (by omega), List.take_of_length_le (by omega)]
 | b :: l, h, i + 1, a, hi => by
  simp only [List.getElem?_cons_succ] at hi
  have hb := h b List.mem_cons_self
  have := lA (fun b hb => h b (List.mem_cons_of_mem _ hb)) hi
  rw [List.flatMap_cons, Nat.add_mul, Nat.one_mul, ← this]
  have e1 : i * e + e = (enc b).length + i * e := by omega
  rw [e1, List.drop_append, List.drop_of_length_le (by omega), List.nil_append, Nat.add_sub_cancel_left]
 | [], _, _, _, hi => by simp at hi
theorem SlC.at {h : HL} {v : Value} {e n : Nat} {cs : List Value} (hs : SlC h v e n cs) {i : Nat} (hi : i < n) : ∃ p, idS e v (.ofNat i) = some p ∧ Ptr h p ((cs.drop (i * e)).take e) := by
 obtain ⟨h0, ⟨rfl, rfl⟩ | ⟨id, off, cx, vs, rw', rfl, h2, h3⟩⟩ := hs
 ·omega
 ·have hle : i * e + e ≤ n * e := by
   have := Nat.mul_le_mul_right e (show i + 1 ≤ n by omega)
   rw [Nat.add_mul, Nat.one_mul] at this; exact this
  refine ⟨.pointer (some ⟨id, off + i * e, none⟩), ?_, id, off + i * e, vs, e, rw', rfl, h2, ?_⟩
  ·rw [idS_eq]
   have hh : 0 ≤ Int.ofNat i ∧ Int.ofNat i < (n : Int) := ⟨Int.natCast_nonneg i, by show (i : Int) < n; omega⟩
   simp only [if_pos hh]
   have : ¬ (tag e = some 1) := by simp [tag]
   simp only [if_neg this]
   rfl
  ·have hc := cut_cut h3 hle
   have hl := cut_len hc
   rw [hl]; exact hc
theorem LsH.at {α : Type} {h : HL} {v : Value} {e : Nat} {enc : α → List Value} {l : List α} (hs : LsH h v e enc l) {i : Nat} {a : α} (hi : l[i]? = some a) : ∃ p, idS e v (.ofNat i) = some p ∧ Ptr h p (enc a) := by
 have hlt : i < l.length := by
  rcases Nat.lt_or_ge i l.length with h | h
  ·exact h
  ·rw [List.getElem?_eq_none h] at hi; cases hi
 obtain ⟨p, h1, h2⟩ := hs.2.at hlt
 rw [lA hs.1 hi] at h2
 exact ⟨p, h1, h2⟩
theorem Ptr.fd {h : HL} {p : Value} {cs : List Value} (hp : Ptr h p cs) (o k : Nat) (hk : o + k ≤ cs.length) : ∃ p', fdP o p = some p' ∧ Ptr h p' ((cs.drop o).take k) := by
 obtain ⟨id, o', vs, e, rw', rfl, h2, h3⟩ := hp
 refine ⟨_, rfl, id, o' + o, vs, e, rw', rfl, h2, ?_⟩
 have hc := cut_cut h3 hk
 rw [cut_len hc]; exact hc
section
variable [Val] [Kno]
theorem qv {T : Nat → Site} {h : HL} {i : Nat} {o : HObj} (hi : h[i]? = some (.o o)) : getH T h i = some o := by
 unfold getH; rw [hi]; rfl
theorem Ptr.ld {T : Nat → Site} {h : HL} {p : Value} {cs : List Value} (hp : Ptr h p cs) {n : Nat} (hn : cs.length = n) : (Pk.ld n p).run (getH T h) = some cs := by
 obtain ⟨id, o, vs, e, rw', rfl, h2, h3⟩ := hp
 subst hn
 show (match (none : Option Nat) with | none => (ew (getH T h) id).bind fun vs => cut vs o cs.length | some _ => none) = _
 unfold ew
 rw [qv h2]
 exact h3
theorem Ptr.lg {C : Cfg} {T : Nat → Site} {h : HL} {p : Value} {cs : List Value} (hp : Ptr h p cs) {n : Nat} (hn : cs.length = n) : (Pk.lg C n p).run (getH T h) = some cs := by
 obtain ⟨id, o, vs, e, rw', rfl, h2, h3⟩ := hp
 subst hn
 show (ew (getH T h) id).bind (fun vs => cut vs o cs.length) = _
 unfold ew
 rw [qv h2]
 exact h3
variable {C : Cfg} {Sg : FuncId → Option Sig} {T : Nat → Site}
end
end Sx
end Go.Am

/-
 RULES FOR LOOPS AND SLICES.
-/
set_option maxRecDepth 100000
namespace Go.Am
namespace Sx
theorem Ptr.good {h : HL} {p : Value} {cs : List Value} (hp : Ptr h p cs) : cA p = true := by
 obtain ⟨id, o, vs, e, rw', rfl, _⟩ := hp
 simp [cA, noLoc, bv, cF, bX, bt, aU]
theorem SlC.good {h : HL} {v : Value} {e n : Nat} {cs : List Value} (hs : SlC h v e n cs) : cA v = true := by
 obtain ⟨_, ⟨rfl, _⟩ | ⟨id, off, cx, vs, rw', rfl, _⟩⟩ := hs
 ·rfl
 ·simp [cA, noLoc, bv, cF, bX, bt, aU, tag]
theorem LsH.good {α : Type} {h : HL} {v : Value} {e : Nat} {enc : α → List Value} {l : List α} (hs : LsH h v e enc l) : cA v = true := hs.2.good
section
variable [Val] [Kno] {C : Cfg} {Sg : FuncId → Option Sig} {T : Nat → Site}
theorem hidL {F : (List Lf → HL → Prop) → List Lf → HL → Prop} {s : List Lf → HL → Prop} {l : List Lf} {h : HL} (hf : F s l h) : @hid _ ⟨F⟩ s l h := hf
theorem mO {σ : Type} {F : (List Lf → HL → Prop) → List Lf → HL → Prop} (n : Nat) (S : Nat → σ → List Lf) (HP : Nat → σ → HL) (Inv : Nat → σ → Prop) {j0 : Nat} {s0 : σ} {ls : List Lf} {h : HL} (hls : ls = S j0 s0) (hh : h = HP j0 s0) (hj : j0 ≤ n) (hi : Inv j0 s0)
  (step : ∀ j s, j ≤ n → Inv j s → ∀ self : List Lf → HL → Prop, (∀ s', j < n → Inv (j + 1) s' → self (S (j + 1) s') (HP (j + 1) s')) → F self (S j s) (HP j s)) : (PH C Sg T).loop (@hid _ ⟨F⟩) ls h := by
 subst hls hh
 refine rN (m := n - j0) (fun m ls h => ∃ j s, ls = S j s ∧ h = HP j s ∧ j ≤ n ∧ m = n - j ∧ Inv j s) ⟨j0, s0, rfl, rfl, hj, rfl, hi⟩ ?_
 rintro m ls h ⟨j, s, rfl, rfl, hj, rfl, hi⟩ self hself
 exact hidL (step j s hj hi self fun s' hlt hi' => hself (n - (j + 1)) _ _ (by omega) ⟨j + 1, s', rfl, rfl, by omega, rfl, hi'⟩)
theorem fZ {α : Type} {h : HL} {v : Value} {e : Nat} {enc : α → List Value} {l : List α} {K : Int → Prop} (hs : LsH h v e enc l) (hk : K (Int.ofNat l.length)) : (PH C Sg T).opt (lenS v) (@hid _ ⟨K⟩) := az hs.len hk
theorem pf {α : Type} {h : HL} {v : Value} {e : Nat} {enc : α → List Value} {l : List α} {i : Nat} {a : α} {n : Int} {K : List Value → Prop} (hs : LsH h v e enc l) (hn : n = Int.ofNat i) (hi : l[i]? = some a) (hk : K (enc a)) :
  (PH C Sg T).opt (idS e v n) (@hid _ ⟨fun x => (PH C Sg T).peek (.lg C e x) h (@hid _ ⟨K⟩)⟩) := by
 subst hn
 obtain ⟨p, h1, h2⟩ := hs.at hi
 exact az h1 (p_peek_r (h2.lg (hs.1 a (List.mem_of_getElem? hi))) hk)
end
end Sx
end Go.Am

/-
 RULES FOR NUMBERS THAT COUNT.
-/
set_option maxRecDepth 100000
namespace Go.Am
namespace Sx
section
variable [Val] [Kno] {C : Cfg} {Sg : FuncId → Option Sig} {T : Nat → Site}
theorem n_add {j : Nat} {K : Int → Prop} (h : j ≤ 4294967296) : (PH C Sg T).ari .add .i64 (Int.ofNat j) 1 (@hid _ ⟨K⟩) = K (Int.ofNat j + 1) :=
 p_add (by show -9223372036854775808 ≤ (j : Int) + 1; omega) (by show (j : Int) + 1 ≤ 9223372036854775807; omega)
theorem nj {j n : Nat} {K : Bool → Prop} (h : j < n) : (PH C Sg T).cmp .lss (Int.ofNat j) (Int.ofNat n) (@hid _ ⟨K⟩) = K true := p_lss_t (by show (j : Int) < n; omega)
theorem ni {j n : Nat} {K : Bool → Prop} (h : n ≤ j) : (PH C Sg T).cmp .lss (Int.ofNat j) (Int.ofNat n) (@hid _ ⟨K⟩) = K false := p_lss_f (by show (n : Int) ≤ j; omega)
end
theorem qw {α : Type} {l : List α} {i : Nat} (h : i < l.length) : ∃ a, l[i]? = some a := ⟨_, List.getElem?_eq_getElem h⟩
end Sx
end Go.Am

/-
 CONTRACTS, BY PROGRAM: CellsWay, told of lists.
-/
set_option maxRecDepth 100000
namespace Go.Am
open Sx Go.Proofs
def encB (c : Int) : List Value := [.int .u8 c]
theorem cellMk {x y q : Int} : Cc 66 [.i x, .i y, .i q] [.i x, .i y, .i q] := by
 refine q66 rfl ?_; unfold p66
 repeat (first | simp (disch := omega) only [↓qxs, ↓qxc, ↓qxa])
 (try simp only [List.cons.injEq, Lf.i.injEq, and_true, true_and]); (try omega)
theorem cOf {a b q : Int} (h : -128 ≤ a ∧ a ≤ 127 ∧ -128 ≤ b ∧ b ≤ 127 ∧ 0 ≤ q ∧ q ≤ 255) : Cc 59 [.i a, .i b, .i q] [.i a, .i b, .i (q % 4)] := by
 refine q59 rfl ?_; unfold p59
 repeat (first | simp (disch := omega) only [↓qxs, ↓qxc, ↓qxa] | refine aa cellMk ?_)
 (try simp only [List.cons.injEq, Lf.i.injEq, and_true, true_and]); (try omega)
theorem ident : Cc 60 [] [.i 0, .i 0, .i 0] := by
 refine q60 rfl ?_; unfold p60
 repeat (first | simp (disch := omega) only [↓qxs, ↓qxc, ↓qxa])
 (try simp only [List.cons.injEq, Lf.i.injEq, and_true, true_and]); (try omega)
theorem cellsWay0 {a b q : Int} (h : -128 ≤ a ∧ a ≤ 127 ∧ -128 ≤ b ∧ b ≤ 127 ∧ 0 ≤ q ∧ q ≤ 255) (hq : q % 4 = 0) {H : HL} {x : Value} {l : List Int} (hl : LsH H x 1 encB l) (hk : ∀ c ∈ l, 0 ≤ c ∧ c ≤ 255) :
  bm cc ae 15 [.i a, .i b, .i q, .v x] (absH ac H) [.b true] (absH ac H) := by
 have hof : Cc 59 [.i a, .i b, .i q] [.i a, .i b, .i 0] := by have := cOf h; rwa [hq] at this
 obtain ⟨rs, h', h3, rfl, rfl⟩ := x15 (K := fun rs h' => rs = [.b true] ∧ h' = H) (H := H) (glsI (glsI (glsI (glsV hl.good gls0)))) (by
  unfold p15
  simp (disch := omega) only [↓qxs, ↓qxc, ↓qxa]
  refine fZ hl ?_
  by_cases hlen : l.length ≤ 30
  ·have hng : Int.ofNat l.length ≤ 30 := by show (l.length : Int) ≤ 30; omega
   rw [p_gtr_f hng]
   simp (disch := omega) only [↓qxs, ↓qxc, ↓qxa]
   refine aa hof ?_
   simp (disch := omega) only [↓qxs, ↓qxc, ↓qxa]
   refine aa ident ?_
   simp (disch := omega) only [↓qxs, ↓qxc, ↓qxa]
   refine mO (σ := Int × Int × Int × Int × Int × Int) l.length (fun j s => [.i (Int.ofNat j), .i s.1, .i s.2.1, .i s.2.2.1, .i s.2.2.2.1, .i s.2.2.2.2.1, .i s.2.2.2.2.2]) (fun _ _ => H) (fun j s => way0 a b s.1 s.2.1 s.2.2.1 s.2.2.2.1 s.2.2.2.2.1 s.2.2.2.2.2 ∧ (a - j ≤ s.2.2.2.1 ∧ s.2.2.2.1 ≤ a + j ∧ b - j ≤ s.2.2.2.2.1 ∧ s.2.2.2.2.1 ≤ b + j) ∧ (4 ≤ s.1 ↔ j % 2 = 1)) (j0 := 0) (s0 := (0, 0, 0, a, b, 0)) rfl rfl (Nat.zero_le _) ⟨?_, by simp only; omega, by simp⟩ ?_
   ·unfold way0; exact Or.inl ⟨rfl, by simp only; omega, rfl, by simp only; omega, by simp only; omega⟩
   rintro j ⟨t, m, n, x1, y1, q1⟩ hj ⟨hw, hb, hf⟩ self hself
   simp only at hw hb hf
   simp (disch := omega) only [↓qxs, ↓qxc, ↓qxa]
   refine fZ hl ?_
   by_cases hlt : j < l.length
   ·rw [nj hlt]
    simp (disch := omega) only [↓qxs, ↓qxc, ↓qxa]
    obtain ⟨c, hc⟩ := qw hlt
    have hc1 := hk c (List.mem_of_getElem? hc)
    obtain ⟨k, d, u, v, r, T, C, D, t2, m2, n2, c1, c2, c3, c4, hw2, hf2, hb2⟩ := wayst0 (e := c % 3) (by omega) (by omega) hw
    refine pf hl rfl hc ?_
    unfold encB
    simp (disch := omega) only [↓qxs, ↓qxc, ↓qxa]
    refine aa c1 ?_
    simp (disch := omega) only [↓qxs, ↓qxc, ↓qxa]
    refine pf hl rfl hc ?_
    unfold encB
    simp (disch := omega) only [↓qxs, ↓qxc, ↓qxa]
    refine aa c2 ?_
    simp (disch := omega) only [↓qxs, ↓qxc, ↓qxa]
    refine aa c3 ?_
    simp (disch := omega) only [↓qxs, ↓qxc, ↓qxa]
    refine aa c4 ?_
    simp (disch := omega) only [↓qxs, ↓qxc, ↓qxa]
    rw [n_add (by omega)]
    exact hself (t2, m2, n2, u, v, r) hlt ⟨hw2, by simp only; omega, by simp only; omega⟩
   ·obtain rfl : j = l.length := by omega
    rw [ni (Nat.le_refl _)]
    simp (disch := omega) only [↓qxs, ↓qxc, ↓qxa]
    refine aa hof ?_
    simp (disch := omega) only [↓qxs, ↓qxc, ↓qxa]
    obtain ⟨c1, c2⟩ := wayend0 (by omega) hw
    by_cases hp : l.length % 2 = 1
    ·rw [decide_eq_true (hf.2 hp)] at c2
     refine aa c1 ?_
     simp (disch := omega) only [↓qxs, ↓qxc, ↓qxa]
     refine aa c2 ?_
     simp (disch := omega) only [↓qxs, ↓qxc, ↓qxa]
     refine fZ hl ?_
     rw [show Int.ofNat l.length = (l.length : Int) from rfl]
     simp (disch := omega) only [↓qxs, ↓qxc, ↓qxa]
     rw [p_eqsb_t rfl]
     simp (disch := omega) only [↓qxs, ↓qxc, ↓qxa]
     refine aa lives ?_
     first | exact ⟨rfl, rfl⟩ | (simp (disch := omega) only [↓qxs, ↓qxc, ↓qxa]; exact ⟨trivial, trivial⟩)
    ·rw [decide_eq_false (fun h => hp (hf.1 h))] at c2
     refine aa c1 ?_
     simp (disch := omega) only [↓qxs, ↓qxc, ↓qxa]
     refine aa c2 ?_
     simp (disch := omega) only [↓qxs, ↓qxc, ↓qxa]
     refine fZ hl ?_
     rw [show Int.ofNat l.length = (l.length : Int) from rfl]
     simp (disch := omega) only [↓qxs, ↓qxc, ↓qxa]
     rw [p_eqsb_t rfl]
     simp (disch := omega) only [↓qxs, ↓qxc, ↓qxa]
     refine aa lives ?_
     first | exact ⟨rfl, rfl⟩ | (simp (disch := omega) only [↓qxs, ↓qxc, ↓qxa]; exact ⟨trivial, trivial⟩)
  ·have hg : 30 < Int.ofNat l.length := by show 30 < (l.length : Int); omega
   rw [p_gtr_t hg]
   simp (disch := omega) only [↓qxs, ↓qxc, ↓qxa]
   exact ⟨trivial, trivial⟩)
 exact h3
theorem cellsWay1 {a b q : Int} (h : -128 ≤ a ∧ a ≤ 127 ∧ -128 ≤ b ∧ b ≤ 127 ∧ 0 ≤ q ∧ q ≤ 255) (hq : q % 4 = 1) {H : HL} {x : Value} {l : List Int} (hl : LsH H x 1 encB l) (hk : ∀ c ∈ l, 0 ≤ c ∧ c ≤ 255) :
  bm cc ae 15 [.i a, .i b, .i q, .v x] (absH ac H) [.b true] (absH ac H) := by
 have hof : Cc 59 [.i a, .i b, .i q] [.i a, .i b, .i 1] := by have := cOf h; rwa [hq] at this
 obtain ⟨rs, h', h3, rfl, rfl⟩ := x15 (K := fun rs h' => rs = [.b true] ∧ h' = H) (H := H) (glsI (glsI (glsI (glsV hl.good gls0)))) (by
  unfold p15
  simp (disch := omega) only [↓qxs, ↓qxc, ↓qxa]
  refine fZ hl ?_
  by_cases hlen : l.length ≤ 30
  ·have hng : Int.ofNat l.length ≤ 30 := by show (l.length : Int) ≤ 30; omega
   rw [p_gtr_f hng]
   simp (disch := omega) only [↓qxs, ↓qxc, ↓qxa]
   refine aa hof ?_
   simp (disch := omega) only [↓qxs, ↓qxc, ↓qxa]
   refine aa ident ?_
   simp (disch := omega) only [↓qxs, ↓qxc, ↓qxa]
   refine mO (σ := Int × Int × Int × Int × Int × Int) l.length (fun j s => [.i (Int.ofNat j), .i s.1, .i s.2.1, .i s.2.2.1, .i s.2.2.2.1, .i s.2.2.2.2.1, .i s.2.2.2.2.2]) (fun _ _ => H) (fun j s => way1 a b s.1 s.2.1 s.2.2.1 s.2.2.2.1 s.2.2.2.2.1 s.2.2.2.2.2 ∧ (a - j ≤ s.2.2.2.1 ∧ s.2.2.2.1 ≤ a + j ∧ b - j ≤ s.2.2.2.2.1 ∧ s.2.2.2.2.1 ≤ b + j) ∧ (4 ≤ s.1 ↔ j % 2 = 1)) (j0 := 0) (s0 := (0, 0, 0, a, b, 1)) rfl rfl (Nat.zero_le _) ⟨?_, by simp only; omega, by simp⟩ ?_
   ·unfold way1; exact Or.inr (Or.inr (Or.inl ⟨rfl, by simp only; omega, rfl, by simp only; omega, by simp only; omega⟩))
   rintro j ⟨t, m, n, x1, y1, q1⟩ hj ⟨hw, hb, hf⟩ self hself
   simp only at hw hb hf
   simp (disch := omega) only [↓qxs, ↓qxc, ↓qxa]
   refine fZ hl ?_
   by_cases hlt : j < l.length
   ·rw [nj hlt]
    simp (disch := omega) only [↓qxs, ↓qxc, ↓qxa]
    obtain ⟨c, hc⟩ := qw hlt
    have hc1 := hk c (List.mem_of_getElem? hc)
    obtain ⟨k, d, u, v, r, T, C, D, t2, m2, n2, c1, c2, c3, c4, hw2, hf2, hb2⟩ := wayst1 (e := c % 3) (by omega) (by omega) hw
    refine pf hl rfl hc ?_
    unfold encB
    simp (disch := omega) only [↓qxs, ↓qxc, ↓qxa]
    refine aa c1 ?_
    simp (disch := omega) only [↓qxs, ↓qxc, ↓qxa]
    refine pf hl rfl hc ?_
    unfold encB
    simp (disch := omega) only [↓qxs, ↓qxc, ↓qxa]
    refine aa c2 ?_
    simp (disch := omega) only [↓qxs, ↓qxc, ↓qxa]
    refine aa c3 ?_
    simp (disch := omega) only [↓qxs, ↓qxc, ↓qxa]
    refine aa c4 ?_
    simp (disch := omega) only [↓qxs, ↓qxc, ↓qxa]
    rw [n_add (by omega)]
    exact hself (t2, m2, n2, u, v, r) hlt ⟨hw2, by simp only; omega, by simp only; omega⟩
   ·obtain rfl : j = l.length := by omega
    rw [ni (Nat.le_refl _)]
    simp (disch := omega) only [↓qxs, ↓qxc, ↓qxa]
    refine aa hof ?_
    simp (disch := omega) only [↓qxs, ↓qxc, ↓qxa]
    obtain ⟨c1, c2⟩ := wayend1 (by omega) hw
    by_cases hp : l.length % 2 = 1
    ·rw [decide_eq_true (hf.2 hp)] at c2
     refine aa c1 ?_
     simp (disch := omega) only [↓qxs, ↓qxc, ↓qxa]
     refine aa c2 ?_
     simp (disch := omega) only [↓qxs, ↓qxc, ↓qxa]
     refine fZ hl ?_
     rw [show Int.ofNat l.length = (l.length : Int) from rfl]
     simp (disch := omega) only [↓qxs, ↓qxc, ↓qxa]
     rw [p_eqsb_t rfl]
     simp (disch := omega) only [↓qxs, ↓qxc, ↓qxa]
     refine aa lives ?_
     first | exact ⟨rfl, rfl⟩ | (simp (disch := omega) only [↓qxs, ↓qxc, ↓qxa]; exact ⟨trivial, trivial⟩)
    ·rw [decide_eq_false (fun h => hp (hf.1 h))] at c2
     refine aa c1 ?_
     simp (disch := omega) only [↓qxs, ↓qxc, ↓qxa]
     refine aa c2 ?_
     simp (disch := omega) only [↓qxs, ↓qxc, ↓qxa]
     refine fZ hl ?_
     rw [show Int.ofNat l.length = (l.length : Int) from rfl]
     simp (disch := omega) only [↓qxs, ↓qxc, ↓qxa]
     rw [p_eqsb_t rfl]
     simp (disch := omega) only [↓qxs, ↓qxc, ↓qxa]
     refine aa lives ?_
     first | exact ⟨rfl, rfl⟩ | (simp (disch := omega) only [↓qxs, ↓qxc, ↓qxa]; exact ⟨trivial, trivial⟩)
  ·have hg : 30 < Int.ofNat l.length := by show 30 < (l.length : Int); omega
   rw [p_gtr_t hg]
   simp (disch := omega) only [↓qxs, ↓qxc, ↓qxa]
   exact ⟨trivial, trivial⟩)
 exact h3
theorem cellsWay2 {a b q : Int} (h : -128 ≤ a ∧ a ≤ 127 ∧ -128 ≤ b ∧ b ≤ 127 ∧ 0 ≤ q ∧ q ≤ 255) (hq : q % 4 = 2) {H : HL} {x : Value} {l : List Int} (hl : LsH H x 1 encB l) (hk : ∀ c ∈ l, 0 ≤ c ∧ c ≤ 255) :
  bm cc ae 15 [.i a, .i b, .i q, .v x] (absH ac H) [.b true] (absH ac H) := by
 have hof : Cc 59 [.i a, .i b, .i q] [.i a, .i b, .i 2] := by have := cOf h; rwa [hq] at this
 obtain ⟨rs, h', h3, rfl, rfl⟩ := x15 (K := fun rs h' => rs = [.b true] ∧ h' = H) (H := H) (glsI (glsI (glsI (glsV hl.good gls0)))) (by
  unfold p15
  simp (disch := omega) only [↓qxs, ↓qxc, ↓qxa]
  refine fZ hl ?_
  by_cases hlen : l.length ≤ 30
  ·have hng : Int.ofNat l.length ≤ 30 := by show (l.length : Int) ≤ 30; omega
   rw [p_gtr_f hng]
   simp (disch := omega) only [↓qxs, ↓qxc, ↓qxa]
   refine aa hof ?_
   simp (disch := omega) only [↓qxs, ↓qxc, ↓qxa]
   refine aa ident ?_
   simp (disch := omega) only [↓qxs, ↓qxc, ↓qxa]
   refine mO (σ := Int × Int × Int × Int × Int × Int) l.length (fun j s => [.i (Int.ofNat j), .i s.1, .i s.2.1, .i s.2.2.1, .i s.2.2.2.1, .i s.2.2.2.2.1, .i s.2.2.2.2.2]) (fun _ _ => H) (fun j s => way2 a b s.1 s.2.1 s.2.2.1 s.2.2.2.1 s.2.2.2.2.1 s.2.2.2.2.2 ∧ (a - j ≤ s.2.2.2.1 ∧ s.2.2.2.1 ≤ a + j ∧ b - j ≤ s.2.2.2.2.1 ∧ s.2.2.2.2.1 ≤ b + j) ∧ (4 ≤ s.1 ↔ j % 2 = 1)) (j0 := 0) (s0 := (0, 0, 0, a, b, 2)) rfl rfl (Nat.zero_le _) ⟨?_, by simp only; omega, by simp⟩ ?_
   ·unfold way2; exact Or.inr (Or.inr (Or.inr (Or.inr (Or.inl ⟨rfl, by simp only; omega, rfl, by simp only; omega, by simp only; omega⟩))))
   rintro j ⟨t, m, n, x1, y1, q1⟩ hj ⟨hw, hb, hf⟩ self hself
   simp only at hw hb hf
   simp (disch := omega) only [↓qxs, ↓qxc, ↓qxa]
   refine fZ hl ?_
   by_cases hlt : j < l.length
   ·rw [nj hlt]
    simp (disch := omega) only [↓qxs, ↓qxc, ↓qxa]
    obtain ⟨c, hc⟩ := qw hlt
    have hc1 := hk c (List.mem_of_getElem? hc)
    obtain ⟨k, d, u, v, r, T, C, D, t2, m2, n2, c1, c2, c3, c4, hw2, hf2, hb2⟩ := wayst2 (e := c % 3) (by omega) (by omega) hw
    refine pf hl rfl hc ?_
    unfold encB
    simp (disch := omega) only [↓qxs, ↓qxc, ↓qxa]
    refine aa c1 ?_
    simp (disch := omega) only [↓qxs, ↓qxc, ↓qxa]
    refine pf hl rfl hc ?_
    unfold encB
    simp (disch := omega) only [↓qxs, ↓qxc, ↓qxa]
    refine aa c2 ?_
    simp (disch := omega) only [↓qxs, ↓qxc, ↓qxa]
    refine aa c3 ?_
    simp (disch := omega) only [↓qxs, ↓qxc, ↓qxa]
    refine aa c4 ?_
    simp (disch := omega) only [↓qxs, ↓qxc, ↓qxa]
    rw [n_add (by omega)]
    exact hself (t2, m2, n2, u, v, r) hlt ⟨hw2, by simp only; omega, by simp only; omega⟩
   ·obtain rfl : j = l.length := by omega
    rw [ni (Nat.le_refl _)]
    simp (disch := omega) only [↓qxs, ↓qxc, ↓qxa]
    refine aa hof ?_
    simp (disch := omega) only [↓qxs, ↓qxc, ↓qxa]
    obtain ⟨c1, c2⟩ := wayend2 (by omega) hw
    by_cases hp : l.length % 2 = 1
    ·rw [decide_eq_true (hf.2 hp)] at c2
     refine aa c1 ?_
     simp (disch := omega) only [↓qxs, ↓qxc, ↓qxa]
     refine aa c2 ?_
     simp (disch := omega) only [↓qxs, ↓qxc, ↓qxa]
     refine fZ hl ?_
     rw [show Int.ofNat l.length = (l.length : Int) from rfl]
     simp (disch := omega) only [↓qxs, ↓qxc, ↓qxa]
     rw [p_eqsb_t rfl]
     simp (disch := omega) only [↓qxs, ↓qxc, ↓qxa]
     refine aa lives ?_
     first | exact ⟨rfl, rfl⟩ | (simp (disch := omega) only [↓qxs, ↓qxc, ↓qxa]; exact ⟨trivial, trivial⟩)
    ·rw [decide_eq_false (fun h => hp (hf.1 h))] at c2
     refine aa c1 ?_
     simp (disch := omega) only [↓qxs, ↓qxc, ↓qxa]
     refine aa c2 ?_
     simp (disch := omega) only [↓qxs, ↓qxc, ↓qxa]
     refine fZ hl ?_
     rw [show Int.ofNat l.length = (l.length : Int) from rfl]
     simp (disch := omega) only [↓qxs, ↓qxc, ↓qxa]
     rw [p_eqsb_t rfl]
     simp (disch := omega) only [↓qxs, ↓qxc, ↓qxa]
     refine aa lives ?_
     first | exact ⟨rfl, rfl⟩ | (simp (disch := omega) only [↓qxs, ↓qxc, ↓qxa]; exact ⟨trivial, trivial⟩)
  ·have hg : 30 < Int.ofNat l.length := by show 30 < (l.length : Int); omega
   rw [p_gtr_t hg]
   simp (disch := omega) only [↓qxs, ↓qxc, ↓qxa]
   exact ⟨trivial, trivial⟩)
 exact h3
theorem cellsWay3 {a b q : Int} (h : -128 ≤ a ∧ a ≤ 127 ∧ -128 ≤ b ∧ b ≤ 127 ∧ 0 ≤ q ∧ q ≤ 255) (hq : q % 4 = 3) {H : HL} {x : Value} {l : List Int} (hl : LsH H x 1 encB l) (hk : ∀ c ∈ l, 0 ≤ c ∧ c ≤ 255) :
  bm cc ae 15 [.i a, .i b, .i q, .v x] (absH ac H) [.b true] (absH ac H) := by
 have hof : Cc 59 [.i a, .i b, .i q] [.i a, .i b, .i 3] := by have := cOf h; rwa [hq] at this
 obtain ⟨rs, h', h3, rfl, rfl⟩ := x15 (K := fun rs h' => rs = [.b true] ∧ h' = H) (H := H) (glsI (glsI (glsI (glsV hl.good gls0)))) (by
  unfold p15
  simp (disch := omega) only [↓qxs, ↓qxc, ↓qxa]
  refine fZ hl ?_
  by_cases hlen : l.length ≤ 30
  ·have hng : Int.ofNat l.length ≤ 30 := by show (l.length : Int) ≤ 30; omega
   rw [p_gtr_f hng]
   simp (disch := omega) only [↓qxs, ↓qxc, ↓qxa]
   refine aa hof ?_
   simp (disch := omega) only [↓qxs, ↓qxc, ↓qxa]
   refine aa ident ?_
   simp (disch := omega) only [↓qxs, ↓qxc, ↓qxa]
   refine mO (σ := Int × Int × Int × Int × Int × Int) l.length (fun j s => [.i (Int.ofNat j), .i s.1, .i s.2.1, .i s.2.2.1, .i s.2.2.2.1, .i s.2.2.2.2.1, .i s.2.2.2.2.2]) (fun _ _ => H) (fun j s => way3 a b s.1 s.2.1 s.2.2.1 s.2.2.2.1 s.2.2.2.2.1 s.2.2.2.2.2 ∧ (a - j ≤ s.2.2.2.1 ∧ s.2.2.2.1 ≤ a + j ∧ b - j ≤ s.2.2.2.2.1 ∧ s.2.2.2.2.1 ≤ b + j) ∧ (4 ≤ s.1 ↔ j % 2 = 1)) (j0 := 0) (s0 := (0, 0, 0, a, b, 3)) rfl rfl (Nat.zero_le _) ⟨?_, by simp only; omega, by simp⟩ ?_
   ·unfold way3; exact Or.inr (Or.inr (Or.inr (Or.inr (Or.inr (Or.inr (Or.inl ⟨rfl, by simp only; omega, rfl, by simp only; omega, by simp only; omega⟩))))))
   rintro j ⟨t, m, n, x1, y1, q1⟩ hj ⟨hw, hb, hf⟩ self hself
   simp only at hw hb hf
   simp (disch := omega) only [↓qxs, ↓qxc, ↓qxa]
   refine fZ hl ?_
   by_cases hlt : j < l.length
   ·rw [nj hlt]
    simp (disch := omega) only [↓qxs, ↓qxc, ↓qxa]
    obtain ⟨c, hc⟩ := qw hlt
    have hc1 := hk c (List.mem_of_getElem? hc)
    obtain ⟨k, d, u, v, r, T, C, D, t2, m2, n2, c1, c2, c3, c4, hw2, hf2, hb2⟩ := wayst3 (e := c % 3) (by omega) (by omega) hw
    refine pf hl rfl hc ?_
    unfold encB
    simp (disch := omega) only [↓qxs, ↓qxc, ↓qxa]
    refine aa c1 ?_
    simp (disch := omega) only [↓qxs, ↓qxc, ↓qxa]
    refine pf hl rfl hc ?_
    unfold encB
    simp (disch := omega) only [↓qxs, ↓qxc, ↓qxa]
    refine aa c2 ?_
    simp (disch := omega) only [↓qxs, ↓qxc, ↓qxa]
    refine aa c3 ?_
    simp (disch := omega) only [↓qxs, ↓qxc, ↓qxa]
    refine aa c4 ?_
    simp (disch := omega) only [↓qxs, ↓qxc, ↓qxa]
    rw [n_add (by omega)]
    exact hself (t2, m2, n2, u, v, r) hlt ⟨hw2, by simp only; omega, by simp only; omega⟩
   ·obtain rfl : j = l.length := by omega
    rw [ni (Nat.le_refl _)]
    simp (disch := omega) only [↓qxs, ↓qxc, ↓qxa]
    refine aa hof ?_
    simp (disch := omega) only [↓qxs, ↓qxc, ↓qxa]
    obtain ⟨c1, c2⟩ := wayend3 (by omega) hw
    by_cases hp : l.length % 2 = 1
    ·rw [decide_eq_true (hf.2 hp)] at c2
     refine aa c1 ?_
     simp (disch := omega) only [↓qxs, ↓qxc, ↓qxa]
     refine aa c2 ?_
     simp (disch := omega) only [↓qxs, ↓qxc, ↓qxa]
     refine fZ hl ?_
     rw [show Int.ofNat l.length = (l.length : Int) from rfl]
     simp (disch := omega) only [↓qxs, ↓qxc, ↓qxa]
     rw [p_eqsb_t rfl]
     simp (disch := omega) only [↓qxs, ↓qxc, ↓qxa]
     refine aa lives ?_
     first | exact ⟨rfl, rfl⟩ | (simp (disch := omega) only [↓qxs, ↓qxc, ↓qxa]; exact ⟨trivial, trivial⟩)
    ·rw [decide_eq_false (fun h => hp (hf.1 h))] at c2
     refine aa c1 ?_
     simp (disch := omega) only [↓qxs, ↓qxc, ↓qxa]
     refine aa c2 ?_
     simp (disch := omega) only [↓qxs, ↓qxc, ↓qxa]
     refine fZ hl ?_
     rw [show Int.ofNat l.length = (l.length : Int) from rfl]
     simp (disch := omega) only [↓qxs, ↓qxc, ↓qxa]
     rw [p_eqsb_t rfl]
     simp (disch := omega) only [↓qxs, ↓qxc, ↓qxa]
     refine aa lives ?_
     first | exact ⟨rfl, rfl⟩ | (simp (disch := omega) only [↓qxs, ↓qxc, ↓qxa]; exact ⟨trivial, trivial⟩)
  ·have hg : 30 < Int.ofNat l.length := by show 30 < (l.length : Int); omega
   rw [p_gtr_t hg]
   simp (disch := omega) only [↓qxs, ↓qxc, ↓qxa]
   exact ⟨trivial, trivial⟩)
 exact h3
theorem nV {a b q : Int} (h : -128 ≤ a ∧ a ≤ 127 ∧ -128 ≤ b ∧ b ≤ 127 ∧ 0 ≤ q ∧ q ≤ 255) {H : HL} {x : Value} {l : List Int} (hl : LsH H x 1 encB l) (hk : ∀ c ∈ l, 0 ≤ c ∧ c ≤ 255) :
  bm cc ae 15 [.i a, .i b, .i q, .v x] (absH ac H) [.b true] (absH ac H) := by
 obtain e | e | e | e : q % 4 = 0 ∨ q % 4 = 1 ∨ q % 4 = 2 ∨ q % 4 = 3 := by omega
 ·exact cellsWay0 h e hl hk
 ·exact cellsWay1 h e hl hk
 ·exact cellsWay2 h e hl hk
 ·exact cellsWay3 h e hl hk
end Go.Am

/-
 ARGUMENTS WITHOUT ADDRESSES, as the row reads them.
-/
namespace Go.Am
namespace Sx
open Go.ChangeShapes Go.WideShapes Go.ChangeAt Go.WideMaps Go.WideElems Go.RowKit
noncomputable def FitC : List LK → List Value → Prop
 | [], [] => True
 | .i k :: ks, v :: vs => (∃ n, v = .int k n ∧ (Lit.int k n).wf = true) ∧ FitC ks vs
 | .b :: ks, v :: vs => (∃ t, v = .bool t) ∧ FitC ks vs
 | _, _ => False
noncomputable def FitL : List LK → List Lf → Prop
 | [], [] => True
 | .i k :: ks, .i n :: ls => (Lit.int k n).wf = true ∧ FitL ks ls
 | .b :: ks, .b _ :: ls => FitL ks ls
 | _, _ => False
theorem FitC.len : ∀ {ks : List LK} {vs : List Value}, FitC ks vs → vs.length = ks.length
 | [], [], _ => rfl
 | .i k :: ks, v :: vs, h => by simp [FitC.len h.2]
 | .b :: ks, v :: vs, h => by simp [FitC.len h.2]
 | .v :: _, _, h => by cases h
 | [], _ :: _, h => by cases h
 | .i _ :: _, [], h => by cases h
 | .b :: _, [], h => by cases h
theorem FitC.app : ∀ {ks ks' : List LK} {vs vs' : List Value}, FitC ks vs → FitC ks' vs' → FitC (ks ++ ks') (vs ++ vs')
 | [], _, [], _, _, h => h
 | .i k :: ks, _, v :: vs, _, h, h' => ⟨h.1, FitC.app h.2 h'⟩
 | .b :: ks, _, v :: vs, _, h, h' => ⟨h.1, FitC.app h.2 h'⟩
 | .v :: _, _, _, _, h, _ => by cases h
 | [], _, _ :: _, _, h, _ => by cases h
 | .i _ :: _, _, [], _, h, _ => by cases h
 | .b :: _, _, [], _, h, _ => by cases h
theorem FitL.app : ∀ {ks ks' : List LK} {vs vs' : List Lf}, FitL ks vs → FitL ks' vs' → FitL (ks ++ ks') (vs ++ vs')
 | [], _, [], _, _, h => h
 | .i k :: ks, _, .i v :: vs, _, h, h' => ⟨h.1, FitL.app h.2 h'⟩
 | .b :: ks, _, .b v :: vs, _, h, h' => FitL.app (ks := ks) h h'
 | .v :: _, _, _, _, h, _ => by cases h
 | [], _, _ :: _, _, h, _ => by cases h
 | .i _ :: _, _, [], _, h, _ => by cases h
 | .b :: _, _, [], _, h, _ => by cases h
 | .i _ :: _, _, .b _ :: _, _, h, _ => by cases h
 | .i _ :: _, _, .v _ :: _, _, h, _ => by cases h
 | .b :: _, _, .i _ :: _, _, h, _ => by cases h
 | .b :: _, _, .v _ :: _, _, h, _ => by cases h
theorem FitC.sl : ∀ {ks : List LK} {vs : List Value}, FitC ks vs → ∃ xs : List SL, xs.map SL.val = vs ∧ aF xs ks = true ∧ (∀ x ∈ xs, x.good) ∧ FitL ks (xs.map SL.lf)
 | [], [], _ => ⟨[], rfl, rfl, fun _ h => (by cases h), trivial⟩
 | .i k :: ks, v :: vs, h => by
  obtain ⟨⟨n, rfl, hw⟩, h2⟩ := h
  obtain ⟨xs, a, b, c, d⟩ := FitC.sl h2
  exact ⟨.i k n :: xs, by simp [a, SL.val], by simp [aF, b, SL.is, cJ], fun x hx => by
   rcases List.mem_cons.1 hx with rfl | hx
   ·trivial
   ·exact c x hx, hw, d⟩
 | .b :: ks, v :: vs, h => by
  obtain ⟨⟨n, rfl⟩, h2⟩ := h
  obtain ⟨xs, a, b, c, d⟩ := FitC.sl h2
  exact ⟨.b n :: xs, by simp [a, SL.val], by simp [aF, b, SL.is], fun x hx => by
   rcases List.mem_cons.1 hx with rfl | hx
   ·trivial
   ·exact c x hx, d⟩
 | .v :: _, _, h => by cases h
 | [], _ :: _, h => by cases h
 | .i _ :: _, [], h => by cases h
 | .b :: _, [], h => by cases h
noncomputable def flatF (F : TypeId → Option (List LK)) : List Field → Nat → Option (List LK)
 | [], _ => some []
 | f :: fs, off => match Nat.beq f.offset off, F f.type with
  | true, some ks => (flatF F fs (off + ks.length)).map (ks ++ ·)
  | _, _ => none
noncomputable def flatT (P : Program) : Nat → TypeId → Option (List LK)
 | 0, _ => none
 | d + 1, t => match P.underlying t with
  | some (.int k) => some [.i k]
  | some .bool => some [.b]
  | some (.struct fs) => match flatF (flatT P d) fs.toList 0 with
   | some ks => match Nat.beq ks.length (P.cellsOf t) with
    | true => some ks
    | false => none
   | none => none
  | _ => none
section
variable {H : Type} {enc : TypeId × Value → H} {P : Program}
theorem hU {α : Type} (l : List α) (c : Nat) : l.take (l.take c).length = l.take c := by
 rw [List.length_take]
 rcases Nat.le_total c l.length with h | h
 ·rw [Nat.min_eq_left h]
 ·rw [Nat.min_eq_right h, List.take_of_length_le h, List.take_of_length_le (Nat.le_refl _)]
theorem qu {F : TypeId → Option (List LK)} {w : World} {base : Nat} {sp : Nat → Bool} {held : Bool} {fuel : Nat}
  (hF : ∀ t ks, F t = some ks → ∀ cs (x : DataW H × List MemPlace), DataW.trod enc P w base sp held fuel t cs = some x → x.2 = [] ∧ FitC ks cs ∧ ∀ w' b' s' h', DataW.trod enc P w' b' s' h' fuel t cs = some x) (cs : List Value) :
  ∀ (fs : List Field) (off : Nat) (ks : List LK) (xs : List (DataW H × List MemPlace)), flatF F fs off = some ks → fs.mapM (fun f => DataW.trod enc P w base sp held fuel f.type ((cs.drop f.offset).take (P.cellsOf f.type))) = some xs →
   xs.flatMap (·.2) = [] ∧ FitC ks ((cs.drop off).take ks.length) ∧ ∀ w' b' s' h', fs.mapM (fun f => DataW.trod enc P w' b' s' h' fuel f.type ((cs.drop f.offset).take (P.cellsOf f.type))) = some xs
 | [], off, ks, xs, h1, h2 => by
  simp only [flatF, Option.some.injEq] at h1
  subst h1
  simp only [List.mapM_nil, Option.pure_def, Option.some.injEq] at h2
  subst h2
  refine ⟨rfl, by simp [FitC], fun _ _ _ _ => by simp⟩
 | f :: fs, off, ks, xs, h1, h2 => by
  simp only [flatF] at h1
  split at h1
  ·rename_i k1 e1 e2
   obtain ⟨k2, e3, rfl⟩ := Option.map_eq_some_iff.1 h1
   have e1 := Nat.eq_of_beq_eq_true e1
   rw [List.mapM_cons] at h2
   obtain ⟨x, h3, h2⟩ := Option.bind_eq_some_iff.1 h2
   obtain ⟨ys, h4, h2⟩ := Option.bind_eq_some_iff.1 h2
   cases h2
   obtain ⟨a1, a2, a3⟩ := hF _ _ e2 _ _ h3
   obtain ⟨b1, b2, b3⟩ := qu hF cs fs _ k2 ys e3 h4
   refine ⟨by simp [a1, b1], ?_, fun w' b' s' h' => ?_⟩
   ·rw [List.length_append, List.take_add]
    refine FitC.app ?_ (by rw [List.drop_drop]; exact b2)
    have hl := FitC.len a2
    rw [e1] at a2 hl
    rw [← hl, hU]
    exact a2
   ·rw [List.mapM_cons, a3 w' b' s' h', b3 w' b' s' h']
    rfl
  ·cases h1
theorem mE : ∀ (d : Nat) (t : TypeId) (ks : List LK), flatT P d t = some ks → ∀ (w : World) (base : Nat) (sp : Nat → Bool) (held : Bool) (fuel : Nat) (cs : List Value) (x : DataW H × List MemPlace), DataW.trod enc P w base sp held fuel t cs = some x →
  x.2 = [] ∧ FitC ks cs ∧ ∀ w' b' s' h', DataW.trod enc P w' b' s' h' fuel t cs = some x
 | 0, _, _, h => by cases h
 | d + 1, t, ks, h => by
  intro w base sp held fuel cs x hx
  simp only [flatT] at h
  split at h
  ·rename_i k e
   cases h
   obtain ⟨n, rfl, rfl, hw⟩ := DataW.trod_int e hx
   refine ⟨rfl, ⟨⟨n, rfl, hw⟩, trivial⟩, fun w' b' s' h' => ?_⟩
   cases fuel with
   | zero => simp [DataW.trod] at hx
   | succ m => simp [DataW.trod, e, hw]
  ·rename_i e
   cases h
   obtain ⟨n, rfl, rfl⟩ := DataW.trod_bool e hx
   refine ⟨rfl, ⟨⟨n, rfl⟩, trivial⟩, fun w' b' s' h' => ?_⟩
   cases fuel with
   | zero => simp [DataW.trod] at hx
   | succ m => simp [DataW.trod, e]
  ·rename_i fs e
   split at h
   ·rename_i k2 e2
    split at h
    ·rename_i e3
     cases h
     have e3 := Nat.eq_of_beq_eq_true e3
     cases fuel with
     | zero => simp [DataW.trod] at hx
     | succ m =>
      simp only [DataW.trod, e] at hx
      split at hx
      ·rename_i hl
       obtain ⟨xs, h5, rfl⟩ := Option.map_eq_some_iff.1 hx
       obtain ⟨a1, a2, a3⟩ := qu (fun t ks h cs x hx => mE d t ks h w base sp held m cs x hx) cs fs.toList 0 ks xs e2 h5
       rw [List.drop_zero, List.take_of_length_le (by omega)] at a2
       refine ⟨a1, a2, fun w' b' s' h' => ?_⟩
       simp only [DataW.trod, e, hl, if_true]
       rw [a3 w' b' s' h']
       rfl
      ·cases hx
    ·cases h
   ·cases h
  ·cases h
end
section
variable [Val]
end
end Sx
end Go.Am
namespace Go.Am
namespace Sx
theorem FitL.i {k : IntKind} {ks : List LK} {ls : List Lf} (h : FitL (.i k :: ks) ls) : ∃ n r, ls = .i n :: r ∧ (Lit.int k n).wf = true ∧ FitL ks r := by
 match ls, h with
 | .i n :: r, h => exact ⟨n, r, rfl, h.1, h.2⟩
theorem FitL.b {ks : List LK} {ls : List Lf} (h : FitL (.b :: ks) ls) : ∃ n r, ls = .b n :: r ∧ FitL ks r := by
 match ls, h with
 | .b n :: r, h => exact ⟨n, r, rfl, h⟩
theorem FitL.nil {ls : List Lf} (h : FitL [] ls) : ls = [] := by
 match ls, h with
 | [], _ => rfl
theorem wf_u8 {n : Int} (h : (Lit.int .u8 n).wf = true) : 0 ≤ n ∧ n ≤ 255 := by
 simp only [Lit.wf, Bool.and_eq_true, decide_eq_true_eq] at h
 exact h
theorem wf_i8 {n : Int} (h : (Lit.int .i8 n).wf = true) : -128 ≤ n ∧ n ≤ 127 := by
 simp only [Lit.wf, Bool.and_eq_true, decide_eq_true_eq] at h
 exact h
theorem kN {H : Type} {enc : TypeId × Value → H} {P : Program} {w : World} {base : Nat} {sp : Nat → Bool} {held : Bool} : ∀ {ts : List TypeId} {vs : List Value} {ds : List (DataW H)} {ps : List MemPlace}, DataW.TrodAll enc P w base sp held ts vs ds ps → ds.length = ts.length
 | [], [], [], _, _ => rfl
 | _ :: _, _ :: _, _ :: _, _, h => by
  obtain ⟨p, q, _, h2, _⟩ := h
  simp [kN h2]
 | [], _ :: _, _, _, h => by cases h
 | [], [], _ :: _, _, h => by cases h
 | _ :: _, [], _, _, h => by cases h
 | _ :: _, _ :: _, [], _, h => by cases h
end Sx
end Go.Am

/-
 ARGUMENTS WITH SLICES, as the row reads them: what is known of them at first.
-/
set_option maxRecDepth 100000
namespace Go.Am
namespace Sx
open Go.ChangeShapes Go.WideShapes Go.ChangeAt Go.WideMaps Go.WideElems Go.RowKit
inductive CK2 where
 |i (k : IntKind)
 |b
 |s (ks : List LK)
def CK2.lk : CK2 → LK
 | .i k => .i k
 | .b => .b
 | .s _ => .v
def SlFit (w : World) (ks : List LK) (v : Value) : Prop :=
 v = .slice none 0 0 ∨ ∃ (a : Addr) (len cap : Nat) (c : Array Value) (t : TypeId) (fr : Nat × Nat) (cells : List Value), v = .slice (some a) len cap ∧ a.spot = none ∧ len ≤ cap ∧ cap ≤ maxLen ∧
  w.heap[a.block]? = some (.cells c t fr) ∧ (cap = 0 ∨ a.off + cap * ks.length ≤ c.size) ∧ cells.length = len * ks.length ∧ (∀ (i : Nat) v, cells[i]? = some v → c[a.off + i]? = some v) ∧
  ∀ i, i < len → FitC ks ((cells.drop (i * ks.length)).take ks.length)
def CellFit (w : World) : CK2 → Value → Prop
 | .i k, v => ∃ n, v = .int k n ∧ (Lit.int k n).wf = true
 | .b, v => ∃ t, v = .bool t
 | .s ks, v => SlFit w ks v
def cO (w : World) : List CK2 → List Value → Prop
 | [], [] => True
 | k :: ks, v :: vs => CellFit w k v ∧ cO w ks vs
 | _, _ => False
def bh (h : HL) : List CK2 → List Lf → Prop
 | [], [] => True
 | .i k :: ks, .i n :: ls => (Lit.int k n).wf = true ∧ bh h ks ls
 | .b :: ks, .b _ :: ls => bh h ks ls
 | .s es :: ks, .v x :: ls => (∃ n cells, SlC h x es.length n cells ∧ n ≤ maxLen ∧ ∀ i, i < n → FitC es ((cells.drop (i * es.length)).take es.length)) ∧ bh h ks ls
 | _, _ => False
theorem cO.len {w : World} : ∀ {ks : List CK2} {vs : List Value}, cO w ks vs → vs.length = ks.length
 | [], [], _ => rfl
 | _ :: _, _ :: _, h => by simp [cO.len h.2]
 | [], _ :: _, h => by cases h
 | _ :: _, [], h => by cases h
theorem cO.app {w : World} : ∀ {ks ks' : List CK2} {vs vs' : List Value}, cO w ks vs → cO w ks' vs' → cO w (ks ++ ks') (vs ++ vs')
 | [], _, [], _, _, h => h
 | _ :: _, _, _ :: _, _, h, h' => ⟨h.1, cO.app h.2 h'⟩
 | [], _, _ :: _, _, h, _ => by cases h
 | _ :: _, _, [], _, h, _ => by cases h
theorem bh.app {h : HL} : ∀ {ks ks' : List CK2} {vs vs' : List Lf}, bh h ks vs → bh h ks' vs' → bh h (ks ++ ks') (vs ++ vs')
 | [], _, [], _, _, h => h
 | .i _ :: ks, _, .i _ :: _, _, h, h' => ⟨h.1, bh.app (ks := ks) h.2 h'⟩
 | .b :: ks, _, .b _ :: _, _, h, h' => bh.app (ks := ks) h h'
 | .s _ :: ks, _, .v _ :: _, _, h, h' => ⟨h.1, bh.app (ks := ks) h.2 h'⟩
 | [], _, _ :: _, _, h, _ => by cases h
 | .i _ :: _, _, [], _, h, _ => by cases h
 | .b :: _, _, [], _, h, _ => by cases h
 | .s _ :: _, _, [], _, h, _ => by cases h
 | .i _ :: _, _, .b _ :: _, _, h, _ => by cases h
 | .i _ :: _, _, .v _ :: _, _, h, _ => by cases h
 | .b :: _, _, .i _ :: _, _, h, _ => by cases h
 | .b :: _, _, .v _ :: _, _, h, _ => by cases h
 | .s _ :: _, _, .i _ :: _, _, h, _ => by cases h
 | .s _ :: _, _, .b _ :: _, _, h, _ => by cases h
noncomputable def ckF (F : TypeId → Option (List CK2)) : List Field → Nat → Option (List CK2)
 | [], _ => some []
 | f :: fs, off => match Nat.beq f.offset off, F f.type with
  | true, some ks => (ckF F fs (off + ks.length)).map (ks ++ ·)
  | _, _ => none
noncomputable def ckT (P : Program) : Nat → TypeId → Option (List CK2)
 | 0, _ => none
 | d + 1, t => match P.underlying t with
  | some (.int k) => some [.i k]
  | some .bool => some [.b]
  | some (.slice e) => match flatT P 20 e with
   | some ks => match Nat.beq (P.cellsOf e) ks.length && Nat.blt 0 ks.length with
    | true => some [.s ks]
    | false => none
   | none => none
  | some (.struct fs) => match ckF (ckT P d) fs.toList 0 with
   | some ks => match Nat.beq ks.length (P.cellsOf t) with
    | true => some ks
    | false => none
   | none => none
  | _ => none
section
variable {H : Type} {enc : TypeId × Value → H} {P : Program}
def Lies (w : World) (v : Value) : Prop := ∀ a len cap, v = .slice (some a) len cap → a.spot = none ∧ ∃ c t fr, w.heap[a.block]? = some (.cells c t fr)
theorem gu {α β : Type} {f g : α → Option β} : ∀ {l : List α}, (∀ x ∈ l, f x = g x) → l.mapM f = l.mapM g
 | [], _ => rfl
 | a :: l, h => by
  rw [List.mapM_cons, List.mapM_cons, h a List.mem_cons_self, gu fun x hx => h x (List.mem_cons_of_mem _ hx)]
theorem bp {a : Addr} (h : a.spot = none) (i : Nat) : a.add i = ⟨a.block, a.off + i, none⟩ := by
 obtain ⟨b, o, s⟩ := a
 cases h
 unfold Addr.add
 simp
theorem slice_ok {w : World} {t e : TypeId} {ks : List LK} (ht : P.underlying t = some (.slice e)) (he : flatT P 20 e = some ks) (hc : P.cellsOf e = ks.length) (h0 : 0 < ks.length) {base : Nat} (hbase : base = 0) {held : Bool} {fuel : Nat} {cs : List Value} {x : DataW H × List MemPlace}
  (hx : DataW.trod enc P w base (fun _ => true) held fuel t cs = some x) (hl : ∀ v ∈ cs, Lies w v) :
  ∃ v, cs = [v] ∧ SlFit w ks v ∧ ∀ (w' : World) (s' : Nat → Bool), (∀ b, b < w.heap.size → w'.heap[b]? = w.heap[b]?) → (∀ b, b < w.heap.size → s' b = true) → DataW.trod enc P w' base s' held fuel t cs = some x := by
 subst hbase
 have hx0 := hx
 rcases DataW.trod_slice ht hx with ⟨rfl, rfl⟩ | ⟨a, len, cap, elems, rest, n, rfl, rfl, rfl, hb, hlc, hm, hlen, hel, hsp, _⟩
 ·refine ⟨_, rfl, .inl rfl, fun w' s' _ _ => ?_⟩
  cases fuel with
  | zero => simp [DataW.trod] at hx
  | succ m => simp [DataW.trod, ht]
 ·obtain ⟨hs, c, t', fr, hblk⟩ := hl _ List.mem_cons_self a len cap rfl
  obtain ⟨hrl, hr⟩ := hsp rfl
  rw [hc] at hel hr
  have hlt : a.block < w.heap.size := by
   rcases Nat.lt_or_ge a.block w.heap.size with h | h
   ·exact h
   ·rw [Array.getElem?_eq_none h] at hblk; cases hblk
  have each : ∀ i, i < cap → ∃ ci y, w.cells? 0 (a.add (i * ks.length)) ks.length = some ci ∧ DataW.trod enc P w 0 (fun _ => true) held n e ci = some y ∧ (elems ++ rest)[i]? = some y := by
   intro i hi
   by_cases h1 : i < len
   ·have h2 := hel i h1
    have h3 : elems[i]? = some elems[i] := List.getElem?_eq_getElem (by omega)
    rw [h3] at h2
    obtain ⟨ci, h4, h5⟩ := Option.bind_eq_some_iff.1 h2
    exact ⟨ci, _, h4, h5, by rw [List.getElem?_append_left (by omega)]; exact h3⟩
   ·have h2 := hr (i - len) (by omega)
    rw [show len + (i - len) = i by omega] at h2
    have h3 : rest[i - len]? = some (rest[i - len]'(by omega)) := List.getElem?_eq_getElem (by omega)
    rw [h3] at h2
    obtain ⟨ci, h4, h5⟩ := Option.bind_eq_some_iff.1 h2
    exact ⟨ci, _, h4, h5, by rw [List.getElem?_append_right (by omega), hlen]; exact h3⟩
  have rd : ∀ i, i < cap → ∀ j, j < ks.length → ∀ ci, w.cells? 0 (a.add (i * ks.length)) ks.length = some ci → c[a.off + i * ks.length + j]? = ci[j]? := by
   intro i hi j hj ci hci
   have h1 := (World.cells?_some hci).2.2 j hj
   rw [bp hs, bp rfl] at h1
   rw [← h1]
   unfold World.cell?
   simp [hblk]
  have hsz : cap = 0 ∨ a.off + cap * ks.length ≤ c.size := by
   by_cases hcap : cap = 0
   ·exact .inl hcap
   ·right
    obtain ⟨ci, y, h1, _, _⟩ := each (cap - 1) (by omega)
    have h2 := rd (cap - 1) (by omega) (ks.length - 1) (by omega) ci h1
    have hcl := (World.cells?_some h1).2.1
    rw [List.getElem?_eq_getElem (by omega)] at h2
    have h3 := (Array.getElem?_eq_some_iff.1 h2).1
    have h4 : cap * ks.length = (cap - 1) * ks.length + ks.length := by
     rw [← Nat.succ_mul]; congr 1; omega
    omega
  have hsz2 : a.off + len * ks.length ≤ c.size ∨ len = 0 := by
   rcases hsz with h | h
   ·right; omega
   ·left
    have := Nat.mul_le_mul_right ks.length hlc
    omega
  refine ⟨_, rfl, .inr ⟨a, len, cap, c, t', fr, (c.toList.drop a.off).take (len * ks.length), rfl, hs, hlc, hm, hblk, hsz, ?_, ?_, ?_⟩, ?_⟩
  ·rw [List.length_take, List.length_drop]
   have hcz : c.toList.length = c.size := Array.length_toList
   rcases hsz2 with h | h
   ·omega
   ·subst h; omega
  ·intro i v hv
   rw [List.getElem?_take] at hv
   split at hv
   ·rw [List.getElem?_drop] at hv
    simpa using hv
   ·cases hv
  ·intro i hi
   obtain ⟨ci, y, h1, h2, _⟩ := each i (by omega)
   obtain ⟨_, h3, _⟩ := mE 20 e ks he w 0 _ held n ci y h2
   have hcl := (World.cells?_some h1).2.1
   have : (((c.toList.drop a.off).take (len * ks.length)).drop (i * ks.length)).take ks.length = ci := by
    apply List.ext_getElem?
    intro j
    by_cases hj : j < ks.length
    ·have hle : i * ks.length + ks.length ≤ len * ks.length := by
      have := Nat.mul_le_mul_right ks.length (show i + 1 ≤ len by omega)
      rw [Nat.add_mul, Nat.one_mul] at this; exact this
     rw [List.getElem?_take, if_pos hj, List.getElem?_drop, List.getElem?_take, if_pos (by omega), List.getElem?_drop, ← rd i (by omega) j hj ci h1]
     rw [Array.getElem?_toList, Nat.add_assoc]
    ·rw [List.getElem?_eq_none (by rw [List.length_take]; omega), List.getElem?_eq_none (by omega)]
   rw [this]; exact h3
  ·intro w' s' hw hs'
   have hcell : ∀ i, i < cap → w'.cells? 0 (a.add (i * ks.length)) ks.length = w.cells? 0 (a.add (i * ks.length)) ks.length := by
    intro i hi
    unfold World.cells?
    have : ∀ j, w'.cell? ((a.add (i * ks.length)).add j) = w.cell? ((a.add (i * ks.length)).add j) := by
     intro j
     rw [bp hs, bp rfl]
     unfold World.cell?
     rw [hw _ hlt]
    simp only [this]
   have el : ∀ i, i < cap → (w'.cells? 0 (a.add (i * P.cellsOf e)) (P.cellsOf e)).bind (DataW.trod enc P w' 0 s' held n e) = (elems ++ rest)[i]? := by
    intro i hi
    rw [hc, hcell i hi]
    obtain ⟨ci, y, h1, h2, h3⟩ := each i hi
    rw [h1, h3, Option.bind_some]
    exact (mE 20 e ks he w 0 _ held n ci y h2).2.2 w' 0 s' held
   have el0 : ∀ i, i < cap → (w.cells? 0 (a.add (i * P.cellsOf e)) (P.cellsOf e)).bind (DataW.trod enc P w 0 (fun _ => true) held n e) = (elems ++ rest)[i]? := by
    intro i hi
    rw [hc]
    obtain ⟨ci, y, h1, h2, h3⟩ := each i hi
    rw [h1, h3, Option.bind_some]
    exact h2
   unfold DataW.trod at hx0 ⊢
   simp only [ht] at hx0 ⊢
   rw [if_pos ⟨Nat.zero_le _, hlc, hm⟩] at hx0 ⊢
   rw [gu (fun i hi => (el i (by have := List.mem_range.1 hi; omega)).trans (el0 i (by have := List.mem_range.1 hi; omega)).symm)]
   rw [gu (l := List.range (cap - len)) (fun j hj => (el (len + j) (by have := List.mem_range.1 hj; omega)).trans (el0 (len + j) (by have := List.mem_range.1 hj; omega)).symm)]
   rw [hs' _ hlt]
   exact hx0
theorem ckF_ok {F : TypeId → Option (List CK2)} {w : World} {held : Bool} {fuel : Nat} (cs : List Value) (hl : ∀ v ∈ cs, Lies w v)
  (hF : ∀ t ks, F t = some ks → ∀ cs (x : DataW H × List MemPlace), (∀ v ∈ cs, Lies w v) → DataW.trod enc P w 0 (fun _ => true) held fuel t cs = some x → cO w ks cs ∧ ∀ (w' : World) (s' : Nat → Bool), (∀ b, b < w.heap.size → w'.heap[b]? = w.heap[b]?) → (∀ b, b < w.heap.size → s' b = true) → DataW.trod enc P w' 0 s' held fuel t cs = some x) :
  ∀ (fs : List Field) (off : Nat) (ks : List CK2) (xs : List (DataW H × List MemPlace)), ckF F fs off = some ks → fs.mapM (fun f => DataW.trod enc P w 0 (fun _ => true) held fuel f.type ((cs.drop f.offset).take (P.cellsOf f.type))) = some xs →
   cO w ks ((cs.drop off).take ks.length) ∧ ∀ (w' : World) (s' : Nat → Bool), (∀ b, b < w.heap.size → w'.heap[b]? = w.heap[b]?) → (∀ b, b < w.heap.size → s' b = true) → fs.mapM (fun f => DataW.trod enc P w' 0 s' held fuel f.type ((cs.drop f.offset).take (P.cellsOf f.type))) = some xs
 | [], off, ks, xs, h1, h2 => by
  simp only [ckF, Option.some.injEq] at h1
  subst h1
  simp only [List.mapM_nil, Option.pure_def, Option.some.injEq] at h2
  subst h2
  refine ⟨by simp [cO], fun _ _ _ _ => by simp⟩
 | f :: fs, off, ks, xs, h1, h2 => by
  simp only [ckF] at h1
  split at h1
  ·rename_i k1 e1 e2
   obtain ⟨k2, e3, rfl⟩ := Option.map_eq_some_iff.1 h1
   have e1 := Nat.eq_of_beq_eq_true e1
   rw [List.mapM_cons] at h2
   obtain ⟨x, h3, h2⟩ := Option.bind_eq_some_iff.1 h2
   obtain ⟨ys, h4, h2⟩ := Option.bind_eq_some_iff.1 h2
   cases h2
   obtain ⟨a2, a3⟩ := hF _ _ e2 _ _ (fun v hv => hl v (List.mem_of_mem_drop (List.mem_of_mem_take hv))) h3
   obtain ⟨b2, b3⟩ := ckF_ok cs hl hF fs _ k2 ys e3 h4
   refine ⟨?_, fun w' s' hw hs' => ?_⟩
   ·rw [List.length_append, List.take_add]
    refine cO.app ?_ (by rw [List.drop_drop]; exact b2)
    have hl := cO.len a2
    rw [e1] at a2 hl
    rw [← hl, hU]
    exact a2
   ·rw [List.mapM_cons, a3 w' s' hw hs', b3 w' s' hw hs']
    rfl
  ·cases h1
theorem ckT_ok : ∀ (d : Nat) (t : TypeId) (ks : List CK2), ckT P d t = some ks → ∀ (w : World) (held : Bool) (fuel : Nat) (cs : List Value) (x : DataW H × List MemPlace), (∀ v ∈ cs, Lies w v) → DataW.trod enc P w 0 (fun _ => true) held fuel t cs = some x →
  cO w ks cs ∧ ∀ (w' : World) (s' : Nat → Bool), (∀ b, b < w.heap.size → w'.heap[b]? = w.heap[b]?) → (∀ b, b < w.heap.size → s' b = true) → DataW.trod enc P w' 0 s' held fuel t cs = some x
 | 0, _, _, h => by cases h
 | d + 1, t, ks, h => by
  intro w held fuel cs x hl hx
  simp only [ckT] at h
  split at h
  ·rename_i k e
   cases h
   obtain ⟨n, rfl, rfl, hw⟩ := DataW.trod_int e hx
   refine ⟨⟨⟨n, rfl, hw⟩, trivial⟩, fun w' s' _ _ => ?_⟩
   cases fuel with
   | zero => simp [DataW.trod] at hx
   | succ m => simp [DataW.trod, e, hw]
  ·rename_i e
   cases h
   obtain ⟨n, rfl, rfl⟩ := DataW.trod_bool e hx
   refine ⟨⟨⟨n, rfl⟩, trivial⟩, fun w' s' _ _ => ?_⟩
   cases fuel with
   | zero => simp [DataW.trod] at hx
   | succ m => simp [DataW.trod, e]
  ·rename_i e e0
   split at h
   ·rename_i k2 e2
    split at h
    ·rename_i e3
     cases h
     simp only [Bool.and_eq_true, Nat.blt_eq] at e3
     obtain ⟨v, rfl, a2, a3⟩ := slice_ok e0 e2 (Nat.eq_of_beq_eq_true e3.1) e3.2 rfl hx hl
     exact ⟨⟨a2, trivial⟩, a3⟩
    ·cases h
   ·cases h
  ·rename_i fs e
   split at h
   ·rename_i k2 e2
    split at h
    ·rename_i e3
     cases h
     have e3 := Nat.eq_of_beq_eq_true e3
     cases fuel with
     | zero => simp [DataW.trod] at hx
     | succ m =>
      simp only [DataW.trod, e] at hx
      split at hx
      ·rename_i hlen
       obtain ⟨xs, h5, rfl⟩ := Option.map_eq_some_iff.1 hx
       obtain ⟨a2, a3⟩ := ckF_ok cs hl (fun t ks h cs x hl hx => ckT_ok d t ks h w held m cs x hl hx) fs.toList 0 ks xs e2 h5
       rw [List.drop_zero, List.take_of_length_le (by omega)] at a2
       refine ⟨a2, fun w' s' hw hs' => ?_⟩
       simp only [DataW.trod, e, hlen, if_true]
       rw [a3 w' s' hw hs']
       rfl
      ·cases hx
    ·cases h
   ·cases h
  ·cases h
abbrev Blk2 := HObj × Option Pl
def nL (w : World) (b : Blk2) : Prop := b.1 = .dead ∨ ∃ vs e p c t fr, b.1 = .cells vs e false ∧ b.2 = some p ∧ p.esz = e ∧ vs.all flat = true ∧ vs.all aY = true ∧ vs.length ≤ p.room ∧ w.heap[p.b]? = some (.cells c t fr) ∧ c.size = p.o + p.room ∧ ∀ (i : Nat) v, vs[i]? = some v → c[p.o + i]? = some v
theorem jT : ∀ {ks : List LK} {vs : List Value}, FitC ks vs → vs.all flat = true ∧ vs.all aY = true
 | [], [], _ => ⟨rfl, rfl⟩
 | .i k :: ks, v :: vs, h => by
  obtain ⟨⟨n, rfl, _⟩, h2⟩ := h
  obtain ⟨a, b⟩ := jT h2
  exact ⟨by simp [a, flat, dx, scalar], by simp [b]; rfl⟩
 | .b :: ks, v :: vs, h => by
  obtain ⟨⟨n, rfl⟩, h2⟩ := h
  obtain ⟨a, b⟩ := jT h2
  exact ⟨by simp [a, flat, dx, scalar], by simp [b]; rfl⟩
 | .v :: _, _, h => by cases h
 | [], _ :: _, h => by cases h
 | .i _ :: _, [], h => by cases h
 | .b :: _, [], h => by cases h
theorem pC {ks : List LK} (hk : 0 < ks.length) {cells : List Value} {n : Nat} (hl : cells.length = n * ks.length) (h : ∀ i, i < n → FitC ks ((cells.drop (i * ks.length)).take ks.length)) : cells.all flat = true ∧ cells.all aY = true := by
 have main : ∀ j, j < cells.length → ∃ v, cells[j]? = some v ∧ flat v = true ∧ aY v = true := by
  intro j hj
  have h1 : j / ks.length < n := by
   rw [Nat.div_lt_iff_lt_mul hk]; omega
  obtain ⟨a, b⟩ := jT (h _ h1)
  have hm := Nat.mod_lt j hk
  have hd := Nat.div_add_mod j ks.length
  have hmem : ((cells.drop (j / ks.length * ks.length)).take ks.length)[j % ks.length]? = some cells[j] := by
   rw [List.getElem?_take, if_pos hm, List.getElem?_drop]
   rw [show j / ks.length * ks.length + j % ks.length = j by rw [Nat.mul_comm]; exact hd]
   exact List.getElem?_eq_getElem hj
  exact ⟨_, List.getElem?_eq_getElem hj, List.all_eq_true.1 a _ (List.mem_of_getElem? hmem), List.all_eq_true.1 b _ (List.mem_of_getElem? hmem)⟩
 constructor <;>
 ·rw [List.all_eq_true]
  intro v hv
  obtain ⟨j, hj⟩ := List.getElem?_of_mem hv
  have hlt : j < cells.length := by
   rcases Nat.lt_or_ge j cells.length with h | h
   ·exact h
   ·rw [List.getElem?_eq_none h] at hj; cases hj
  obtain ⟨v', h1, h2, h3⟩ := main j hlt
  rw [hj] at h1
  cases h1
  first | exact h2 | exact h3
section
variable [Val]
theorem cell_abs {w : World} {ck : CK2} {v : Value} (hp : ∀ ks, ck = .s ks → 0 < ks.length) (h : CellFit w ck v) (n0 : Nat) : ∃ (x : SL) (bl : List Blk2), (∀ b ∈ bl, nL w b) ∧ x.is ck.lk = true ∧ x.good ∧
  (∀ mu : HMap, (∀ (i : Nat) b, bl[i]? = some b → mu (n0 + i) = b.2) → VR noL mu x.val v) ∧ ∀ hp : HL, (∀ (i : Nat) b, bl[i]? = some b → hp[n0 + i]? = some (.o b.1)) → bh hp [ck] [x.lf] := by
 cases ck with
 | i k =>
  obtain ⟨n, rfl, hw⟩ := h
  exact ⟨.i k n, [], by simp, by simp [SL.is, CK2.lk, cJ], trivial, fun mu _ => .scalar rfl, fun hp _ => ⟨hw, trivial⟩⟩
 | b =>
  obtain ⟨t, rfl⟩ := h
  exact ⟨.b t, [], by simp, rfl, trivial, fun mu _ => .scalar rfl, fun hp _ => trivial⟩
 | s ks =>
  have hk := hp ks rfl
  rcases h with rfl | ⟨a, len, cap, c, t, fr, cells, rfl, hs, hlc, hm, hblk, hsz, hcl, hget, hfit⟩
  ·refine ⟨.v (.slice none 0 0), [], by simp, rfl, rfl, fun mu _ => .scalar rfl, fun hp _ => ⟨⟨0, [], ⟨by simp, .inl ⟨rfl, rfl⟩⟩, Nat.zero_le _, fun i hi => by omega⟩, trivial⟩⟩
  ·obtain ⟨hf1, hf2⟩ := pC hk hcl hfit
   have gd : cA (.slice (some ⟨n0, 0, tag ks.length⟩) len 0) = true := by simp [cA, noLoc, bv, cF, bX, bt, aU, tag]
   have ha : a = ⟨a.block, a.off, none⟩ := by cases a; cases hs; rfl
   have fit : ∀ hp : HL, hp[n0]? = some (.o (.cells cells ks.length false)) → bh hp [.s ks] [.v (.slice (some ⟨n0, 0, tag ks.length⟩) len 0)] := fun hp h1 =>
    ⟨⟨len, cells, ⟨hcl, .inr ⟨n0, 0, 0, cells, false, rfl, h1, jM hcl⟩⟩, by omega, hfit⟩, trivial⟩
   by_cases hcap : cap = 0
   ·subst hcap
    obtain rfl : len = 0 := by omega
    have hce : cells = [] := List.eq_nil_of_length_eq_zero (by omega)
    subst hce
    refine ⟨.v (.slice (some ⟨n0, 0, tag ks.length⟩) 0 0), [(.cells [] ks.length false, some ⟨a.block, c.size, 0, ks.length⟩)], fun b hb => ?_, rfl, gd, fun mu _ => .hslice0 (Nat.zero_le _), fun hp h1 => fit hp (h1 0 _ rfl)⟩
    simp only [List.mem_singleton] at hb
    subst hb
    exact .inr ⟨[], ks.length, _, c, t, fr, rfl, rfl, rfl, rfl, rfl, Nat.zero_le _, hblk, by simp, fun i v hv => by simp at hv⟩
   ·have hsz : a.off + cap * ks.length ≤ c.size := hsz.resolve_left hcap
    have hle := Nat.mul_le_mul_right ks.length hlc
    refine ⟨.v (.slice (some ⟨n0, 0, tag ks.length⟩) len 0), [(.cells cells ks.length false, some ⟨a.block, a.off, c.size - a.off, ks.length⟩)], fun b hb => ?_, rfl, gd, fun mu h1 => ?_, fun hp h1 => fit hp (h1 0 _ rfl)⟩
    ·simp only [List.mem_singleton] at hb
     subst hb
     exact .inr ⟨cells, ks.length, _, c, t, fr, rfl, rfl, rfl, hf1, hf2, by show cells.length ≤ c.size - a.off; omega, hblk, by show c.size = a.off + (c.size - a.off); omega, hget⟩
    ·have h2 := h1 0 _ rfl
     rw [ha]
     have := VR.hslice (la := noL) (mu := mu) (id := n0) (off := 0) (len := len) (cap := cap) (cx := 0) h2 (by show 0 + cap * ks.length ≤ c.size - a.off; omega) hlc (.inl rfl)
     exact this
theorem nW {w : World} : ∀ {cks : List CK2} {vs : List Value}, (∀ ks, CK2.s ks ∈ cks → 0 < ks.length) → cO w cks vs → ∀ n0, ∃ (xs : List SL) (bl : List Blk2), (∀ b ∈ bl, nL w b) ∧ aF xs (cks.map CK2.lk) = true ∧ (∀ x ∈ xs, x.good) ∧ xs.length = vs.length ∧
  (∀ mu : HMap, (∀ (i : Nat) b, bl[i]? = some b → mu (n0 + i) = b.2) → VRs noL mu (xs.map SL.val) vs) ∧ ∀ hp : HL, (∀ (i : Nat) b, bl[i]? = some b → hp[n0 + i]? = some (.o b.1)) → bh hp cks (xs.map SL.lf)
 | [], [], _, _, n0 => ⟨[], [], by simp, rfl, by simp, rfl, fun mu _ => ⟨rfl, fun i x y h => by simp at h⟩, fun hp _ => trivial⟩
 | ck :: cks, v :: vs, hp, h, n0 => by
  obtain ⟨x, bl, a1, a2, a3, a4, a5⟩ := cell_abs (fun ks e => hp ks (by rw [e]; exact List.mem_cons_self)) h.1 n0
  obtain ⟨xs, bl', b1, b2, b3, b4, b5, b6⟩ := nW (fun ks e => hp ks (List.mem_cons_of_mem _ e)) h.2 (n0 + bl.length)
  have g1 : ∀ {α : Type} {f : Nat → α} {g : Blk2 → α}, (∀ (i : Nat) b, (bl ++ bl')[i]? = some b → f (n0 + i) = g b) → (∀ (i : Nat) b, bl[i]? = some b → f (n0 + i) = g b) ∧ ∀ (i : Nat) b, bl'[i]? = some b → f (n0 + bl.length + i) = g b := by
   intro α f g h
   refine ⟨fun i b hb => h i b ?_, fun i b hb => ?_⟩
   ·rw [List.getElem?_append_left (by
     rcases Nat.lt_or_ge i bl.length with h | h
     ·exact h
     ·rw [List.getElem?_eq_none h] at hb; cases hb)]; exact hb
   ·rw [Nat.add_assoc]
    refine h _ b ?_
    rw [List.getElem?_append_right (by omega), Nat.add_sub_cancel_left]; exact hb
  refine ⟨x :: xs, bl ++ bl', fun b hb => ?_, by simp [aF, a2, b2], fun y hy => ?_, by simp [b4], fun mu hmu => ?_, fun hp hh => ?_⟩
  ·rcases List.mem_append.1 hb with h | h
   ·exact a1 b h
   ·exact b1 b h
  ·rcases List.mem_cons.1 hy with rfl | hy
   ·exact a3
   ·exact b3 y hy
  ·obtain ⟨h1, h2⟩ := g1 (f := mu) (g := fun b => b.2) hmu
   have c1 := a4 mu h1
   obtain ⟨c2, c3⟩ := b5 mu h2
   refine ⟨by simpa using c2, fun i p q hi hj => ?_⟩
   cases i with
   | zero =>
    simp only [List.map_cons, List.getElem?_cons_zero, Option.some.injEq] at hi hj
    subst hi hj; exact c1
   | succ i => exact c3 i p q (by simpa using hi) (by simpa using hj)
  ·obtain ⟨h1, h2⟩ := g1 (f := fun i => hp[i]?) (g := fun b => some (HO.o b.1)) hh
   exact bh.app (a5 hp h1) (b6 hp h2)
 | [], _ :: _, _, h, _ => by cases h
 | _ :: _, [], _, h, _ => by cases h
end
end
end Sx
end Go.Am

/-
 ARGUMENTS WITH SLICES: from the row's arguments to the machine, and back.
-/
set_option maxRecDepth 100000
namespace Go.Am
namespace Sx
open Go.ChangeShapes Go.WideShapes Go.ChangeAt Go.WideMaps Go.WideElems Go.RowKit
section
variable {H : Type} {enc : TypeId × Value → H} {P : Program}
theorem ki {w : World} {r : Reach} {b0 : Nat} {u : TypeId} {v : Value} (h : Cell.okWide P w r b0 u v) : Lies w v := by
 rintro a len cap rfl
 have h1 : ∃ e, w.has P r b0 a e cap := by
  unfold Cell.okWide at h
  split at h <;> first | (rename_i e1 e2; cases e2; done) | (rename_i e1; cases e1; done) | skip
  all_goals
   unfold Cell.ok at h
   split at h <;> first | (cases h; done) | (rename_i e1 e2; cases e2; done) | skip
   all_goals first | (rename_i heq; injection heq with q1 q2 q3; subst q2 q3; cases q1; exact ⟨_, h.2.2⟩) | skip
 obtain ⟨e, _, h2, row, cells, h3, _⟩ := h1
 refine ⟨h2, ?_⟩
 unfold World.shape? at h3
 split at h3
 ·rename_i c el fr e1
  exact ⟨c, el, fr, e1⟩
 ·cases h3
theorem lies_val {w : World} {r : Reach} {b0 : Nat} {t : TypeId} {v : Value} (h : Value.okWide P w r b0 t v) : ∀ x ∈ v.cells.toList, Lies w x := by
 intro x hx
 unfold Value.okWide at h
 split at h
 ·obtain ⟨cs, rfl, _, ts, _, _, h2⟩ := h
  obtain ⟨i, hi⟩ := List.getElem?_of_mem hx
  obtain ⟨u, _, h3⟩ := h2 i x (by simpa [Value.cells] using hi)
  exact ki h3
 ·obtain ⟨cs, rfl, _, ts, _, _, h2⟩ := h
  obtain ⟨i, hi⟩ := List.getElem?_of_mem hx
  obtain ⟨u, _, h3⟩ := h2 i x (by simpa [Value.cells] using hi)
  exact ki h3
 ·have : x = v ∨ ∃ cs, v = .agg cs := by
   cases v <;> first | (right; exact ⟨_, rfl⟩) | (left; simpa [Value.cells] using hx)
  rcases this with rfl | ⟨cs, rfl⟩
  ·exact ki h
  ·exfalso
   unfold Cell.okWide at h
   split at h <;> first | (rename_i e1 e2; cases e2; done) | (rename_i e1; cases e1; done) | skip
   all_goals
    unfold Cell.ok at h
    split at h <;> first | (cases h; done) | (rename_i e1 e2; cases e2; done) | skip
noncomputable def skC (P : Program) (t : TypeId) (cks : List CK2) : Option SK :=
 match P.underlying t, cks with
 | some (.struct _), cks => some (.agg (cks.map CK2.lk))
 | some (.int _), [k] => some (.leaf k.lk)
 | some .bool, [k] => some (.leaf k.lk)
 | some (.slice _), [k] => some (.leaf k.lk)
 | _, _ => none
noncomputable def posK (cks : List CK2) : Bool := cks.all fun k => match k with
 | .s ks => Nat.blt 0 ks.length
 | _ => true
theorem posK_ok {cks : List CK2} (h : posK cks = true) : ∀ ks, CK2.s ks ∈ cks → 0 < ks.length := by
 intro ks hk
 have := List.all_eq_true.1 h _ hk
 simpa [Nat.blt_eq] using this
section
variable [Val]
structure Abs (W : World) (n0 : Nat) (bl : List Blk2) : Prop where
 ok : ∀ b ∈ bl, nL W b
abbrev MuAt (mu : HMap) (n0 : Nat) (bl : List Blk2) : Prop := ∀ (i : Nat) b, bl[i]? = some b → mu (n0 + i) = b.2
abbrev HpAt (hp : HL) (n0 : Nat) (bl : List Blk2) : Prop := ∀ (i : Nat) b, bl[i]? = some b → hp[n0 + i]? = some (.o b.1)
abbrev Stays (W W' : World) : Prop := ∀ b, b < W.heap.size → W'.heap[b]? = W.heap[b]?
theorem open_arg2 {W : World} {r : Reach} {b0 : Nat} {held : Bool} {t : TypeId} {cks : List CK2} {sk : SK} {v : Value} {d : DataW H} {ps : List MemPlace} (h : ckT P 20 t = some cks) (hsk : skC P t cks = some sk) (hpos : posK cks = true) (hval : Value.okWide P W r b0 t v) (hd : DataW.Trod enc P W 0 (fun _ => true) held t v d ps) (n0 : Nat) :
  ∃ (x : S0) (bl : List Blk2), (∀ b ∈ bl, nL W b) ∧ x.is sk = true ∧ x.good ∧ (∀ mu : HMap, MuAt mu n0 bl → VR noL mu x.val v) ∧ (∀ hp : HL, HpAt hp n0 bl → bh hp cks (x.cells.map SL.lf)) ∧
   ∀ (W' : World) (s' : Nat → Bool), Stays W W' → (∀ b, b < W.heap.size → s' b = true) → DataW.Trod enc P W' 0 s' held t v d ps := by
 obtain ⟨fuel, hf⟩ := hd
 obtain ⟨a1, a2⟩ := ckT_ok 20 t cks h W held fuel _ _ (lies_val hval) hf
 obtain ⟨xs, bl, b1, b2, b3, b4, b5, b6⟩ := nW (posK_ok hpos) a1 n0
 have close : ∀ (W' : World) (s' : Nat → Bool), Stays W W' → (∀ b, b < W.heap.size → s' b = true) → DataW.Trod enc P W' 0 s' held t v d ps := fun W' s' h1 h2 => ⟨fuel, a2 W' s' h1 h2⟩
 have leaf : (∀ fs, P.underlying t ≠ some (.struct fs)) → (∀ n e, P.underlying t ≠ some (.array n e)) → ∀ k, cks = [k] → sk = .leaf k.lk → ∃ (x : S0) (bl : List Blk2), (∀ b ∈ bl, nL W b) ∧ x.is sk = true ∧ x.good ∧ (∀ mu : HMap, MuAt mu n0 bl → VR noL mu x.val v) ∧ (∀ hp : HL, HpAt hp n0 bl → bh hp cks (x.cells.map SL.lf)) ∧
   ∀ (W' : World) (s' : Nat → Bool), Stays W W' → (∀ b, b < W.heap.size → s' b = true) → DataW.Trod enc P W' 0 s' held t v d ps := by
  rintro hs1 hs2 k rfl rfl
  have hv : v.cells.toList = [v] := by
   have h1 := cO.len a1
   cases v with
   | agg cs =>
    exfalso
    unfold Value.okWide at hval
    split at hval
    ·rename_i e; exact hs1 _ e
    ·rename_i e; exact hs2 _ _ e
    ·unfold Cell.okWide at hval
     split at hval <;> first | (rename_i e1 e2; cases e2; done) | (rename_i e1; cases e1; done) | skip
     all_goals
      unfold Cell.ok at hval
      split at hval <;> first | (cases hval; done) | (rename_i e1 e2; cases e2; done) | skip
   | _ => simp [Value.cells]
  rw [hv] at a1 b4 b5
  obtain ⟨x, rfl⟩ : ∃ x, xs = [x] := List.length_eq_one_iff.1 b4
  refine ⟨.leaf x, bl, b1, ?_, fun l hl => ?_, fun mu hmu => ?_, fun hp hh => b6 hp hh, close⟩
  ·show x.is k.lk = true
   simpa [aF] using b2
  ·simp only [S0.cells, List.mem_singleton] at hl
   subst hl; exact b3 _ List.mem_cons_self
  ·exact (b5 mu hmu).2 0 _ _ rfl rfl
 unfold skC at hsk
 split at hsk
 ·rename_i fs e
  cases hsk
  obtain ⟨cs, rfl, _⟩ := okWide_struct e hval
  refine ⟨.agg xs, bl, b1, b2, b3, fun mu hmu => ?_, fun hp hh => b6 hp hh, close⟩
  obtain ⟨c1, c2⟩ := b5 mu hmu
  refine .agg (by simpa [Value.cells] using c1) fun i x y hx hy => c2 i x y (by simpa using hx) (by simpa [Value.cells] using hy)
 ·rename_i k e; cases hsk; exact leaf (fun _ h => by rw [e] at h; cases h) (fun _ _ h => by rw [e] at h; cases h) _ rfl rfl
 ·rename_i e; cases hsk; exact leaf (fun _ h => by rw [e] at h; cases h) (fun _ _ h => by rw [e] at h; cases h) _ rfl rfl
 ·rename_i e' e; cases hsk; exact leaf (fun _ h => by rw [e] at h; cases h) (fun _ _ h => by rw [e] at h; cases h) _ rfl rfl
 ·cases hsk
noncomputable def argK (P : Program) : List TypeId → Option (List (List CK2) × List SK)
 | [] => some ([], [])
 | t :: ts => match ckT P 20 t, argK P ts with
  | some cks, some (l, sks) => match skC P t cks, posK cks with
   | some sk, true => some (cks :: l, sk :: sks)
   | _, _ => none
  | _, _ => none
theorem at_app {α : Type} {bl bl' : List Blk2} {f : Nat → α} {g : Blk2 → α} {n0 : Nat} (h : ∀ (i : Nat) b, (bl ++ bl')[i]? = some b → f (n0 + i) = g b) : (∀ (i : Nat) b, bl[i]? = some b → f (n0 + i) = g b) ∧ ∀ (i : Nat) b, bl'[i]? = some b → f (n0 + bl.length + i) = g b := by
 refine ⟨fun i b hb => h i b ?_, fun i b hb => ?_⟩
 ·rw [List.getElem?_append_left (by
   rcases Nat.lt_or_ge i bl.length with h | h
   ·exact h
   ·rw [List.getElem?_eq_none h] at hb; cases hb)]; exact hb
 ·rw [Nat.add_assoc]
  refine h _ b ?_
  rw [List.getElem?_append_right (by omega), Nat.add_sub_cancel_left]; exact hb
theorem lR {W : World} {r : Reach} {b0 : Nat} {held : Bool} : ∀ (ts : List TypeId) (l : List (List CK2)) (sks : List SK) (vs : List Value) (ds : List (DataW H)) (ps : List MemPlace) (n0 : Nat), argK P ts = some (l, sks) →
  (∀ (j : Nat) t v, ts[j]? = some t → vs[j]? = some v → Value.okWide P W r b0 t v) → DataW.TrodAll enc P W 0 (fun _ => true) held ts vs ds ps →
  ∃ (xs : List S0) (bl : List Blk2), (∀ b ∈ bl, nL W b) ∧ bN xs sks = true ∧ (∀ x ∈ xs, x.good) ∧ (∀ mu : HMap, MuAt mu n0 bl → VRs noL mu (aj xs) vs) ∧ (∀ hp : HL, HpAt hp n0 bl → bh hp l.flatten (bU xs)) ∧
   ∀ (W' : World) (s' : Nat → Bool), Stays W W' → (∀ b, b < W.heap.size → s' b = true) → DataW.TrodAll enc P W' 0 s' held ts vs ds ps
 | [], l, sks, [], [], ps, n0, h, _, ht => by
  cases h
  exact ⟨[], [], by simp, rfl, by simp, fun mu _ => ⟨rfl, fun i x y h => by simp [aj] at h⟩, fun hp _ => trivial, fun _ _ _ _ => ht⟩
 | t :: ts, l, sks, v :: vs, d :: ds, ps, n0, h, hv, ht => by
  simp only [argK] at h
  split at h
  ·rename_i cks l' sks' e1 e2
   split at h
   ·rename_i sk e3 e4
    cases h
    obtain ⟨p, q, h1, h2, rfl⟩ := ht
    obtain ⟨x, bl, a1, a2, a3, a4, a5, a6⟩ := open_arg2 e1 e3 e4 (hv 0 t v rfl rfl) h1 n0
    obtain ⟨xs, bl', b1, b2, b3, b4, b5, b6⟩ := lR ts l' sks' vs ds q (n0 + bl.length) e2 (fun j t v h1 h2 => hv (j + 1) t v h1 h2) h2
    refine ⟨x :: xs, bl ++ bl', fun b hb => ?_, by simp [bN, a2, b2], fun y hy => ?_, fun mu hmu => ?_, fun hp hh => ?_, fun W' s' h1 h2 => ⟨p, q, a6 W' s' h1 h2, b6 W' s' h1 h2, rfl⟩⟩
    ·rcases List.mem_append.1 hb with h | h
     ·exact a1 b h
     ·exact b1 b h
    ·rcases List.mem_cons.1 hy with rfl | hy
     ·exact a3
     ·exact b3 y hy
    ·obtain ⟨h1, h2⟩ := at_app (f := mu) (g := fun b => b.2) hmu
     have c1 := a4 mu h1
     obtain ⟨c2, c3⟩ := b4 mu h2
     refine ⟨by simpa [aj] using c2, fun i p q hi hj => ?_⟩
     cases i with
     | zero =>
      simp only [aj, List.map_cons, List.getElem?_cons_zero, Option.some.injEq] at hi hj
      subst hi hj; exact c1
     | succ i => exact c3 i p q (by simpa [aj] using hi) (by simpa using hj)
    ·obtain ⟨h1, h2⟩ := at_app (f := fun i => hp[i]?) (g := fun b => some (HO.o b.1)) hh
     rw [List.flatten_cons]
     exact bh.app (a5 hp h1) (b5 hp h2)
   ·cases h
  ·cases h
 | [], _, _, _ :: _, _, _, _, _, _, ht => by cases ht
 | [], _, _, [], _ :: _, _, _, _, _, ht => by cases ht
 | _ :: _, _, _, [], _, _, _, _, _, ht => by cases ht
 | _ :: _, _, _, _ :: _, [], _, _, _, _, ht => by cases ht
theorem pA {C : Cfg} {f : FuncId} {args : List Value} {r : Value} {H' : List HObj} {bl : List Blk2} {W : World} (hbl : ∀ b ∈ bl, nL W b) (h : dJ C f args (bl.map (·.1)) r H') {args' : Array Value} (hargs : ∀ mu : HMap, MuAt mu 0 bl → VRs noL mu args args'.toList) (hr : flat r = true)
  (hG : ∀ g vs, C.G g = some vs → g < W.heap.size ∧ vs.all aY = true ∧ vs.all flat = true ∧ ∃ c e fr, W.heap[g]? = some (.cells c e fr) ∧ c.toList = vs) :
  Calls C.P f args' W fun e W' => e = .returned r ∧ W'.os = W.os ∧ W'.output = W.output ∧ W'.tape = W.tape ∧ ∀ b, b < W.heap.size → W'.heap[b]? = W.heap[b]? := by
 let mu : HMap := fun id => (bl[id]?).bind (·.2)
 have hmu : MuAt mu 0 bl := fun i b hb => by simp only [mu, Nat.zero_add, hb, Option.bind_some]
 have hob : ∀ (id : Nat) o, (bl.map (·.1))[id]? = some o → ∃ b, bl[id]? = some b ∧ o = b.1 ∧ nL W b := by
  intro id o ho
  rw [List.getElem?_map] at ho
  obtain ⟨b, h1, rfl⟩ := Option.map_eq_some_iff.1 ho
  exact ⟨b, h1, rfl, hbl b (List.mem_of_getElem? h1)⟩
 have hun : ∀ (id : Nat) o, (bl.map (·.1))[id]? = some o → o.owned = false := by
  intro id o ho
  obtain ⟨b, _, rfl, h3⟩ := hob id o ho
  rcases h3 with h3 | ⟨vs, e, p, c, t, fr, h3, _⟩ <;> rw [h3] <;> rfl
 have hno : ∀ b, ¬ Own mu (bl.map (·.1)) b := by
  rintro b ⟨id, o, p, h1, h2, _⟩
  rw [hun id o h1] at h2; cases h2
 have hW0 : WR C W.heap.size mu (bl.map (·.1)) W := by
  refine ⟨fun id o h1 h2 => ?_, fun i j oi oj pi pj h1 h2 h3 => ?_, fun i o p h1 h2 => ?_, fun i o p h1 h2 _ h4 => ?_, fun id h1 => ?_, fun g vs hg => ?_⟩
  ·obtain ⟨b, q1, rfl, q3⟩ := hob id o h1
   rcases q3 with q3 | ⟨vs, e, p, c, t, fr, q3, q4, q5, q6, q7, q8, q9, q10, q11⟩
   ·rw [q3] at h2; cases h2
   ·refine ⟨p, by simp only [mu, q1, Option.bind_some, q4], ?_⟩
    rw [q3]
    refine ⟨q5, q8, q7, c, t, fr, q9, q10, fun h => by (cases h), fun i v hv => ⟨v, q11 i v hv, .of_flat (List.all_eq_true.1 q6 v (List.mem_of_getElem? hv))⟩⟩
  ·rw [hun i oi h1] at h3; cases h3
  ·rw [hun i o h1] at h2; cases h2
  ·obtain ⟨b, q1, rfl, q3⟩ := hob i o h1
   rcases q3 with q3 | ⟨vs, e, p', c, t, fr, q3, q4, q5, q6, q7, q8, q9, q10, q11⟩
   ·rw [q3] at h2; cases h2
   ·simp only [mu, q1, Option.bind_some, q4, Option.some.injEq] at h4
    subst h4
    rcases Nat.lt_or_ge p'.b W.heap.size with h | h
    ·exact h
    ·rw [Array.getElem?_eq_none h] at q9; cases q9
  ·simp only [mu]
   rw [List.getElem?_eq_none (by simpa using h1)]; rfl
  ·obtain ⟨h1, h2, h3, c, e, fr, h4, h5⟩ := hG g vs hg
   refine ⟨h1, h2, c, e, fr, h4, ?_⟩
   rw [h5]
   exact ⟨rfl, fun i x y hx hy => by rw [hx] at hy; cases hy; exact .of_flat (List.all_eq_true.1 h3 x (List.mem_of_getElem? hx))⟩
 obtain ⟨v, mu', w', a1, a2, a3, _, a5⟩ := h W.heap.size mu W args' (Nat.le_refl _) (hargs mu hmu) hW0
 rw [mF hr a1] at a5
 intro cs
 obtain ⟨fr, b1, b2, b3⟩ := a5 cs
 exact ⟨.returned r, w', fr, ⟨rfl, a3.os, a3.output, a3.tape, fun b hb => a3.keep b hb (hno b)⟩, b1, b2, b3⟩
theorem post_sl {P : Program} {f : Func} {s : ChangeSpec} {apart fresh handsOn : Bool} {W W' : World} {args : Array Value} {v : Value} {ds gs : List (DataW H)} {before pa : List MemPlace}
  (hW : DataW.Whole enc P f.params.toList s.vars apart W args.toList ds gs before)
  (hres : ∀ (b : Nat) (sp : Nat → Bool) (hd : Bool), DataW.TrodAll enc P W' b sp hd f.resultTypes.toList (v.resultList f.resultTypes.size) (s.fn H (ds ++ gs)).results [])
  (hargs : DataW.TrodAll enc P W' 0 (fun b => decide (b < W.heap.size)) true f.params.toList args.toList (s.fn H (ds ++ gs)).args pa)
  (hvars : ∀ sp : Nat → Bool, DataW.TrodVars enc P W' sp s.vars (s.fn H (ds ++ gs)).vars [])
  (h1 : W'.os = W.os) (h2 : W'.output = W.output) (h3 : ∀ b, b < W.heap.size → W'.heap[b]? = W.heap[b]?) :
  s.post enc P f apart fresh handsOn false W args v W' :=
 ⟨ds, gs, before, [], pa, [], hW, hres _ _ _, hargs, hvars _, kept_of h1 h2 h3 _, fun h => by cases h⟩
end
end
section
variable [Val]
theorem nS {C : Cfg} {N : FuncId → Option Nat} {Sg : FuncId → Option Sig} (hm : C.P.follows .mixedOrders = true) {g : FuncId} {sg : Sig} (hs : Sg g = some sg) {ls rs : List Lf} {H H' : List HObj} (hc : let _ : Kno := KnoC C N; bm C Sg g ls H rs H') {xs ys : List S0} (h1 : bN xs sg.ps = true) (h2 : bU xs = ls) (h3 : bN ys sg.rs = true) (h4 : bU ys = rs) :
  dJ C g (aj xs) H (dP (aj ys)) H' := by
 let _ : Kno := KnoC C N
 obtain ⟨sg', xs', ys', c1, c2, c3, c4⟩ := hc
 rw [hs] at c1
 cases c1
 obtain ⟨w1, _⟩ := cP c2.1 h1 (c2.2.1.trans h2.symm)
 obtain ⟨w2, _⟩ := cP c3.1 h3 (c3.2.1.trans h4.symm)
 rw [w1, w2] at c4
 exact pq hm c4
end
end Sx
end Go.Am

/-
 ARGUMENTS WITH SLICES: lists of what lies behind them.
-/
set_option maxRecDepth 100000
namespace Go.Am
namespace Sx
theorem nX {α : Type} {ks : List LK} {enc : α → List Value} {ok : α → Prop} (dec : ∀ cs, FitC ks cs → ∃ a, enc a = cs ∧ ok a) : ∀ (n : Nat) (cells : List Value), cells.length = n * ks.length → (∀ i, i < n → FitC ks ((cells.drop (i * ks.length)).take ks.length)) → ∃ l : List α, l.length = n ∧ l.flatMap enc = cells ∧ ∀ a ∈ l, ok a
 | 0, cells, hl, _ => ⟨[], rfl, by
   simp only [Nat.zero_mul, List.length_eq_zero_iff] at hl
   rw [hl]; rfl, fun _ h => by cases h⟩
 | n + 1, cells, hl, hf => by
  obtain ⟨a, h1, h2⟩ := dec _ (by have := hf 0 (by omega); rw [Nat.zero_mul, List.drop_zero] at this; exact this)
  obtain ⟨l, h3, h4, h5⟩ := nX dec n (cells.drop ks.length) (by rw [List.length_drop, hl, Nat.add_mul]; omega) (fun i hi => by
   have := hf (i + 1) (by omega)
   rw [List.drop_drop]
   rw [Nat.add_mul, Nat.one_mul, Nat.add_comm] at this
   exact this)
  refine ⟨a :: l, by simp [h3], ?_, fun b hb => ?_⟩
  ·rw [List.flatMap_cons, h1, h4, List.take_append_drop]
  ·rcases List.mem_cons.1 hb with rfl | hb
   ·exact h2
   ·exact h5 b hb
theorem ls_of {α : Type} {ks : List LK} {enc : α → List Value} {ok : α → Prop} (hlen : ∀ a, (enc a).length = ks.length) (dec : ∀ cs, FitC ks cs → ∃ a, enc a = cs ∧ ok a) {h : HL} {x : Value} {n : Nat} {cells : List Value} (hs : SlC h x ks.length n cells) (hf : ∀ i, i < n → FitC ks ((cells.drop (i * ks.length)).take ks.length)) :
  ∃ l : List α, LsH h x ks.length enc l ∧ l.length = n ∧ ∀ a ∈ l, ok a := by
 obtain ⟨l, h1, h2, h3⟩ := nX dec n cells hs.1 hf
 refine ⟨l, ⟨fun a _ => hlen a, ?_⟩, h1, h3⟩
 rw [h1, h2]; exact hs
theorem bh.i {h : HL} {k : IntKind} {ks : List CK2} {ls : List Lf} (hf : bh h (.i k :: ks) ls) : ∃ n r, ls = .i n :: r ∧ (Lit.int k n).wf = true ∧ bh h ks r := by
 match ls, hf with
 | .i n :: r, hf => exact ⟨n, r, rfl, hf.1, hf.2⟩
theorem bh.b {h : HL} {ks : List CK2} {ls : List Lf} (hf : bh h (.b :: ks) ls) : ∃ n r, ls = .b n :: r ∧ bh h ks r := by
 match ls, hf with
 | .b n :: r, hf => exact ⟨n, r, rfl, hf⟩
theorem bh.s {h : HL} {es : List LK} {ks : List CK2} {ls : List Lf} (hf : bh h (.s es :: ks) ls) : ∃ x r n cells, ls = .v x :: r ∧ SlC h x es.length n cells ∧ n ≤ maxLen ∧ (∀ i, i < n → FitC es ((cells.drop (i * es.length)).take es.length)) ∧ bh h ks r := by
 match ls, hf with
 | .v x :: r, ⟨⟨n, cells, h1, h2, h3⟩, h4⟩ => exact ⟨x, r, n, cells, rfl, h1, h2, h3, h4⟩
theorem bh.nil {h : HL} {ls : List Lf} (hf : bh h [] ls) : ls = [] := by
 match ls, hf with
 | [], _ => rfl
theorem hp_at (bl : List Blk2) : HpAt (bl.map fun b => HO.o b.1) 0 bl := fun i b hb => by
 rw [Nat.zero_add, List.getElem?_map, hb]; rfl
theorem absH_bl (T : Nat → Site) (bl : List Blk2) : absH T (bl.map fun b => HO.o b.1) = bl.map (·.1) := by
 induction bl with
 | nil => rfl
 | cons b l ih => show absO T (.o b.1) :: absH T (l.map fun b => HO.o b.1) = _; rw [ih]; rfl
end Sx
end Go.Am

/-
 CellsWay: the law, at the leaves.
-/
set_option maxRecDepth 100000
namespace Go.Am
open Sx Go.Proofs
theorem decB (cs : List Value) (h : FitC [.i .u8] cs) : ∃ a : Int, encB a = cs ∧ (0 ≤ a ∧ a ≤ 255) := by
 obtain ⟨v1, rfl⟩ : ∃ v1, cs = [v1] := by
  have hl := FitC.len h
  match cs, hl with
  | [v1], _ => exact ⟨v1, rfl⟩
 obtain ⟨⟨a, rfl, ha⟩, _⟩ := h
 exact ⟨a, rfl, wf_u8 ha⟩
theorem jI (ls : List Lf) (h : HL) (hf : bh h [.i .i8, .i .i8, .i .u8, .s [.i .u8]] ls) : ∃ h', bm cc ae 15 ls (absH ac h) [.b true] (absH ac h') := by
 obtain ⟨a, ls, rfl, ha, hf⟩ := hf.i
 obtain ⟨b, ls, rfl, hb, hf⟩ := hf.i
 obtain ⟨q, ls, rfl, hq, hf⟩ := hf.i
 obtain ⟨s, ls, n, cells, rfl, h1, _, h3, hf⟩ := hf.s
 obtain rfl := hf.nil
 obtain ⟨l, hl, _, hk⟩ := ls_of (enc := encB) (ok := fun a => 0 ≤ a ∧ a ≤ 255) (fun _ => rfl) decB h1 h3
 have ha := wf_i8 ha
 have hb := wf_i8 hb
 have hq := wf_u8 hq
 exact ⟨h, nV ⟨ha.1, ha.2, hb.1, hb.2, hq.1, hq.2⟩ hl hk⟩
end Go.Am

/-
 WHAT THE ROW SAYS OF THE LISTED VARIABLES.
-/
set_option maxRecDepth 100000
namespace Go.Proofs.YtdngmncaohgacaaDoor
open Go Go.Am Go.Am.Sx
open Go.ChangeShapes Go.WideShapes Go.ChangeAt Go.WideMaps Go.WideElems Go.RowKit
abbrev laidC : List (String × DataW Unit) := [("crimp/moves.turns", Rows.laid_crimp_moves_turns), ("crimp/cells.quarters", Rows.laid_crimp_cells_quarters)]
theorem name1 : Tryd.prog.globalNamed "crimp/moves.turns" = some 1 := by kernel_rfl
theorem name0 : Tryd.prog.globalNamed "crimp/cells.quarters" = some 0 := by kernel_rfl
theorem of_laid {W : World} (h : laidMetH Tryd.prog laidC W) (g : Nat) (vs : List Value) (hg : cc.G g = some vs) :
  g < W.heap.size ∧ vs.all aY = true ∧ vs.all flat = true ∧ ∃ c e fr, W.heap[g]? = some (.cells c e fr) ∧ c.toList = vs := by
 rw [MakeChecks.laidMetH_plain _ _ _ (by kernel_rfl)] at h
 obtain ⟨ps, h, _, _⟩ := h
 have main : ∃ c e fr, W.heap[g]? = some (.cells c e fr) ∧ c.toList = vs := by
  unfold cc at hg
  simp only at hg
  split at hg
  ·cases hg
   exact lH h "crimp/cells.quarters" Rows.laid_crimp_cells_quarters (List.mem_cons_of_mem _ List.mem_cons_self) 0 137 8 gl0 name0 (by kernel_rfl) (by kernel_rfl)
  ·cases hg
   exact lH h "crimp/moves.turns" Rows.laid_crimp_moves_turns List.mem_cons_self 1 154 8 gl1 name1 (by kernel_rfl) (by kernel_rfl)
  ·cases hg
 refine ⟨?_, gl_cell g vs hg, br g vs hg, main⟩
 obtain ⟨c, e, fr, h1, _⟩ := main
 rcases Nat.lt_or_ge g W.heap.size with h | h
 ·exact h
 ·rw [Array.getElem?_eq_none h] at h1; cases h1
theorem own : ownKnob Tryd.prog.godebug = none := by kernel_rfl
theorem door_met (os : Os) (args : Array Value) : laidMetH Tryd.prog laidC ((World.doorLaid Tryd.prog 400 os).forCall (fun _ _ => 0) ⟨#[], args, []⟩).memory :=
 laidMetH_of_parts3 (fuel := 8) (laidMet_of_run' 8 (by kernel_rfl) (by kernel_rfl)) (by kernel_rfl) (by kernel_rfl)
end Go.Proofs.YtdngmncaohgacaaDoor

