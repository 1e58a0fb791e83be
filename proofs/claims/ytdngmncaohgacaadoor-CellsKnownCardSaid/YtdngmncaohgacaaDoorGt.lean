/-
  THE TABLES OF THE SEAT, BY PROGRAM: hints, signatures, annotations, what the package-level variables hold.
-/
import Derived.Test.YtdngmncaohgacaaDoorSx3
import Derived.Test.YtdngmncaohgacaaDoorProg
set_option linter.unusedSectionVars false
set_option linter.unusedSimpArgs false
set_option linter.unusedVariables false
set_option linter.constructorNameAsVariable false
set_option maxRecDepth 100000
namespace Go.Am
open Go.Proofs

def gl0 : List Value := [.int .i64 0, .int .i64 (-1), .int .u8 2, .int .i64 0, .int .i64 0, .int .i64 (-1), .int .u8 2, .int .i64 0, .int .i64 0, .int .u8 1, .int .i64 0, .int .i64 0, .int .u8 3, .int .i64 0, .int .i64 0, .int .i64 2, .int .i64 0, .int .i64 1, .int .i64 0, .int .u8 1, .int .i64 1, .int .i64 1, .int .i64 0, .int .u8 3, .int .i64 0, .int .i64 0, .int .u8 0, .int .i64 0, .int .i64 0, .int .u8 2, .int .i64 2, .int .i64 2, .int .i64 2, .int .i64 0, .int .i64 0, .int .i64 1, .int .u8 2, .int .i64 1, .int .i64 0, .int .i64 1, .int .u8 0, .int .i64 0, .int .i64 0, .int .u8 3, .int .i64 0, .int .i64 0, .int .u8 1, .int .i64 2, .int .i64 2, .int .i64 0, .int .i64 2, .int .i64 (-1), .int .i64 0, .int .u8 1, .int .i64 0, .int .i64 (-1), .int .i64 0, .int .u8 1, .int .i64 0, .int .i64 0, .int .u8 2, .int .i64 0, .int .i64 0, .int .u8 0, .int .i64 0, .int .i64 0, .int .i64 0, .int .i64 2]
def gl1 : List Value := [.int .i64 1, .int .i64 0, .int .i64 0, .int .i64 1, .int .i64 0, .int .i64 (-1), .int .i64 1, .int .i64 0, .int .i64 (-1), .int .i64 0, .int .i64 0, .int .i64 (-1), .int .i64 0, .int .i64 1, .int .i64 (-1), .int .i64 0, .int .i64 (-1), .int .i64 0, .int .i64 0, .int .i64 1, .int .i64 0, .int .i64 (-1), .int .i64 (-1), .int .i64 0, .int .i64 1, .int .i64 0, .int .i64 0, .int .i64 (-1), .int .i64 0, .int .i64 1, .int .i64 1, .int .i64 0]
def ptsTab : List (List Nat) := [
  [],
  [],
  [0],
  [0, 0, 0, 5, 0, 0, 0, 9, 0, 0, 12, 0, 0, 0, 0, 17, 0, 0, 0, 0, 0, 0, 0, 0, 0, 0, 0, 0, 0, 0, 0, 0, 0, 0, 0, 0, 0, 9, 0, 0, 9],
  [0, 3, 0, 5, 0, 0, 0, 0, 0, 11, 0, 13, 0, 0, 0, 0, 0, 0, 0, 0, 0, 0, 0, 0, 0, 0, 0, 0, 0, 0, 0, 0, 0, 0, 0, 0, 0, 0, 0, 0, 0, 0, 0, 0, 0, 0, 0, 0, 5, 0, 0, 5, 0, 0, 5, 0, 0, 5, 0, 0, 0, 0, 0, 0, 0, 0, 0, 0, 0, 0, 0, 0, 0, 0, 0, 0, 0, 0, 0, 0, 0, 0, 0, 0, 0, 0, 0, 0, 0, 0, 0, 0, 0, 0, 0, 0, 0, 0, 0, 0, 0, 0, 0, 0, 0, 0, 0, 0, 0, 0, 0, 0, 0, 0, 0, 0, 11, 0, 0, 0, 0, 0, 0, 11, 0, 0, 0, 0, 0, 11, 0, 0, 0, 0, 0, 0, 11, 0, 0, 0, 0, 0, 0, 0, 0, 0, 0, 0, 5, 0, 0, 0, 0, 0, 0, 5, 0, 0, 0, 0, 0, 0, 0, 0, 0, 0, 0, 0, 0, 5, 0, 0, 0, 0, 0, 0, 5],
  [0, 0, 4, 5, 0, 7, 0, 0, 0, 11, 0, 13, 0, 15, 0, 0, 0, 0, 0, 0, 0, 0, 0, 0, 0, 0, 0, 0, 0, 0, 0, 0, 0, 0, 0, 0, 0, 0, 0, 0, 0, 0, 0, 0, 0, 0, 0, 0, 0, 0, 0, 0, 0, 0, 0, 0, 0, 0, 0, 0, 0, 0, 0, 0, 0, 0, 0, 0, 5, 0, 0, 0, 0, 0, 0, 0, 0, 0, 0, 0, 0, 5],
  [0, 0, 4, 0, 0, 0, 8, 0, 0, 0, 0, 0, 14, 0, 0, 0, 18, 0, 20, 0, 0, 0, 0, 0, 0, 0, 0, 0, 0, 0, 0, 0, 0, 0, 0, 0, 0, 4, 0, 0, 4],
  [0, 0, 0, 5, 0, 7, 0, 9, 0, 0, 0, 0, 14, 0, 0, 0, 18],
  [0, 0, 0, 5],
  [0, 0, 4, 0, 0, 7, 0, 9, 0, 0, 12],
  [0, 0, 0, 5, 0, 7, 0, 9, 0, 0, 0, 0, 0, 15, 16, 0, 0, 0, 20],
  [0, 0, 4, 5, 0, 0, 0, 9, 0, 0, 0, 0, 0, 0, 0, 0, 0, 0, 0, 0, 0, 0, 0, 0, 0, 0, 0, 0, 0, 0, 0, 0, 0, 0, 0, 0, 0, 0, 0, 0, 0, 0, 9, 0, 0, 0, 0, 0, 0, 0, 9],
  [0, 0, 0, 5, 6, 0, 0, 9, 0, 11, 12, 13],
  [0, 0, 4, 5, 0, 7, 0, 9, 0, 11],
  [0, 0, 0, 5, 6, 7],
  [0, 0, 4, 0, 0, 7, 8, 0, 10, 0, 12, 0, 14, 0, 16],
  [0, 0, 0, 5, 6, 7, 8],
  [0, 3, 4, 3, 0, 0, 0, 0, 3],
  [0, 0, 0, 5, 0, 0, 0, 0, 10, 0, 12],
  [0, 0, 0, 5, 0, 0, 8],
  [0, 0, 0, 5, 0, 0, 0, 9, 0, 0, 5, 0, 0, 0, 5],
  [0, 3, 0, 0, 0, 7, 0, 0, 0, 0, 0, 0, 0, 0, 16, 0, 18, 0, 20, 0, 22],
  [0, 0, 0, 0, 6],
  [0, 3],
  [0, 3, 0, 0, 0, 0, 0, 3, 0, 0, 3],
  [0, 0, 4, 5, 6, 0, 8, 0, 10, 0, 12, 13, 0, 0, 0, 0, 0, 0, 0, 0, 0, 0, 0, 0, 0, 0, 0, 5, 0, 0, 0, 10, 0, 5, 0, 0, 0, 10, 0, 13, 0, 12, 0, 0, 0, 13, 0, 12, 0, 0, 0, 13, 0, 12],
  [0, 0, 4, 5, 6, 0, 8, 0, 0, 0, 0, 0, 0, 0, 0, 0, 0, 0, 0, 5],
  [0, 0, 4, 5, 6, 7, 8, 9, 0, 0, 0, 5, 0, 0, 4, 0, 0, 5, 0, 4, 0, 0, 0, 5, 0, 0, 0, 0, 0, 0, 0, 5, 0, 0, 0, 0, 0, 0, 0, 0, 0, 0, 0, 0, 0, 8, 0, 0, 9, 0, 0, 0, 0, 8],
  [0, 0, 4, 5, 0, 0, 0, 0, 4, 0, 0, 0, 0, 0, 5, 0, 0, 0, 5, 0, 0, 0, 4],
  [0, 3, 0, 0, 0, 0, 0, 0, 0, 0, 0, 0, 0, 0, 3, 0, 0, 0, 0, 0, 0, 3],
  [0, 3, 0, 0, 0, 0, 0, 0, 3, 0, 0, 0, 0, 0, 3],
  [0, 0, 4, 0, 6, 7, 8, 9, 10, 0, 0, 0, 0, 0, 0, 0, 0, 7, 0, 0, 0, 0, 7, 0, 0, 0, 0, 0, 0, 0, 0, 0, 0, 0, 8, 0, 0, 0, 8, 0, 0, 0, 0, 9, 0, 0, 0, 9, 0, 0, 0, 0, 0, 0, 8, 0, 0, 0, 8],
  [0, 3, 0, 3, 0, 0, 0, 3, 0, 0, 0, 0, 3, 0, 0, 0, 0, 3, 0, 0, 0, 0, 3, 0, 3],
  [0, 3, 0, 3, 0, 0, 0, 3, 0, 0, 0, 0, 3, 0, 0, 0, 0, 3, 0, 0, 0, 0, 3, 0, 3],
  [0, 3, 0, 0, 0, 0, 3, 0, 0, 3],
  [0, 0, 4, 0, 6],
  [0, 0, 4, 5, 0, 0, 0, 0, 0, 0, 0, 0, 0, 0, 0, 0, 5, 0, 0, 0, 0, 5, 0, 4, 0, 0, 0, 0, 5, 0, 0, 0, 0, 5, 0, 4, 0, 0, 0, 5, 0, 4, 0, 0, 5, 0, 0, 0, 5],
  [0, 3],
  [0, 0, 4, 5, 0, 5, 0, 0, 0, 5, 0, 0, 0, 0, 5, 0, 4, 0, 0, 0, 0, 5, 0, 4, 0, 0, 0, 0, 5, 0, 0, 0, 4, 0, 0, 5, 0, 0, 5, 0, 0, 0, 5],
  [0, 0, 0, 0, 6],
  [0, 0, 4, 0, 6, 0, 8, 9, 0, 0, 0, 0, 0, 0, 0, 0, 4, 0, 1, 0, 8, 0, 4, 0, 8, 0, 0, 0, 0, 0, 0, 4, 0, 4, 0, 0, 0, 0, 0, 0, 0, 4, 0, 4, 0, 0, 0, 0, 8, 0, 0, 4, 0, 8, 0, 0, 9],
  [0, 3, 4, 0, 6, 7, 0, 0, 0, 0, 0, 3, 0, 1, 0, 0, 6, 0, 6, 0, 0, 0, 0, 0, 0, 7, 7, 0, 3, 0, 0, 0, 7, 7, 0, 7, 7, 0, 3, 0, 0, 0, 7, 7],
  [0, 3, 0, 3, 0, 0, 0, 3, 0, 0, 0, 0, 3, 0, 0, 0, 0, 3, 0, 0, 0, 0, 3],
  [0, 3, 0, 3, 0, 0, 0, 3, 0, 0, 0, 0, 3, 0, 0, 0, 0, 3, 0, 0, 0, 0, 3],
  [0, 0, 4, 0, 6, 0, 0, 9, 0, 0, 0, 0, 0, 15, 0, 17, 0, 0, 0, 0, 0, 0, 0, 0, 26, 0, 0, 0, 0, 31, 0, 33],
  [0, 3, 4, 0, 0, 7, 0, 0, 3, 0, 0, 3, 0, 0, 0, 0, 0, 0, 0, 0, 0, 0, 0, 0, 0, 0, 0, 0, 0, 0, 0, 3, 0, 0, 3, 0, 0, 0, 0, 0, 0, 0, 0, 0, 0, 0, 0, 0, 0, 0, 7, 0, 0, 7],
  [0, 3, 0, 3, 0, 0, 0, 3, 0, 0, 0, 0, 3, 0, 0, 0, 0, 3],
  [0, 0, 4, 0, 6, 0, 8, 0, 0, 0, 0, 0, 0, 0, 0, 4, 0, 0, 1, 1, 1, 0, 8, 0, 4, 0, 0, 8, 0, 4, 0, 0, 8, 8],
  [0, 0, 4, 5, 0, 0, 0, 9],
  [0, 0, 4, 0, 6, 7, 8, 0, 0, 0, 0, 0, 0, 0, 0, 0, 0, 0, 0, 0, 8, 0, 0, 8],
  [0, 0, 4, 5, 0, 0, 8, 0, 0, 11],
  [0, 0, 4, 5, 0, 7, 0, 0, 0, 7, 0, 0, 0, 7, 0, 0, 0, 0, 7],
  [0, 0, 4, 5, 6, 0, 8],
  [0, 3, 0, 3, 0, 0, 0, 3, 0, 0, 0, 0, 3, 0, 0, 0, 0, 3, 0, 0, 0, 0, 3, 0, 0, 0, 0, 3, 0, 3],
  [0, 0, 4, 5, 6, 7, 0, 0, 0, 0, 0, 0, 0, 0, 0, 0, 7, 0, 0, 7],
  [0, 0, 4, 5, 6, 0, 8, 0, 10, 0, 12, 0, 0, 0, 0, 0, 0, 0, 0, 0, 0, 0, 0, 0, 0, 0, 0, 0, 0, 0, 0, 0, 0, 0, 8, 0, 10, 0, 0, 0, 8, 0, 10],
  [0, 0, 4, 5, 6, 0, 0, 9, 10, 0, 12, 13, 0, 0, 0, 0, 0, 0, 0, 0, 0, 0, 0, 0, 0, 0, 10, 0, 12, 0, 0, 0, 10, 0, 12],
  [0, 0, 4, 5, 0, 4, 0, 5, 0, 0, 0, 4, 0, 5, 0, 0, 0, 4, 0, 5, 0, 0, 0, 4, 0, 5, 0, 0, 0, 4, 0, 5],
  [0, 0, 4, 5, 0, 4, 0, 5, 0, 0, 4, 0, 5, 0, 0, 4, 0, 0, 5],
  [0, 3, 4, 3, 0, 0, 3, 0, 0, 3],
  [2],
  [0, 3, 4, 0, 0, 0, 0, 0, 3, 0, 0, 0, 3, 0, 0, 0, 0, 0, 3, 0, 0, 0, 0, 0, 3, 0, 3, 0, 0, 3, 0, 0, 3],
  [0, 0, 4, 5, 6, 0, 0, 0, 0, 0, 0, 0, 0, 0, 0, 0, 0, 0, 5, 0, 1, 0, 4, 0, 4, 0, 0, 0, 0, 4, 0, 1, 0, 5, 0, 1, 0, 0, 0, 0, 5, 0, 0, 0, 5],
  [0, 3, 0, 0, 0, 0, 0, 3],
  [0, 3, 4, 5, 3, 0, 0, 3, 0, 0, 3, 0, 0, 0, 5, 0, 5, 0, 0, 0, 0, 5, 0, 0, 5],
  [0, 3, 4, 3, 0, 0, 0, 3],
  [0, 0, 0, 0, 0, 0, 8],
  [0],
  [0],
  [0, 0, 4, 5, 6, 0, 0, 9, 0, 0, 0, 0, 0, 0, 0, 0, 0, 5, 0, 5, 0, 0, 0, 0, 0, 0, 0, 0, 0, 0, 0, 0, 0, 5],
  [0],
  [0],
  [0, 0, 4, 0, 0, 0, 0, 0, 0, 4, 0, 0, 4],
  [0, 0, 4, 0, 6, 0, 0, 4, 0, 0, 0, 0, 4],
  [0, 3, 0, 3, 0, 0, 0, 3, 0, 0, 0, 0, 3, 0, 0, 0, 0, 3],
  [0, 0, 0, 0, 6],
  [0, 0, 4, 5, 6, 0, 0, 0, 0, 4, 0, 0, 0, 0, 0, 0, 0, 0, 0, 0, 0, 0, 0, 0, 0, 0, 5, 0, 0, 0, 0, 0, 5],
  [0, 3, 4, 0, 6, 7, 8, 0, 10, 11, 0, 0, 0, 0, 0, 3, 0, 0, 0, 0, 3, 0, 0, 0, 0, 3, 0, 6, 0, 0, 0, 0, 6, 0, 0, 0, 0, 0, 0, 0, 0, 6, 0, 0, 0, 6, 0, 0, 0, 0, 0, 0, 0, 11, 0, 0, 0, 0, 11, 0, 0, 0, 0, 0, 11, 0, 0, 0, 0, 11],
  [0, 0, 4, 5, 0, 0, 0, 0, 0, 0, 0, 0, 0, 0, 0, 4, 0, 0, 0, 0, 0, 0, 0, 4, 0, 0, 0, 0, 0, 4],
  [0, 3, 0, 3, 0, 0, 0, 0, 3, 0, 0, 0, 0, 3, 0, 0, 0, 0, 3, 0, 3],
  [0, 0, 4, 5, 6, 7, 8, 9, 0, 11, 0, 0, 5, 0, 1, 1, 0, 0, 0, 0, 0, 0, 0, 4, 4, 0, 0, 0, 0, 0, 0, 7, 0, 7, 0, 0, 0, 0, 7, 0, 7, 0, 0, 0, 0, 0, 0, 0, 0, 0, 0, 11, 0, 0, 0, 0, 0, 9],
  [0, 0, 4, 5, 6, 0, 0, 5, 0, 5, 0, 4, 0, 0, 5, 0, 0, 5, 0, 4, 0, 0, 5, 0, 0, 5, 0, 0, 4, 0, 0, 5, 0, 5, 0, 0, 4, 0, 0, 5, 0, 0, 5, 0, 4, 0, 0, 5, 0, 0, 5, 0, 0, 4, 0, 0, 5, 0, 5, 0, 0, 4, 0, 0, 5, 0, 5, 0, 0, 4, 0, 0, 0, 0, 4],
  [0, 3, 4, 3, 0, 0, 0, 3],
  [0, 0, 4, 5, 6, 0, 0, 0, 10, 0, 0, 0, 0, 0, 0, 0, 0, 0, 0, 4, 0, 1, 0, 5, 0, 5, 0, 0, 0, 0, 0, 4, 0, 0, 0, 0, 4],
  [0, 0, 0, 0, 6, 0, 0, 0, 0, 0, 0, 0, 6, 0, 6],
  [0, 0, 0, 5, 0, 0, 0, 0, 5, 0, 0, 0, 5, 0, 0, 0, 0, 5, 0, 0, 0, 5],
  [0, 3, 4],
  [0, 3, 0, 0, 6],
  [0, 0, 4, 5, 6, 0, 0, 0, 0, 0, 0, 4, 0, 4, 0, 0, 0, 0, 0, 0, 4, 0, 4],
  [0],
  [0, 3, 0, 3, 0, 0, 0, 3, 0, 0, 0, 0, 3, 0, 0, 0, 0, 3],
  [2],
  [0],
  [0],
  [0, 3],
  [0, 0, 0, 5, 0, 0, 0, 0, 5, 0, 0, 0, 5, 0, 0, 0, 5, 0, 5, 0, 0, 5, 0, 5],
  [0, 0, 0, 5, 6, 0, 0, 5, 0, 0, 5],
  [0, 0, 0, 5, 6, 0, 0, 5, 0, 0, 0, 0, 5, 0, 0, 0, 0, 0, 5, 0, 0, 0, 0, 0, 0, 5],
  [0, 3],
  [0, 0, 0, 5, 6, 5, 0, 0, 0, 5],
  [0, 0, 0, 5, 6, 0, 0, 0, 5, 0, 0, 0, 0, 0, 5, 0, 0, 0, 0, 0, 5, 0, 0, 0, 0, 5],
  [0, 3],
  [0, 0, 0, 5, 6, 0, 0, 5, 0, 0, 0, 0, 5],
  [0, 0, 0, 0, 6, 7, 6, 0, 0, 0, 0, 6, 0, 0, 0, 6, 0, 0, 0, 0, 6, 0, 0, 0, 0, 0, 6, 0, 0, 0, 0, 0, 6],
  [0, 3],
  [0, 0, 0, 5, 6, 5, 0, 0, 0, 0, 5],
  [0, 0, 0, 0, 6, 7, 6, 0, 0, 0, 6, 0, 0, 0, 0, 6, 0, 0, 0, 6, 0, 0, 0, 0, 0, 0, 0, 6, 0, 0, 0, 0, 6],
  [0],
  [],
  [],
  [],
  [],
  [],
  [],
  [],
  [],
  [],
  [],
  [],
  [],
  [],
  [],
  [],
  [],
  [],
  [],
  [],
  [],
  [0]]

noncomputable def cc : Cfg where
  P := Tryd.prog
  G := fun g => match g with
    | 0 => some gl0
    | 1 => some gl1
    | _ => none
  pts := fun f => ptsTab.getD f []

def sgTab : FuncId → Option Sig
  | 2 => some ⟨[], []⟩
  | 3 => some ⟨[.agg [.i .u8, .i .u8], li, .leaf (.i .u8)], [lb]⟩
  | 4 => some ⟨[.agg [.i .u8, .i .u8]], [lb]⟩
  | 5 => some ⟨[.agg [.i .u8, .i .u8], .agg [.i .i64, .i .u8]], [lb]⟩
  | 6 => some ⟨[.agg [.i .i64, .i .i64], li], [lb]⟩
  | 7 => some ⟨[.agg [.i .u8, .i .u8], li, .agg [.i .i64, .i .i64, .i .u8]], [lb]⟩
  | 8 => some ⟨[], [lb]⟩
  | 9 => some ⟨[.agg [.i .i64, .i .i64, .i .u8], .leaf (.i .u8)], [lb]⟩
  | 10 => some ⟨[.agg [.i .i64, .i .i64, .i .u8], .leaf (.i .u8), .agg [.i .i64, .i .i64, .i .u8]], [lb]⟩
  | 11 => some ⟨[.agg [.i .u8, .i .i64], .agg [.i .i64, .i .i64, .i .u8]], [lb]⟩
  | 12 => some ⟨[.agg [.i .u8, .i .i64, .i .i64], .agg [.i .i64, .i .i64, .i .u8], .leaf (.i .u8)], [lb]⟩
  | 13 => some ⟨[.agg [.i .i64, .i .i64, .i .u8], .agg [.i .i64, .i .i64, .i .u8]], [lb]⟩
  | 14 => some ⟨[.agg [.i .i64, .i .i64, .i .u8], .agg [.i .i64, .i .i64, .i .u8], .agg [.i .i64, .i .i64, .i .u8]], [lb]⟩
  | 15 => some ⟨[.agg [.i .i8, .i .i8, .i .u8], lv], [lb]⟩
  | 16 => some ⟨[], [lb]⟩
  | 17 => some ⟨[.agg [.i .u8, .i .u8]], [.agg [.i .i64, .i .i64]]⟩
  | 18 => some ⟨[.agg [.i .i64, .i .i64], li, .leaf (.i .u8)], [li, li]⟩
  | 19 => some ⟨[.agg [.i .i64, .i .i64], li, .leaf (.i .u8)], [.agg [.i .i64, .i .u8], li]⟩
  | 20 => some ⟨[.agg [.i .i64, .i .i64], li, li], [li]⟩
  | 21 => some ⟨[], [lb]⟩
  | 22 => some ⟨[li, .leaf (.i .u8)], [.agg [.i .i64, .i .u8]]⟩
  | 23 => some ⟨[.agg [.i .i64, .i .i64]], [lv, li]⟩
  | 24 => some ⟨[.agg [.i .i64, .i .i64]], [lv]⟩
  | 25 => some ⟨[.agg [.i .i64, .i .i64], .agg [.i .i64, .i .u8]], [.agg [.i .i64, .i .i64, .i .i64, .i .i64], li]⟩
  | 26 => some ⟨[.agg [.i .i64, .i .i64], .agg [.i .i64, .i .u8]], [.agg [.i .u8, .i .i64], li]⟩
  | 27 => some ⟨[.agg [.i .i64, .i .i64], .agg [.i .i64, .i .u8]], [.agg [.i .i64, .i .i64, .i .i64, .i .i64]]⟩
  | 28 => some ⟨[.agg [.i .u8, .i .i64], .agg [.i .i64, .i .i64]], [li]⟩
  | 29 => some ⟨[.agg [.i .i64, .i .i64]], [lv, li]⟩
  | 30 => some ⟨[.agg [.i .i64, .i .i64]], [lv]⟩
  | 31 => some ⟨[.agg [.i .i64, .i .i64, .i .u8], li], [.agg [.i .u8, .i .i64]]⟩
  | 32 => some ⟨[.agg [.i .i64, .i .i64]], [li]⟩
  | 33 => some ⟨[.agg [.i .i64, .i .i64]], [li]⟩
  | 34 => some ⟨[.agg [.i .i64, .i .i64]], [li]⟩
  | 35 => some ⟨[.agg [.i .i64, .i .i64], li], [.agg [.i .i64, .i .i64, .i .u8], li]⟩
  | 36 => some ⟨[.agg [.i .i64, .i .i64], .agg [.i .i64, .i .i64, .i .u8]], [li, li]⟩
  | 37 => some ⟨[.agg [.i .i64, .i .i64]], [lv, li]⟩
  | 38 => some ⟨[.agg [.i .i64, .i .i64], .agg [.i .i64, .i .i64, .i .u8]], [li]⟩
  | 39 => some ⟨[li, li], [.agg [.i .i64, .i .i64]]⟩
  | 40 => some ⟨[.agg [.i .i64, .i .i64, .i .u8], .leaf (.i .u8)], [.agg [.i .u8, .i .i64], li]⟩
  | 41 => some ⟨[.agg [.i .i64, .i .i64, .i .u8]], [.agg [.i .i64, .i .i64, .i .i64, .i .i64, .i .i64, .i .i64], li]⟩
  | 42 => some ⟨[.agg [.i .i64, .i .i64, .i .u8]], [li]⟩
  | 43 => some ⟨[.agg [.i .i64, .i .i64, .i .u8]], [li]⟩
  | 44 => some ⟨[], [lb]⟩
  | 45 => some ⟨[.agg [.i .i64, .i .i64, .i .u8]], [.agg [.i .i64, .i .i64, .i .i64, .i .i64, .i .i64, .i .i64]]⟩
  | 46 => some ⟨[.agg [.i .u8, .i .i64]], [li]⟩
  | 47 => some ⟨[.agg [.i .i64, .i .i64, .i .u8], .leaf (.i .u8)], [.agg [.i .i64, .i .i64, .i .u8], li]⟩
  | 48 => some ⟨[.agg [.i .i64, .i .i64, .i .u8], .agg [.i .i64, .i .i64, .i .u8]], [.leaf (.i .u8), li]⟩
  | 49 => some ⟨[.agg [.i .i64, .i .i64, .i .u8], li], [.agg [.i .i64, .i .i64, .i .u8]]⟩
  | 50 => some ⟨[.agg [.i .u8, .i .i64], .agg [.i .i64, .i .i64, .i .u8]], [li, li]⟩
  | 51 => some ⟨[.agg [.i .u8, .i .i64], .agg [.i .i64, .i .i64, .i .u8]], [li]⟩
  | 52 => some ⟨[.agg [.i .u8, .i .i64, .i .i64], .agg [.i .i64, .i .i64, .i .u8]], [.agg [.i .i64, .i .i64, .i .u8], li]⟩
  | 53 => some ⟨[.agg [.i .u8, .i .i64, .i .i64]], [li]⟩
  | 54 => some ⟨[.agg [.i .u8, .i .i64, .i .i64], .agg [.i .i64, .i .i64, .i .u8]], [.agg [.i .i64, .i .i64, .i .u8]]⟩
  | 55 => some ⟨[.agg [.i .i64, .i .i64, .i .u8], .agg [.i .i64, .i .i64, .i .u8]], [.agg [.i .u8, .i .i64, .i .i64], li]⟩
  | 56 => some ⟨[.agg [.i .i64, .i .i64, .i .u8], .agg [.i .i64, .i .i64, .i .u8]], [.agg [.i .u8, .i .i64, .i .i64], li]⟩
  | 57 => some ⟨[.agg [.i .i64, .i .i64, .i .u8], .agg [.i .i64, .i .i64, .i .u8]], [li]⟩
  | 58 => some ⟨[.agg [.i .i64, .i .i64, .i .u8], .agg [.i .i64, .i .i64, .i .u8]], [li]⟩
  | 59 => some ⟨[.agg [.i .i8, .i .i8, .i .u8]], [.agg [.i .i64, .i .i64, .i .u8]]⟩
  | 60 => some ⟨[], [.agg [.i .u8, .i .i64, .i .i64]]⟩
  | 61 => some ⟨[.agg [.i .u8, .i .i64]], [.agg [.i .u8, .i .i64, .i .i64], li]⟩
  | 62 => some ⟨[.agg [.i .u8, .i .i64, .i .i64], .agg [.i .u8, .i .i64, .i .i64]], [.agg [.i .u8, .i .i64, .i .i64], li]⟩
  | 63 => some ⟨[.agg [.i .u8, .i .i64, .i .i64]], [lb]⟩
  | 64 => some ⟨[.agg [.i .u8, .i .i8, .i .i8]], [.agg [.i .u8, .i .i64, .i .i64]]⟩
  | 65 => some ⟨[.agg [.i .u8, .i .i8]], [.agg [.i .u8, .i .i64]]⟩
  | 66 => some ⟨[li, li, .leaf (.i .u8)], [.agg [.i .i64, .i .i64, .i .u8]]⟩
  | 67 => some ⟨[.agg [.i .i64, .i .i64]], [lv]⟩
  | 68 => some ⟨[lv], [lv]⟩
  | 69 => some ⟨[.agg [.i .i64, .i .i64], .agg [.i .i64, .i .u8]], [.agg [.i .i64, .i .i64, .i .u8], li]⟩
  | 70 => some ⟨[.leaf (.i .u8)], [li, li]⟩
  | 71 => some ⟨[lv], [lv]⟩
  | 72 => some ⟨[.agg [.i .i64, .i .i64], li], [lb]⟩
  | 73 => some ⟨[.agg [.i .i64, .i .i64], li], [.agg [.i .i64, .i .i64, .i .u8]]⟩
  | 74 => some ⟨[.agg [.i .u8, .i .i64]], [li]⟩
  | 75 => some ⟨[.leaf (.i .u8), li], [.agg [.i .u8, .i .i64]]⟩
  | 76 => some ⟨[.agg [.i .u8, .i .i64], .agg [.i .i64, .i .i64]], [.agg [.i .i64, .i .i64]]⟩
  | 77 => some ⟨[.agg [.i .i64, .i .i64, .i .i64, .i .i64, .i .i64, .i .i64]], [.agg [.i .i64, .i .i64, .i .u8]]⟩
  | 78 => some ⟨[.agg [.i .u8, .i .i64], .agg [.i .i64, .i .i64]], [li]⟩
  | 79 => some ⟨[.agg [.i .u8, .i .i64, .i .i64]], [li]⟩
  | 80 => some ⟨[.agg [.i .u8, .i .i64, .i .i64], .agg [.i .i64, .i .i64, .i .u8]], [.agg [.i .i64, .i .i64, .i .u8]]⟩
  | 81 => some ⟨[.agg [.i .u8, .i .i64, .i .i64], .agg [.i .i64, .i .i64]], [.agg [.i .i64, .i .i64]]⟩
  | 82 => some ⟨[.agg [.i .i64, .i .i64, .i .u8]], [.agg [.i .i64, .i .i64]]⟩
  | 83 => some ⟨[.agg [.i .u8, .i .i64, .i .i64], .agg [.i .i64, .i .i64]], [.agg [.i .i64, .i .i64], li]⟩
  | 84 => some ⟨[lv], [li]⟩
  | 85 => some ⟨[.agg [.i .i64, .i .i64, .i .i64, .i .i64], li, li], [li, li]⟩
  | 86 => some ⟨[.agg [.i .u8, .i .i64, .i .i64]], [.agg [.i .u8, .i .i64, .i .i64], li]⟩
  | 87 => some ⟨[.agg [.i .i64, .i .i64, .i .i64, .i .i64]], [.leaf (.i .u8)]⟩
  | 88 => some ⟨[.agg [.i .i64, .i .i64, .i .i64, .i .i64], .agg [.i .i64, .i .i64, .i .i64, .i .i64]], [.agg [.i .i64, .i .i64, .i .i64, .i .i64]]⟩
  | 89 => some ⟨[lv, lv], []⟩
  | 90 => some ⟨[.agg [.i .i64, .i .i64]], [li]⟩
  | 91 => some ⟨[], [.agg [.v, .v, .v, .v, .v, .v, .v, .v, .v, .v, .v, .v, .v, .v, .v]]⟩
  | 92 => some ⟨[li], [lb]⟩
  | 93 => some ⟨[li, li], [li]⟩
  | 94 => some ⟨[.agg [.i .i64, .i .i64]], [li]⟩
  | 95 => some ⟨[.leaf (.i .u8), .agg [.i .i64, .i .i64]], [li]⟩
  | 96 => some ⟨[li, .agg [.i .i64, .i .i64]], [.agg [.i .i64, .i .i64]]⟩
  | 97 => some ⟨[li, .agg [.i .u8, .i .i64]], [.agg [.i .u8, .i .i64]]⟩
  | 98 => some ⟨[.agg [.i .i64, .i .i64]], [li]⟩
  | 99 => some ⟨[li, .agg [.i .i64, .i .i64]], [.agg [.i .i64, .i .i64]]⟩
  | 100 => some ⟨[li, .agg [.i .u8, .i .i64]], [.agg [.i .u8, .i .i64]]⟩
  | 101 => some ⟨[.agg [.i .i64, .i .i64]], [li]⟩
  | 102 => some ⟨[li, .agg [.i .i64, .i .i64]], [.agg [.i .i64, .i .i64]]⟩
  | 103 => some ⟨[li, .agg [.i .u8, .i .i64], lv], [.agg [.i .u8, .i .i64]]⟩
  | 104 => some ⟨[.agg [.i .i64, .i .i64]], [li]⟩
  | 105 => some ⟨[li, .agg [.i .i64, .i .i64]], [.agg [.i .i64, .i .i64]]⟩
  | 106 => some ⟨[li, .agg [.i .u8, .i .i64], lv], [.agg [.i .u8, .i .i64]]⟩
  | 107 => some ⟨[li], [lb]⟩
  | 128 => some ⟨[], []⟩
  | _ => none
def an2 : List An := [.r [] none]
def an3 : List An := [.r [] none, .r [[.agg [.i .u8, .i .u8]]] none, .r [[.agg [.i .i64, .i .i64]]] none, .r [[.agg [.i .i64, .i .i64]]] none, .r [] none, .r [[], [], [], [], [], [li], [], [], [li]] none, .c (some ⟨[(12, li)], []⟩), .r [] none, .r [] none, .c (some ⟨[(12, li)], []⟩), .r [] none, .r [[.agg [.i .i64, .i .i64]]] none, .c (some ⟨[(12, li)], []⟩), .r [] none, .r [] none, .c none, .r [] none, .r [] none, .c none, .r [[], [], [], [.agg [.i .i64, .i .u8]]] (some ⟨[(6, lb)], []⟩), .r [[.agg [.i .i64, .i .i64]]] none, .r [[.agg [.i .i64, .i .i64]]] none, .r [[], [.agg [.i .i64, .i .i64]], [], [], [], [], [], [], [], [], [], [], [], [], [], [], [], [.agg [.i .i64, .i .u8]], [], [], [], [], [], [], [], [], [], [], [], [], [.agg [.i .i64, .i .u8]], [.agg [.i .i64, .i .u8]]] (some ⟨[(6, lb)], []⟩)]
def an4 : List An := [.r [] none, .r [[.agg [.i .u8, .i .u8]]] none, .r [[.agg [.i .i64, .i .i64]]] none, .r [[.agg [.i .i64, .i .i64]]] none, .r [[], [], [], [], [], [], [], [], [], [], [], [], [], [], [], [], [], [], [], [], [li], [], [], [li], [], [], [li], [], [], [li]] none, .c none, .r [] none, .r [] none, .r [] none, .b none, .l ⟨[(8, li)], []⟩, .r [] none, .c none, .b none, .r [[.agg [.i .i64, .i .i64]], [], [], [], [.agg [.i .i64, .i .u8]]] none, .r [[.agg [.i .i64, .i .i64]], [], [], [], [.agg [.i .i64, .i .u8]]] none, .r [[], [], [], [.agg [.i .i64, .i .u8]], [], [], [], [.agg [.i .i64, .i .u8]], [], [], [], [], [], [], [], [], [], [], [.agg [.i .i64, .i .i64, .i .i64, .i .i64]], [.agg [.i .i64, .i .i64]], [], [], [], [.agg [.i .i64, .i .u8]], [], [], [], [], [.agg [.i .u8, .i .i64]], [], [.agg [.i .i64, .i .i64]], [], [], [], [], [.agg [.i .u8, .i .i64]], [], [.agg [.i .i64, .i .i64]]] none, .c none, .r [] none, .r [[], [], [.agg [.i .i64, .i .i64]], [li], [], [li, li]] none, .r [[], [], [.agg [.i .i64, .i .i64]], [li], [], [li, li]] none, .r [] none, .r [[.agg [.i .i64, .i .i64]]] none, .r [] none, .r [] none, .b none, .l ⟨[(15, li), (16, li)], []⟩, .r [[], [], [li]] none, .c none, .b none, .r [] none, .b none, .l ⟨[(15, li), (17, li)], []⟩, .r [[], [], [li]] none, .c none, .b (some ⟨[(15, li)], []⟩), .r [[], [], [], [], [], [], [], [], [], [li], [], [], [], [], [], [], [li]] (some ⟨[(18, lb)], []⟩), .r [] none, .c none, .r [] none, .r [] none, .c (some ⟨[(19, li)], []⟩), .r [] none, .r [[], [], [], [], [], [], [], [], [.agg [.i .i64, .i .i64]], [], [], [], [], [], [], [], [], [], [], [.agg [.i .i64, .i .i64]], [li]] none, .c none, .r [] none, .r [] none, .r [] none, .r [] none, .r [] (some ⟨[(2, lb)], []⟩)]
def an5 : List An := [.r [] none, .r [[.agg [.i .u8, .i .u8]]] none, .r [[.agg [.i .i64, .i .i64]]] none, .r [] none, .r [] none, .b none, .l ⟨[(7, lb), (8, li)], []⟩, .r [] none, .c none, .b none, .r [[], [], [], [], [], [.agg [.i .i64, .i .u8]], [.agg [.i .i64, .i .u8]]] (some ⟨[(7, lb)], []⟩), .r [] none, .r [[.agg [.i .i64, .i .i64]], [.agg [.i .i64, .i .u8]]] none, .r [[.agg [.i .i64, .i .i64]], [.agg [.i .i64, .i .u8]]] none, .r [] none, .c none, .r [[], [], [], [], [], [], [], [.agg [.i .u8, .i .i64]], [], [], [], [], [.agg [.i .i64, .i .i64, .i .i64, .i .i64]]] (some ⟨[(4, lb)], []⟩), .r [[.agg [.i .i64, .i .i64]], [], [], [li], [], [.agg [.i .i64, .i .i64, .i .u8]]] none, .r [[], [], [], [], [], [], [], [.agg [.i .u8, .i .i64]], [.agg [.i .i64, .i .i64, .i .u8]], [], [.leaf (.i .u8)]] (some ⟨[(4, lb)], []⟩)]
def an6 : List An := [.r [] none, .r [[.agg [.i .i64, .i .i64]]] none, .r [[.agg [.i .i64, .i .i64]]] none, .c none, .r [] none, .r [] none, .c none, .r [[.agg [.i .i64, .i .i64]], [], [], [li], [], [], [li]] (some ⟨[(4, lb)], []⟩), .r [[.agg [.i .i64, .i .i64]]] none, .r [[.agg [.i .i64, .i .i64]]] none, .r [[.agg [.i .i64, .i .i64]]] none, .r [[.agg [.i .i64, .i .i64]]] none, .r [[.agg [.i .i64, .i .i64]]] none, .r [[.agg [.i .i64, .i .i64]]] none, .r [[.agg [.i .i64, .i .i64]]] none, .r [[.agg [.i .i64, .i .i64]]] none, .r [[.agg [.i .i64, .i .i64]]] none, .r [[.agg [.i .i64, .i .i64]]] none, .r [] none, .b none, .l ⟨[(25, li)], []⟩, .r [] none, .c none, .b none, .r [[], [], [], [li]] none, .c none, .r [] none, .r [] none, .r [[.agg [.i .i64, .i .i64]]] (some ⟨[(4, lb)], []⟩)]
def an7 : List An := [.r [] none, .r [[.agg [.i .u8, .i .u8]]] none, .r [[.agg [.i .i64, .i .i64]]] none, .r [[.agg [.i .i64, .i .i64]]] none, .r [] none, .c none, .r [] none, .r [] none, .b none, .l ⟨[(11, li)], []⟩, .r [] none, .c none, .b none, .r [[.agg [.i .i64, .i .i64]]] none, .r [[.agg [.i .i64, .i .i64]], [], [], [], [.agg [.i .i64, .i .i64, .i .u8]]] none, .r [[], [], [], [.agg [.i .i64, .i .i64, .i .u8]], [], [], [], [.agg [.i .i64, .i .i64, .i .u8]], [], [], [], [], [], [], [.agg [.i .i64, .i .i64, .i .u8]], [], [], [], [.agg [.i .i64, .i .i64, .i .u8]]] none, .c none, .r [] none, .r [] none, .r [[.agg [.i .i64, .i .i64]]] none, .r [] none, .c (some ⟨[], []⟩), .r [[], [], [], [.agg [.i .i64, .i .i64, .i .u8]]] none, .c none, .r [] none, .r [[.agg [.i .i64, .i .i64]], [.agg [.i .i64, .i .i64, .i .u8]]] none, .r [[.agg [.i .i64, .i .i64]], [.agg [.i .i64, .i .i64, .i .u8]]] none, .r [] none, .c none, .r [] (some ⟨[(6, lb)], []⟩), .r [] (some ⟨[(6, lb)], []⟩)]
def an8 : List An := [.r [] none, .r [] none, .r [] none, .b none, .l ⟨[(1, li), (2, li)], []⟩, .r [] none, .c none, .b none, .r [] none, .r [[.agg [.i .u8, .i .u8]], [], [], [], [.agg [.i .u8, .i .u8]], [], [], [], [], [], [], [], [], [], [], [], [], [], [], [], [], [.agg [.i .u8, .i .u8]], [], [], [], [], [], [], [], [], [], [.agg [.i .u8, .i .u8]]] none, .c none, .r [] none, .r [] none, .r [] none, .r [] none, .r [] none, .r [] (some ⟨[(0, lb)], []⟩)]
def an9 : List An := [.r [] none, .r [[.agg [.i .i64, .i .i64, .i .u8]]] none, .r [[.agg [.i .i64, .i .i64, .i .u8]]] none, .r [[.agg [.i .i64, .i .i64, .i .u8]]] none, .r [[.agg [.i .i64, .i .i64, .i .u8]], [], [], [], [], [], [], [], [], [.agg [.i .i64, .i .i64, .i .u8]]] none, .c none, .r [] none, .r [] none, .c none, .r [[], [], [], [], [], [], [], [.agg [.i .u8, .i .i64]], [], [], [], [], [.agg [.i .i64, .i .i64, .i .i64, .i .i64, .i .i64, .i .i64]]] (some ⟨[(4, lb)], []⟩), .r [[], [], [], [.agg [.i .i64, .i .i64, .i .i64, .i .i64, .i .i64, .i .i64]], [.agg [.i .i64, .i .i64, .i .u8]]] none, .c none, .r [] none, .r [] none, .c none, .r [[], [], [], [.agg [.i .u8, .i .i64]]] (some ⟨[(4, lb)], []⟩), .r [[.agg [.i .i64, .i .i64, .i .u8]]] none, .r [[.agg [.i .u8, .i .i64]]] none, .c none, .r [[], [], [], [.agg [.i .u8, .i .i64]]] (some ⟨[(4, lb)], []⟩), .r [[], [], [], [.agg [.i .u8, .i .i64]], [.agg [.i .u8, .i .i64]]] (some ⟨[(4, lb)], []⟩)]
def an10 : List An := [.r [] none, .r [[.agg [.i .i64, .i .i64, .i .u8]]] none, .r [[.agg [.i .i64, .i .i64, .i .u8]], [.agg [.i .i64, .i .i64, .i .u8]]] none, .r [[.agg [.i .i64, .i .i64, .i .u8]]] none, .c none, .r [[], [], [], [.agg [.i .i64, .i .i64, .i .u8]], [], [], [], [], [.agg [.i .i64, .i .i64, .i .u8]]] (some ⟨[(6, lb)], []⟩), .r [] none, .r [] none, .b none, .l ⟨[(11, li), (12, li)], []⟩, .r [] none, .c none, .b none, .r [[.agg [.i .i64, .i .i64, .i .u8]], [], [], [], [.agg [.i .i64, .i .i64, .i .u8]], [], [], [.agg [.i .i64, .i .i64, .i .u8]]] none, .c (some ⟨[(11, li)], []⟩), .r [] none, .r [] none, .r [[], [], [], [], [], [], [], [], [.agg [.i .i64, .i .i64, .i .u8]]] none, .c none, .r [] none, .r [[.agg [.i .i64, .i .i64, .i .u8]]] none, .r [[.agg [.i .i64, .i .i64, .i .u8]]] none, .c none, .r [[], [], [], [.agg [.i .i64, .i .i64, .i .u8]]] (some ⟨[(6, lb)], []⟩), .r [[.agg [.i .i64, .i .i64, .i .u8]]] none, .r [[.agg [.i .i64, .i .i64, .i .u8]], [.agg [.i .i64, .i .i64, .i .u8]]] none, .r [[], [], [], [.agg [.i .i64, .i .i64, .i .u8]], [.agg [.i .i64, .i .i64, .i .u8]], [], [], [], [], [], [], [], [.agg [.i .i64, .i .i64, .i .u8]], [.agg [.i .i64, .i .i64, .i .u8]]] none, .c none, .r [] none, .r [[.agg [.i .i64, .i .i64, .i .u8]]] none, .r [[.agg [.i .u8, .i .i64]]] none, .c none, .r [] none, .r [[.agg [.i .u8, .i .i64]], [.agg [.i .i64, .i .i64, .i .u8]]] none, .r [[.agg [.i .u8, .i .i64]], [.agg [.i .i64, .i .i64, .i .u8]]] none, .r [] (some ⟨[(6, lb)], []⟩)]
def an11 : List An := [.r [] none, .r [[.agg [.i .u8, .i .i64]], [.agg [.i .i64, .i .i64, .i .u8]]] none, .r [[.agg [.i .u8, .i .i64]], [], [], [], [.agg [.i .i64, .i .i64, .i .u8]]] none, .c none, .r [] (some ⟨[(4, lb)], []⟩), .r [[.agg [.i .i64, .i .i64, .i .u8]]] none, .r [] none, .r [] none, .b none, .l ⟨[(8, li), (9, li), (10, li)], []⟩, .r [] none, .c none, .b none, .r [[.agg [.i .u8, .i .i64]], [], [], [.agg [.i .i64, .i .i64]]] none, .c (some ⟨[(8, li)], []⟩), .r [] none, .r [[.agg [.i .u8, .i .i64]], [], [], [.agg [.i .i64, .i .i64]]] none, .c (some ⟨[(9, li)], []⟩), .r [] none, .r [] none, .r [[], [], [], [], [.agg [.i .u8, .i .i64]], [.agg [.i .i64, .i .i64, .i .u8]]] (some ⟨[(4, lb)], []⟩)]
def an12 : List An := [.r [] none, .r [[.agg [.i .u8, .i .i64, .i .i64]], [.agg [.i .i64, .i .i64, .i .u8]]] none, .r [[.agg [.i .u8, .i .i64, .i .i64]], [], [], [], [.agg [.i .i64, .i .i64, .i .u8]]] none, .c none, .r [[], [], [], [.agg [.i .i64, .i .i64, .i .u8]]] (some ⟨[(6, lb)], []⟩), .r [[.agg [.i .u8, .i .i64, .i .i64]], [.agg [.i .i64, .i .i64, .i .u8]]] none, .r [[.agg [.i .i64, .i .i64, .i .u8]]] none, .c none, .r [[], [], [], [.agg [.i .i64, .i .i64, .i .u8]]] (some ⟨[(6, lb)], []⟩), .r [[], [], [], [.agg [.i .i64, .i .i64, .i .u8]], [.agg [.i .i64, .i .i64, .i .u8]]] none, .c none, .r [] none, .r [[.agg [.i .i64, .i .i64, .i .u8]]] none, .r [[.agg [.i .u8, .i .i64, .i .i64]], [.agg [.i .i64, .i .i64, .i .u8]]] none, .r [] none, .c none, .r [[.agg [.i .i64, .i .i64, .i .u8]], [], [], [], [.agg [.i .u8, .i .i64, .i .i64]], [.agg [.i .i64, .i .i64, .i .u8]]] (some ⟨[(6, lb)], []⟩), .r [[.agg [.i .i64, .i .i64, .i .u8]], [.agg [.i .i64, .i .i64, .i .u8]]] none, .r [] (some ⟨[(6, lb)], []⟩)]
def an13 : List An := [.r [] none, .r [[.agg [.i .i64, .i .i64, .i .u8]], [.agg [.i .i64, .i .i64, .i .u8]]] none, .r [[.agg [.i .i64, .i .i64, .i .u8]], [], [], [], [.agg [.i .i64, .i .i64, .i .u8]]] none, .c none, .r [[], [], [], [.agg [.i .u8, .i .i64, .i .i64]]] (some ⟨[(4, lb)], []⟩), .r [[.agg [.i .i64, .i .i64, .i .u8]], [.agg [.i .i64, .i .i64, .i .u8]]] none, .r [[.agg [.i .u8, .i .i64, .i .i64]], [.agg [.i .i64, .i .i64, .i .u8]]] none, .r [[], [], [], [], [], [], [], [.agg [.i .u8, .i .i64, .i .i64]], [.agg [.i .u8, .i .i64, .i .i64]], [], [], [], [], [], [], [], [.agg [.i .i64, .i .i64, .i .u8]], [.agg [.i .i64, .i .i64, .i .u8]]] (some ⟨[(4, lb)], []⟩)]
def an14 : List An := [.r [] none, .r [[.agg [.i .i64, .i .i64, .i .u8]], [.agg [.i .i64, .i .i64, .i .u8]], [], [.agg [.i .i64, .i .i64, .i .u8]], [.agg [.i .i64, .i .i64, .i .u8]]] none, .r [[.agg [.i .i64, .i .i64, .i .u8]], [.agg [.i .i64, .i .i64, .i .u8]], [], [], [], [], [.agg [.i .i64, .i .i64, .i .u8]], [.agg [.i .i64, .i .i64, .i .u8]], [], [], [], [], [], [], [.agg [.i .i64, .i .i64, .i .u8]], [.agg [.i .i64, .i .i64, .i .u8]], [], [], [], [], [], [], [.agg [.i .i64, .i .i64, .i .u8]], [.agg [.i .i64, .i .i64, .i .u8]]] none, .c none, .r [] none, .r [[.agg [.i .i64, .i .i64, .i .u8]], [.agg [.i .i64, .i .i64, .i .u8]], [], [], [], [.agg [.i .i64, .i .i64, .i .u8]], [.agg [.i .i64, .i .i64, .i .u8]], [], [], [], [], [.agg [.i .i64, .i .i64, .i .u8]], [.agg [.i .i64, .i .i64, .i .u8]]] (some ⟨[(6, lb)], []⟩)]
def an15 : List An := [.r [] none, .r [] none, .c none, .r [] none, .r [[.agg [.i .i8, .i .i8, .i .u8]]] none, .r [] none, .r [] none, .b none, .l ⟨[(7, li)], [(6, [.i .u8, .i .i64, .i .i64]), (5, [.i .i64, .i .i64, .i .u8])]⟩, .r [] none, .c none, .b none, .r [[.agg [.i .i64, .i .i64, .i .u8]], [], [], [], [.leaf (.i .u8)]] none, .r [[.agg [.i .i64, .i .i64, .i .u8]], [], [], [], [.leaf (.i .u8)]] none, .r [[.agg [.i .u8, .i .i64]]] none, .r [] none, .c none, .r [] none, .r [[.agg [.i .u8, .i .i64, .i .i64]], [.agg [.i .u8, .i .i64, .i .i64]]] none, .r [] none, .c none, .r [] none, .r [[.agg [.i .i64, .i .i64, .i .u8]]] none, .r [] none, .r [[.agg [.i .i8, .i .i8, .i .u8]], [], [.agg [.i .i64, .i .i64, .i .u8]]] none, .r [[], [], [], [.agg [.i .u8, .i .i64, .i .i64]], [.agg [.i .u8, .i .i64, .i .i64]], [], [], [], [.agg [.i .u8, .i .i64, .i .i64]]] (some ⟨[(4, lb)], []⟩)]
def an16 : List An := [.r [] none, .r [] none, .r [] none, .b none, .l ⟨[(1, li), (2, li)], []⟩, .r [] none, .c none, .b none, .r [] none, .r [] none, .r [] none, .r [[.agg [.i .i8, .i .i8, .i .u8]], [], [], [], [], [], [], [], [.agg [.i .i8, .i .i8, .i .u8]], [], [], [], [], [.agg [.i .i8, .i .i8, .i .u8]], [], [], [], [], [], [.agg [.i .u8, .i .i64]], [.agg [.i .i8, .i .i8, .i .u8]], [], [], [], [], [], [.agg [.i .u8, .i .i64, .i .i64]], [.agg [.i .i8, .i .i8, .i .u8]], [], [], [], [], [], [], [], [.agg [.i .i8, .i .i8, .i .u8]], [], [.agg [.i .i8, .i .i8, .i .u8]], [], [], [], [], [], [.agg [.i .i8, .i .i8, .i .u8]], [], [.agg [.i .i8, .i .i8, .i .u8]], [], [.agg [.i .i8, .i .i8, .i .u8]], [], [], [], [], [], [.agg [.i .i8, .i .i8, .i .u8]]] none, .c none, .r [] none, .r [] none, .r [] none, .r [] (some ⟨[(0, lb)], []⟩)]
def an17 : List An := [.r [] none, .r [[], [.leaf (.i .u8)], [], [], [], [], [.leaf (.i .u8)]] none]
def an18 : List An := [.r [] none, .r [[.agg [.i .i64, .i .i64]]] none, .r [] none, .c none, .r [] none, .r [[.agg [.i .i64, .i .i64, .i .u8]]] none, .r [] none, .c none, .r [] none, .r [[.agg [.i .i64, .i .i64]], [.agg [.i .i64, .i .i64, .i .u8]]] none]
def an19 : List An := [.r [] none, .r [[.agg [.i .i64, .i .i64]]] none, .r [] none, .c none, .r [] none, .r [] none]
def an20 : List An := [.r [] none, .r [[], [], [], [li], [], [], [], [li]] none, .r [[.agg [.i .i64, .i .i64]], [.agg [.i .i64, .i .i64, .i .u8]]] none]
def an21 : List An := [.r [] none, .r [] none, .r [] none, .r [] none, .r [[], [], [], [], [.agg [.i .i64, .i .i64, .i .u8]], [], [], [], [], [], [], [], [], [.agg [.i .i64, .i .u8]]] none, .c none, .r [] none, .r [] none, .b none, .l ⟨[(7, .leaf (.i .u8))], []⟩, .r [] none, .c none, .b none, .r [] none, .r [[], [], [], [], [li]] none, .c none, .r [] none, .r [] none, .r [] none, .r [] none, .r [[], [], [], [], [], [], [.agg [.i .i64, .i .u8]], [], [], [], [], [], [], [.agg [.i .i64, .i .u8]], [], [], [], [], [], [], [.agg [.i .i64, .i .u8]], [], [], [], [], [], [], [.agg [.i .i64, .i .u8]], [], [], [], [], [], [], [], [], [], [], [], [.agg [.i .i64, .i .i64]], [], [], [], [], [], [], [.agg [.i .i64, .i .i64]], [], [], [], [], [], [], [.agg [.i .i64, .i .i64]], [], [], [], [], [], [], [.agg [.i .i64, .i .i64]], [], [], [], [], [], [], [.agg [.i .i64, .i .i64]]] none, .c none, .r [] none, .r [] none, .r [] none, .r [] none, .r [] none, .r [[.agg [.i .u8, .i .i64]], [], [], [], [.agg [.i .i64, .i .i64, .i .i64, .i .i64]], [], [], [], [], [], [], [.agg [.i .u8, .i .i64]], [], [], [], [], [.agg [.i .i64, .i .i64, .i .i64, .i .i64]]] none, .c none, .r [] none, .r [] none, .r [] none, .r [] none, .r [] (some ⟨[(0, lb)], []⟩)]
def an22 : List An := [.r [] none, .r [] none]
def an23 : List An := [.r [] none, .r [[.agg [.i .i64, .i .i64]]] none, .r [] none, .c none, .r [] none, .r [] none, .r [[.agg [.i .i64, .i .i64]]] none, .b none, .f 368 [], .r [[lv]] none]
def an24 : List An := [.r [] none, .r [] none, .r [] none, .b none, .l ⟨[(3, lv), (4, li)], []⟩, .r [[], [], [li], [], [], [li]] none, .c none, .b none, .r [] none, .b none, .l ⟨[(3, lv), (5, li)], []⟩, .r [] none, .c none, .b none, .r [[.agg [.i .i64, .i .i64]]] none, .c (some ⟨[(3, lv)], []⟩), .r [] none, .r [] none, .r [] none, .r [] none]
def an25 : List An := [.r [] none, .r [[.agg [.i .i64, .i .i64]], [.agg [.i .i64, .i .u8]]] none, .r [] none, .c none, .r [] none, .r [[.agg [.i .i64, .i .i64, .i .u8]]] none, .r [[], [.leaf (.i .u8)], [], [], [], [.agg [.i .i64, .i .i64]], [], [.leaf (.i .u8)], [], [], [], [.agg [.i .i64, .i .i64]]] none, .r [[], [li], [], [li], [], [], [], [li], [], [li], [], [], [], [li], [], [li]] none, .c (some ⟨[], [(10, [.i .i64, .i .i64]), (11, [.i .i64, .i .i64])]⟩), .r [[.agg [.i .i64, .i .i64]], [.agg [.i .i64, .i .i64]]] none, .r [[.agg [.i .i64, .i .i64]], [.agg [.i .i64, .i .i64]]] none]
def an26 : List An := [.r [] none, .r [[.agg [.i .i64, .i .i64]], [.agg [.i .i64, .i .u8]]] none, .r [] none, .c none, .r [] none, .r [[.agg [.i .i64, .i .i64, .i .u8]], [], [.leaf (.i .u8)]] none]
def an27 : List An := [.r [] none, .r [[], [li], [], [], [li], [], [], [li], [], [li], [], [], [], [li]] none, .r [[.agg [.i .i64, .i .i64, .i .u8]], [], [.agg [.i .i64, .i .i64, .i .u8]], [], [.leaf (.i .u8)]] none, .r [] none, .r [] none, .b none, .l ⟨[(8, lv), (9, li)], []⟩, .r [] none, .c none, .b none, .r [] none, .b none, .l ⟨[(8, lv), (10, li)], []⟩, .r [] none, .c none, .b none, .r [[], [], [.agg [.i .i64, .i .i64]], [], [], [.agg [.i .i64, .i .i64]]] none, .c (some ⟨[(8, lv)], []⟩), .r [[], [], [], [.agg [.i .i64, .i .i64]]] none, .r [] none, .r [] none, .r [[], [], [], [li], [], [], [], [li], [], [], [], [], [], [li], [], [], [], [li], [], [], [], [], [], [li], [], [], [], [li]] none, .c none, .r [[], [], [.agg [.i .i64, .i .i64]], [], [], [.agg [.i .i64, .i .i64]]] none, .r [[], [], [.agg [.i .i64, .i .i64]], [], [], [.agg [.i .i64, .i .i64]]] none]
def an28 : List An := [.r [] none, .r [[], [.leaf (.i .u8)]] none, .r [[], [], [li], [], [], [], [li], [], [], [], [li]] none]
def an29 : List An := [.r [] none, .r [[.agg [.i .i64, .i .i64]]] none, .r [] none, .c none, .r [] none, .r [] none, .r [] none, .b none, .l ⟨[(5, lv), (6, li)], []⟩, .r [[], [], [li]] none, .c none, .b none, .r [] none, .b none, .l ⟨[(5, lv), (7, li)], []⟩, .r [[], [], [li]] none, .c none, .b none, .r [] none, .c (some ⟨[(5, lv)], []⟩), .r [] none, .r [] none, .r [] none, .r [] none]
def an30 : List An := [.r [] none, .r [] none, .r [] none, .b none, .l ⟨[(3, lv), (4, li)], []⟩, .r [[], [], [li]] none, .c none, .b none, .r [] none, .b none, .l ⟨[(3, lv), (5, li)], []⟩, .r [[], [], [li]] none, .c none, .b none, .r [] none, .b none, .l ⟨[(3, lv), (6, .leaf (.i .u8))], []⟩, .r [] none, .c none, .b none, .r [] none, .r [] none, .r [] none, .r [] none, .r [] none]
def an31 : List An := [.r [] none, .r [[.agg [.i .i64, .i .i64, .i .u8]]] none, .r [[], [], [], [], [.agg [.i .i64, .i .i64]], [], [], [], [], [.agg [.i .i64, .i .i64]]] none, .r [] none, .r [] none, .b none, .l ⟨[(9, .leaf (.i .u8))], [(8, [.i .u8, .i .i64])]⟩, .r [] none, .c none, .b none, .r [] none, .r [[], [], [li], [], [], [], [li], [], [], [], [], [li], [], [], [], [li]] none, .c (some ⟨[], [(8, [.i .u8, .i .i64])]⟩), .r [[], [], [], [li], [], [], [], [li]] none, .r [] none, .r [[.agg [.i .u8, .i .i64]]] none]
def an32 : List An := [.r [] none, .r [[], [li], [], [], [], [li], [], [], [], [], [li], [], [], [], [], [li], [], [], [], [], [li], [], [li]] none, .c none, .r [] none, .r [] none]
def an33 : List An := [.r [] none, .r [[], [li], [], [], [], [li], [], [], [], [], [li], [], [], [], [], [li], [], [], [], [], [li], [], [li]] none, .c none, .r [] none, .r [] none]
def an34 : List An := [.r [] none, .r [[.agg [.i .i64, .i .i64]]] none, .c none, .r [] none, .r [[], [li], [], [], [li]] none]
def an35 : List An := [.r [] none, .r [[.agg [.i .i64, .i .i64]]] none, .r [] none, .c none, .r [] none, .r [[.agg [.i .i64, .i .i64]]] none, .c none, .r [] none, .r [[.agg [.i .i64, .i .i64]]] none]
def an36 : List An := [.r [] none, .r [[.agg [.i .i64, .i .i64]]] none, .r [] none, .c none, .r [] none, .r [[.agg [.i .i64, .i .i64, .i .u8]], [], [], [], [], [li], [], [], [], [], [li], [], [li], [], [], [], [], [li], [], [], [], [], [li], [], [li]] none, .c none, .r [] none, .r [[], [li], [], [li], [], [], [li], [], [], [], [.leaf (.i .u8)]] none]
def an37 : List An := [.r [] none, .r [[.agg [.i .i64, .i .i64]]] none, .r [] none, .c none, .r [] none, .r [[.agg [.i .i64, .i .i64]]] none, .r [[.agg [.i .i64, .i .i64]]] none, .b none, .l ⟨[(5, lv), (17, li)], []⟩, .r [] none, .c none, .b none, .r [] none, .r [[], [.agg [.i .i64, .i .i64]]] none, .r [] none, .r [] none]
def an38 : List An := [.r [] none, .r [[], [li], [], [], [], [li], [], [], [], [], [li], [], [li], [], [], [], [], [li], [], [li], [], [], [], [], [.leaf (.i .u8)]] none, .c none, .r [] none, .r [[], [li], [], [], [li], [], [], [li], [], [], [], [.leaf (.i .u8)]] none]
def an39 : List An := [.r [] none, .r [] none]
def an40 : List An := [.r [] none, .r [[.agg [.i .i64, .i .i64, .i .u8]]] none, .c none, .r [] none, .r [[], [.leaf (.i .u8)], [], [.agg [.i .i64, .i .i64, .i .u8, .i .i64, .i .i64, .i .i64, .i .u8, .i .i64, .i .i64, .i .u8, .i .i64, .i .i64, .i .u8, .i .i64, .i .i64, .i .i64, .i .i64]]] none, .r [[], [.leaf (.i .u8)], [], [li], [], [li]] none, .b none, .r [] none, .c (some ⟨[], [(7, [.i .u8, .i .i64])]⟩), .r [[], [li], [], [li]] none, .r [] none, .c (some ⟨[], [(7, [.i .u8, .i .i64])]⟩), .r [[], [li], [], [li]] none, .r [[], [.leaf (.i .u8)]] none, .c (some ⟨[], [(7, [.i .u8, .i .i64])]⟩), .r [[], [li], [], [li]] none, .r [[.agg [.i .u8, .i .i64]]] none, .c none, .r [] none, .r [[.agg [.i .u8, .i .i64]]] none]
def an41 : List An := [.r [] none, .r [[.agg [.i .i64, .i .i64, .i .u8]]] none, .c none, .r [] none, .r [[], [.leaf (.i .u8)], [], [.agg [.i .i64, .i .i64, .i .u8, .i .i64, .i .i64, .i .i64, .i .u8, .i .i64, .i .i64, .i .u8, .i .i64, .i .i64, .i .u8, .i .i64, .i .i64, .i .i64, .i .i64]]] none, .r [[], [], [.agg [.i .i64, .i .i64]], [], [.agg [.i .i64, .i .i64]]] none, .r [] none, .b none, .l ⟨[(21, li)], [(5, [.i .i64, .i .i64, .i .i64, .i .i64, .i .i64, .i .i64])]⟩, .r [] none, .c none, .b none, .r [] none, .r [[], [], [], [li], [], [li]] none, .r [[], [], [], [li], [], [li]] none, .r [] none, .r [[.agg [.i .i64, .i .i64, .i .i64, .i .i64, .i .i64, .i .i64]]] none]
def an42 : List An := [.r [] none, .r [[], [li], [], [], [], [li], [], [], [], [], [li], [], [], [], [], [li], [], [], [], [], [.leaf (.i .u8)]] none, .c none, .r [] none, .r [] none]
def an43 : List An := [.r [] none, .r [[], [li], [], [], [], [li], [], [], [], [], [li], [], [], [], [], [li], [], [], [], [], [.leaf (.i .u8)]] none, .c none, .r [] none, .r [] none]
def an44 : List An := [.r [] none, .r [] none, .b none, .l ⟨[(1, .leaf (.i .u8))], []⟩, .r [] none, .c none, .b none, .r [] none, .r [] none, .r [[.agg [.i .u8, .i .i64]], [], [], [], [], [], [], [.agg [.i .u8, .i .i64]], [], [], [], [], [], [], [.agg [.i .i64, .i .i64, .i .u8]], [], [], [], [], [], [], [.agg [.i .i64, .i .i64, .i .u8]]] none, .c none, .r [] none, .r [] none, .r [] none, .b none, .l ⟨[(6, .leaf (.i .u8))], []⟩, .r [] none, .c none, .b none, .r [] none, .r [[.agg [.i .u8, .i .i64]], [], [], [], [], [], [], [], [.agg [.i .u8, .i .i64]]] none, .c none, .r [] none, .r [] none, .r [] none, .r [] none, .r [] none, .r [] none, .r [[], [], [], [], [], [], [], [], [], [], [], [.agg [.i .i64, .i .i64, .i .i64, .i .i64, .i .i64, .i .i64]], [], [], [], [], [], [], [], [.agg [.i .i64, .i .i64, .i .i64, .i .i64, .i .i64, .i .i64]]] none, .c none, .r [] none, .r [] none, .b none, .l ⟨[(17, .leaf (.i .u8))], []⟩, .r [] none, .c none, .b none, .r [] none, .r [[], [], [], [], [li]] none, .c none, .r [] none, .r [] none, .r [] none, .r [] none, .r [] none, .r [[], [], [], [], [], [], [], [.agg [.i .i64, .i .i64, .i .u8]]] none, .c none, .r [] none, .r [] none, .r [] none, .r [] none, .b none, .l ⟨[(28, li)], []⟩, .r [] none, .c none, .b none, .r [[], [], [], [], [.agg [.i .i64, .i .i64, .i .u8]]] none, .r [[.agg [.i .u8, .i .i64, .i .i64]], [], [], [], [.agg [.i .u8, .i .i64, .i .i64]]] none, .c none, .r [] none, .r [] none, .r [] none, .r [] none]
def an45 : List An := [.r [] none, .r [[], [li], [], [], [li]] none, .r [] none, .r [[], [.leaf (.i .u8)], [], [], [.leaf (.i .u8)]] none, .r [] none, .c (some ⟨[(6, li), (7, li)], []⟩), .r [] none, .r [[], [], [], [], [], [], [], [.agg [.i .i64, .i .i64]], [], [], [.agg [.i .i64, .i .i64]]] none]
def an46 : List An := [.r [] none, .r [[], [.leaf (.i .u8)], [], [], [], [.leaf (.i .u8)], [], [], [], [], [li], [], [], [], [], [li]] none, .c none, .r [] none, .r [] none]
def an47 : List An := [.r [] none, .r [[.agg [.i .i64, .i .i64, .i .u8]]] none, .c none, .r [] none, .r [[], [.leaf (.i .u8)], [], [], [], [], [.agg [.i .i64, .i .i64, .i .u8]]] none, .r [[], [li], [], [li], [], [], [li], [], [li]] none, .r [[.agg [.i .i64, .i .i64, .i .u8]]] none, .c none, .r [] none, .r [[.agg [.i .i64, .i .i64, .i .u8]]] none]
def an48 : List An := [.r [] none, .r [[.agg [.i .i64, .i .i64, .i .u8]], [], [], [], [.agg [.i .i64, .i .i64, .i .u8]]] none, .c none, .r [] none, .r [] none, .b none, .l ⟨[(17, .leaf (.i .u8))], []⟩, .r [] none, .c none, .b none, .r [] none, .r [[.agg [.i .i64, .i .i64, .i .u8]]] none, .r [[], [], [], [.agg [.i .i64, .i .i64, .i .u8]], [.agg [.i .i64, .i .i64, .i .u8]]] none, .c none, .r [] none, .r [] none, .r [] none]
def an49 : List An := [.r [] none, .r [[.agg [.i .i64, .i .i64, .i .u8]]] none, .r [[.agg [.i .i64, .i .i64, .i .u8]]] none, .r [] none, .b none, .l ⟨[(7, li)], [(6, [.i .i64, .i .i64, .i .i64, .i .i64, .i .i64, .i .i64])]⟩, .r [] none, .c none, .b none, .r [[], [.agg [.i .u8, .i .i64]], [], [], [.agg [.i .i64, .i .i64]]] none, .r [] none, .r [[.agg [.i .i64, .i .i64, .i .i64, .i .i64, .i .i64, .i .i64]]] none]
def an50 : List An := [.r [] none, .r [[.agg [.i .i64, .i .i64, .i .u8]]] none, .r [[], [], [], [.agg [.i .u8, .i .i64]]] none, .c none, .r [] none, .r [[.agg [.i .i64, .i .i64, .i .i64, .i .i64, .i .i64, .i .i64]]] none, .b none, .l ⟨[(23, li)], []⟩, .r [] none, .c none, .b none, .r [[.agg [.i .i64, .i .i64]]] none, .r [[.agg [.i .u8, .i .i64]], [.agg [.i .i64, .i .i64]]] none, .c none, .r [] none, .r [] none, .r [] none]
def an51 : List An := [.r [] none, .r [[.agg [.i .i64, .i .i64, .i .u8]]] none, .r [[.agg [.i .u8, .i .i64]], [], [.agg [.i .i64, .i .i64]], [], [.agg [.i .u8, .i .i64]], [], [.agg [.i .i64, .i .i64]], [], [], [.agg [.i .u8, .i .i64]], [], [.agg [.i .i64, .i .i64]]] none, .c none, .r [] none, .r [] none]
def an52 : List An := [.r [] none, .r [[.agg [.i .u8, .i .i64, .i .i64]], [], [], [], [.agg [.i .i64, .i .i64, .i .u8]]] none, .c none, .r [] none, .r [[.agg [.i .u8, .i .i64, .i .i64]], [.agg [.i .i64, .i .i64, .i .u8]]] none, .r [[.agg [.i .i64, .i .i64, .i .u8]]] none, .c none, .r [] none, .r [[.agg [.i .i64, .i .i64, .i .u8]]] none]
def an53 : List An := [.r [] none, .r [[], [.leaf (.i .u8)], [], [], [], [li], [], [], [], [], [li], [], [], [], [], [li], [], [], [], [], [li], [], [], [], [], [li], [], [li]] none, .c none, .r [] none, .r [] none]
def an54 : List An := [.r [] none, .r [[.agg [.i .i64, .i .i64, .i .u8]]] none, .r [] none, .b none, .l ⟨[(6, li)], [(5, [.i .i64, .i .i64, .i .i64, .i .i64, .i .i64, .i .i64])]⟩, .r [] none, .c none, .b none, .r [[], [.agg [.i .u8, .i .i64, .i .i64]], [], [], [.agg [.i .i64, .i .i64]]] none, .r [] none, .r [[.agg [.i .i64, .i .i64, .i .i64, .i .i64, .i .i64, .i .i64]]] none]
def an55 : List An := [.r [] none, .r [[.agg [.i .i64, .i .i64, .i .u8]], [], [], [], [.agg [.i .i64, .i .i64, .i .u8]]] none, .c none, .r [] none, .r [[.agg [.i .i64, .i .i64, .i .u8]]] none, .r [] none, .b none, .l ⟨[(22, .leaf (.i .u8))], []⟩, .r [] none, .c none, .b none, .r [] none, .r [[], [], [.agg [.i .i64, .i .i64, .i .u8]]] none, .r [[], [], [li], [], [li], [], [], [], [li], [], [li]] none, .r [[.agg [.i .u8, .i .i64, .i .i64]], [], [], [], [.agg [.i .u8, .i .i64, .i .i64]], [.agg [.i .i64, .i .i64, .i .u8]], [], [.agg [.i .i64, .i .i64, .i .u8]]] none, .c none, .r [[.agg [.i .u8, .i .i64, .i .i64]]] none, .r [] none, .r [] none]
def an56 : List An := [.r [] none, .r [] none, .r [] none, .r [[.agg [.i .i64, .i .i64, .i .u8]], [], [.agg [.i .i64, .i .i64]]] none, .r [] none, .b none, .l ⟨[(6, li), (9, .leaf (.i .u8))], [(7, [.i .u8, .i .i64, .i .i64])]⟩, .r [] none, .c none, .b none, .r [[], [], [.agg [.i .i64, .i .i64, .i .u8]], [], [.agg [.i .i64, .i .i64]]] none, .r [[], [], [li], [], [li], [], [], [], [li], [], [li]] none, .r [[.agg [.i .u8, .i .i64, .i .i64]], [], [], [], [.agg [.i .u8, .i .i64, .i .i64]], [.agg [.i .i64, .i .i64, .i .u8]], [], [.agg [.i .i64, .i .i64, .i .u8]]] none, .c (some ⟨[(6, li)], [(7, [.i .u8, .i .i64, .i .i64])]⟩), .r [[.agg [.i .u8, .i .i64, .i .i64]]] none, .r [] none, .r [] none, .r [[.agg [.i .u8, .i .i64, .i .i64]]] none]
def an57 : List An := [.r [] none, .r [[], [li], [], [li], [], [], [], [li], [], [li], [], [], [], [li], [], [li], [], [], [], [li], [], [li], [], [], [], [.leaf (.i .u8)], [], [.leaf (.i .u8)]] none, .c none, .r [] none, .r [] none]
def an58 : List An := [.r [] none, .r [[], [li], [], [li], [], [], [li], [], [li], [], [], [.leaf (.i .u8)], [], [], [.leaf (.i .u8)]] none]
def an59 : List An := [.r [] none, .r [[], [.leaf (.i .i8)], [], [], [.leaf (.i .i8)], [], [], [.leaf (.i .u8)]] none]
def an60 : List An := [.r [] none, .r [] none]
def an61 : List An := [.r [] none, .r [[.agg [.i .u8, .i .i64]]] none, .c none, .r [] none, .r [[], [.leaf (.i .u8)]] none, .b none, .r [] none, .c none, .r [[], [li]] none, .r [] none, .c none, .r [[], [li]] none, .r [] none, .c none, .r [[], [li], [], [li]] none, .r [[], [li], [], [], [li]] none]
def an62 : List An := [.r [] none, .r [[.agg [.i .u8, .i .i64, .i .i64]], [], [], [], [.agg [.i .u8, .i .i64, .i .i64]]] none, .c none, .r [] none, .r [[], [.leaf (.i .u8)], [], [.agg [.i .i64, .i .i64, .i .i64, .i .i64]], [], [li], [], [li]] none, .r [[], [.leaf (.i .u8)], [], [.agg [.i .i64, .i .i64, .i .i64, .i .i64]], [], [.leaf (.i .u8)], [], [.agg [.i .i64, .i .i64, .i .i64, .i .i64]], [], [], [], [], [li], [], [], [], [li]] none]
def an63 : List An := [.r [] none, .r [[.agg [.i .u8, .i .i64, .i .i64]], [], [], [], [], [.leaf (.i .u8)]] (some ⟨[(2, lb)], []⟩)]
def an64 : List An := [.r [] none, .r [[], [.leaf (.i .u8)], [], [], [.leaf (.i .i8)], [], [], [.leaf (.i .i8)]] none, .r [[], [li], [], [li]] none, .c (some ⟨[], [(3, [.i .u8, .i .i64, .i .i64])]⟩), .r [[], [li]] none, .r [[.agg [.i .u8, .i .i64, .i .i64]]] none]
def an65 : List An := [.r [] none, .r [[], [.leaf (.i .u8)], [], [], [], [.leaf (.i .i8)]] none]
def an66 : List An := [.r [] none, .r [] none]
def an67 : List An := [.r [] none, .r [] none]
def an68 : List An := [.r [] none, .r [] none]
def an69 : List An := [.r [] none, .r [[.agg [.i .i64, .i .i64]]] none, .r [] none, .c none, .r [] none, .r [[.agg [.i .i64, .i .i64]], [], [li], [], [.leaf (.i .u8)]] none, .r [[], [], [], [.agg [.i .i64, .i .u8]], [.agg [.i .i64, .i .u8]]] none, .c none, .r [] none, .r [[.agg [.i .i64, .i .i64]], [], [li]] none]
def an70 : List An := [.r [] none, .r [] none, .c none, .r [] none, .r [] none, .c none, .r [] none, .r [] none, .c none, .r [] none, .r [] none]
def an71 : List An := [.r [] none, .r [] none]
def an72 : List An := [.r [] none, .r [[], [], [], [], [], [li], [], [], [li]] (some ⟨[(4, lb)], []⟩)]
def an73 : List An := [.r [] none, .r [[], [], [], [li], [], [], [], [], [li]] none]
def an74 : List An := [.r [] none, .r [[], [.leaf (.i .u8)], [], [], [], [.leaf (.i .u8)], [], [], [], [], [li], [], [], [], [], [li]] none, .c none, .r [] none, .r [] none]
def an75 : List An := [.r [] none, .r [] none]
def an76 : List An := [.r [] none, .r [[], [.leaf (.i .u8)]] none, .r [[.agg [.i .u8, .i .i64]], [.agg [.i .i64, .i .i64]]] none, .r [[], [li], [], [], [], [], [], [li]] none]
def an77 : List An := [.r [] none, .r [] none, .b none, .l ⟨[(3, li)], []⟩, .r [] none, .c none, .b (some ⟨[], []⟩), .r [[], [], [.agg [.i .i64, .i .i64]], [], [], [], [], [.agg [.i .i64, .i .i64]], [], [], [], [], [.agg [.i .i64, .i .i64]]] none, .r [[], [li], [], [], [], [], [li]] none, .c none, .r [] none, .b none, .l ⟨[(7, .leaf (.i .u8))], []⟩, .r [] none, .c none, .b none, .r [[], [li], [], [], [], [li]] none, .r [[.agg [.i .i64, .i .i64, .i .u8]]] none, .r [[], [.agg [.i .i64, .i .i64]], [.agg [.i .i64, .i .i64]], [], [], [], [.agg [.i .i64, .i .i64]], [.agg [.i .i64, .i .i64]], [], [], [], [], [.agg [.i .i64, .i .i64]], [.agg [.i .i64, .i .i64]], [], [], [], [.agg [.i .i64, .i .i64]], [.agg [.i .i64, .i .i64]]] none, .c none, .r [[.agg [.i .i64, .i .i64, .i .u8]]] none, .r [] none, .r [] none, .r [] none]
def an78 : List An := [.r [] none, .r [[.agg [.i .u8, .i .i64]], [], [], [], [.agg [.i .i64, .i .i64]]] none, .c none, .r [] none, .r [[], [], [.leaf (.i .u8)], [.agg [.v, .v, .v]], [], [.agg [.i .i64, .i .i64]], [li]] none, .b none, .r [[], [], [li]] none, .c none, .r [] none, .r [[], [], [li]] none, .c none, .r [] none, .r [] none]
def an79 : List An := [.r [] none, .r [[], [.leaf (.i .u8)], [], [], [], [], [li], [], [], [], [], [li], [], [], [], [], [li], [], [li]] none, .c none, .r [] none, .r [] none]
def an80 : List An := [.r [] none, .r [[.agg [.i .i64, .i .i64, .i .u8]], [], [], [.leaf (.i .u8)], [], [], [.agg [.i .i64, .i .i64]]] none, .r [[.agg [.i .u8, .i .i64, .i .i64]], [.agg [.i .i64, .i .i64]]] none, .r [] none, .r [[.agg [.i .u8, .i .i64, .i .i64]], [.agg [.i .i64, .i .i64]]] none, .r [[], [li], [], [li], [], [], [], [], [li], [], [li]] none, .r [[.agg [.i .i64, .i .i64, .i .u8, .i .i64, .i .i64, .i .i64, .i .u8, .i .i64, .i .i64, .i .u8, .i .i64, .i .i64, .i .u8, .i .i64, .i .i64, .i .i64, .i .i64, .i .i64, .i .i64, .i .u8, .i .i64, .i .i64, .i .i64, .i .u8, .i .i64, .i .i64, .i .u8, .i .i64, .i .i64, .i .u8, .i .i64, .i .i64, .i .i64, .i .i64, .i .i64, .i .i64, .i .u8, .i .i64, .i .i64, .i .i64, .i .u8, .i .i64, .i .i64, .i .u8, .i .i64, .i .i64, .i .u8, .i .i64, .i .i64, .i .i64, .i .i64, .i .i64, .i .i64, .i .u8, .i .i64, .i .i64, .i .i64, .i .u8, .i .i64, .i .i64, .i .u8, .i .i64, .i .i64, .i .u8, .i .i64, .i .i64, .i .i64, .i .i64]]] none, .b none, .l ⟨[(47, li)], [(7, [.i .i64, .i .i64, .i .u8])]⟩, .r [] none, .c none, .b none, .r [[], [.agg [.i .i64, .i .i64, .i .u8, .i .i64, .i .i64, .i .i64, .i .u8, .i .i64, .i .i64, .i .u8, .i .i64, .i .i64, .i .u8, .i .i64, .i .i64, .i .i64, .i .i64]]] none, .r [[], [.agg [.i .i64, .i .i64]], [.agg [.i .i64, .i .i64]]] none, .c (some ⟨[], [(7, [.i .i64, .i .i64, .i .u8])]⟩), .r [] none, .r [] none, .r [[.agg [.i .i64, .i .i64, .i .u8]]] none]
def an81 : List An := [.r [] none, .r [[], [li], [], [li]] none, .r [[], [.leaf (.i .u8)]] none, .c (some ⟨[(5, li), (6, li)], []⟩), .r [[], [li], [], [], [li]] none, .r [[], [.leaf (.i .u8)]] none, .c (some ⟨[(5, li), (6, li)], []⟩), .r [[], [li], [], [], [li]] none, .r [[], [.leaf (.i .u8)]] none, .c (some ⟨[(5, li), (6, li)], []⟩), .r [[], [li], [], [li]] none, .r [[], [.leaf (.i .u8)]] none, .c (some ⟨[(5, li), (6, li)], []⟩), .r [[], [li], [], [], [li]] none, .r [[], [.leaf (.i .u8)]] none, .c (some ⟨[(5, li), (6, li)], []⟩), .r [[], [li], [], [], [li]] none, .r [[], [.leaf (.i .u8)]] none, .c (some ⟨[(5, li), (6, li)], []⟩), .r [[], [li], [], [li]] none, .r [[], [.leaf (.i .u8)]] none, .c (some ⟨[(5, li), (6, li)], []⟩), .r [[], [li], [], [li]] none, .r [[], [], [li], [], [], [], [], [li]] none]
def an82 : List An := [.r [] none, .r [[], [li], [], [], [], [li]] none]
def an83 : List An := [.r [] none, .r [[.agg [.i .u8, .i .i64, .i .i64]], [], [], [], [.agg [.i .i64, .i .i64]]] none, .c none, .r [] none, .r [[], [.leaf (.i .u8)], [], [.agg [.i .i64, .i .i64, .i .i64, .i .i64]], [], [li], [], [li]] none, .r [[], [], [li], [], [], [], [], [li]] none, .r [[.agg [.i .i64, .i .i64]]] none, .c none, .r [] none, .r [[.agg [.i .i64, .i .i64]]] none]
def an84 : List An := [.r [] none, .r [] none, .b none, .l ⟨[(8, li)], []⟩, .r [] none, .c none, .b none, .r [[], [.agg [.i .i64, .i .i64]]] none, .r [[], [li], [], [li]] none, .r [] none, .c none, .r [] none, .r [] none, .r [] none]
def an85 : List An := [.r [] none, .r [[], [li], [], [], [], [li], [], [], [], [], [li], [], [], [], [li]] none]
def an86 : List An := [.r [] none, .r [[.agg [.i .u8, .i .i64, .i .i64]]] none, .c none, .r [] none, .r [[.agg [.i .u8, .i .i64, .i .i64]]] none]
def an87 : List An := [.r [] none, .r [[.agg [.i .i64, .i .i64, .i .i64, .i .i64, .i .i64, .i .i64, .i .i64, .i .i64, .i .i64, .i .i64, .i .i64, .i .i64, .i .i64, .i .i64, .i .i64, .i .i64, .i .i64, .i .i64, .i .i64, .i .i64, .i .i64, .i .i64, .i .i64, .i .i64, .i .i64, .i .i64, .i .i64, .i .i64, .i .i64, .i .i64, .i .i64, .i .i64]]] none, .b none, .l ⟨[(6, li)], []⟩, .r [] none, .c none, .b none, .r [[], [.agg [.i .i64, .i .i64, .i .i64, .i .i64]]] none, .r [[.agg [.i .i64, .i .i64, .i .i64, .i .i64]], [.agg [.i .i64, .i .i64, .i .i64, .i .i64]]] none, .c none, .r [] none, .r [] none, .r [] none]
def an88 : List An := [.r [] none, .r [[.agg [.i .i64, .i .i64, .i .i64, .i .i64]], [], [li], [], [li]] none, .r [[.agg [.i .i64, .i .i64, .i .i64, .i .i64]], [], [li], [], [li]] none, .r [] none]
def an89 : List An := [.r [[.agg [.i .i64, .i .i64]]] none, .b none, .l ⟨[(9, li)], []⟩, .r [] none, .c none, .b none, .r [] none, .r [] none, .b none, .l ⟨[(12, .leaf (.i .u8))], []⟩, .r [] none, .c none, .b none, .r [] none, .r [[.agg [.i .i64, .i .i64]]] none, .r [[], [], [], [], [], [], [], [], [], [], [], [], [lb]] none, .c none, .r [] none, .r [] none]
def an90 : List An := [.r [] none, .r [[], [li], [], [], [], [li], [], [], [], [], [li], [], [], [], [], [li]] none, .c none, .r [] none, .r [] none]
def an91 : List An := [.r [] none, .r [] none, .r [] none]
def an92 : List An := [.r [] none, .r [] (some ⟨[(2, lb)], []⟩)]
def an93 : List An := [.r [] none, .r [] none, .r [] none, .r [] none, .c none, .r [] none, .c none, .r [] none, .r [] none, .r [] none, .c none, .r [] none, .r [] none, .c none, .r [] none, .r [] none, .c none, .r [] none, .r [] none]
def an94 : List An := [.r [] none, .r [[.agg [.i .i64, .i .i64]]] none]
def an95 : List An := [.r [] none, .r [] none, .b none, .r [] none, .c none, .r [[], [li]] none, .r [] none, .c none, .r [[], [li]] none, .r [] none, .c none, .r [[], [li], [], [li]] none, .r [[], [li], [], [li]] none]
def an96 : List An := [.r [] none, .r [[], [], [], [li], [], [], [li]] none]
def an97 : List An := [.r [] none, .r [[], [], [], [li], [], [], [.agg [.i .u8, .i .i64]], [], [li], [], [], [], [], [], [li], [], [], [], [], [], [], [.leaf (.i .u8)], [.agg [.i .u8, .i .i64]]] none]
def an98 : List An := [.r [] none, .r [[.agg [.i .i64, .i .i64]]] none]
def an99 : List An := [.r [] none, .r [[], [li], [], [], [], [li]] none]
def an100 : List An := [.r [] none, .r [[.agg [.i .u8, .i .i64]], [], [], [], [li], [], [], [], [], [], [li], [], [], [], [], [], [li], [], [], [], [], [.leaf (.i .u8)], [.agg [.i .u8, .i .i64]]] none]
def an101 : List An := [.r [] none, .r [[.agg [.i .i64, .i .i64]]] none]
def an102 : List An := [.r [] none, .r [[], [], [], [li], [], [], [], [], [li]] none]
def an103 : List An := [.r [] none, .r [[], [.leaf (.i .u8)], [], [.leaf (.i .u8)], [], [], [li], [], [], [], [.leaf (.i .u8)], [], [.leaf (.i .u8)], [], [], [li], [], [], [], [], [], [li], [], [], [.agg [.i .u8, .i .i64]], [], [], [.leaf (.i .u8)], [.agg [.i .u8, .i .i64]]] none]
def an104 : List An := [.r [] none, .r [[.agg [.i .i64, .i .i64]]] none]
def an105 : List An := [.r [] none, .r [[], [li], [], [], [], [], [li]] none]
def an106 : List An := [.r [] none, .r [[], [.leaf (.i .u8)], [], [.leaf (.i .u8)], [], [li], [], [], [], [], [.leaf (.i .u8)], [], [.leaf (.i .u8)], [], [li], [], [], [], [.agg [.i .u8, .i .i64]], [], [], [], [li], [], [], [], [], [.leaf (.i .u8)], [.agg [.i .u8, .i .i64]]] none]
def an107 : List An := [.r [] none, .r [] none]
def an128 : List An := [.r [] none, .r [] none]
noncomputable def siteTab : Nat → Site
  | 368 => site (codeOf Tryd.prog 23) 0 21 [(5, lv)] [(14, .agg [.i .i64, .i .u8])] [.r [] none] [.b none, .r [[lv], [.agg [.i .i64, .i .u8]]] none]
  | _ => ⟨0, [], [], .skip, .skip⟩

noncomputable def xc (f : FuncId) : Ctxt := ⟨cc, ptsTab.getD f [], siteTab⟩
end Go.Am