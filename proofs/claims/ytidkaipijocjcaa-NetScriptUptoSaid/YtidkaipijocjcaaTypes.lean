/- The shapes of the arguments' types, printed by a program of this repository (gen/apitab.py). -/
import Derived.Test.YtidkaipijocjcaaLaw
import Derived.Test.YtidkaipijocjcaaRows
namespace Go.Proofs.Ytidkaipijocjcaa
open Go.RowKit Go.Sx
set_option linter.unusedVariables false
set_option linter.unusedSimpArgs false

set_option maxRecDepth 100000
def tabs : List (TypeId × List K) := [(3, [.int]),
  (4, [.bool]),
  (9, [.str]),
  (26, [.sl 0]),
  (27, [.sl 1]),
  (29, [.int, .int, .str, .sl 0, .sl 1]),
  (30, [.sl 8]),
  (31, [.sl 2]),
  (32, [.sl 10]),
  (33, [.sl 9]),
  (35, [.int, .bool, .int, .int, .str, .sl 0, .sl 1, .bool, .int, .int, .str, .sl 0, .sl 1, .sl 0, .int, .int, .sl 2, .sl 10, .bool, .sl 9, .bool]),
  (37, [.str, .sl 8, .int, .bool, .int, .int, .str, .sl 0, .sl 1, .bool, .int, .int, .str, .sl 0, .sl 1, .sl 0, .int, .int, .sl 2, .sl 10, .bool, .sl 9, .bool, .int, .int]),
  (38, [.sl 7]),
  (39, [.sl 4]),
  (41, [.int, .sl 4, .int]),
  (42, [.sl 5]),
  (44, [.int, .sl 2, .str, .sl 2, .int, .int, .str, .sl 0, .sl 1, .int, .sl 5]),
  (45, [.sl 6]),
  (47, [.int, .sl 2, .int, .int, .str, .sl 0, .sl 1, .sl 0, .int, .int, .int, .sl 4, .int, .int, .sl 2, .str, .sl 2, .int, .int, .str, .sl 0, .sl 1, .int, .sl 5, .sl 6]),
  (49, [.str, .int, .sl 7, .bool, .bool, .bool, .int, .sl 2, .int, .int, .str, .sl 0, .sl 1, .sl 0, .int, .int, .int, .sl 4, .int, .int, .sl 2, .str, .sl 2, .int, .int, .str, .sl 0, .sl 1, .int, .sl 5, .sl 6]),
  (50, [.sl 12]),
  (51, [.sl 3]),
  (53, [.int, .str, .int, .int, .str, .sl 0, .sl 1, .int, .int, .str, .sl 0, .sl 1, .int, .int, .str, .sl 0, .sl 1, .str, .sl 8, .int, .bool, .int, .int, .str, .sl 0, .sl 1, .bool, .int, .int, .str, .sl 0, .sl 1, .sl 0, .int, .int, .sl 2, .sl 10, .bool, .sl 9, .bool, .int, .int, .str, .int, .sl 7, .bool, .bool, .bool, .int, .sl 2, .int, .int, .str, .sl 0, .sl 1, .sl 0, .int, .int, .int, .sl 4, .int, .int, .sl 2, .str, .sl 2, .int, .int, .str, .sl 0, .sl 1, .int, .sl 5, .sl 6, .str, .int, .sl 12, .sl 3, .bool]),
  (55, [.int, .int, .str, .int, .int, .str, .int, .int, .str, .sl 0, .sl 1, .int, .int, .str, .sl 0, .sl 1, .int, .int, .str, .sl 0, .sl 1, .str, .sl 8, .int, .bool, .int, .int, .str, .sl 0, .sl 1, .bool, .int, .int, .str, .sl 0, .sl 1, .sl 0, .int, .int, .sl 2, .sl 10, .bool, .sl 9, .bool, .int, .int, .str, .int, .sl 7, .bool, .bool, .bool, .int, .sl 2, .int, .int, .str, .sl 0, .sl 1, .sl 0, .int, .int, .int, .sl 4, .int, .int, .sl 2, .str, .sl 2, .int, .int, .str, .sl 0, .sl 1, .int, .sl 5, .sl 6, .str, .int, .sl 12, .sl 3, .bool]),
  (56, [.sl 13]),
  (59, [.int, .int, .int, .int, .int, .int, .int, .sl 13, .bool]),
  (60, [.sl 14]),
  (71, [.sl 15]),
  (74, [.int, .int, .int, .int, .int, .int, .int, .int, .sl 13, .bool, .int, .int]),
  (121, [.str, .int, .int, .str, .sl 0, .sl 1]),
  (126, [.sl 2, .bool]),
  (134, [.str, .int, .bool, .int, .int, .str, .sl 0, .sl 1, .bool, .int, .int, .str, .sl 0, .sl 1, .sl 0, .int, .int, .sl 2, .sl 10, .bool, .sl 9, .bool]),
  (138, [.int, .int])]
theorem tabs_ok : tabs.all (oneAt Try.prog sh by_ tabs) = true := by kernel_rfl
theorem own : ownKnob Try.prog.godebug = none := by kernel_rfl
theorem laid : laidOutB Try.prog = true := by kernel_rfl
end Go.Proofs.Ytidkaipijocjcaa
