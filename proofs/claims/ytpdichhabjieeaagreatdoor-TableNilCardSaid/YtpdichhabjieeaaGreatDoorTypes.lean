/- The shapes of the arguments' types, printed by a program of this repository (gen/apitab.py). -/
import Derived.Test.YtpdichhabjieeaaGreatDoorLaw
import Derived.Test.YtpdichhabjieeaaGreatDoorRows
namespace Go.Proofs.YtpdichhabjieeaaGreatDoor
open Go.RowKit Go.Sx
set_option linter.unusedVariables false
set_option linter.unusedSimpArgs false

set_option maxRecDepth 100000
def tabs : List (TypeId × List K) := [(3, [.int]),
  (4, [.bool]),
  (9, [.str]),
  (22, [.sl 0]),
  (23, [.sl 1]),
  (25, [.int, .int, .str, .sl 0, .sl 1]),
  (26, [.sl 21]),
  (27, [.sl 7]),
  (28, [.sl 2]),
  (29, [.sl 4]),
  (31, [.int, .sl 4, .int]),
  (32, [.sl 5]),
  (34, [.int, .sl 2, .str, .sl 2, .int, .int, .str, .sl 0, .sl 1, .int, .sl 5]),
  (35, [.sl 6]),
  (37, [.int, .sl 2, .int, .int, .str, .sl 0, .sl 1, .sl 0, .int, .int, .int, .sl 4, .int, .int, .sl 2, .str, .sl 2, .int, .int, .str, .sl 0, .sl 1, .int, .sl 5, .sl 6]),
  (39, [.str, .int, .sl 7, .bool, .bool, .bool, .int, .sl 2, .int, .int, .str, .sl 0, .sl 1, .sl 0, .int, .int, .int, .sl 4, .int, .int, .sl 2, .str, .sl 2, .int, .int, .str, .sl 0, .sl 1, .int, .sl 5, .sl 6]),
  (41, [.int, .int, .int, .str, .sl 0, .sl 1, .str, .sl 21, .bool, .str, .int, .sl 7, .bool, .bool, .bool, .int, .sl 2, .int, .int, .str, .sl 0, .sl 1, .sl 0, .int, .int, .int, .sl 4, .int, .int, .sl 2, .str, .sl 2, .int, .int, .str, .sl 0, .sl 1, .int, .sl 5, .sl 6]),
  (75, [.str, .int, .int, .str, .sl 0, .sl 1]),
  (89, [.sl 2, .bool]),
  (187, [.int, .int]),
  (188, [.sl 22]),
  (190, [.int, .int, .str, .sl 0, .sl 1, .int, .int, .str, .sl 0, .sl 1, .bool, .bool])]
theorem tabs_ok : tabs.all (oneAt Tryz.prog sh by_ tabs) = true := by kernel_rfl
theorem own : ownKnob Tryz.prog.godebug = none := by kernel_rfl
theorem laid : laidOutB Tryz.prog = true := by kernel_rfl
end Go.Proofs.YtpdichhabjieeaaGreatDoor
