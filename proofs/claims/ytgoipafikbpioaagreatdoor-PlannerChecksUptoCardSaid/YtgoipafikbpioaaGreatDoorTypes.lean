/- The shapes of the arguments' types, printed by a program of this repository (gen/apitab.py). -/
import Derived.Test.YtgoipafikbpioaaGreatDoorCalc
import Derived.Test.YtgoipafikbpioaaGreatDoorRows
namespace Go.Proofs.YtgoipafikbpioaaGreatDoor
open Go.RowKit Go.Sx
set_option linter.unusedVariables false
set_option linter.unusedSimpArgs false
set_option maxRecDepth 100000
def tabs : List (TypeId × List K) := [(3, [.int]),
  (4, [.bool]),
  (9, [.str]),
  (22, [.sl 2]),
  (23, [.sl 0]),
  (24, [.sl 1]),
  (26, [.int, .int, .str, .sl 0, .sl 1]),
  (27, [.sl 4]),
  (29, [.int, .sl 4, .int]),
  (30, [.sl 5]),
  (32, [.int, .sl 2, .str, .sl 2, .int, .int, .str, .sl 0, .sl 1, .int, .sl 5]),
  (33, [.sl 6]),
  (35, ((.int :: .sl 2 :: .int :: .int :: .str :: .sl 0 :: .sl 1 :: .sl 0 :: .int :: .int :: .int :: .sl 4 :: .int :: .int :: .sl 2 :: .str :: .sl 2 :: .int :: .int :: .str :: .sl 0 :: .sl 1 :: .int :: .sl 5 :: .sl 6 :: []) : List K)),
  (36, [.sl 7]),
  (37, [.sl 17]),
  (38, [.sl 18]),
  (39, [.sl 19]),
  (41, [.bool, .sl 17, .bool, .sl 18, .sl 19]),
  (43, ((.int :: .sl 2 :: .int :: .int :: .str :: .sl 0 :: .sl 1 :: .sl 0 :: .int :: .int :: .int :: .sl 4 :: .int :: .int :: .sl 2 :: .str :: .sl 2 :: .int :: .int :: .str :: .sl 0 :: .sl 1 :: .int :: .sl 5 :: .sl 6 :: .sl 7 :: .int :: .int :: .bool :: .sl 17 :: .bool :: .sl 18 :: .sl 19 :: .str :: []) : List K)),
  (61, [.sl 2, .bool]),
  (110, [.sl 2, .int, .int]),
  (112, ((.sl 2 :: .int :: .sl 2 :: .str :: .sl 2 :: .int :: .int :: .str :: .sl 0 :: .sl 1 :: .int :: .sl 5 :: []) : List K)),
  (117, [.str, .int, .int, .str, .sl 0, .sl 1]),
  (180, [.int, .int])]
theorem tabs_ok : tabs.all (oneAt Tryz.prog sh by_ tabs) = true := by kernel_rfl
theorem own : ownKnob Tryz.prog.godebug = none := by kernel_rfl
theorem laid : laidOutB Tryz.prog = true := by kernel_rfl
end Go.Proofs.YtgoipafikbpioaaGreatDoor
