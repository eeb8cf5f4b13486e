/- The shapes of the arguments' types, printed by a program of this repository (gen/apitab.py). -/
import Derived.Test.YtjcjgcnpnfhkoaaDoorLaw
import Derived.Test.YtjcjgcnpnfhkoaaDoorRows
namespace Go.Proofs.YtjcjgcnpnfhkoaaDoor
open Go.RowKit Go.Sx
set_option linter.unusedVariables false
set_option linter.unusedSimpArgs false

set_option maxRecDepth 100000
def tabs : List (TypeId × List K) := [(3, [.int]),
  (4, [.bool]),
  (9, [.str]),
  (23, [.sl 0]),
  (24, [.sl 1]),
  (26, [.int, .int, .str, .sl 0, .sl 1]),
  (49, [.sl 16]),
  (51, [.sl 0, .int, .int, .int, .bool]),
  (124, [.str, .int, .int, .str, .sl 0, .sl 1])]
theorem tabs_ok : tabs.all (oneAt Tryd.prog sh by_ tabs) = true := by kernel_rfl
theorem own : ownKnob Tryd.prog.godebug = none := by kernel_rfl
theorem laid : laidOutB Tryd.prog = true := by kernel_rfl
end Go.Proofs.YtjcjgcnpnfhkoaaDoor
