/- The shapes of the arguments' types, printed by a program of this repository (gen/apitab.py). -/
import Derived.Test.YtinebnlhelfjcaaGreatDoorCalc
import Derived.Test.YtinebnlhelfjcaaGreatDoorRows
import Derived.Test.YtinebnlhelfjcaaGreatDoorLy
namespace Go.Proofs.YtinebnlhelfjcaaGreatDoor
open Go.RowKit Go.Sx
set_option linter.unusedVariables false
set_option linter.unusedSimpArgs false

set_option maxRecDepth 100000
def tabs : List (TypeId × List K) := []
theorem tabs_ok : tabs.all (oneAt Tryz.prog sh by_ tabs) = true := by kernel_rfl
theorem own : ownKnob Tryz.prog.godebug = none := by kernel_rfl
end Go.Proofs.YtinebnlhelfjcaaGreatDoor
