/- Words and keys of the program; printed by a program of this repository (gen/light.py). -/
import Derived.Test.YtinebnlhelfjcaaGreatDoorRows
import Derived.ProofKit
namespace Go.Proofs.YtinebnlhelfjcaaGreatDoor
open Go
set_option linter.unusedVariables false
set_option maxRecDepth 1000000
theorem o_stops : (Tryz.prog.stops == []) = true := by kernel_rfl
theorem o_knobs : (Tryz.prog.stopKnobs == []) = true := by kernel_rfl
end Go.Proofs.YtinebnlhelfjcaaGreatDoor
