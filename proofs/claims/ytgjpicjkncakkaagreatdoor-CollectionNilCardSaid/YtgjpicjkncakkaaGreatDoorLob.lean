/- Words and keys of the program; printed by a program of this repository (gen/light.py). -/
import Derived.Test.YtgjpicjkncakkaaGreatDoorRows
import Derived.ProofKit
namespace Go.Proofs.YtgjpicjkncakkaaGreatDoor
open Go
set_option linter.unusedVariables false
set_option maxRecDepth 1000000
theorem o_enter : Tryz.prog.mayEnter = true := by kernel_rfl
theorem o_lifts : (Rows.collectionNilRow.lifted == Tryz.prog.liftsFinal) = true := by kernel_rfl
theorem o_make : (Tryz.prog.make == some Rows.collectionNilRow.make) = true := by kernel_rfl
end Go.Proofs.YtgjpicjkncakkaaGreatDoor
