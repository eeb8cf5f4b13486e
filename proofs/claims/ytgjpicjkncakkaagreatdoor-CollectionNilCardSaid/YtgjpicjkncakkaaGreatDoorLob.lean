/- Words and keys of the program; printed by a program of this repository (gen/light.py). -/
import Derived.Test.YtgjpicjkncakkaaGreatDoorRows
import Derived.ProofKit
namespace Go.Proofs.YtgjpicjkncakkaaGreatDoor
open Go
set_option linter.unusedVariables false
set_option maxRecDepth 1000000
theorem laysL : Tryz.prog.laysLater = false := by
  unfold Program.laysLater
  rw [← Array.any_toList]
  kernel_rfl
theorem o_enter : Tryz.prog.mayEnter = true := by
  unfold Program.mayEnter
  rw [laysL]
  kernel_rfl
theorem o_lifts : (Rows.collectionNilRow.lifted == Tryz.prog.liftsFinal) = true := by kernel_rfl
theorem o_make : (Tryz.prog.make == some Rows.collectionNilRow.make) = true := by kernel_rfl
end Go.Proofs.YtgjpicjkncakkaaGreatDoor
