/- The tie of the row's variables, in pieces (after the given tie, whose pieces stand in one); printed by a program of this repository (gen/light.py). -/
import Derived.Test.YtgjpicjkncakkaaGreatDoorTia
import Derived.Test.YtgjpicjkncakkaaGreatDoorLfn
import Derived.LaidByTextLater
import Derived.SevenTiedAt
import Derived.LaidSub
import Derived.LaidOnce
import Derived.ProofKit
namespace Go.Proofs.YtgjpicjkncakkaaGreatDoor
open Go
set_option linter.unusedVariables false
set_option maxRecDepth 1000000
theorem w_5 : (Tryz.prog.funcNamed "gosem.cut.vars").isSome = true := by
  rw [fnVars]
  rfl
theorem vId : varsId Tryz.prog = 674 := by
  unfold varsId
  rw [fnVars]
  rfl
theorem w_6 : varsNamedLaterB Tryz.prog (varsId Tryz.prog) tieL = true := by
  rw [vId]
  kernel_rfl
end Go.Proofs.YtgjpicjkncakkaaGreatDoor
