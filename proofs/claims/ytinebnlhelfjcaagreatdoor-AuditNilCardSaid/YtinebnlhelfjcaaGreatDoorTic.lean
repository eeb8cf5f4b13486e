/- The tie of the row's variables, in pieces (after the given tie, whose pieces stand in one); printed by a program of this repository (gen/light.py). -/
import Derived.Test.YtinebnlhelfjcaaGreatDoorTib
import Derived.LaidByTextLater
import Derived.SevenTiedAt
import Derived.LaidSub
import Derived.LaidOnce
import Derived.ProofKit
namespace Go.Proofs.YtinebnlhelfjcaaGreatDoor
open Go
set_option linter.unusedVariables false
set_option maxRecDepth 1000000
theorem w_7 : ∀ os tape, doorLeaves Tryz.prog 34 8 65 tieL os tape = some (tieL.filter fun x => x.2.handleName?.isNone, (funcsListed tieL).map (·.2.funcsOut)) := fun _ _ => by
  unfold doorLeaves
  rw [vId]
  kernel_rfl
theorem seatTie1 : Tryz.prog.laidByTextLater tieL [.data, .data, .data, .data] true := Program.laidByTextLater_by_one 34 8 65 w_1 w_2 w_3 w_4 w_5 w_6 w_7
end Go.Proofs.YtinebnlhelfjcaaGreatDoor
