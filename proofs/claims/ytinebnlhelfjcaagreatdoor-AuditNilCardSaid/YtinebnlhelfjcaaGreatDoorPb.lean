/- The translation bears the mark of its entry; printed by a program of this repository (gen/light.py). -/
import Derived.Test.YtinebnlhelfjcaaGreatDoorRows
import Derived.Test.YtinebnlhelfjcaaGreatDoorCards
import Derived.ProofKit
namespace Go.Proofs.YtinebnlhelfjcaaGreatDoor.auditNil
open Go
set_option linter.unusedVariables false
set_option maxRecDepth 1000000
theorem p_main : Tryz.pinned.checked.prog.mainIs = some (true, "7658a88be93bcf044729fadec5149bba433b3e732949ee42f0457f3dcef46a4f".toList) := by kernel_rfl
end Go.Proofs.YtinebnlhelfjcaaGreatDoor.auditNil
