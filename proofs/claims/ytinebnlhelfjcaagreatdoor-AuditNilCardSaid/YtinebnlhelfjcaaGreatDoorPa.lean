/- The row is well formed; the translation bears the mark of its entry; printed by a program of this repository (gen/light.py). -/
import Derived.Test.YtinebnlhelfjcaaGreatDoorRows
import Derived.Test.YtinebnlhelfjcaaGreatDoorCards
import Derived.ProofKit
namespace Go.Proofs.YtinebnlhelfjcaaGreatDoor.auditNil
open Go
set_option linter.unusedVariables false
set_option maxRecDepth 1000000
theorem p_wf : Rows.auditNilRow.wfByText (OpenSpec.ofChange Rows.auditNilSpec) = true := by kernel_rfl
end Go.Proofs.YtinebnlhelfjcaaGreatDoor.auditNil
