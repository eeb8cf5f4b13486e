/- The row is well formed; the translation bears the mark of its entry; printed by a program of this repository (gen/light.py). -/
import Derived.Test.YtgjpicjkncakkaaGreatDoorRows
import Derived.Test.YtgjpicjkncakkaaGreatDoorCards
import Derived.ProofKit
namespace Go.Proofs.YtgjpicjkncakkaaGreatDoor.collectionNil
open Go
set_option linter.unusedVariables false
set_option maxRecDepth 1000000
theorem p_wf : Rows.collectionNilRow.wfByText (OpenSpec.ofChange Rows.collectionNilSpec) = true := by kernel_rfl
end Go.Proofs.YtgjpicjkncakkaaGreatDoor.collectionNil
