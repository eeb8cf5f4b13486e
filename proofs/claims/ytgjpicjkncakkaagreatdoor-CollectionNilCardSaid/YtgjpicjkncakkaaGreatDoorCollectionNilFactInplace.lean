/- Closed facts of the row collectionNil, one by one; printed by a program of this repository (gen/lawcard.py). -/
import Derived.Test.YtgjpicjkncakkaaGreatDoorRows
import Derived.ProofKit
namespace Go.Proofs.YtgjpicjkncakkaaGreatDoor.collectionNil
set_option maxRecDepth 100000
theorem k_inPlace : (Rows.collectionNilRow.inPlace == Tryz.prog.inPlace 3) = true := by kernel_rfl
end Go.Proofs.YtgjpicjkncakkaaGreatDoor.collectionNil
