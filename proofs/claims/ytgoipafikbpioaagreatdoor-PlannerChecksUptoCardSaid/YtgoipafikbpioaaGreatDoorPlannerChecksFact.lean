/- Closed facts of the row plannerChecks, one by one; printed by a program of this repository (gen/lawcard.py). -/
import Derived.Test.YtgoipafikbpioaaGreatDoorRows
import Derived.ProofKit
namespace Go.Proofs.YtgoipafikbpioaaGreatDoor.plannerChecks
set_option maxRecDepth 100000
theorem k_named : (Rows.plannerChecksUptoRow.named == Tryz.prog.varsNamed 3) = true := by kernel_rfl
theorem k_inPlace : (Rows.plannerChecksUptoRow.inPlace == Tryz.prog.inPlace 3) = true := by kernel_rfl
theorem k_unfollowed : (Rows.plannerChecksUptoRow.unfollowed == Tryz.prog.unfollowed 3) = true := by kernel_rfl
theorem k_recurses : (Rows.plannerChecksUptoRow.recurses == Tryz.prog.recurses 3) = true := by kernel_rfl
end Go.Proofs.YtgoipafikbpioaaGreatDoor.plannerChecks
