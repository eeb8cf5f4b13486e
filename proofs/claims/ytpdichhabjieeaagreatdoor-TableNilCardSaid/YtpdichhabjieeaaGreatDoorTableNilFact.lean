/- Closed facts of the row tableNil, one by one; printed by a program of this repository (gen/lawcard.py). -/
import Derived.Test.YtpdichhabjieeaaGreatDoorRows
import Derived.ProofKit
namespace Go.Proofs.YtpdichhabjieeaaGreatDoor.tableNil
set_option maxRecDepth 100000
theorem k_named : (Rows.tableNilRow.named == Tryz.prog.varsNamed 3) = true := by kernel_rfl
theorem k_inPlace : (Rows.tableNilRow.inPlace == Tryz.prog.inPlace 3) = true := by kernel_rfl
theorem k_unfollowed : (Rows.tableNilRow.unfollowed == Tryz.prog.unfollowed 3) = true := by kernel_rfl
theorem k_recurses : (Rows.tableNilRow.recurses == Tryz.prog.recurses 3) = true := by kernel_rfl
end Go.Proofs.YtpdichhabjieeaaGreatDoor.tableNil
