/- Closed facts of the row auditNil; printed by a program of this repository (gen/light.py). -/
import Derived.Test.YtinebnlhelfjcaaGreatDoorLtb
import Derived.Test.YtinebnlhelfjcaaGreatDoorLtc
import Derived.ProofKit
namespace Go.Proofs.YtinebnlhelfjcaaGreatDoor.auditNil
open Go.Cl
set_option linter.unusedVariables false
set_option maxRecDepth 1000000
theorem k_named : (Rows.auditNilRow.named == Tryz.prog.varsNamed 3) = true := by
  rw [lt_named]
  exact beq_self_eq_true _
theorem k_inPlace : (Rows.auditNilRow.inPlace == Tryz.prog.inPlace 3) = true := by
  rw [lt_inPlace]
  kernel_rfl
theorem k_unfollowed : (Rows.auditNilRow.unfollowed == Tryz.prog.unfollowed 3) = true := by
  rw [lt_unfollowed]
  rfl
theorem k_recurses : (Rows.auditNilRow.recurses == Tryz.prog.recurses 3) = true := by
  rw [lt_recurses]
  rfl
end Go.Proofs.YtinebnlhelfjcaaGreatDoor.auditNil
