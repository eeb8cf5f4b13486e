/- Closed facts of the row collectionNil; printed by a program of this repository (gen/light.py). -/
import Derived.Test.YtgjpicjkncakkaaGreatDoorLtb
import Derived.Test.YtgjpicjkncakkaaGreatDoorLtc
import Derived.ProofKit
namespace Go.Proofs.YtgjpicjkncakkaaGreatDoor.collectionNil
open Go.Cl
set_option linter.unusedVariables false
set_option maxRecDepth 1000000
theorem k_named : (Rows.collectionNilRow.named == Tryz.prog.varsNamed 3) = true := by
  rw [lt_named]
  exact beq_self_eq_true _
theorem k_inPlace : (Rows.collectionNilRow.inPlace == Tryz.prog.inPlace 3) = true := by
  rw [lt_inPlace]
  kernel_rfl
theorem k_unfollowed : (Rows.collectionNilRow.unfollowed == Tryz.prog.unfollowed 3) = true := by
  rw [lt_unfollowed]
  rfl
theorem k_recurses : (Rows.collectionNilRow.recurses == Tryz.prog.recurses 3) = true := by
  rw [lt_recurses]
  rfl
end Go.Proofs.YtgjpicjkncakkaaGreatDoor.collectionNil
