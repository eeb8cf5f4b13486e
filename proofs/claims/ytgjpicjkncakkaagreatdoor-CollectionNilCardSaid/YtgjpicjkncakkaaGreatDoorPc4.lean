/- The tied card of the law CollectionNil, a part of it; printed by a program of this repository (gen/lawcard.py), whose frame follows the kit's UptoLaidToy.lean. -/
import Derived.Test.YtgjpicjkncakkaaGreatDoorPc3
namespace Go.Proofs.YtgjpicjkncakkaaGreatDoor.collectionNil
open Go.Sx Go.ChangeShapes Go.WideShapes Go.ChangeAt Go.RowKit
set_option linter.unusedVariables false

set_option maxRecDepth 100000 in
theorem closed : joinedFacts Tryz.pinned.checked.prog 3 Tryz.f3 (OpenSpec.ofChange Rows.collectionNilSpec).bare Rows.collectionNilRow = true := by
  have e_named : (Rows.collectionNilRow.named == Tryz.pinned.checked.prog.varsNamed 3) = true := k_named
  have e_inPlace : (Rows.collectionNilRow.inPlace == Tryz.pinned.checked.prog.inPlace 3) = true := k_inPlace
  have e_unfollowed : (Rows.collectionNilRow.unfollowed == Tryz.pinned.checked.prog.unfollowed 3) = true := k_unfollowed
  have e_recurses : (Rows.collectionNilRow.recurses == Tryz.pinned.checked.prog.recurses 3) = true := k_recurses
  unfold joinedFacts
  rw [e_named, e_inPlace, e_unfollowed, e_recurses]
  refine Eq.trans (b := true) ?_ rfl
  kernel_rfl
end Go.Proofs.YtgjpicjkncakkaaGreatDoor.collectionNil
