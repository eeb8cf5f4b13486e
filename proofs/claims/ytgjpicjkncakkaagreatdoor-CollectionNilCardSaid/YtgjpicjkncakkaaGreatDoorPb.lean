/- The translation bears the mark of its entry; printed by a program of this repository (gen/light.py). -/
import Derived.Test.YtgjpicjkncakkaaGreatDoorRows
import Derived.Test.YtgjpicjkncakkaaGreatDoorCards
import Derived.ProofKit
namespace Go.Proofs.YtgjpicjkncakkaaGreatDoor.collectionNil
open Go
set_option linter.unusedVariables false
set_option maxRecDepth 1000000
theorem p_main : Tryz.pinned.checked.prog.mainIs = some (true, "a0f1698c0b9f26f583953bd4727ae92a7b8b32b1b9435ae1a25a63267bb5ed73".toList) := by kernel_rfl
end Go.Proofs.YtgjpicjkncakkaaGreatDoor.collectionNil
