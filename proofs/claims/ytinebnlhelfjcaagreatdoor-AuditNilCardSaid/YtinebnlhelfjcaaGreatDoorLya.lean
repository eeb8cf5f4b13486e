/- The types, in parts; printed by a program of this repository (gen/light.py). -/
import Derived.Test.YtinebnlhelfjcaaGreatDoorEvm
import Derived.Test.YtinebnlhelfjcaaGreatDoorProg
import Derived.ProofKit
namespace Go.Proofs.YtinebnlhelfjcaaGreatDoor
open Go.Cl Go.Ev
set_option linter.unusedVariables false
set_option maxRecDepth 1000000
theorem nTypes : Tryz.prog.types.size = 1027 := by kernel_rfl
theorem rf0 : rAll (rowFine Tryz.prog) 0 32 = true := by kernel_rfl
theorem rf1 : rAll (rowFine Tryz.prog) 32 32 = true := by kernel_rfl
theorem rf2 : rAll (rowFine Tryz.prog) 64 32 = true := by kernel_rfl
theorem rf3 : rAll (rowFine Tryz.prog) 96 32 = true := by kernel_rfl
theorem rf4 : rAll (rowFine Tryz.prog) 128 32 = true := by kernel_rfl
theorem rf5 : rAll (rowFine Tryz.prog) 160 32 = true := by kernel_rfl
theorem rf6 : rAll (rowFine Tryz.prog) 192 32 = true := by kernel_rfl
theorem rf7 : rAll (rowFine Tryz.prog) 224 32 = true := by kernel_rfl
theorem rf8 : rAll (rowFine Tryz.prog) 256 32 = true := by kernel_rfl
theorem rf9 : rAll (rowFine Tryz.prog) 288 32 = true := by kernel_rfl
theorem rf10 : rAll (rowFine Tryz.prog) 320 32 = true := by kernel_rfl
theorem rf11 : rAll (rowFine Tryz.prog) 352 32 = true := by kernel_rfl
theorem rf12 : rAll (rowFine Tryz.prog) 384 32 = true := by kernel_rfl
theorem rf13 : rAll (rowFine Tryz.prog) 416 32 = true := by kernel_rfl
theorem rf14 : rAll (rowFine Tryz.prog) 448 32 = true := by kernel_rfl
theorem rf15 : rAll (rowFine Tryz.prog) 480 32 = true := by kernel_rfl
theorem rf16 : rAll (rowFine Tryz.prog) 512 32 = true := by kernel_rfl
theorem rf17 : rAll (rowFine Tryz.prog) 544 32 = true := by kernel_rfl
theorem rf18 : rAll (rowFine Tryz.prog) 576 32 = true := by kernel_rfl
theorem rf19 : rAll (rowFine Tryz.prog) 608 32 = true := by kernel_rfl
theorem rf20 : rAll (rowFine Tryz.prog) 640 32 = true := by kernel_rfl
theorem rf21 : rAll (rowFine Tryz.prog) 672 32 = true := by kernel_rfl
theorem rf22 : rAll (rowFine Tryz.prog) 704 32 = true := by kernel_rfl
theorem rf23 : rAll (rowFine Tryz.prog) 736 32 = true := by kernel_rfl
theorem rf24 : rAll (rowFine Tryz.prog) 768 32 = true := by kernel_rfl
theorem rf25 : rAll (rowFine Tryz.prog) 800 32 = true := by kernel_rfl
theorem rf26 : rAll (rowFine Tryz.prog) 832 32 = true := by kernel_rfl
theorem rf27 : rAll (rowFine Tryz.prog) 864 32 = true := by kernel_rfl
theorem rf28 : rAll (rowFine Tryz.prog) 896 32 = true := by kernel_rfl
theorem rf29 : rAll (rowFine Tryz.prog) 928 32 = true := by kernel_rfl
theorem rf30 : rAll (rowFine Tryz.prog) 960 32 = true := by kernel_rfl
theorem rf31 : rAll (rowFine Tryz.prog) 992 32 = true := by kernel_rfl
theorem rf32 : rAll (rowFine Tryz.prog) 1024 3 = true := by kernel_rfl
theorem rf_all : ∀ i, i < 1027 → rowFine Tryz.prog i = true := rAll_app (rAll_app (rAll_app (rAll_app (rAll_app (rAll_app (rAll_app (rAll_app (rAll_app (rAll_app (rAll_app (rAll_app (rAll_app (rAll_app (rAll_app (rAll_app (rAll_app (rAll_app (rAll_app (rAll_app (rAll_app (rAll_app (rAll_app (rAll_app (rAll_app (rAll_app (rAll_app (rAll_app (rAll_app (rAll_app (rAll_app (rAll_app (rAll_app rAll_none rf0 rfl) rf1 rfl) rf2 rfl) rf3 rfl) rf4 rfl) rf5 rfl) rf6 rfl) rf7 rfl) rf8 rfl) rf9 rfl) rf10 rfl) rf11 rfl) rf12 rfl) rf13 rfl) rf14 rfl) rf15 rfl) rf16 rfl) rf17 rfl) rf18 rfl) rf19 rfl) rf20 rfl) rf21 rfl) rf22 rfl) rf23 rfl) rf24 rfl) rf25 rfl) rf26 rfl) rf27 rfl) rf28 rfl) rf29 rfl) rf30 rfl) rf31 rfl) rf32 rfl
end Go.Proofs.YtinebnlhelfjcaaGreatDoor
