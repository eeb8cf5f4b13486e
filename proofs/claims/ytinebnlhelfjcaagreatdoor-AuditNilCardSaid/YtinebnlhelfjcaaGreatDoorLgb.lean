/- No function looks at what a stand-in hides; printed by a program of this repository (gen/light.py). -/
import Derived.Test.YtinebnlhelfjcaaGreatDoorLga
import Derived.ProofKit
namespace Go.Proofs.YtinebnlhelfjcaaGreatDoor
open Go.Cl Go.Ev
set_option linter.unusedVariables false
set_option maxRecDepth 1000000
theorem lo0 : rAll (loF Tryz.prog) 0 48 = true := by kernel_rfl
theorem lo1 : rAll (loF Tryz.prog) 48 48 = true := by kernel_rfl
theorem lo2 : rAll (loF Tryz.prog) 96 48 = true := by kernel_rfl
theorem lo3 : rAll (loF Tryz.prog) 144 48 = true := by kernel_rfl
theorem lo4 : rAll (loF Tryz.prog) 192 48 = true := by kernel_rfl
theorem lo5 : rAll (loF Tryz.prog) 240 48 = true := by kernel_rfl
theorem lo6 : rAll (loF Tryz.prog) 288 48 = true := by kernel_rfl
theorem lo7 : rAll (loF Tryz.prog) 336 48 = true := by kernel_rfl
theorem lo8 : rAll (loF Tryz.prog) 384 48 = true := by kernel_rfl
theorem lo9 : rAll (loF Tryz.prog) 432 48 = true := by kernel_rfl
theorem lo10 : rAll (loF Tryz.prog) 480 48 = true := by kernel_rfl
theorem lo11 : rAll (loF Tryz.prog) 528 48 = true := by kernel_rfl
theorem lo12 : rAll (loF Tryz.prog) 576 48 = true := by kernel_rfl
theorem lo13 : rAll (loF Tryz.prog) 624 48 = true := by kernel_rfl
theorem lo14 : rAll (loF Tryz.prog) 672 48 = true := by kernel_rfl
theorem lo15 : rAll (loF Tryz.prog) 720 48 = true := by kernel_rfl
theorem lo16 : rAll (loF Tryz.prog) 768 48 = true := by kernel_rfl
theorem lo17 : rAll (loF Tryz.prog) 816 48 = true := by kernel_rfl
theorem lo18 : rAll (loF Tryz.prog) 864 48 = true := by kernel_rfl
theorem lo19 : rAll (loF Tryz.prog) 912 48 = true := by kernel_rfl
theorem lo20 : rAll (loF Tryz.prog) 960 48 = true := by kernel_rfl
theorem lo21 : rAll (loF Tryz.prog) 1008 48 = true := by kernel_rfl
theorem lo22 : rAll (loF Tryz.prog) 1056 18 = true := by kernel_rfl
theorem lo_all : ∀ i, i < 1074 → loF Tryz.prog i = true := rAll_app (rAll_app (rAll_app (rAll_app (rAll_app (rAll_app (rAll_app (rAll_app (rAll_app (rAll_app (rAll_app (rAll_app (rAll_app (rAll_app (rAll_app (rAll_app (rAll_app (rAll_app (rAll_app (rAll_app (rAll_app (rAll_app (rAll_app rAll_none lo0 rfl) lo1 rfl) lo2 rfl) lo3 rfl) lo4 rfl) lo5 rfl) lo6 rfl) lo7 rfl) lo8 rfl) lo9 rfl) lo10 rfl) lo11 rfl) lo12 rfl) lo13 rfl) lo14 rfl) lo15 rfl) lo16 rfl) lo17 rfl) lo18 rfl) lo19 rfl) lo20 rfl) lo21 rfl) lo22 rfl
theorem looksNot : false = Tryz.prog.looks [] := looks_of nFuncs lo_all
end Go.Proofs.YtinebnlhelfjcaaGreatDoor
