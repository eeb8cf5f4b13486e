/- No function starts a goroutine; printed by a program of this repository (gen/light.py). -/
import Derived.Test.YtinebnlhelfjcaaGreatDoorEvm
import Derived.Test.YtinebnlhelfjcaaGreatDoorProg
import Derived.ProofKit
namespace Go.Proofs.YtinebnlhelfjcaaGreatDoor
open Go.Cl Go.Ev
set_option linter.unusedVariables false
set_option maxRecDepth 1000000
theorem nFuncs : Tryz.prog.funcs.size = 1074 := by kernel_rfl
theorem gf0 : rAll (goF Tryz.prog) 0 48 = true := by kernel_rfl
theorem gf1 : rAll (goF Tryz.prog) 48 48 = true := by kernel_rfl
theorem gf2 : rAll (goF Tryz.prog) 96 48 = true := by kernel_rfl
theorem gf3 : rAll (goF Tryz.prog) 144 48 = true := by kernel_rfl
theorem gf4 : rAll (goF Tryz.prog) 192 48 = true := by kernel_rfl
theorem gf5 : rAll (goF Tryz.prog) 240 48 = true := by kernel_rfl
theorem gf6 : rAll (goF Tryz.prog) 288 48 = true := by kernel_rfl
theorem gf7 : rAll (goF Tryz.prog) 336 48 = true := by kernel_rfl
theorem gf8 : rAll (goF Tryz.prog) 384 48 = true := by kernel_rfl
theorem gf9 : rAll (goF Tryz.prog) 432 48 = true := by kernel_rfl
theorem gf10 : rAll (goF Tryz.prog) 480 48 = true := by kernel_rfl
theorem gf11 : rAll (goF Tryz.prog) 528 48 = true := by kernel_rfl
theorem gf12 : rAll (goF Tryz.prog) 576 48 = true := by kernel_rfl
theorem gf13 : rAll (goF Tryz.prog) 624 48 = true := by kernel_rfl
theorem gf14 : rAll (goF Tryz.prog) 672 48 = true := by kernel_rfl
theorem gf15 : rAll (goF Tryz.prog) 720 48 = true := by kernel_rfl
theorem gf16 : rAll (goF Tryz.prog) 768 48 = true := by kernel_rfl
theorem gf17 : rAll (goF Tryz.prog) 816 48 = true := by kernel_rfl
theorem gf18 : rAll (goF Tryz.prog) 864 48 = true := by kernel_rfl
theorem gf19 : rAll (goF Tryz.prog) 912 48 = true := by kernel_rfl
theorem gf20 : rAll (goF Tryz.prog) 960 48 = true := by kernel_rfl
theorem gf21 : rAll (goF Tryz.prog) 1008 48 = true := by kernel_rfl
theorem gf22 : rAll (goF Tryz.prog) 1056 18 = true := by kernel_rfl
theorem gf_all : ∀ i, i < 1074 → goF Tryz.prog i = true := rAll_app (rAll_app (rAll_app (rAll_app (rAll_app (rAll_app (rAll_app (rAll_app (rAll_app (rAll_app (rAll_app (rAll_app (rAll_app (rAll_app (rAll_app (rAll_app (rAll_app (rAll_app (rAll_app (rAll_app (rAll_app (rAll_app (rAll_app rAll_none gf0 rfl) gf1 rfl) gf2 rfl) gf3 rfl) gf4 rfl) gf5 rfl) gf6 rfl) gf7 rfl) gf8 rfl) gf9 rfl) gf10 rfl) gf11 rfl) gf12 rfl) gf13 rfl) gf14 rfl) gf15 rfl) gf16 rfl) gf17 rfl) gf18 rfl) gf19 rfl) gf20 rfl) gf21 rfl) gf22 rfl
end Go.Proofs.YtinebnlhelfjcaaGreatDoor
