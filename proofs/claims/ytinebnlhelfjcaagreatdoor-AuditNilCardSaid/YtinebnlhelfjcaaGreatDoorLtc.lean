/- The row's named variables, in parts; printed by a program of this repository (gen/light.py). -/
import Derived.Test.YtinebnlhelfjcaaGreatDoorLta
import Derived.Test.YtinebnlhelfjcaaGreatDoorRows
import Derived.ProofKit
namespace Go.Proofs.YtinebnlhelfjcaaGreatDoor
open Go.Cl Go.Ev
set_option linter.unusedVariables false
set_option maxRecDepth 1000000
theorem gg0 : cc0.flatMap (glN Tryz.prog) = [] := by kernel_rfl
theorem eg0 : cc0.filterMap (enR Tryz.prog) = [] := by kernel_rfl
theorem gg1 : cc1.flatMap (glN Tryz.prog) = [1, 2] := by kernel_rfl
theorem eg1 : cc1.filterMap (enR Tryz.prog) = [] := by kernel_rfl
theorem gg2 : cc2.flatMap (glN Tryz.prog) = [] := by kernel_rfl
theorem eg2 : cc2.filterMap (enR Tryz.prog) = [] := by kernel_rfl
theorem gg3 : cc3.flatMap (glN Tryz.prog) = [] := by kernel_rfl
theorem eg3 : cc3.filterMap (enR Tryz.prog) = [] := by kernel_rfl
theorem gg4 : cc4.flatMap (glN Tryz.prog) = [3] := by kernel_rfl
theorem eg4 : cc4.filterMap (enR Tryz.prog) = [] := by kernel_rfl
theorem gg5 : cc5.flatMap (glN Tryz.prog) = [4, 5] := by kernel_rfl
theorem eg5 : cc5.filterMap (enR Tryz.prog) = [] := by kernel_rfl
theorem gg6 : cc6.flatMap (glN Tryz.prog) = [1, 2] := by kernel_rfl
theorem eg6 : cc6.filterMap (enR Tryz.prog) = [] := by kernel_rfl
theorem gg7 : cc7.flatMap (glN Tryz.prog) = [0, 0, 0] := by kernel_rfl
theorem eg7 : cc7.filterMap (enR Tryz.prog) = ["internal/bytealg.MaxLen"] := by kernel_rfl
theorem gg8 : cc8.flatMap (glN Tryz.prog) = [] := by kernel_rfl
theorem eg8 : cc8.filterMap (enR Tryz.prog) = [] := by kernel_rfl
theorem gg9 : cc9.flatMap (glN Tryz.prog) = [] := by kernel_rfl
theorem eg9 : cc9.filterMap (enR Tryz.prog) = [] := by kernel_rfl
theorem gg10 : cc10.flatMap (glN Tryz.prog) = [] := by kernel_rfl
theorem eg10 : cc10.filterMap (enR Tryz.prog) = [] := by kernel_rfl
theorem gg11 : cc11.flatMap (glN Tryz.prog) = [] := by kernel_rfl
theorem eg11 : cc11.filterMap (enR Tryz.prog) = [] := by kernel_rfl
theorem gg12 : cc12.flatMap (glN Tryz.prog) = [] := by kernel_rfl
theorem eg12 : cc12.filterMap (enR Tryz.prog) = [] := by kernel_rfl
theorem gg13 : cc13.flatMap (glN Tryz.prog) = [] := by kernel_rfl
theorem eg13 : cc13.filterMap (enR Tryz.prog) = [] := by kernel_rfl
theorem gg14 : cc14.flatMap (glN Tryz.prog) = [] := by kernel_rfl
theorem eg14 : cc14.filterMap (enR Tryz.prog) = [] := by kernel_rfl
theorem gg15 : cc15.flatMap (glN Tryz.prog) = [] := by kernel_rfl
theorem eg15 : cc15.filterMap (enR Tryz.prog) = [] := by kernel_rfl
theorem gg16 : cc16.flatMap (glN Tryz.prog) = [] := by kernel_rfl
theorem eg16 : cc16.filterMap (enR Tryz.prog) = [] := by kernel_rfl
theorem gg17 : cc17.flatMap (glN Tryz.prog) = [] := by kernel_rfl
theorem eg17 : cc17.filterMap (enR Tryz.prog) = [] := by kernel_rfl
theorem gg18 : cc18.flatMap (glN Tryz.prog) = [] := by kernel_rfl
theorem eg18 : cc18.filterMap (enR Tryz.prog) = [] := by kernel_rfl
theorem gg19 : cc19.flatMap (glN Tryz.prog) = [] := by kernel_rfl
theorem eg19 : cc19.filterMap (enR Tryz.prog) = [] := by kernel_rfl
theorem gg20 : cc20.flatMap (glN Tryz.prog) = [] := by kernel_rfl
theorem eg20 : cc20.filterMap (enR Tryz.prog) = [] := by kernel_rfl
theorem lt_named : Tryz.prog.varsNamed 3 = Rows.auditNilRow.named := varsNamed_of clo (bm_app (bm_app (bm_app (bm_app (bm_app (bm_app (bm_app (bm_app (bm_app (bm_app (bm_app (bm_app (bm_app (bm_app (bm_app (bm_app (bm_app (bm_app (bm_app (bm_app gg0 (gg1)) (gg2)) (gg3)) (gg4)) (gg5)) (gg6)) (gg7)) (gg8)) (gg9)) (gg10)) (gg11)) (gg12)) (gg13)) (gg14)) (gg15)) (gg16)) (gg17)) (gg18)) (gg19)) (gg20)) (fm_app (fm_app (fm_app (fm_app (fm_app (fm_app (fm_app (fm_app (fm_app (fm_app (fm_app (fm_app (fm_app (fm_app (fm_app (fm_app (fm_app (fm_app (fm_app (fm_app eg0 (eg1)) (eg2)) (eg3)) (eg4)) (eg5)) (eg6)) (eg7)) (eg8)) (eg9)) (eg10)) (eg11)) (eg12)) (eg13)) (eg14)) (eg15)) (eg16)) (eg17)) (eg18)) (eg19)) (eg20)) (by kernel_rfl)
end Go.Proofs.YtinebnlhelfjcaaGreatDoor
