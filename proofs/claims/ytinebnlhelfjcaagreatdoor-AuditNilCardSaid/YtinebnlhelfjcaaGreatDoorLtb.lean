/- The row's cells, in parts; printed by a program of this repository (gen/light.py). -/
import Derived.Test.YtinebnlhelfjcaaGreatDoorLta
import Derived.ProofKit
namespace Go.Proofs.YtinebnlhelfjcaaGreatDoor
open Go.Cl Go.Ev
set_option linter.unusedVariables false
set_option maxRecDepth 1000000
theorem ig0 : cc0.filterMap (inP Tryz.prog) = [] := by kernel_rfl
theorem ig1 : cc1.filterMap (inP Tryz.prog) = ["internal/bytealg.abigen_runtime_cmpstring"] := by kernel_rfl
theorem ig2 : cc2.filterMap (inP Tryz.prog) = [] := by kernel_rfl
theorem ig3 : cc3.filterMap (inP Tryz.prog) = ["slices.overlaps[docstore/api.Space]"] := by kernel_rfl
theorem ig4 : cc4.filterMap (inP Tryz.prog) = [] := by kernel_rfl
theorem ig5 : cc5.filterMap (inP Tryz.prog) = ["internal/abi.NoEscape"] := by kernel_rfl
theorem ig6 : cc6.filterMap (inP Tryz.prog) = ["internal/bytealg.CountString"] := by kernel_rfl
theorem ig7 : cc7.filterMap (inP Tryz.prog) = ["internal/bytealg.IndexByteString", "internal/bytealg.IndexString"] := by kernel_rfl
theorem ig8 : cc8.filterMap (inP Tryz.prog) = [] := by kernel_rfl
theorem ig9 : cc9.filterMap (inP Tryz.prog) = [] := by kernel_rfl
theorem ig10 : cc10.filterMap (inP Tryz.prog) = [] := by kernel_rfl
theorem ig11 : cc11.filterMap (inP Tryz.prog) = [] := by kernel_rfl
theorem ig12 : cc12.filterMap (inP Tryz.prog) = [] := by kernel_rfl
theorem ig13 : cc13.filterMap (inP Tryz.prog) = [] := by kernel_rfl
theorem ig14 : cc14.filterMap (inP Tryz.prog) = [] := by kernel_rfl
theorem ig15 : cc15.filterMap (inP Tryz.prog) = ["slices.overlaps[int]"] := by kernel_rfl
theorem ig16 : cc16.filterMap (inP Tryz.prog) = [] := by kernel_rfl
theorem ig17 : cc17.filterMap (inP Tryz.prog) = ["slices.overlaps[string]", "slices.overlaps[*docstore/btree.node[string, string]]"] := by kernel_rfl
theorem ig18 : cc18.filterMap (inP Tryz.prog) = ["slices.overlaps[docstore/api.Value]"] := by kernel_rfl
theorem ig19 : cc19.filterMap (inP Tryz.prog) = [] := by kernel_rfl
theorem ig20 : cc20.filterMap (inP Tryz.prog) = [] := by kernel_rfl
theorem lt_inPlace : Tryz.prog.inPlace 3 = [] ++ ["internal/bytealg.abigen_runtime_cmpstring"] ++ [] ++ ["slices.overlaps[docstore/api.Space]"] ++ [] ++ ["internal/abi.NoEscape"] ++ ["internal/bytealg.CountString"] ++ ["internal/bytealg.IndexByteString", "internal/bytealg.IndexString"] ++ [] ++ [] ++ [] ++ [] ++ [] ++ [] ++ [] ++ ["slices.overlaps[int]"] ++ [] ++ ["slices.overlaps[string]", "slices.overlaps[*docstore/btree.node[string, string]]"] ++ ["slices.overlaps[docstore/api.Value]"] ++ [] ++ [] := inPlace_of clo (fm_app (fm_app (fm_app (fm_app (fm_app (fm_app (fm_app (fm_app (fm_app (fm_app (fm_app (fm_app (fm_app (fm_app (fm_app (fm_app (fm_app (fm_app (fm_app (fm_app ig0 (ig1)) (ig2)) (ig3)) (ig4)) (ig5)) (ig6)) (ig7)) (ig8)) (ig9)) (ig10)) (ig11)) (ig12)) (ig13)) (ig14)) (ig15)) (ig16)) (ig17)) (ig18)) (ig19)) (ig20))
theorem lt_unfollowed : Tryz.prog.unfollowed 3 = true := unfollowed_of (g := 466) clo (by kernel_rfl) (by kernel_rfl)
theorem lt_recurses : Tryz.prog.recurses 3 = true := recurses_of lt_unfollowed
end Go.Proofs.YtinebnlhelfjcaaGreatDoor
