/- A known call, by the evaluator (printed by gen/memos.py). -/
import Derived.Test.YtgjpicjkncakkaaGreatDoorMm
namespace Go.Proofs.YtgjpicjkncakkaaGreatDoor
open Go.RowKit Go.Sx Go.Ev
set_option linter.unusedVariables false
set_option linter.unusedSimpArgs false

set_option maxRecDepth 1000000
noncomputable def M0 : Memo := ⟨27, [.agg [qs [99], .sl 23 0 1 (.k 1), qi 0, qf, qi 0, qi 0, qz, ql, ql, qf, qi 0, qi 0, qz, ql, ql, ql, qi 0, qi (-1), ql, ql, qf, ql, qf, qi 0, qi 0]], 24, [(21, qk [qs [97]] 9 false 0 0), (22, qk [.sl 21 0 1 (.k 1), qf] 107 false 0 0), (23, qk [qs [105], qi 1, .sl 22 0 1 (.k 1), qf, qf, qf, qi 0, ql, qi 0, qi 0, qz, ql, ql, ql, qi 0, qi 0, qi 0, ql, qi 0, qi 0, ql, qz, ql, qi 0, qi 0, qz, ql, ql, qi 0, ql, ql] 100 false 0 0)], .tup [.ptr 116 0, qi 0], 117, [(53, qk [qs [97]] 9 true 1 0), (55, qk [.sl 53 0 1 (.u 0), qf] 107 true 2 0), (67, qk [qs [105], qi 1, .sl 55 0 1 (.u 0), qf, qf, qf, qi 0, ql, qi 0, qi 0, qz, ql, ql, ql, qi 0, qi 0, qi 0, ql, qi 0, qi 0, ql, qz, ql, qi 0, qi 0, qz, ql, ql, qi 0, ql, ql] 100 true 31 0), (77, qk [qs [99], .sl 67 0 1 (.u 0), qi 0, qf, qi 0, qi 0, qz, ql, ql, qf, qi 0, qi 0, qz, ql, ql, ql, qi 0, qi (-1), ql, ql, qf, ql, qf, qi 0, qi 0] 97 true 25 0), (78, qk [.sl 77 0 1 (.u 0), .sl 114 0 1 (.u 0), ql] 163 false 0 0), (88, qk [qi 32, qi 0, qn] 327 false 0 0), (91, qk [.sl 94 0 1 (.u 0), qf] 107 false 0 0), (94, qk [qs [97]] 9 true 1 0), (106, qm [] 0), (107, qk [qs [105], qi 1, .sl 91 0 1 (.k 1), qf, qf, qf, qi 0, ql, qi 0, qi 0, qz, ql, ql, ql, qi 0, qi 0, qi 0, ql, qi 0, qi 0, ql, qz, ql, qi 0, qi 0, qz, ql, ql, qi 0, ql, ql, .sl 112 0 2 (.u 0), .ptr 88 0, .mp 106, qi 0] 250 false 0 0), (112, qk [qf, qf] 4 true 1 0), (114, qk [.ptr 107 0] 164 true 1 0), (115, qk [qi 64, ql] 119 false 0 0), (116, qk [.ptr 78 0, .ptr 115 0] 76 false 0 0)], []⟩
theorem m0_run : memoRun Tryz.prog (tabM []) (evC Tryz.prog (tabM []) 3000) M0 = true := by kernel_rfl
theorem m0_ok {w : World} (hg : Gl w) : MemoOk Tryz.prog w M0 := memo_ok (tabM_ok hg _) (evC_both (tabM_ok hg _) (fun M h => by cases h) 3000).1 m0_run
end Go.Proofs.YtgjpicjkncakkaaGreatDoor
