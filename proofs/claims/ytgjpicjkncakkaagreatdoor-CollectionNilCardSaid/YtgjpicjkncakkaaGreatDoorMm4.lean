/- A known call, by the evaluator (printed by gen/memos.py). -/
import Derived.Test.YtgjpicjkncakkaaGreatDoorMm
namespace Go.Proofs.YtgjpicjkncakkaaGreatDoor
open Go.RowKit Go.Sx Go.Ev
set_option linter.unusedVariables false
set_option linter.unusedSimpArgs false

set_option maxRecDepth 1000000
noncomputable def M4 : Memo := ⟨74, [.agg [qi 20, ql, qi 0, qi 0, qz, ql, ql, ql, qi 0, qi 0, qi 0, ql, qi 0, qi 0, ql, qz, ql, qi 0, qi 0, qz, ql, ql, qi 0, ql, .sl 1188 0 2 (.k 2)]], 1285, [(21, qk [qs [97]] 9 false 0 0), (1188, qk [qi 4, .sl 21 0 1 (.k 1), qi 3, qi 2, qz, ql, ql, ql, qi 0, qi 0, qi 0, ql, qi 0, qi 0, ql, qz, ql, qi 0, qi 0, qz, ql, ql, qi 0, ql, ql, qi 6, .sl 21 0 1 (.k 1), qi 3, qi 5, qz, ql, ql, ql, qi 0, qi 0, qi 0, ql, qi 0, qi 0, ql, qz, ql, qi 0, qi 0, qz, ql, ql, qi 0, ql, ql] 36 false 0 0)], .agg [qi 20, ql, qi 0, qi 0, qz, ql, ql, ql, qi 0, qi 0, qi 0, ql, qi 0, qi 0, ql, qz, ql, qi 0, qi 0, qz, ql, ql, qi 0, ql, .sl 1504 0 2 (.u 0)], 1505, [(1404, qk [qs [97]] 9 true 1 0), (1413, qk [] 33 false 0 0), (1414, qk [] 36 false 0 0), (1419, qk [qs [97]] 9 true 1 0), (1428, qk [] 33 false 0 0), (1429, qk [] 36 false 0 0), (1504, qk [qi 4, .sl 1404 0 1 (.u 0), qi 3, qi 2, qz, ql, ql, ql, qi 0, qi 0, qi 0, ql, qi 0, qi 0, ql, qz, ql, qi 0, qi 0, qz, ql, ql, qi 0, .sl 1413 0 0 (.k 0), .sl 1414 0 0 (.k 0), qi 6, .sl 1419 0 1 (.u 0), qi 3, qi 5, qz, ql, ql, ql, qi 0, qi 0, qi 0, ql, qi 0, qi 0, ql, qz, ql, qi 0, qi 0, qz, ql, ql, qi 0, .sl 1428 0 0 (.k 0), .sl 1429 0 0 (.k 0)] 36 true 25 0)], []⟩
theorem m4_run : memoRun Tryz.prog (tabM []) (evC Tryz.prog (tabM []) 3000) M4 = true := by kernel_rfl
theorem m4_ok {w : World} (hg : Gl w) : MemoOk Tryz.prog w M4 := memo_ok (tabM_ok hg _) (evC_both (tabM_ok hg _) (fun M h => by cases h) 3000).1 m4_run
end Go.Proofs.YtgjpicjkncakkaaGreatDoor
