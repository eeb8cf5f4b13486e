/- A known call, by the evaluator (printed by gen/memos.py). -/
import Derived.Test.YtgjpicjkncakkaaGreatDoorMm
namespace Go.Proofs.YtgjpicjkncakkaaGreatDoor
open Go.RowKit Go.Sx Go.Ev
set_option linter.unusedVariables false
set_option linter.unusedSimpArgs false

set_option maxRecDepth 1000000
noncomputable def M6 : Memo := ⟨74, [.agg [qi 20, ql, qi 0, qi 0, qz, ql, ql, ql, qi 0, qi 0, qi 0, ql, qi 0, qi 0, ql, qz, ql, qi 0, qi 0, qz, ql, ql, qi 0, ql, .sl 1188 0 2 (.k 2)]], 1869, [(21, qk [qs [97]] 9 false 0 0), (1188, qk [qi 4, .sl 21 0 1 (.k 1), qi 3, qi 2, qz, ql, ql, ql, qi 0, qi 0, qi 0, ql, qi 0, qi 0, ql, qz, ql, qi 0, qi 0, qz, ql, ql, qi 0, ql, ql, qi 6, .sl 21 0 1 (.k 1), qi 3, qi 5, qz, ql, ql, ql, qi 0, qi 0, qi 0, ql, qi 0, qi 0, ql, qz, ql, qi 0, qi 0, qz, ql, ql, qi 0, ql, ql] 36 false 0 0)], .agg [qi 20, ql, qi 0, qi 0, qz, ql, ql, ql, qi 0, qi 0, qi 0, ql, qi 0, qi 0, ql, qz, ql, qi 0, qi 0, qz, ql, ql, qi 0, ql, .sl 2088 0 2 (.u 0)], 2089, [(1988, qk [qs [97]] 9 true 1 0), (1997, qk [] 33 false 0 0), (1998, qk [] 36 false 0 0), (2003, qk [qs [97]] 9 true 1 0), (2012, qk [] 33 false 0 0), (2013, qk [] 36 false 0 0), (2088, qk [qi 4, .sl 1988 0 1 (.u 0), qi 3, qi 2, qz, ql, ql, ql, qi 0, qi 0, qi 0, ql, qi 0, qi 0, ql, qz, ql, qi 0, qi 0, qz, ql, ql, qi 0, .sl 1997 0 0 (.k 0), .sl 1998 0 0 (.k 0), qi 6, .sl 2003 0 1 (.u 0), qi 3, qi 5, qz, ql, ql, ql, qi 0, qi 0, qi 0, ql, qi 0, qi 0, ql, qz, ql, qi 0, qi 0, qz, ql, ql, qi 0, .sl 2012 0 0 (.k 0), .sl 2013 0 0 (.k 0)] 36 true 25 0)], []⟩
theorem m6_run : memoRun Tryz.prog (tabM []) (evC Tryz.prog (tabM []) 3000) M6 = true := by kernel_rfl
theorem m6_ok {w : World} (hg : Gl w) : MemoOk Tryz.prog w M6 := memo_ok (tabM_ok hg _) (evC_both (tabM_ok hg _) (fun M h => by cases h) 3000).1 m6_run
end Go.Proofs.YtgjpicjkncakkaaGreatDoor
