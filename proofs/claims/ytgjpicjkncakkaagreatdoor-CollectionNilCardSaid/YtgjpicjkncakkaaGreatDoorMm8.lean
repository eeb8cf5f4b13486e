/- A known call, by the evaluator (printed by gen/memos.py). -/
import Derived.Test.YtgjpicjkncakkaaGreatDoorMm3
namespace Go.Proofs.YtgjpicjkncakkaaGreatDoor
open Go.RowKit Go.Sx Go.Ev
set_option linter.unusedVariables false
set_option linter.unusedSimpArgs false

set_option maxRecDepth 1000000
noncomputable def M8 : Memo := ⟨32, [.agg [qi 20, ql, qi 0, qi 0, qz, ql, ql, ql, qi 0, qi 0, qi 0, ql, qi 0, qi 0, ql, qz, ql, qi 0, qi 0, qz, ql, ql, qi 0, ql, .sl 1188 0 2 (.k 2), ql, qi 0, qi 0, qf, ql, qf, ql, ql, qz]], 2316, [(21, qk [qs [97]] 9 false 0 0), (1188, qk [qi 4, .sl 21 0 1 (.k 1), qi 3, qi 2, qz, ql, ql, ql, qi 0, qi 0, qi 0, ql, qi 0, qi 0, ql, qz, ql, qi 0, qi 0, qz, ql, ql, qi 0, ql, ql, qi 6, .sl 21 0 1 (.k 1), qi 3, qi 5, qz, ql, ql, ql, qi 0, qi 0, qi 0, ql, qi 0, qi 0, ql, qz, ql, qi 0, qi 0, qz, ql, ql, qi 0, ql, ql] 36 false 0 0)], qs [50, 48, 32, 48, 32, 48, 32, 48, 32, 48, 32, 48, 32, 48, 32, 48, 32, 48, 32, 48, 32, 48, 32, 48, 32, 48, 32, 48, 32, 48, 32, 48, 32, 48, 32, 48, 32, 50, 32, 52, 32, 49, 32, 49, 32, 97, 51, 32, 48, 32, 48, 32, 48, 32, 48, 32, 48, 32, 48, 32, 48, 32, 48, 32, 48, 32, 48, 32, 48, 32, 48, 32, 48, 32, 48, 32, 48, 32, 48, 32, 54, 32, 49, 32, 49, 32, 97, 51, 32, 48, 32, 48, 32, 48, 32, 48, 32, 48, 32, 48, 32, 48, 32, 48, 32, 48, 32, 48, 32, 48, 32, 48, 32, 48, 32, 48, 32, 48, 32, 48, 32, 48, 32, 48, 32, 48, 32, 48, 32, 48, 32, 48, 32, 48, 32, 48, 32, 48, 32], 2536, [], []⟩
theorem m8_run : memoRun Tryz.prog (tabM [M3]) (evC Tryz.prog (tabM [M3]) 3000) M8 = true := by kernel_rfl
theorem m8_ok {w : World} (hg : Gl w) : MemoOk Tryz.prog w M8 := memo_ok (tabM_ok hg _) (evC_both (tabM_ok hg _) (fun M h => by
  simp only [tabM, List.mem_cons, List.not_mem_nil, or_false] at h
  rcases h with rfl
  · exact m3_ok hg) 3000).1 m8_run
end Go.Proofs.YtgjpicjkncakkaaGreatDoor
