/- The law returns true, by the evaluator (printed by gen/memos.py). -/
import Derived.Test.YtinebnlhelfjcaaGreatDoorMm18
namespace Go.Proofs.YtinebnlhelfjcaaGreatDoor
open Go.RowKit Go.Sx Go.Ev
set_option linter.unusedVariables false
set_option linter.unusedSimpArgs false

set_option maxRecDepth 1000000
theorem awake_run : trueLog (callF Tryz.prog (tabM [M75]) (evC Tryz.prog (tabM [M75]) 20000) 3 [] ⟨.l, 0, []⟩) = some [] := by kernel_rfl
theorem awake_ok (w : World) (hg : Gl w) : Calls Tryz.prog 3 #[] w (fun e w' => e = .returned (.bool true) ∧ Below w.heap.size w w') := call_true (tabM_ok hg _) (fun M h => by
  simp only [tabM, List.mem_cons, List.not_mem_nil, or_false] at h
  rcases h with rfl
  · exact m75_ok hg) 20000 awake_run
end Go.Proofs.YtinebnlhelfjcaaGreatDoor
