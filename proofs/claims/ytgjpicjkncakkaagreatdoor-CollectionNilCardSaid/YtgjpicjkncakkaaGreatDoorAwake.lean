/- The law returns true, by the evaluator (printed by gen/memos.py). -/
import Derived.Test.YtgjpicjkncakkaaGreatDoorMm0
import Derived.Test.YtgjpicjkncakkaaGreatDoorMm10
import Derived.Test.YtgjpicjkncakkaaGreatDoorMm12
import Derived.Test.YtgjpicjkncakkaaGreatDoorMm16
namespace Go.Proofs.YtgjpicjkncakkaaGreatDoor
open Go.RowKit Go.Sx Go.Ev
set_option linter.unusedVariables false
set_option linter.unusedSimpArgs false

set_option maxRecDepth 1000000
theorem awake_run : trueLog (callF Tryz.prog (tabM [M0, M10, M12, M16]) (evC Tryz.prog (tabM [M0, M10, M12, M16]) 3000) 3 [] ⟨.l, 0, []⟩) = some [] := by kernel_rfl
theorem awake_ok (w : World) (hg : Gl w) : Calls Tryz.prog 3 #[] w (fun e w' => e = .returned (.bool true) ∧ Below w.heap.size w w') := call_true (tabM_ok hg _) (fun M h => by
  simp only [tabM, List.mem_cons, List.not_mem_nil, or_false] at h
  rcases h with rfl | rfl | rfl | rfl
  · exact m0_ok hg
  · exact m10_ok hg
  · exact m12_ok hg
  · exact m16_ok hg) 3000 awake_run
end Go.Proofs.YtgjpicjkncakkaaGreatDoor
