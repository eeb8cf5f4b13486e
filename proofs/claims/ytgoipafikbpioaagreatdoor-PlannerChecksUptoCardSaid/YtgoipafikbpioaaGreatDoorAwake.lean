/- The fixed example returns true, whatever the memory, by the evaluator (printed by gen/awake.py). -/
import Derived.Test.YtgoipafikbpioaaGreatDoorTab
namespace Go.Proofs.YtgoipafikbpioaaGreatDoor
open Go.RowKit Go.Sx Go.Ev
set_option linter.unusedVariables false
set_option linter.unusedSimpArgs false

set_option maxRecDepth 1000000
theorem awake_run : trueLog (callF Tryz.prog tab (evC Tryz.prog tab 3000) 5 [] ⟨.l, 0, []⟩) = some [] := by kernel_rfl
theorem awake_ok (w : World) (hg : Gl w) : Calls Tryz.prog 5 #[] w (fun e w' => e = .returned (.bool true) ∧ Below w.heap.size w w') := call_true (tab_ok hg) 3000 awake_run
end Go.Proofs.YtgoipafikbpioaaGreatDoor
