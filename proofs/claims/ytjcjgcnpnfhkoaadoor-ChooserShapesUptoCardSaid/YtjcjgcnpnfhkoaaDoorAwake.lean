/- The fixed example returns true, whatever the memory, by the evaluator (printed by gen/awake.py). -/
import Derived.Test.YtjcjgcnpnfhkoaaDoorTab
namespace Go.Proofs.YtjcjgcnpnfhkoaaDoor
open Go.RowKit Go.Sx Go.Ev
set_option linter.unusedVariables false
set_option linter.unusedSimpArgs false
set_option maxRecDepth 1000000
theorem awake_run : isTrue (callF Tryd.prog tab (evC Tryd.prog tab 2000) 7 [] ⟨.l, 0, []⟩) = true := by kernel_rfl
theorem awake_ok (w : World) : Calls Tryd.prog 7 #[] w (fun e w' => e = .returned (.bool true) ∧ Below w.heap.size w w') := call_true tab_ok 2000 awake_run w
end Go.Proofs.YtjcjgcnpnfhkoaaDoor
