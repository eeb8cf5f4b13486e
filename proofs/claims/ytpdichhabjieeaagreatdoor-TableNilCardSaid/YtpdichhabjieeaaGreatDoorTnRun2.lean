/- A run of the law by the evaluator (printed by gen/tablenil.py). -/
import Derived.Test.YtpdichhabjieeaaGreatDoorTab
namespace Go.Proofs.YtpdichhabjieeaaGreatDoor
open Go.RowKit Go.Sx Go.Ev
set_option linter.unusedVariables false
set_option linter.unusedSimpArgs false

set_option maxRecDepth 1000000
theorem tn_run2 (b : Value) : trueLog (callF Tryz.prog tab (evC Tryz.prog tab 3000) 3 [.agg (.pl (.int .i64 3) :: .o1 :: .o1 :: .o1 :: .o1 :: .o1 :: .o1 :: .vv b :: List.replicate 32 .o1)] ⟨.l, 0, []⟩) = some [(78, [.vv b])] := by kernel_rfl
end Go.Proofs.YtpdichhabjieeaaGreatDoor
