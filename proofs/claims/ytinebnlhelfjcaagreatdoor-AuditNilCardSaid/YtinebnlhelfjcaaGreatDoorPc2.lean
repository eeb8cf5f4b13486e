/- The tied card of the law AuditNil, a part of it; printed by a program of this repository (gen/lawcard.py), whose frame follows the kit's UptoLaidToy.lean. -/
import Derived.Test.YtinebnlhelfjcaaGreatDoorPc1
namespace Go.Proofs.YtinebnlhelfjcaaGreatDoor.auditNil
open Go.Sx Go.ChangeShapes Go.WideShapes Go.ChangeAt Go.RowKit
set_option linter.unusedVariables false

set_option maxRecDepth 100000 in
theorem reads (os : Os) {H : Type} (enc : TypeId × Value → H) : ∃ places, DataW.whole enc Tryz.prog ((lw5 os).forCall (fun _ _ => 0) ⟨#[], #[], []⟩).memory Tryz.f3.params.toList Rows.auditNilSpec.vars false (#[] : Array Value).toList 8 = some ([], [], places) :=
  ⟨[], by kernel_rfl⟩
end Go.Proofs.YtinebnlhelfjcaaGreatDoor.auditNil
