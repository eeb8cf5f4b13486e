/- The tied card of the law AuditNil, a part of it; printed by a program of this repository (gen/lawcard.py), whose frame follows the kit's UptoLaidToy.lean. -/
import Derived.Test.YtinebnlhelfjcaaGreatDoorPc6
namespace Go.Proofs.YtinebnlhelfjcaaGreatDoor.auditNil
open Go.Sx Go.ChangeShapes Go.WideShapes Go.ChangeAt Go.RowKit
set_option linter.unusedVariables false

theorem proved : Rows.AuditNilCardSaid :=
  Claim7.holds_tied_plain_at .later [] _ _ _ _ said (fun _ h => by cases h) p_wf (fun _ h => by cases h) auditNil_row_tie rfl ⟨rfl, rfl⟩ p_main rfl plain (Go.Cl.goesBy_of nFuncs gf_all rfl)
end Go.Proofs.YtinebnlhelfjcaaGreatDoor.auditNil
