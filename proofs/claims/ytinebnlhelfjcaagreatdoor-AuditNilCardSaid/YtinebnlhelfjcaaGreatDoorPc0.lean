/- The tied card of the law AuditNil; printed by a program of this repository (gen/lawcard.py), whose frame follows the kit's UptoLaidToy.lean. -/
import Derived.Test.YtinebnlhelfjcaaGreatDoorNilCond
import Derived.Test.YtinebnlhelfjcaaGreatDoorAwake
import Derived.Test.YtinebnlhelfjcaaGreatDoorCalc
import Derived.Test.YtinebnlhelfjcaaGreatDoorTypes
import Derived.Test.YtinebnlhelfjcaaGreatDoorTie2
import Derived.Test.YtinebnlhelfjcaaGreatDoorLgb
import Derived.Test.YtinebnlhelfjcaaGreatDoorPb
import Derived.Test.YtinebnlhelfjcaaGreatDoorPa
import Derived.Test.YtinebnlhelfjcaaGreatDoorPd
import Derived.Test.YtinebnlhelfjcaaGreatDoorCards
import Derived.WalkKit
import Derived.ProofKit
import Derived.OpenShut
import Derived.SizedLaws
import Derived.Deep.DeepHandedRow
import Derived.Lib.LaidTab
namespace Go.Proofs.YtinebnlhelfjcaaGreatDoor.auditNil
open Go.Sx Go.ChangeShapes Go.WideShapes Go.ChangeAt Go.RowKit
set_option linter.unusedVariables false

set_option maxRecDepth 100000 in
theorem contract (H : Type) (enc : TypeId × Value → H) (W : World) (base : Nat) (args : Array Value) (ds gs : List (DataW H)) (before : List MemPlace)
    (hval : ∀ (j : Nat) t v, Tryz.f3.params[j]? = some t → args[j]? = some v → Value.okWide Tryz.prog W .any base t v)
    (hW : DataW.Whole enc Tryz.prog Tryz.f3.params.toList Rows.auditNilSpec.vars false W args.toList ds gs before)
    (hsz : (DataW.weightsEach Tryz.prog (Tryz.f3.params.toList ++ Rows.auditNilSpec.plain.varTypes Tryz.prog) (ds ++ gs)).all (· ≤ reachBytes) = true) (hL : laidMetH Tryz.prog Rows.auditNilRow.laid W) (hk : True) :
    Calls Tryz.prog 3 args W fun e W' => ∃ v, e = .returned v ∧ Rows.auditNilSpec.post enc Tryz.prog Tryz.f3 false true false false W args v W' := by
  have hW' := hW
  obtain ⟨p, q, hA0, hV, rfl, hfz, hnd⟩ := hW
  have hA : DataW.TrodAll enc Tryz.prog W 0 (fun _ => true) true Tryz.f3.params.toList args.toList ds p := hA0
  rw [Tryz.params3] at hA hval hsz
  obtain ⟨hargs0, rfl, rfl⟩ := trodAll_nil hA
  obtain rfl : args = #[] := Array.toList_inj.1 (by simpa using hargs0)
  obtain ⟨rfl, rfl⟩ := trodVars_none hV
  have hwt : WtEach Tryz.prog [] [] := fun x hx => by
    have := List.all_eq_true.1 hsz x (by exact hx)
    simpa using this
  clear hA0
  simp only [List.append_nil] at hW'
  have hgl := gl_ok hL
  refine (awake_ok W hgl).mono fun e W' ⟨he, hg⟩ => ?_
  subst he
  exact ⟨_, rfl, post_law (tb := 4) (by simpa using hW') rfl rfl rfl Tryz.underlying4 laid (by kernel_rfl) hg⟩

end Go.Proofs.YtinebnlhelfjcaaGreatDoor.auditNil
