/- Closed facts of the row auditNil, joined; printed by a program of this repository (gen/light.py). -/
import Derived.Test.YtinebnlhelfjcaaGreatDoorLoa
import Derived.Test.YtinebnlhelfjcaaGreatDoorLob
import Derived.Test.YtinebnlhelfjcaaGreatDoorFact
import Derived.Test.YtinebnlhelfjcaaGreatDoorLy
import Derived.ProofKit
import Derived.WalkKit
import Derived.JoinedOf
import Derived.SizedLaws
import Derived.Deep.DeepHandedRow
namespace Go.Proofs.YtinebnlhelfjcaaGreatDoor.auditNil
open Go
set_option linter.unusedVariables false
set_option maxRecDepth 1000000
theorem closed : joinedFacts Tryz.pinned.checked.prog 3 Tryz.f3 (OpenSpec.ofChange Rows.auditNilSpec).bare Rows.auditNilRow = true := by
  have e_named : (Rows.auditNilRow.named == Tryz.pinned.checked.prog.varsNamed 3) = true := k_named
  have e_inPlace : (Rows.auditNilRow.inPlace == Tryz.pinned.checked.prog.inPlace 3) = true := k_inPlace
  have e_unfollowed : (Rows.auditNilRow.unfollowed == Tryz.pinned.checked.prog.unfollowed 3) = true := k_unfollowed
  have e_recurses : (Rows.auditNilRow.recurses == Tryz.pinned.checked.prog.recurses 3) = true := k_recurses
  have e_laid : laidOutB Tryz.pinned.checked.prog = true := laid
  have e_maps : mapsRowed Tryz.pinned.checked.prog = true := mapsR
  have e_stops : (Tryz.pinned.checked.prog.stops == []) = true := o_stops
  have e_knobs : (Tryz.pinned.checked.prog.stopKnobs == []) = true := o_knobs
  have e_keys : Tryz.pinned.checked.prog.plainKeys = true := keysP
  have e_heard : Tryz.pinned.checked.prog.stopsHeard = true := o_heard
  have e_enter : Tryz.pinned.checked.prog.mayEnter = true := o_enter
  have e_lifts : (Rows.auditNilRow.lifted == Tryz.pinned.checked.prog.liftsFinal) = true := o_lifts
  have e_make : (Tryz.pinned.checked.prog.make == some Rows.auditNilRow.make) = true := o_make
  unfold joinedFacts
  rw [e_named, e_inPlace, e_unfollowed, e_recurses, e_laid, e_maps, e_stops, e_knobs, e_keys, e_heard, e_enter, e_lifts, e_make]
  refine Eq.trans (b := true) ?_ rfl
  kernel_rfl
end Go.Proofs.YtinebnlhelfjcaaGreatDoor.auditNil
