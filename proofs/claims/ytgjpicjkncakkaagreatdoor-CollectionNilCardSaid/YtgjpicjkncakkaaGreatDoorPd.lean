/- Closed facts of the row collectionNil, joined; printed by a program of this repository (gen/light.py). -/
import Derived.Test.YtgjpicjkncakkaaGreatDoorLoa
import Derived.Test.YtgjpicjkncakkaaGreatDoorLob
import Derived.Test.YtgjpicjkncakkaaGreatDoorFact
import Derived.Test.YtgjpicjkncakkaaGreatDoorLy
import Derived.ProofKit
import Derived.WalkKit
import Derived.JoinedOf
import Derived.SizedLaws
import Derived.Deep.DeepHandedRow
namespace Go.Proofs.YtgjpicjkncakkaaGreatDoor.collectionNil
open Go
set_option linter.unusedVariables false
set_option maxRecDepth 1000000
theorem closed : joinedFacts Tryz.pinned.checked.prog 3 Tryz.f3 (OpenSpec.ofChange Rows.collectionNilSpec).bare Rows.collectionNilRow = true := by
  have e_named : (Rows.collectionNilRow.named == Tryz.pinned.checked.prog.varsNamed 3) = true := k_named
  have e_inPlace : (Rows.collectionNilRow.inPlace == Tryz.pinned.checked.prog.inPlace 3) = true := k_inPlace
  have e_unfollowed : (Rows.collectionNilRow.unfollowed == Tryz.pinned.checked.prog.unfollowed 3) = true := k_unfollowed
  have e_recurses : (Rows.collectionNilRow.recurses == Tryz.pinned.checked.prog.recurses 3) = true := k_recurses
  have e_laid : laidOutB Tryz.pinned.checked.prog = true := laid
  have e_maps : mapsRowed Tryz.pinned.checked.prog = true := mapsR
  have e_stops : (Tryz.pinned.checked.prog.stops == []) = true := o_stops
  have e_knobs : (Tryz.pinned.checked.prog.stopKnobs == []) = true := o_knobs
  have e_keys : Tryz.pinned.checked.prog.plainKeys = true := keysP
  have e_heard : Tryz.pinned.checked.prog.stopsHeard = true := o_heard
  have e_enter : Tryz.pinned.checked.prog.mayEnter = true := o_enter
  have e_lifts : (Rows.collectionNilRow.lifted == Tryz.pinned.checked.prog.liftsFinal) = true := o_lifts
  have e_make : (Tryz.pinned.checked.prog.make == some Rows.collectionNilRow.make) = true := o_make
  unfold joinedFacts
  rw [e_named, e_inPlace, e_unfollowed, e_recurses, e_laid, e_maps, e_stops, e_knobs, e_keys, e_heard, e_enter, e_lifts, e_make]
  refine Eq.trans (b := true) ?_ rfl
  kernel_rfl
end Go.Proofs.YtgjpicjkncakkaaGreatDoor.collectionNil
