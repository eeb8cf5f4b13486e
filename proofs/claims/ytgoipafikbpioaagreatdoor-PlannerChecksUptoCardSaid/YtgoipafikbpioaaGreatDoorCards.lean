/-
  DERIVED. GIVEN WITH THE SEED: THE CARDS: each row of YtgoipafikbpioaaGreatDoorRows.lean that lists a variable, with what it lists TIED to the program's text (the seventh form; the later family's looks); each row that meets fmt, with fmt's text TOLD by the authors' own Lean function (tested against real Go, not proved from fmt's source: count such statements apart). THE CARD IS WHAT COUNTS. Prove the row's statement (the work); the ties are given (YtgoipafikbpioaaGreatDoorTie.lean); close each card by the builder's one call (the guide's Derived/Test/ToyasCard.lean, 'card_holds'). Laid BY PROGRAM, IN A SANDBOX (cutbox-door.mjs). By AI agents, Wed Nov 11 2026. No macro, syntax, notation, axiom, sorry.
-/
import Derived.Test.YtgoipafikbpioaaGreatDoorRows
import GoSem.ClaimSeven
namespace Go.Proofs.YtgoipafikbpioaaGreatDoor
namespace Rows

/-- THE TIED CARD OF 'docstorelaw27.PlannerChecks'. -/
def plannerChecksCard : Claim7 := { stood := { row := plannerChecksRow, standIns := [], harness := (true, "a5c87809b6410ef5b73e93f0a1f880f6bac10c4915d2a384a1d4ad620a7a7840"), looks := false }, kinds := [], alts := [], laidByText := true, laidKinds := [.data, .data, .data, .data, .data, .data, .pinned], laidTests := true, laidLooks := .later }
def PlannerChecksCardSaid : Prop := Claim7.holds Tryz.pinned (.plain (OpenSpec.ofChange plannerChecksSpec)) plannerChecksCard

/-- THE SECOND FORM's CARD OF 'docstorelaw27.PlannerChecks'. -/
def plannerChecksUptoCard : Claim7 := { stood := { row := plannerChecksUptoRow, standIns := [], harness := (true, "a5c87809b6410ef5b73e93f0a1f880f6bac10c4915d2a384a1d4ad620a7a7840"), looks := false }, kinds := [], alts := [], laidByText := true, laidKinds := [.data, .data, .data, .data, .data, .data, .pinned], laidTests := true, laidLooks := .later }
def PlannerChecksUptoCardSaid : Prop := Claim7.holds Tryz.pinned (.plain (OpenSpec.upto plannerChecksSpec)) plannerChecksUptoCard
end Rows
end Go.Proofs.YtgoipafikbpioaaGreatDoor
