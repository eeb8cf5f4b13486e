/-
  DERIVED. GIVEN WITH THE SEED: THE CARDS: each row of YtgjpicjkncakkaaGreatDoorRows.lean that lists a variable, with what it lists TIED to the program's text (the seventh form; the later family's looks); each row that meets fmt, with fmt's text TOLD by the authors' own Lean function (tested against real Go, not proved from fmt's source: count such statements apart). THE CARD IS WHAT COUNTS. Prove the row's statement (the work); the ties are given (YtgjpicjkncakkaaGreatDoorTie.lean); close each card by the builder's one call (the guide's Derived/Test/ToyasCard.lean, 'card_holds'). Laid BY PROGRAM, IN A SANDBOX (cutbox-door.mjs). By AI agents, Wed Nov 11 2026. No macro, syntax, notation, axiom, sorry.
-/
import Derived.Test.YtgjpicjkncakkaaGreatDoorRows
import GoSem.ClaimSeven
namespace Go.Proofs.YtgjpicjkncakkaaGreatDoor
namespace Rows

/-- THE TIED CARD OF 'docstorelaw30.CollectionNil'. -/
def collectionNilCard : Claim7 := { stood := { row := collectionNilRow, standIns := [], harness := (true, "a0f1698c0b9f26f583953bd4727ae92a7b8b32b1b9435ae1a25a63267bb5ed73"), looks := false }, kinds := [], alts := [], laidByText := true, laidKinds := [.data, .data, .data, .data, .data, .data, .pinned], laidTests := true, laidLooks := .later }
def CollectionNilCardSaid : Prop := Claim7.holds Tryz.pinned (.plain (OpenSpec.ofChange collectionNilSpec)) collectionNilCard

/-- THE SECOND FORM's CARD OF 'docstorelaw30.CollectionNil'. -/
def collectionNilUptoCard : Claim7 := { stood := { row := collectionNilUptoRow, standIns := [], harness := (true, "a0f1698c0b9f26f583953bd4727ae92a7b8b32b1b9435ae1a25a63267bb5ed73"), looks := false }, kinds := [], alts := [], laidByText := true, laidKinds := [.data, .data, .data, .data, .data, .data, .pinned], laidTests := true, laidLooks := .later }
def CollectionNilUptoCardSaid : Prop := Claim7.holds Tryz.pinned (.plain (OpenSpec.upto collectionNilSpec)) collectionNilUptoCard
end Rows
end Go.Proofs.YtgjpicjkncakkaaGreatDoor
