/-
  DERIVED. GIVEN WITH THE SEED: THE CARDS: each row of YtjcjgcnpnfhkoaaDoorRows.lean that lists a variable, with what it lists TIED to the program's text (the seventh form; the later family's looks); each row that meets fmt, with fmt's text TOLD by the authors' own Lean function (tested against real Go, not proved from fmt's source: count such statements apart). THE CARD IS WHAT COUNTS. Prove the row's statement (the work); the ties are given (YtjcjgcnpnfhkoaaDoorTie.lean); close each card by the builder's one call (the guide's Derived/Test/ToyasCard.lean, 'card_holds'). Laid BY PROGRAM, IN A SANDBOX (cutbox-door.mjs). By AI agents, Wed Nov 11 2026. No macro, syntax, notation, axiom, sorry.
-/
import Derived.Test.YtjcjgcnpnfhkoaaDoorRows
import GoSem.ClaimSeven
namespace Go.Proofs.YtjcjgcnpnfhkoaaDoor
namespace Rows

/-- THE TIED CARD OF 'docstorelaw29.ChooserShapes'. -/
def chooserShapesCard : Claim7 := { stood := { row := chooserShapesRow, standIns := [], harness := (true, "4b9d69001ae296638d6b9c66ab5fe3a7d2c2b41260d4c35f7c61e20ecb484117"), looks := false }, kinds := [], alts := [], laidByText := true, laidKinds := [.data, .data, .data], laidTests := true, laidLooks := .later }
def ChooserShapesCardSaid : Prop := Claim7.holds Tryd.pinned (.plain (OpenSpec.ofChange chooserShapesSpec)) chooserShapesCard

/-- THE TIED CARD OF 'docstorelaw29.ChooserBests'. -/
def chooserBestsCard : Claim7 := { stood := { row := chooserBestsRow, standIns := [], harness := (true, "4b9d69001ae296638d6b9c66ab5fe3a7d2c2b41260d4c35f7c61e20ecb484117"), looks := false }, kinds := [], alts := [], laidByText := true, laidKinds := [.data, .data, .data], laidTests := true, laidLooks := .later }
def ChooserBestsCardSaid : Prop := Claim7.holds Tryd.pinned (.plain (OpenSpec.ofChange chooserBestsSpec)) chooserBestsCard

/-- THE TIED CARD OF 'docstorelaw29.ChooserYields'. -/
def chooserYieldsCard : Claim7 := { stood := { row := chooserYieldsRow, standIns := [], harness := (true, "4b9d69001ae296638d6b9c66ab5fe3a7d2c2b41260d4c35f7c61e20ecb484117"), looks := false }, kinds := [], alts := [], laidByText := true, laidKinds := [.data, .data, .data], laidTests := true, laidLooks := .later }
def ChooserYieldsCardSaid : Prop := Claim7.holds Tryd.pinned (.plain (OpenSpec.ofChange chooserYieldsSpec)) chooserYieldsCard

/-- THE SECOND FORM's CARD OF 'docstorelaw29.ChooserShapes'. -/
def chooserShapesUptoCard : Claim7 := { stood := { row := chooserShapesUptoRow, standIns := [], harness := (true, "4b9d69001ae296638d6b9c66ab5fe3a7d2c2b41260d4c35f7c61e20ecb484117"), looks := false }, kinds := [], alts := [], laidByText := true, laidKinds := [.data, .data, .data], laidTests := true, laidLooks := .later }
def ChooserShapesUptoCardSaid : Prop := Claim7.holds Tryd.pinned (.plain (OpenSpec.upto chooserShapesSpec)) chooserShapesUptoCard

/-- THE SECOND FORM's CARD OF 'docstorelaw29.ChooserBests'. -/
def chooserBestsUptoCard : Claim7 := { stood := { row := chooserBestsUptoRow, standIns := [], harness := (true, "4b9d69001ae296638d6b9c66ab5fe3a7d2c2b41260d4c35f7c61e20ecb484117"), looks := false }, kinds := [], alts := [], laidByText := true, laidKinds := [.data, .data, .data], laidTests := true, laidLooks := .later }
def ChooserBestsUptoCardSaid : Prop := Claim7.holds Tryd.pinned (.plain (OpenSpec.upto chooserBestsSpec)) chooserBestsUptoCard

/-- THE SECOND FORM's CARD OF 'docstorelaw29.ChooserYields'. -/
def chooserYieldsUptoCard : Claim7 := { stood := { row := chooserYieldsUptoRow, standIns := [], harness := (true, "4b9d69001ae296638d6b9c66ab5fe3a7d2c2b41260d4c35f7c61e20ecb484117"), looks := false }, kinds := [], alts := [], laidByText := true, laidKinds := [.data, .data, .data], laidTests := true, laidLooks := .later }
def ChooserYieldsUptoCardSaid : Prop := Claim7.holds Tryd.pinned (.plain (OpenSpec.upto chooserYieldsSpec)) chooserYieldsUptoCard
end Rows
end Go.Proofs.YtjcjgcnpnfhkoaaDoor
