/- The tied card of the law CollectionNil, a part of it; printed by a program of this repository (gen/lawcard.py), whose frame follows the kit's UptoLaidToy.lean. -/
import Derived.Test.YtgjpicjkncakkaaGreatDoorPc0
namespace Go.Proofs.YtgjpicjkncakkaaGreatDoor.collectionNil
open Go.Sx Go.ChangeShapes Go.WideShapes Go.ChangeAt Go.RowKit
set_option linter.unusedVariables false

noncomputable def lw0 (os : Os) : World := World.holding Tryz.prog os ⟨#[], #[], []⟩
noncomputable def lw1 (os : Os) : World :=
  { lw0 os with heap := (lw0 os).heap.modify 6 fun
      | .cells _ t frozen => .cells #[.int .u8 0, .int .u8 1, .int .u8 28, .int .u8 2, .int .u8 29, .int .u8 14, .int .u8 24, .int .u8 3, .int .u8 30, .int .u8 22, .int .u8 20, .int .u8 15, .int .u8 25, .int .u8 17, .int .u8 4, .int .u8 8, .int .u8 31, .int .u8 27, .int .u8 13, .int .u8 23, .int .u8 21, .int .u8 19, .int .u8 16, .int .u8 7, .int .u8 26, .int .u8 12, .int .u8 18, .int .u8 6, .int .u8 11, .int .u8 5, .int .u8 10, .int .u8 9] t frozen
      | o => o }
noncomputable def lw2 (os : Os) : World :=
  { lw1 os with heap := (lw1 os).heap.modify 7 fun
      | .cells _ t frozen => .cells #[.int .u8 0, .int .u8 1, .int .u8 56, .int .u8 2, .int .u8 57, .int .u8 49, .int .u8 28, .int .u8 3, .int .u8 61, .int .u8 58, .int .u8 42, .int .u8 50, .int .u8 38, .int .u8 29, .int .u8 17, .int .u8 4, .int .u8 62, .int .u8 47, .int .u8 59, .int .u8 36, .int .u8 45, .int .u8 43, .int .u8 51, .int .u8 22, .int .u8 53, .int .u8 39, .int .u8 33, .int .u8 30, .int .u8 24, .int .u8 18, .int .u8 12, .int .u8 5, .int .u8 63, .int .u8 55, .int .u8 48, .int .u8 27, .int .u8 60, .int .u8 41, .int .u8 37, .int .u8 16, .int .u8 46, .int .u8 35, .int .u8 44, .int .u8 21, .int .u8 52, .int .u8 32, .int .u8 23, .int .u8 11, .int .u8 54, .int .u8 26, .int .u8 40, .int .u8 15, .int .u8 34, .int .u8 20, .int .u8 31, .int .u8 10, .int .u8 25, .int .u8 14, .int .u8 19, .int .u8 9, .int .u8 13, .int .u8 8, .int .u8 7, .int .u8 6] t frozen
      | o => o }
noncomputable def lw3 (os : Os) : World :=
  { lw2 os with heap := (lw2 os).heap.modify 5 fun
      | .cells _ t frozen => .cells #[.int .u64 1, .int .u64 10, .int .u64 100, .int .u64 1000, .int .u64 10000, .int .u64 100000, .int .u64 1000000, .int .u64 10000000, .int .u64 100000000, .int .u64 1000000000, .int .u64 10000000000, .int .u64 100000000000, .int .u64 1000000000000, .int .u64 10000000000000, .int .u64 100000000000000, .int .u64 1000000000000000, .int .u64 10000000000000000, .int .u64 100000000000000000, .int .u64 1000000000000000000, .int .u64 10000000000000000000] t frozen
      | o => o }
noncomputable def lw4 (os : Os) : World :=
  { lw3 os with heap := (lw3 os).heap.modify 3 fun
      | .cells _ t frozen => .cells #[.int .u8 128, .int .u8 191, .int .u8 160, .int .u8 191, .int .u8 128, .int .u8 159, .int .u8 144, .int .u8 191, .int .u8 128, .int .u8 143, .int .u8 0, .int .u8 0, .int .u8 0, .int .u8 0, .int .u8 0, .int .u8 0, .int .u8 0, .int .u8 0, .int .u8 0, .int .u8 0, .int .u8 0, .int .u8 0, .int .u8 0, .int .u8 0, .int .u8 0, .int .u8 0, .int .u8 0, .int .u8 0, .int .u8 0, .int .u8 0, .int .u8 0, .int .u8 0] t frozen
      | o => o }
noncomputable def lw5 (os : Os) : World :=
  { lw4 os with heap := (lw4 os).heap.modify 4 fun
      | .cells _ t frozen => .cells #[.string ⟨#[]⟩, .string ⟨#[36, 118, 97, 108, 117, 101]⟩, .string ⟨#[]⟩, .string ⟨#[]⟩, .string ⟨#[36, 97, 100, 100]⟩, .string ⟨#[36, 115, 117, 98]⟩, .string ⟨#[36, 109, 117, 108]⟩, .string ⟨#[36, 100, 105, 118]⟩, .string ⟨#[36, 109, 111, 100]⟩, .string ⟨#[36, 99, 109, 112]⟩, .string ⟨#[36, 101, 113]⟩, .string ⟨#[36, 110, 101]⟩, .string ⟨#[36, 103, 116]⟩, .string ⟨#[36, 103, 101]⟩, .string ⟨#[36, 108, 116]⟩, .string ⟨#[36, 108, 101]⟩, .string ⟨#[36, 97, 110, 100]⟩, .string ⟨#[36, 111, 114]⟩, .string ⟨#[36, 110, 111, 116]⟩, .string ⟨#[36, 105, 102]⟩, .string ⟨#[36, 105, 102, 78, 117, 108, 108]⟩, .string ⟨#[36, 99, 111, 110, 99, 97, 116]⟩, .string ⟨#[36, 108, 111, 119, 101, 114]⟩, .string ⟨#[36, 117, 112, 112, 101, 114]⟩, .string ⟨#[36, 108, 101, 110, 103, 116, 104]⟩, .string ⟨#[36, 115, 108, 105, 99, 101]⟩, .string ⟨#[36, 115, 105, 122, 101]⟩, .string ⟨#[36, 97, 116]⟩, .string ⟨#[36, 105, 110]⟩, .string ⟨#[36, 106, 111, 105, 110]⟩, .string ⟨#[36, 114, 101, 118, 101, 114, 115, 101]⟩, .string ⟨#[36, 115, 117, 109]⟩, .string ⟨#[36, 109, 97, 112]⟩, .string ⟨#[36, 102, 105, 108, 116, 101, 114]⟩, .string ⟨#[]⟩, .string ⟨#[]⟩, .string ⟨#[36, 107, 105, 110, 100]⟩, .string ⟨#[36, 109, 101, 114, 103, 101]⟩] t frozen
      | o => o }
noncomputable def lw6 (os : Os) : World :=
  { lw5 os with heap := (lw5 os).heap.modify 0 fun
      | .cells _ t frozen => .cells #[.string ⟨#[]⟩, .string ⟨#[]⟩, .string ⟨#[36, 101, 113]⟩, .string ⟨#[36, 110, 101]⟩, .string ⟨#[36, 103, 116]⟩, .string ⟨#[36, 103, 101]⟩, .string ⟨#[36, 108, 116]⟩, .string ⟨#[36, 108, 101]⟩, .string ⟨#[36, 105, 110]⟩, .string ⟨#[36, 110, 111, 116, 73, 110]⟩, .string ⟨#[36, 101, 120, 105, 115, 116, 115]⟩, .string ⟨#[36, 107, 105, 110, 100]⟩, .string ⟨#[36, 109, 111, 100]⟩, .string ⟨#[36, 115, 105, 122, 101]⟩, .string ⟨#[36, 97, 108, 108]⟩, .string ⟨#[36, 101, 108, 101, 109]⟩, .string ⟨#[36, 112, 114, 101, 102, 105, 120]⟩, .string ⟨#[36, 108, 105, 107, 101]⟩, .string ⟨#[36, 119, 105, 116, 104, 105, 110]⟩, .string ⟨#[36, 119, 111, 114, 100, 115]⟩, .string ⟨#[]⟩, .string ⟨#[]⟩, .string ⟨#[]⟩, .string ⟨#[36, 110, 111, 116]⟩, .string ⟨#[]⟩] t frozen
      | o => o }
noncomputable def lw7 (os : Os) : World :=
  { lw6 os with heap := (lw6 os).heap.modify 2 fun
      | .cells _ t frozen => .cells (Go.Pinned.utf8FirstZ.map (fun (n : Nat) => Value.int .u8 n)).toArray t frozen
      | o => o }
set_option maxRecDepth 100000 in
theorem laid_met (os : Os) : laidMet Tryz.prog Rows.collectionNilRow.laid ((lw7 os).forCall (fun _ _ => 0) ⟨#[], #[], []⟩).memory :=
  laidMet_of_run' 8 (by kernel_rfl) (by kernel_rfl)
end Go.Proofs.YtgjpicjkncakkaaGreatDoor.collectionNil
