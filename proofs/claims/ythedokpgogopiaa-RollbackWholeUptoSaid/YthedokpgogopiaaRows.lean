/-
  NARROWER THAN 'FOR EVERY INPUT', by the rows' own cells (each row's printed sentence says how): RollbackCommon: loops · RollbackMeets: loops · RollbackCut: loops · RollbackWhole: loops.
  DERIVED. THE GIVEN ROWS OF THIS SEAT. 4 by the template 'for every input the law returns true; each argument reads behind the call as it read before'; 0 by the template 'total and deterministic' (their statements: YthedokpgogopiaaTotals.lean).
  GIVEN WITH THE SEED: the statements are not yours to turn. If you find one false, say at which input.
  Laid BY PROGRAM, IN A SANDBOX (cutbox-rows.mjs): the forced cells as the released guide's own fill.sh prints them over the translation 4efa1585bf5046bb… (all of the seat's roots in one cut). By AI agents, Wed Nov 11 2026. No macro, syntax, notation, axiom, sorry.
-/
import Derived.Test.YthedokpgogopiaaChecked
import GoSem.Claim
import GoSem.ClaimJoined
import GoSem.ClaimMapViews
import Derived.JoinedTies
import Derived.KernelRfl
namespace Go.Proofs.Ythedokpgogopiaa
/- THE CELL 'sum', in the pinned program and in every row, IS THE sha256 OF THE DUMP (.gsa) THAT YthedokpgogopiaaProg.lean LOADS. Nothing in Lean hashes anything: it is a label: what it is worth is what the hold of that sum in a sandbox is worth. -/
noncomputable def Try.pinned : Pinned := { name := "ythedokpgogopiaa", sum := "4efa1585bf5046bb3e15f790c2f47e02b26b4f74baa26b5faa8f215c262fe0be", checked := Try.checked }
namespace Rows
def none {H : Type} : Left H := { results := [], args := [] }

/-- 'docstorelaw43.RollbackCommon': WHATEVER THE INPUT: true; the input reads as it did. -/
def rollbackCommonSpec : ChangeSpec := { name := "rollbackCommon", fn := fun _ => fun
  | [d1, d2] => { results := [.lit (.bool true)], args := [d1, d2] }
  | _ => none }
def rollbackCommonRow : OpenClaim := { program := "ythedokpgogopiaa", sum := "4efa1585bf5046bb3e15f790c2f47e02b26b4f74baa26b5faa8f215c262fe0be", func := "docstore/docstorelaw43.RollbackCommon", spec := "rollbackCommon", unfollowed := true, recurses := true, loops := true, apart := false }
def RollbackCommonSaid : Prop := rollbackCommonRow.holds Try.pinned (OpenSpec.ofChange rollbackCommonSpec)

/-- ITS FALSE NEIGHBOUR: 'it returns false'. Refute it at one input. -/
def rollbackCommonWrong : ChangeSpec := { name := "rollbackCommon", fn := fun _ => fun
  | [d1, d2] => { results := [.lit (.bool false)], args := [d1, d2] }
  | _ => none }
def RollbackCommonWrongFalsely : Prop := rollbackCommonRow.holds Try.pinned (OpenSpec.ofChange rollbackCommonWrong)

/-- 'docstorelaw43.RollbackMeets': WHATEVER THE INPUT: true; the input reads as it did. -/
def rollbackMeetsSpec : ChangeSpec := { name := "rollbackMeets", fn := fun _ => fun
  | [d1, d2] => { results := [.lit (.bool true)], args := [d1, d2] }
  | _ => none }
def rollbackMeetsRow : OpenClaim := { program := "ythedokpgogopiaa", sum := "4efa1585bf5046bb3e15f790c2f47e02b26b4f74baa26b5faa8f215c262fe0be", func := "docstore/docstorelaw43.RollbackMeets", spec := "rollbackMeets", unfollowed := true, recurses := true, loops := true, apart := false }
def RollbackMeetsSaid : Prop := rollbackMeetsRow.holds Try.pinned (OpenSpec.ofChange rollbackMeetsSpec)

/-- ITS FALSE NEIGHBOUR: 'it returns false'. Refute it at one input. -/
def rollbackMeetsWrong : ChangeSpec := { name := "rollbackMeets", fn := fun _ => fun
  | [d1, d2] => { results := [.lit (.bool false)], args := [d1, d2] }
  | _ => none }
def RollbackMeetsWrongFalsely : Prop := rollbackMeetsRow.holds Try.pinned (OpenSpec.ofChange rollbackMeetsWrong)

/-- 'docstorelaw43.RollbackCut': WHATEVER THE INPUT: true; the input reads as it did. -/
def rollbackCutSpec : ChangeSpec := { name := "rollbackCut", fn := fun _ => fun
  | [d1, d2] => { results := [.lit (.bool true)], args := [d1, d2] }
  | _ => none }
def rollbackCutRow : OpenClaim := { program := "ythedokpgogopiaa", sum := "4efa1585bf5046bb3e15f790c2f47e02b26b4f74baa26b5faa8f215c262fe0be", func := "docstore/docstorelaw43.RollbackCut", spec := "rollbackCut", unfollowed := true, recurses := true, loops := true, apart := false }
def RollbackCutSaid : Prop := rollbackCutRow.holds Try.pinned (OpenSpec.ofChange rollbackCutSpec)

/-- ITS FALSE NEIGHBOUR: 'it returns false'. Refute it at one input. -/
def rollbackCutWrong : ChangeSpec := { name := "rollbackCut", fn := fun _ => fun
  | [d1, d2] => { results := [.lit (.bool false)], args := [d1, d2] }
  | _ => none }
def RollbackCutWrongFalsely : Prop := rollbackCutRow.holds Try.pinned (OpenSpec.ofChange rollbackCutWrong)

/-- 'docstorelaw43.RollbackWhole': WHATEVER THE INPUT: true; the input reads as it did. -/
def rollbackWholeSpec : ChangeSpec := { name := "rollbackWhole", fn := fun _ => fun
  | [d1, d2] => { results := [.lit (.bool true)], args := [d1, d2] }
  | _ => none }
def rollbackWholeRow : OpenClaim := { program := "ythedokpgogopiaa", sum := "4efa1585bf5046bb3e15f790c2f47e02b26b4f74baa26b5faa8f215c262fe0be", func := "docstore/docstorelaw43.RollbackWhole", spec := "rollbackWhole", unfollowed := true, recurses := true, loops := true, apart := false }
def RollbackWholeSaid : Prop := rollbackWholeRow.holds Try.pinned (OpenSpec.ofChange rollbackWholeSpec)

/-- ITS FALSE NEIGHBOUR: 'it returns false'. Refute it at one input. -/
def rollbackWholeWrong : ChangeSpec := { name := "rollbackWhole", fn := fun _ => fun
  | [d1, d2] => { results := [.lit (.bool false)], args := [d1, d2] }
  | _ => none }
def RollbackWholeWrongFalsely : Prop := rollbackWholeRow.holds Try.pinned (OpenSpec.ofChange rollbackWholeWrong)

/- THE SECOND FORM. 'bulk': how many values and letters a reading holds, each counted each time it is reached (what is shared counts as often as it is met; a slice's spare places count too). A statement '..UptoSaid' is the law's where the arguments, and the package variables that the reading takes, are together of bulk at most 1048576: NARROWER than '..Said'. Prove '..Said' where nothing that the law and all that it calls make is longer than what came in: it says more and counts as full. Else prove '..UptoSaid'. A law counts once. -/
mutual
def uptoBulk {H : Type} : DataW H → Nat
  | .lit (.string bytes) => bytes.length + 1
  | .lit _ => 1
  | .nil => 1
  | .ptr d => uptoBulk d + 1
  | .slice elems spare => uptoBulkAll elems + uptoBulkAll spare + 1
  | .agg parts => uptoBulkAll parts + 1
  | .iface _ d => uptoBulk d + 1
  | .map entries => uptoBulkEntries entries + 1
  | .held _ => 1
def uptoBulkAll {H : Type} : List (DataW H) → Nat
  | [] => 0
  | d :: r => uptoBulk d + uptoBulkAll r
def uptoBulkEntries {H : Type} : List (Lit × DataW H) → Nat
  | [] => 0
  | x :: r => uptoBulkEntry x + uptoBulkEntries r
def uptoBulkEntry {H : Type} : Lit × DataW H → Nat
  | (.string bytes, d) => bytes.length + uptoBulk d + 1
  | (_, d) => uptoBulk d + 1
 end
def uptoSmall : (H : Type) → List (DataW H) → Bool := fun _ ds => decide (uptoBulkAll ds ≤ 1048576)
def OpenSpec.upto (s : _root_.Go.ChangeSpec) : _root_.Go.OpenSpec := { _root_.Go.OpenSpec.ofChange s with cond := some uptoSmall }

/-- 'docstorelaw43.RollbackCommon', WHERE WHAT IT READS IS OF BULK AT MOST 1048576: true; the input reads as it did. -/
def rollbackCommonUptoRow : OpenClaim := { program := "ythedokpgogopiaa", sum := "4efa1585bf5046bb3e15f790c2f47e02b26b4f74baa26b5faa8f215c262fe0be", func := "docstore/docstorelaw43.RollbackCommon", spec := "rollbackCommon", unfollowed := true, recurses := true, loops := true, apart := false, narrowed := true }
def RollbackCommonUptoSaid : Prop := rollbackCommonUptoRow.holds Try.pinned (OpenSpec.upto rollbackCommonSpec)

/-- 'docstorelaw43.RollbackMeets', WHERE WHAT IT READS IS OF BULK AT MOST 1048576: true; the input reads as it did. -/
def rollbackMeetsUptoRow : OpenClaim := { program := "ythedokpgogopiaa", sum := "4efa1585bf5046bb3e15f790c2f47e02b26b4f74baa26b5faa8f215c262fe0be", func := "docstore/docstorelaw43.RollbackMeets", spec := "rollbackMeets", unfollowed := true, recurses := true, loops := true, apart := false, narrowed := true }
def RollbackMeetsUptoSaid : Prop := rollbackMeetsUptoRow.holds Try.pinned (OpenSpec.upto rollbackMeetsSpec)

/-- 'docstorelaw43.RollbackCut', WHERE WHAT IT READS IS OF BULK AT MOST 1048576: true; the input reads as it did. -/
def rollbackCutUptoRow : OpenClaim := { program := "ythedokpgogopiaa", sum := "4efa1585bf5046bb3e15f790c2f47e02b26b4f74baa26b5faa8f215c262fe0be", func := "docstore/docstorelaw43.RollbackCut", spec := "rollbackCut", unfollowed := true, recurses := true, loops := true, apart := false, narrowed := true }
def RollbackCutUptoSaid : Prop := rollbackCutUptoRow.holds Try.pinned (OpenSpec.upto rollbackCutSpec)

/-- 'docstorelaw43.RollbackWhole', WHERE WHAT IT READS IS OF BULK AT MOST 1048576: true; the input reads as it did. -/
def rollbackWholeUptoRow : OpenClaim := { program := "ythedokpgogopiaa", sum := "4efa1585bf5046bb3e15f790c2f47e02b26b4f74baa26b5faa8f215c262fe0be", func := "docstore/docstorelaw43.RollbackWhole", spec := "rollbackWhole", unfollowed := true, recurses := true, loops := true, apart := false, narrowed := true }
def RollbackWholeUptoSaid : Prop := rollbackWholeUptoRow.holds Try.pinned (OpenSpec.upto rollbackWholeSpec)

end Rows
end Go.Proofs.Ythedokpgogopiaa
