/-
  NARROWER THAN 'FOR EVERY INPUT', by the rows' own cells (each row's printed sentence says how): NetDelivers: loops · NetScript: loops · NetClear: loops.
  DERIVED. THE GIVEN ROWS OF THIS SEAT. 5 by the template 'for every input the law returns true; each argument reads behind the call as it read before'; 0 by the template 'total and deterministic' (their statements: YtidkaipijocjcaaTotals.lean).
  GIVEN WITH THE SEED: the statements are not yours to turn. If you find one false, say at which input.
  Laid BY PROGRAM, IN A SANDBOX (cutbox-rows.mjs): the forced cells as the released guide's own fill.sh prints them over the translation 01cbd6b8321f4daa… (all of the seat's roots in one cut). By AI agents, Wed Nov 11 2026. No macro, syntax, notation, axiom, sorry.
-/
import Derived.Test.YtidkaipijocjcaaChecked
import GoSem.Claim
import GoSem.ClaimJoined
import GoSem.ClaimMapViews
import Derived.JoinedTies
import Derived.KernelRfl
namespace Go.Proofs.Ytidkaipijocjcaa
/- THE CELL 'sum', in the pinned program and in every row, IS THE sha256 OF THE DUMP (.gsa) THAT YtidkaipijocjcaaProg.lean LOADS. Nothing in Lean hashes anything: it is a label: what it is worth is what the hold of that sum in a sandbox is worth. -/
noncomputable def Try.pinned : Pinned := { name := "ytidkaipijocjcaa", sum := "01cbd6b8321f4daac81f28ca110e1d0894367159f44df060a0a170606d640702", checked := Try.checked }
namespace Rows
def none {H : Type} : Left H := { results := [], args := [] }

/-- 'docstorelaw46.NetLent': WHATEVER THE INPUT: true; the input reads as it did. -/
def netLentSpec : ChangeSpec := { name := "netLent", fn := fun _ => fun
  | [d] => { results := [.lit (.bool true)], args := [d] }
  | _ => none }
def netLentRow : OpenClaim := { program := "ytidkaipijocjcaa", sum := "01cbd6b8321f4daac81f28ca110e1d0894367159f44df060a0a170606d640702", func := "docstore/docstorelaw46.NetLent", spec := "netLent", recurses := true, apart := false }
def NetLentSaid : Prop := netLentRow.holds Try.pinned (OpenSpec.ofChange netLentSpec)

/-- ITS FALSE NEIGHBOUR: 'it returns false'. Refute it at one input. -/
def netLentWrong : ChangeSpec := { name := "netLent", fn := fun _ => fun
  | [d] => { results := [.lit (.bool false)], args := [d] }
  | _ => none }
def NetLentWrongFalsely : Prop := netLentRow.holds Try.pinned (OpenSpec.ofChange netLentWrong)

/-- 'docstorelaw46.NetCut': WHATEVER THE INPUT: true; the input reads as it did. -/
def netCutSpec : ChangeSpec := { name := "netCut", fn := fun _ => fun
  | [d1, d2, d3, d4, d5, d6] => { results := [.lit (.bool true)], args := [d1, d2, d3, d4, d5, d6] }
  | _ => none }
def netCutRow : OpenClaim := { program := "ytidkaipijocjcaa", sum := "01cbd6b8321f4daac81f28ca110e1d0894367159f44df060a0a170606d640702", func := "docstore/docstorelaw46.NetCut", spec := "netCut", unfollowed := true, recurses := true, apart := false }
def NetCutSaid : Prop := netCutRow.holds Try.pinned (OpenSpec.ofChange netCutSpec)

/-- ITS FALSE NEIGHBOUR: 'it returns false'. Refute it at one input. -/
def netCutWrong : ChangeSpec := { name := "netCut", fn := fun _ => fun
  | [d1, d2, d3, d4, d5, d6] => { results := [.lit (.bool false)], args := [d1, d2, d3, d4, d5, d6] }
  | _ => none }
def NetCutWrongFalsely : Prop := netCutRow.holds Try.pinned (OpenSpec.ofChange netCutWrong)

/-- 'docstorelaw46.NetDelivers': WHATEVER THE INPUT: true; the input reads as it did. -/
def netDeliversSpec : ChangeSpec := { name := "netDelivers", fn := fun _ => fun
  | [d1, d2] => { results := [.lit (.bool true)], args := [d1, d2] }
  | _ => none }
def netDeliversRow : OpenClaim := { program := "ytidkaipijocjcaa", sum := "01cbd6b8321f4daac81f28ca110e1d0894367159f44df060a0a170606d640702", func := "docstore/docstorelaw46.NetDelivers", spec := "netDelivers", unfollowed := true, recurses := true, loops := true, apart := false }
def NetDeliversSaid : Prop := netDeliversRow.holds Try.pinned (OpenSpec.ofChange netDeliversSpec)

/-- ITS FALSE NEIGHBOUR: 'it returns false'. Refute it at one input. -/
def netDeliversWrong : ChangeSpec := { name := "netDelivers", fn := fun _ => fun
  | [d1, d2] => { results := [.lit (.bool false)], args := [d1, d2] }
  | _ => none }
def NetDeliversWrongFalsely : Prop := netDeliversRow.holds Try.pinned (OpenSpec.ofChange netDeliversWrong)

/-- 'docstorelaw46.NetScript': WHATEVER THE INPUT: true; the input reads as it did. -/
def netScriptSpec : ChangeSpec := { name := "netScript", fn := fun _ => fun
  | [d1, d2, d3] => { results := [.lit (.bool true)], args := [d1, d2, d3] }
  | _ => none }
def netScriptRow : OpenClaim := { program := "ytidkaipijocjcaa", sum := "01cbd6b8321f4daac81f28ca110e1d0894367159f44df060a0a170606d640702", func := "docstore/docstorelaw46.NetScript", spec := "netScript", unfollowed := true, recurses := true, loops := true, apart := false }
def NetScriptSaid : Prop := netScriptRow.holds Try.pinned (OpenSpec.ofChange netScriptSpec)

/-- ITS FALSE NEIGHBOUR: 'it returns false'. Refute it at one input. -/
def netScriptWrong : ChangeSpec := { name := "netScript", fn := fun _ => fun
  | [d1, d2, d3] => { results := [.lit (.bool false)], args := [d1, d2, d3] }
  | _ => none }
def NetScriptWrongFalsely : Prop := netScriptRow.holds Try.pinned (OpenSpec.ofChange netScriptWrong)

/-- 'docstorelaw46.NetClear': WHATEVER THE INPUT: true; the input reads as it did. -/
def netClearSpec : ChangeSpec := { name := "netClear", fn := fun _ => fun
  | [d1, d2] => { results := [.lit (.bool true)], args := [d1, d2] }
  | _ => none }
def netClearRow : OpenClaim := { program := "ytidkaipijocjcaa", sum := "01cbd6b8321f4daac81f28ca110e1d0894367159f44df060a0a170606d640702", func := "docstore/docstorelaw46.NetClear", spec := "netClear", unfollowed := true, recurses := true, loops := true, apart := false }
def NetClearSaid : Prop := netClearRow.holds Try.pinned (OpenSpec.ofChange netClearSpec)

/-- ITS FALSE NEIGHBOUR: 'it returns false'. Refute it at one input. -/
def netClearWrong : ChangeSpec := { name := "netClear", fn := fun _ => fun
  | [d1, d2] => { results := [.lit (.bool false)], args := [d1, d2] }
  | _ => none }
def NetClearWrongFalsely : Prop := netClearRow.holds Try.pinned (OpenSpec.ofChange netClearWrong)

/- THE SECOND FORM. 'bulk': how many values and letters a reading holds, each counted each time it is reached (what is shared counts as often as it is met; a slice's spare places count too). A statement '..UptoSaid' is the law's where the arguments, and the package variables that the reading takes, are together of bulk at most 1048576: NARROWER than '..Said'. Prove '..Said' where nothing that the law and all that it calls make is longer than what came in: it says more and counts as full. Else prove '..UptoSaid'. A law counts once. -/
mutual
def uptoBulk {H : Type} : DataW H → Nat
  | .lit (.string bytes) => bytes.length + 1
  | .lit _ => 1
  | .nil => 1
  | .ptr d => uptoBulk d + 1
  | .slice elems spare => uptoBulkAll elems + uptoBulkAll spare + 1
  | .agg parts => uptoBulkAll parts + 1
  | .iface _ d => uptoBulk d + 1
  | .map entries => uptoBulkEntries entries + 1
  | .held _ => 1
def uptoBulkAll {H : Type} : List (DataW H) → Nat
  | [] => 0
  | d :: r => uptoBulk d + uptoBulkAll r
def uptoBulkEntries {H : Type} : List (Lit × DataW H) → Nat
  | [] => 0
  | x :: r => uptoBulkEntry x + uptoBulkEntries r
def uptoBulkEntry {H : Type} : Lit × DataW H → Nat
  | (.string bytes, d) => bytes.length + uptoBulk d + 1
  | (_, d) => uptoBulk d + 1
 end
def uptoSmall : (H : Type) → List (DataW H) → Bool := fun _ ds => decide (uptoBulkAll ds ≤ 1048576)
def OpenSpec.upto (s : _root_.Go.ChangeSpec) : _root_.Go.OpenSpec := { _root_.Go.OpenSpec.ofChange s with cond := some uptoSmall }

/-- 'docstorelaw46.NetLent', WHERE WHAT IT READS IS OF BULK AT MOST 1048576: true; the input reads as it did. -/
def netLentUptoRow : OpenClaim := { program := "ytidkaipijocjcaa", sum := "01cbd6b8321f4daac81f28ca110e1d0894367159f44df060a0a170606d640702", func := "docstore/docstorelaw46.NetLent", spec := "netLent", recurses := true, apart := false, narrowed := true }
def NetLentUptoSaid : Prop := netLentUptoRow.holds Try.pinned (OpenSpec.upto netLentSpec)

/-- 'docstorelaw46.NetCut', WHERE WHAT IT READS IS OF BULK AT MOST 1048576: true; the input reads as it did. -/
def netCutUptoRow : OpenClaim := { program := "ytidkaipijocjcaa", sum := "01cbd6b8321f4daac81f28ca110e1d0894367159f44df060a0a170606d640702", func := "docstore/docstorelaw46.NetCut", spec := "netCut", unfollowed := true, recurses := true, apart := false, narrowed := true }
def NetCutUptoSaid : Prop := netCutUptoRow.holds Try.pinned (OpenSpec.upto netCutSpec)

/-- 'docstorelaw46.NetDelivers', WHERE WHAT IT READS IS OF BULK AT MOST 1048576: true; the input reads as it did. -/
def netDeliversUptoRow : OpenClaim := { program := "ytidkaipijocjcaa", sum := "01cbd6b8321f4daac81f28ca110e1d0894367159f44df060a0a170606d640702", func := "docstore/docstorelaw46.NetDelivers", spec := "netDelivers", unfollowed := true, recurses := true, loops := true, apart := false, narrowed := true }
def NetDeliversUptoSaid : Prop := netDeliversUptoRow.holds Try.pinned (OpenSpec.upto netDeliversSpec)

/-- 'docstorelaw46.NetScript', WHERE WHAT IT READS IS OF BULK AT MOST 1048576: true; the input reads as it did. -/
def netScriptUptoRow : OpenClaim := { program := "ytidkaipijocjcaa", sum := "01cbd6b8321f4daac81f28ca110e1d0894367159f44df060a0a170606d640702", func := "docstore/docstorelaw46.NetScript", spec := "netScript", unfollowed := true, recurses := true, loops := true, apart := false, narrowed := true }
def NetScriptUptoSaid : Prop := netScriptUptoRow.holds Try.pinned (OpenSpec.upto netScriptSpec)

/-- 'docstorelaw46.NetClear', WHERE WHAT IT READS IS OF BULK AT MOST 1048576: true; the input reads as it did. -/
def netClearUptoRow : OpenClaim := { program := "ytidkaipijocjcaa", sum := "01cbd6b8321f4daac81f28ca110e1d0894367159f44df060a0a170606d640702", func := "docstore/docstorelaw46.NetClear", spec := "netClear", unfollowed := true, recurses := true, loops := true, apart := false, narrowed := true }
def NetClearUptoSaid : Prop := netClearUptoRow.holds Try.pinned (OpenSpec.upto netClearSpec)

end Rows
end Go.Proofs.Ytidkaipijocjcaa
