/- The tie of the row's variables, in pieces (after the given tie, whose pieces stand in one); printed by a program of this repository (gen/light.py). -/
import Derived.Test.YtgjpicjkncakkaaGreatDoorTih
import Derived.LaidByTextLater
import Derived.SevenTiedAt
import Derived.LaidSub
import Derived.LaidOnce
import Derived.ProofKit
namespace Go.Proofs.YtgjpicjkncakkaaGreatDoor
open Go
set_option linter.unusedVariables false
set_option maxRecDepth 1000000
noncomputable def memX : World := { heap := heapX, tape := fun _ _ => 0, drawn := 0, os := default, output := #[] }
theorem r_0 : (tieL.filter fun x => x.2.handleName?.isNone) = tieL := by kernel_rfl
theorem r_1 : tieL.map (·.1) = ["math/bits.deBruijn32tab", "math/bits.deBruijn64tab", "internal/strconv.uint64pow10", "unicode/utf8.acceptRanges", "docstore/expr.names", "docstore/predicate.names"] := by kernel_rfl
theorem r_2 : funcsListed tieL = [] := by kernel_rfl
theorem r_3 : (tieL.filter fun x => x.2.handleName?.isSome && x.2.funcsIn?.isNone) = [] := by kernel_rfl
theorem r_4 : (DataW.laidRun Tryz.prog memX 8 ["math/bits.deBruijn32tab", "math/bits.deBruijn64tab", "internal/strconv.uint64pow10", "unicode/utf8.acceptRanges", "docstore/expr.names", "docstore/predicate.names"]).map (·.1) = some tieL := by kernel_rfl
theorem r_5 : (match DataW.laidRun Tryz.prog memX 8 ["math/bits.deBruijn32tab", "math/bits.deBruijn64tab", "internal/strconv.uint64pow10", "unicode/utf8.acceptRanges", "docstore/expr.names", "docstore/predicate.names"] with | some x => nodupBits 65 x.2 0 && laidRowsB Tryz.prog memX x.2 | none => false) = true := by kernel_rfl
theorem w_rest : ((DataW.laidRun Tryz.prog memX 8 ((tieL.filter fun x => x.2.handleName?.isNone).map (·.1))).bind fun x =>
      if nodupBits 65 x.2 0 && laidRowsB Tryz.prog memX x.2 && (tieL.filter fun x => x.2.handleName?.isSome && x.2.funcsIn?.isNone).all (handleAtB Tryz.prog memX)
      then (funcsRun Tryz.prog memX 8 ((funcsListed tieL).map (·.1))).map fun y => (x.1, y) else none) = some (tieL.filter fun x => x.2.handleName?.isNone, (funcsListed tieL).map (·.2.funcsOut)) := by
  rw [r_0, r_1, r_2, r_3]
  have h4 := r_4
  have h5 := r_5
  generalize DataW.laidRun Tryz.prog memX 8 ["math/bits.deBruijn32tab", "math/bits.deBruijn64tab", "internal/strconv.uint64pow10", "unicode/utf8.acceptRanges", "docstore/expr.names", "docstore/predicate.names"] = z at h4 h5 ⊢
  cases z with
  | none => cases h4
  | some x =>
    simp only [Option.map_some, Option.some.injEq] at h4
    simp only at h5
    simp only [Option.bind_some, h5, h4, List.all_nil, Bool.and_true, if_true, List.map_nil, funcsRun, Option.map_some]
theorem door_of {P : Program} {n fuel M fv : Nat} {laid : List (String × DataW Unit)} {os : Os} {tape : Tape} {r : Stepped} {hx : Array Obj} {res : List (String × DataW Unit) × List (DataW (List UInt8))} (hv : varsId P = fv)
    (hr : runN P n (Machine.entering P (World.unlaid P os) tape fv ⟨#[], #[], []⟩) = r) (h1 : isDone r = true) (h2 : endW r = hx)
    (rest : ((DataW.laidRun P { heap := hx, tape := fun _ _ => 0, drawn := 0, os := default, output := #[] } fuel ((laid.filter fun x => x.2.handleName?.isNone).map (·.1))).bind fun x =>
      if nodupBits M x.2 0 && laidRowsB P { heap := hx, tape := fun _ _ => 0, drawn := 0, os := default, output := #[] } x.2 && (laid.filter fun x => x.2.handleName?.isSome && x.2.funcsIn?.isNone).all (handleAtB P { heap := hx, tape := fun _ _ => 0, drawn := 0, os := default, output := #[] })
      then (funcsRun P { heap := hx, tape := fun _ _ => 0, drawn := 0, os := default, output := #[] } fuel ((funcsListed laid).map (·.1))).map fun y => (x.1, y) else none) = some res) : doorLeaves P n fuel M laid os tape = some res := by
  unfold doorLeaves
  rw [hv, hr]
  cases r with
  | next m => cases h1
  | ended e w =>
    cases e with
    | done v =>
      have h3 : w.heap = hx := h2
      have hm : w.memory = { heap := hx, tape := fun _ _ => 0, drawn := 0, os := default, output := #[] } := by
        unfold World.memory
        rw [h3]
      simp only [hm]
      exact rest
    | _ => cases h1
theorem ends_eq (os : Os) (tape : Tape) : runN Tryz.prog 44 (Machine.entering Tryz.prog (World.unlaid Tryz.prog os) tape 674 ⟨#[], #[], []⟩) = endsR os tape := rfl
theorem w_7 : ∀ os tape, doorLeaves Tryz.prog 44 8 65 tieL os tape = some (tieL.filter fun x => x.2.handleName?.isNone, (funcsListed tieL).map (·.2.funcsOut)) := fun os tape =>
  door_of vId (ends_eq os tape) (w_run os tape) (w_heap os tape) w_rest
theorem seatTie1 : Tryz.prog.laidByTextLater tieL [.data, .data, .data, .data, .data, .data] true := Program.laidByTextLater_by_one 44 8 65 w_1 w_2 w_3 w_4 w_5 w_6 w_7
end Go.Proofs.YtgjpicjkncakkaaGreatDoor
