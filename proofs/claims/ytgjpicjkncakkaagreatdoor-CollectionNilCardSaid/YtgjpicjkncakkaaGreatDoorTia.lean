/- The tie of the row's variables, in pieces (after the given tie, whose pieces stand in one); printed by a program of this repository (gen/light.py). -/
import Derived.Test.YtgjpicjkncakkaaGreatDoorRows
import Derived.LaidByTextLater
import Derived.SevenTiedAt
import Derived.LaidSub
import Derived.LaidOnce
import Derived.ProofKit
namespace Go.Proofs.YtgjpicjkncakkaaGreatDoor
open Go
set_option linter.unusedVariables false
set_option maxRecDepth 1000000
def tieL : List (String × DataW Unit) := [("math/bits.deBruijn32tab", Rows.laid_math_bits_deBruijn32tab), ("math/bits.deBruijn64tab", Rows.laid_math_bits_deBruijn64tab), ("internal/strconv.uint64pow10", Rows.laid_internal_strconv_uint64pow10), ("unicode/utf8.acceptRanges", Rows.laid_unicode_utf8_acceptRanges), ("docstore/expr.names", Rows.laid_docstore_expr_names), ("docstore/predicate.names", Rows.laid_docstore_predicate_names)]
theorem w_1 : Tryz.prog.worded (varsWordLater true) = true := by
  unfold Program.worded
  rw [← Array.any_toList]
  kernel_rfl
theorem w_2 : Tryz.prog.worded (varsWordLater !true) = false := by
  unfold Program.worded
  rw [← Array.any_toList]
  kernel_rfl
theorem w_3 : Tryz.prog.worded rootWordLater = true := by
  unfold Program.worded
  rw [← Array.any_toList]
  kernel_rfl
theorem w_4 : tieL.map (fun x => Tryz.prog.kindOfLater x.1) = ([.data, .data, .data, .data, .data, .data] : List LaidKind).map some := by kernel_rfl
end Go.Proofs.YtgjpicjkncakkaaGreatDoor
