/- The tied card of the law CollectionNil, a part of it; printed by a program of this repository (gen/lawcard.py), whose frame follows the kit's UptoLaidToy.lean. -/
import Derived.Test.YtgjpicjkncakkaaGreatDoorPc5
namespace Go.Proofs.YtgjpicjkncakkaaGreatDoor.collectionNil
open Go.Sx Go.ChangeShapes Go.WideShapes Go.ChangeAt Go.RowKit
set_option linter.unusedVariables false

theorem plain (f : FuncId) (fn : Func) (hf : Tryz.pinned.checked.prog.funcNamed "docstore/docstorelaw30.CollectionNil" = some f) (hfn : Tryz.pinned.checked.prog.funcs[f]? = some fn) :
    false = Tryz.pinned.checked.prog.looks [] ∧ ∀ (j : Nat) t, fn.params[j]? = some t → Tryz.pinned.checked.prog.wantsStandIn t = false := by
  obtain rfl : f = 3 := Option.some.inj (fnLaw.symm.trans hf) |>.symm
  obtain rfl : fn = Tryz.f3 := (Option.some.inj (Tryz.func3.symm.trans hfn)).symm
  refine ⟨looksNot, fun j t ht => ?_⟩
  rw [Tryz.params3] at ht
  simp at ht
end Go.Proofs.YtgjpicjkncakkaaGreatDoor.collectionNil
