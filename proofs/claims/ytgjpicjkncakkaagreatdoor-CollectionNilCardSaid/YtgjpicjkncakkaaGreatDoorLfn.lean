/- Two functions' names, in parts; printed by a program of this repository (gen/light.py). -/
import Derived.Test.YtgjpicjkncakkaaGreatDoorLga
import Derived.ProofKit
namespace Go.Proofs.YtgjpicjkncakkaaGreatDoor
open Go.Cl Go.Ev
set_option linter.unusedVariables false
set_option maxRecDepth 1000000
def nmF (P : Program) (s : String) (k i : Nat) : Bool := match P.funcs[i]? with | some f => (f.name == s) == Nat.beq i k | none => false
theorem filter_one {k : Nat} {p : Nat → Bool} : ∀ n, (∀ i, i < n → p i = Nat.beq i k) → (List.range n).filter p = if k < n then [k] else []
  | 0, _ => by simp
  | n + 1, h => by
    rw [List.range_succ, List.filter_append, filter_one n (fun i hi => h i (by omega))]
    have hn := h n (by omega)
    by_cases e : k = n
    · subst e
      have : p k = true := by rw [hn]; exact Nat.beq_refl k
      simp [this]
    · have : p n = false := by
        rw [hn]
        cases hb : Nat.beq n k with
        | false => rfl
        | true => exact absurd (Nat.eq_of_beq_eq_true hb).symm e
      by_cases hk : k < n
      · rw [if_pos hk, if_pos (by omega)]; simp [this]
      · rw [if_neg hk, if_neg (by omega)]; simp [this]
theorem funcNamed_of {P : Program} {s : String} {n k : Nat} (hn : P.funcs.size = n) (h : ∀ i, i < n → nmF P s k i = true) (hk : Nat.blt k n = true) : P.funcNamed s = some k := by
  have e : (List.range P.funcs.size).filter (fun i => (P.funcs[i]?).any (·.name == s)) = [k] := by
    rw [filter_one P.funcs.size (k := k) (fun i hi => ?_), if_pos (by rw [hn]; rw [Nat.blt_eq] at hk; exact hk)]
    have h1 := h i (hn ▸ hi)
    unfold nmF at h1
    rw [Array.getElem?_eq_getElem hi] at h1 ⊢
    simpa using h1
  unfold Program.funcNamed
  rw [e]
theorem nv0 : rAll (nmF Tryz.prog "gosem.cut.vars" 674) 0 48 = true := by kernel_rfl
theorem nv1 : rAll (nmF Tryz.prog "gosem.cut.vars" 674) 48 48 = true := by kernel_rfl
theorem nv2 : rAll (nmF Tryz.prog "gosem.cut.vars" 674) 96 48 = true := by kernel_rfl
theorem nv3 : rAll (nmF Tryz.prog "gosem.cut.vars" 674) 144 48 = true := by kernel_rfl
theorem nv4 : rAll (nmF Tryz.prog "gosem.cut.vars" 674) 192 48 = true := by kernel_rfl
theorem nv5 : rAll (nmF Tryz.prog "gosem.cut.vars" 674) 240 48 = true := by kernel_rfl
theorem nv6 : rAll (nmF Tryz.prog "gosem.cut.vars" 674) 288 48 = true := by kernel_rfl
theorem nv7 : rAll (nmF Tryz.prog "gosem.cut.vars" 674) 336 48 = true := by kernel_rfl
theorem nv8 : rAll (nmF Tryz.prog "gosem.cut.vars" 674) 384 48 = true := by kernel_rfl
theorem nv9 : rAll (nmF Tryz.prog "gosem.cut.vars" 674) 432 48 = true := by kernel_rfl
theorem nv10 : rAll (nmF Tryz.prog "gosem.cut.vars" 674) 480 48 = true := by kernel_rfl
theorem nv11 : rAll (nmF Tryz.prog "gosem.cut.vars" 674) 528 48 = true := by kernel_rfl
theorem nv12 : rAll (nmF Tryz.prog "gosem.cut.vars" 674) 576 48 = true := by kernel_rfl
theorem nv13 : rAll (nmF Tryz.prog "gosem.cut.vars" 674) 624 48 = true := by kernel_rfl
theorem nv14 : rAll (nmF Tryz.prog "gosem.cut.vars" 674) 672 3 = true := by kernel_rfl
theorem nv_all : ∀ i, i < 675 → nmF Tryz.prog "gosem.cut.vars" 674 i = true := rAll_app (rAll_app (rAll_app (rAll_app (rAll_app (rAll_app (rAll_app (rAll_app (rAll_app (rAll_app (rAll_app (rAll_app (rAll_app (rAll_app (rAll_app rAll_none nv0 rfl) nv1 rfl) nv2 rfl) nv3 rfl) nv4 rfl) nv5 rfl) nv6 rfl) nv7 rfl) nv8 rfl) nv9 rfl) nv10 rfl) nv11 rfl) nv12 rfl) nv13 rfl) nv14 rfl
theorem fnVars : Tryz.prog.funcNamed "gosem.cut.vars" = some 674 := funcNamed_of nFuncs nv_all rfl
theorem nl0 : rAll (nmF Tryz.prog "docstore/docstorelaw30.CollectionNil" 3) 0 48 = true := by kernel_rfl
theorem nl1 : rAll (nmF Tryz.prog "docstore/docstorelaw30.CollectionNil" 3) 48 48 = true := by kernel_rfl
theorem nl2 : rAll (nmF Tryz.prog "docstore/docstorelaw30.CollectionNil" 3) 96 48 = true := by kernel_rfl
theorem nl3 : rAll (nmF Tryz.prog "docstore/docstorelaw30.CollectionNil" 3) 144 48 = true := by kernel_rfl
theorem nl4 : rAll (nmF Tryz.prog "docstore/docstorelaw30.CollectionNil" 3) 192 48 = true := by kernel_rfl
theorem nl5 : rAll (nmF Tryz.prog "docstore/docstorelaw30.CollectionNil" 3) 240 48 = true := by kernel_rfl
theorem nl6 : rAll (nmF Tryz.prog "docstore/docstorelaw30.CollectionNil" 3) 288 48 = true := by kernel_rfl
theorem nl7 : rAll (nmF Tryz.prog "docstore/docstorelaw30.CollectionNil" 3) 336 48 = true := by kernel_rfl
theorem nl8 : rAll (nmF Tryz.prog "docstore/docstorelaw30.CollectionNil" 3) 384 48 = true := by kernel_rfl
theorem nl9 : rAll (nmF Tryz.prog "docstore/docstorelaw30.CollectionNil" 3) 432 48 = true := by kernel_rfl
theorem nl10 : rAll (nmF Tryz.prog "docstore/docstorelaw30.CollectionNil" 3) 480 48 = true := by kernel_rfl
theorem nl11 : rAll (nmF Tryz.prog "docstore/docstorelaw30.CollectionNil" 3) 528 48 = true := by kernel_rfl
theorem nl12 : rAll (nmF Tryz.prog "docstore/docstorelaw30.CollectionNil" 3) 576 48 = true := by kernel_rfl
theorem nl13 : rAll (nmF Tryz.prog "docstore/docstorelaw30.CollectionNil" 3) 624 48 = true := by kernel_rfl
theorem nl14 : rAll (nmF Tryz.prog "docstore/docstorelaw30.CollectionNil" 3) 672 3 = true := by kernel_rfl
theorem nl_all : ∀ i, i < 675 → nmF Tryz.prog "docstore/docstorelaw30.CollectionNil" 3 i = true := rAll_app (rAll_app (rAll_app (rAll_app (rAll_app (rAll_app (rAll_app (rAll_app (rAll_app (rAll_app (rAll_app (rAll_app (rAll_app (rAll_app (rAll_app rAll_none nl0 rfl) nl1 rfl) nl2 rfl) nl3 rfl) nl4 rfl) nl5 rfl) nl6 rfl) nl7 rfl) nl8 rfl) nl9 rfl) nl10 rfl) nl11 rfl) nl12 rfl) nl13 rfl) nl14 rfl
theorem fnLaw : Tryz.prog.funcNamed "docstore/docstorelaw30.CollectionNil" = some 3 := funcNamed_of nFuncs nl_all rfl
end Go.Proofs.YtgjpicjkncakkaaGreatDoor
