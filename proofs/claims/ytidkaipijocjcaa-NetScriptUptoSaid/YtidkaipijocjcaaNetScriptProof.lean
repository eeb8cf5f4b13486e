/- The statement on the law NetScript; printed by a program of this repository (gen/lawproof.py), whose frame follows the kit's proof-skeleton.mjs. -/
import Derived.Test.YtidkaipijocjcaaNetScr
import Derived.Test.YtidkaipijocjcaaCap
import Derived.Test.YtidkaipijocjcaaBd
import Derived.Test.YtidkaipijocjcaaTypes
import Derived.Test.YtidkaipijocjcaaRows
import Derived.WalkKit
import Derived.ProofKit
import Derived.OpenShut
import Derived.SizedLaws
import Derived.Deep.CondSized
namespace Go.Proofs.Ytidkaipijocjcaa.netScript
open Go.Sx Go.ChangeShapes Go.WideShapes Go.ChangeAt Go.RowKit
set_option linter.unusedVariables false

theorem bulk_up {H : Type} (l : List (DataW H)) : bulkAll l ≤ Rows.uptoBulkAll l :=
  bulks_mono (f := Rows.uptoBulk) (fs := Rows.uptoBulkAll) (fun b => by rw [Rows.uptoBulk]; exact Nat.le_refl _) (fun l => by cases l <;> simp [Rows.uptoBulk]) (by simp [Rows.uptoBulk]) (fun d => by simp [Rows.uptoBulk]) (fun a b => by simp [Rows.uptoBulk])
    (fun a => by simp [Rows.uptoBulk]) (fun t d => by simp [Rows.uptoBulk]) (fun m => by simp [Rows.uptoBulk]) (fun x => by simp [Rows.uptoBulk]) (fun d r => by rw [Rows.uptoBulkAll]; exact Nat.le_refl _) l

set_option maxRecDepth 100000 in
theorem lifted (os : Os) (started : os.Started) (H : Type) (enc : TypeId × Value → H) (F : Stop.Interp) :
    ReturnsInHanded {} Try.checked os 6 .any ((Rows.OpenSpec.upto Rows.netScriptSpec).pre6 enc Try.prog Try.f6 Rows.netScriptUptoRow.domain false) (((Rows.OpenSpec.upto Rows.netScriptSpec).at F).post enc Try.prog Try.f6 false true false false) := by
  refine returnsInHanded_of_cond_sized (C := Try.checked) (s := (Rows.OpenSpec.upto Rows.netScriptSpec)) (k := Rows.uptoSmall) rfl own started (by kernel_rfl) Try.func6
    (OpenSpec.witness (enc := enc) (C := Try.checked) (s := (Rows.OpenSpec.upto Rows.netScriptSpec)) (k := Rows.uptoSmall) rfl false ⟨#[], #[.int .i64 0, .int .i64 0, .slice none 0 0], []⟩ 8 (by kernel_rfl) (by kernel_rfl) (by kernel_rfl)
      (x := ([.lit (.int .i64 0), .lit (.int .i64 0), .nil], [], [])) (by kernel_rfl) rfl (by kernel_rfl)) ?_
  intro W base args ds gs before hval0 hW hcnd hk0 hsz0 _
  have hk1 : bulkAll (ds ++ gs) ≤ 1048576 := by
    have h9 : Rows.uptoBulkAll (ds ++ gs) ≤ 1048576 := of_decide_eq_true hk0
    exact Nat.le_trans (bulk_up _) h9
  have hsz : (DataW.weightsEach Try.prog (Try.f6.params.toList ++ Rows.netScriptSpec.plain.varTypes Try.prog) (ds ++ gs)).all (· ≤ reachBytes) = true := hsz0
  have hval : ∀ (j : Nat) t v, Try.f6.params[j]? = some t → args[j]? = some v → Value.okWide Try.prog W .any base t v := hval0
  have hW' := hW
  obtain ⟨p, q, hA0, hV, rfl, hfz, hnd⟩ := hW
  have hA : DataW.TrodAll enc Try.prog W 0 (fun _ => true) true Try.f6.params.toList args.toList ds p := hA0
  rw [Try.params6] at hA hval hsz
  obtain ⟨v0, vs0, d0, ds0, p0, q0, hargs, rfl, rfl, h0, r0⟩ := trodAll_cons hA
  obtain ⟨v1, vs1, d1, ds1, p1, q1, rfl, rfl, rfl, h1, r1⟩ := trodAll_cons r0
  obtain ⟨v2, vs2, d2, ds2, p2, q2, rfl, rfl, rfl, h2, r2⟩ := trodAll_cons r1
  obtain ⟨rfl, rfl, rfl⟩ := trodAll_nil r2
  obtain rfl : args = #[v0, v1, v2] := by cases args; simp_all
  obtain ⟨rfl, rfl⟩ := trodVars_none hV
  have hwt : WtEach Try.prog [3, 3, 71] [d0, d1, d2] := fun x hx => by
    have := List.all_eq_true.1 hsz x (by exact hx)
    simpa using this
  obtain ⟨wt0, hwt0⟩ := hwt.cons
  obtain ⟨a0, rfl, rfl, rfl, w0⟩ := open_int Try.underlying3 (hval 0 3 v0 rfl rfl) h0
  obtain ⟨wt1, hwt1⟩ := hwt0.cons
  obtain ⟨a1, rfl, rfl, rfl, w1⟩ := open_int Try.underlying3 (hval 1 3 v1 rfl rfl) h1
  obtain ⟨wt2, hwt2⟩ := hwt1.cons
  obtain ⟨a2, n2, c2, rfl⟩ := okWide_slice Try.underlying71 (hval 2 71 v2 rfl rfl)
  obtain ⟨x2, rd2, ft2, sz2⟩ := open_cell tabs_ok (k := .sl 15) h2 rfl wt2 rfl
  obtain ⟨rows2, rfl, b2, fR2⟩ := ft2.sl
  obtain rfl := rd2.slice_len
  have b2 : rows2.length * 112 ≤ 140737488355328 := b2
  simp only [List.append_nil, bulkAll] at hk1
  clear hA0 hval0
  simp only [List.append_nil] at hW'
  refine (netScript_walk a0 a1 rows2 a2 c2 W _ rd2 fR2 (fun r hr => by have h1 := encL_size r; have h2 := szR_mem hr; have h3 := sz2; rw [D.sz] at h3; omega)).mono fun e W' ⟨he, hg⟩ => ?_
  subst he
  exact ⟨_, rfl, post_law (tb := 4) (by first | simpa using hW' | (have h9 := hW'; simp at h9 ⊢; exact h9)) rfl rfl rfl Try.underlying4 laid (by kernel_rfl) hg⟩

theorem proved : Rows.NetScriptUptoSaid :=
  OpenClaim.holds_of_cond 6 Try.f6 rfl rfl rfl rfl rfl rfl rfl ⟨rfl, rfl, rfl, rfl, rfl⟩ rfl rfl rfl rfl rfl (by kernel_rfl) Try.func6 (by kernel_rfl)
    (of_decide_eq_true (by kernel_rfl)) (by unfold Func.isWrapper; first | (rw [if_pos (by decide +kernel)]; kernel_rfl) | (rw [if_neg (by decide +kernel)]; exact ⟨rfl, rfl⟩))
    (fun os started H enc _ F => lifted os started H enc F)
end Go.Proofs.Ytidkaipijocjcaa.netScript
