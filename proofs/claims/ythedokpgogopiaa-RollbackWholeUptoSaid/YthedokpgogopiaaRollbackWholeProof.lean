/- The statement on the law RollbackWhole; printed by a program of this repository (gen/lawproof.py), whose frame follows the kit's proof-skeleton.mjs. -/
import Derived.Test.YthedokpgogopiaaRbWhole
import Derived.Test.YthedokpgogopiaaCap
import Derived.Test.YthedokpgogopiaaTypes
import Derived.Test.YthedokpgogopiaaRows
import Derived.WalkKit
import Derived.ProofKit
import Derived.OpenShut
import Derived.SizedLaws
import Derived.Deep.CondSized
namespace Go.Proofs.Ythedokpgogopiaa.rollbackWhole
open Go.Sx Go.ChangeShapes Go.WideShapes Go.ChangeAt Go.RowKit
set_option linter.unusedVariables false

theorem bulk_up {H : Type} (l : List (DataW H)) : bulkAll l ≤ Rows.uptoBulkAll l :=
  bulks_mono (f := Rows.uptoBulk) (fs := Rows.uptoBulkAll) (fun b => by rw [Rows.uptoBulk]; exact Nat.le_refl _) (fun l => by cases l <;> simp [Rows.uptoBulk]) (by simp [Rows.uptoBulk]) (fun d => by simp [Rows.uptoBulk]) (fun a b => by simp [Rows.uptoBulk])
    (fun a => by simp [Rows.uptoBulk]) (fun t d => by simp [Rows.uptoBulk]) (fun m => by simp [Rows.uptoBulk]) (fun x => by simp [Rows.uptoBulk]) (fun d r => by rw [Rows.uptoBulkAll]; exact Nat.le_refl _) l

set_option maxRecDepth 100000 in
theorem lifted (os : Os) (started : os.Started) (H : Type) (enc : TypeId × Value → H) (F : Stop.Interp) :
    ReturnsInHanded {} Try.checked os 6 .any ((Rows.OpenSpec.upto Rows.rollbackWholeSpec).pre6 enc Try.prog Try.f6 Rows.rollbackWholeUptoRow.domain false) (((Rows.OpenSpec.upto Rows.rollbackWholeSpec).at F).post enc Try.prog Try.f6 false true false false) := by
  refine returnsInHanded_of_cond_sized (C := Try.checked) (s := (Rows.OpenSpec.upto Rows.rollbackWholeSpec)) (k := Rows.uptoSmall) rfl own started (by kernel_rfl) Try.func6
    (OpenSpec.witness (enc := enc) (C := Try.checked) (s := (Rows.OpenSpec.upto Rows.rollbackWholeSpec)) (k := Rows.uptoSmall) rfl false ⟨#[], #[.agg #[.int .i64 0, .int .i64 0, .int .i64 0, .int .i64 0, .int .i64 0, .int .i64 0, .int .i64 0, .int .i64 0, .slice none 0 0, .int .i64 0, .slice none 0 0, .slice none 0 0], .int .i64 0], []⟩ 8 (by kernel_rfl) (by kernel_rfl) (by kernel_rfl)
      (x := ([.agg [.lit (.int .i64 0), .lit (.int .i64 0), .lit (.int .i64 0), .lit (.int .i64 0), .lit (.int .i64 0), .lit (.int .i64 0), .lit (.int .i64 0), .lit (.int .i64 0), .nil, .lit (.int .i64 0), .nil, .nil], .lit (.int .i64 0)], [], [])) (by kernel_rfl) rfl (by kernel_rfl)) ?_
  intro W base args ds gs before hval0 hW hcnd hk0 hsz0 _
  have hk1 : bulkAll (ds ++ gs) ≤ 1048576 := by
    have h9 : Rows.uptoBulkAll (ds ++ gs) ≤ 1048576 := of_decide_eq_true hk0
    exact Nat.le_trans (bulk_up _) h9
  have hsz : (DataW.weightsEach Try.prog (Try.f6.params.toList ++ Rows.rollbackWholeSpec.plain.varTypes Try.prog) (ds ++ gs)).all (· ≤ reachBytes) = true := hsz0
  have hval : ∀ (j : Nat) t v, Try.f6.params[j]? = some t → args[j]? = some v → Value.okWide Try.prog W .any base t v := hval0
  have hW' := hW
  obtain ⟨p, q, hA0, hV, rfl, hfz, hnd⟩ := hW
  have hA : DataW.TrodAll enc Try.prog W 0 (fun _ => true) true Try.f6.params.toList args.toList ds p := hA0
  rw [Try.params6] at hA hval hsz
  obtain ⟨v0, vs0, d0, ds0, p0, q0, hargs, rfl, rfl, h0, r0⟩ := trodAll_cons hA
  obtain ⟨v1, vs1, d1, ds1, p1, q1, rfl, rfl, rfl, h1, r1⟩ := trodAll_cons r0
  obtain ⟨rfl, rfl, rfl⟩ := trodAll_nil r1
  obtain rfl : args = #[v0, v1] := by cases args; simp_all
  obtain ⟨rfl, rfl⟩ := trodVars_none hV
  have hwt : WtEach Try.prog [59, 3] [d0, d1] := fun x hx => by
    have := List.all_eq_true.1 hsz x (by exact hx)
    simpa using this
  obtain ⟨wt0, hwt⟩ := hwt.cons
  obtain ⟨cs0, rfl, hcs0⟩ := okWide_struct Try.underlying59 (hval 0 59 v0 rfl rfl)
  obtain ⟨fu0, ho0⟩ := h0
  obtain ⟨xs0, rd0, ft0, sz0⟩ := open_trod tabs_ok fu0 59 _ _ d0 p0 ho0 rfl wt0
  obtain ⟨wt1, hwt⟩ := hwt.cons
  obtain ⟨a1, rfl, rfl, rfl, w1⟩ := open_int Try.underlying3 (hval 1 3 v1 rfl rfl) h1
  simp only [List.append_nil, bulkAll] at hk1
  have hcap0 : ∀ a n c, cs0.toList[8]? = some (.slice a n c) → n ≤ c := fun a n c h => cap_of_cell (i := 8) (o := 8) Try.underlying59 ho0 rfl Try.underlying22 rfl (by kernel_rfl) h
  clear hA0 hval0
  simp only [List.append_nil] at hW'
  refine (walk_whole xs0 cs0.toList a1 W rd0 ft0 (by have := sz0; omega) hcap0).mono fun e W' ⟨he, hg⟩ => ?_
  subst he
  exact ⟨_, rfl, post_law (tb := 4) (by first | simpa using hW' | (have h9 := hW'; simp at h9 ⊢; exact h9)) rfl rfl rfl Try.underlying4 laid (by kernel_rfl) hg⟩

theorem proved : Rows.RollbackWholeUptoSaid :=
  OpenClaim.holds_of_cond 6 Try.f6 rfl rfl rfl rfl rfl rfl rfl ⟨rfl, rfl, rfl, rfl, rfl⟩ rfl rfl rfl rfl rfl (by kernel_rfl) Try.func6 (by kernel_rfl)
    (of_decide_eq_true (by kernel_rfl)) (by unfold Func.isWrapper; first | (rw [if_pos (by decide +kernel)]; kernel_rfl) | (rw [if_neg (by decide +kernel)]; exact ⟨rfl, rfl⟩))
    (fun os started H enc _ F => lifted os started H enc F)
end Go.Proofs.Ythedokpgogopiaa.rollbackWhole
