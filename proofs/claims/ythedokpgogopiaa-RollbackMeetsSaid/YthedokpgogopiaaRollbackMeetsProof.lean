/- The statement on the law RollbackMeets; printed by a program of this repository (gen/lawproof.py), whose frame follows the kit's proof-skeleton.mjs. -/
import Derived.Test.YthedokpgogopiaaRbMeets
import Derived.Test.YthedokpgogopiaaCap
import Derived.Test.YthedokpgogopiaaTypes
import Derived.Test.YthedokpgogopiaaRows
import Derived.WalkKit
import Derived.ProofKit
import Derived.OpenShut
import Derived.SizedLaws
namespace Go.Proofs.Ythedokpgogopiaa.rollbackMeets
open Go.Sx Go.ChangeShapes Go.WideShapes Go.ChangeAt Go.RowKit
set_option linter.unusedVariables false

set_option maxRecDepth 100000 in
theorem lifted (os : Os) (started : os.Started) (H : Type) (enc : TypeId × Value → H) :
    ReturnsInHanded {} Try.checked os 4 .any (Rows.rollbackMeetsSpec.pre6 enc Try.prog Try.f4 Rows.rollbackMeetsRow.domain false) (Rows.rollbackMeetsSpec.post enc Try.prog Try.f4 false true false false) := by
  refine returnsInHanded_of_change_sized (C := Try.checked) own started (by kernel_rfl) Try.func4
    (ChangeSpec.witness6 (enc := enc) (C := Try.checked) false ⟨#[], #[.slice none 0 0, .slice none 0 0], []⟩ 8 (by kernel_rfl) (by kernel_rfl) (by kernel_rfl) (by kernel_rfl)) ?_
  intro W base args ds gs before hval0 hW hcnd hsz0 _
  have hsz : (DataW.weightsEach Try.prog (Try.f4.params.toList ++ Rows.rollbackMeetsSpec.plain.varTypes Try.prog) (ds ++ gs)).all (· ≤ reachBytes) = true := hsz0
  have hval : ∀ (j : Nat) t v, Try.f4.params[j]? = some t → args[j]? = some v → Value.okWide Try.prog W .any base t v := hval0
  have hW' := hW
  obtain ⟨p, q, hA0, hV, rfl, hfz, hnd⟩ := hW
  have hA : DataW.TrodAll enc Try.prog W 0 (fun _ => true) true Try.f4.params.toList args.toList ds p := hA0
  rw [Try.params4] at hA hval hsz
  obtain ⟨v0, vs0, d0, ds0, p0, q0, hargs, rfl, rfl, h0, r0⟩ := trodAll_cons hA
  obtain ⟨v1, vs1, d1, ds1, p1, q1, rfl, rfl, rfl, h1, r1⟩ := trodAll_cons r0
  obtain ⟨rfl, rfl, rfl⟩ := trodAll_nil r1
  obtain rfl : args = #[v0, v1] := by cases args; simp_all
  obtain ⟨rfl, rfl⟩ := trodVars_none hV
  have hwt : WtEach Try.prog [22, 22] [d0, d1] := fun x hx => by
    have := List.all_eq_true.1 hsz x (by exact hx)
    simpa using this
  obtain ⟨wt0, hwt⟩ := hwt.cons
  obtain ⟨a0, n0, c0, rfl⟩ := okWide_slice Try.underlying22 (hval 0 22 v0 rfl rfl)
  have cap0 := cap_of_trod Try.underlying22 h0
  obtain ⟨x0, rd0, ft0, sz0⟩ := open_cell tabs_ok (k := .sl 13) h0 rfl wt0 rfl
  obtain ⟨rows0, rfl, b0, fR0⟩ := ft0.sl
  obtain rfl := rd0.slice_len
  have b0 : rows0.length * 1208 ≤ 140737488355328 := b0
  obtain ⟨wt1, hwt⟩ := hwt.cons
  obtain ⟨a1, n1, c1, rfl⟩ := okWide_slice Try.underlying22 (hval 1 22 v1 rfl rfl)
  have cap1 := cap_of_trod Try.underlying22 h1
  obtain ⟨x1, rd1, ft1, sz1⟩ := open_cell tabs_ok (k := .sl 13) h1 rfl wt1 rfl
  obtain ⟨rows1, rfl, b1, fR1⟩ := ft1.sl
  obtain rfl := rd1.slice_len
  have b1 : rows1.length * 1208 ≤ 140737488355328 := b1
  clear hA0 hval0
  simp only [List.append_nil] at hW'
  refine (walk_meets rows0 rows1 a0 a1 c0 c1 W rd0 rd1 fR0 fR1 b0 b1 cap0).mono fun e W' ⟨he, hg⟩ => ?_
  subst he
  exact ⟨_, rfl, post_law (tb := 4) (by simpa using hW') rfl rfl rfl Try.underlying4 laid (by kernel_rfl) hg⟩

theorem over : Rows.rollbackMeetsRow.holds Try.pinned (OpenSpec.ofChange Rows.rollbackMeetsSpec) :=
  OpenClaim.holds_of_wide 4 Try.f4 rfl rfl rfl rfl rfl rfl rfl ⟨rfl, rfl, rfl, rfl, rfl⟩ rfl rfl rfl rfl rfl (by kernel_rfl) Try.func4 (by kernel_rfl)
    (of_decide_eq_true (by kernel_rfl)) (by unfold Func.isWrapper; first | (rw [if_pos (by decide +kernel)]; kernel_rfl) | (rw [if_neg (by decide +kernel)]; exact ⟨rfl, rfl⟩))
    (fun os started H enc _ => lifted os started H enc)

theorem proved : Rows.RollbackMeetsSaid := over
end Go.Proofs.Ythedokpgogopiaa.rollbackMeets
