/- The tied card of the law PlannerChecks; printed by a program of this repository (gen/lawcard.py), whose frame follows the kit's UptoLaidToy.lean. -/
import Derived.Test.YtgoipafikbpioaaGreatDoorPlLaw
import Derived.Test.YtgoipafikbpioaaGreatDoorPlain
import Derived.Test.YtgoipafikbpioaaGreatDoorPlCond
import Derived.Test.YtgoipafikbpioaaGreatDoorAwake
import Derived.Test.YtgoipafikbpioaaGreatDoorCalc
import Derived.Test.YtgoipafikbpioaaGreatDoorPlannerChecksFact
import Derived.Test.YtgoipafikbpioaaGreatDoorTypes
import Derived.Test.YtgoipafikbpioaaGreatDoorCards
import Derived.Test.YtgoipafikbpioaaGreatDoorTie
import Derived.WalkKit
import Derived.ProofKit
import Derived.OpenShut
import Derived.SizedLaws
import Derived.Deep.DeepHandedRow
import Derived.Lib.LaidTab
import Derived.Deep.CondSized
namespace Go.Proofs.YtgoipafikbpioaaGreatDoor.plannerChecks
open Go.Sx Go.ChangeShapes Go.WideShapes Go.ChangeAt Go.RowKit
set_option linter.unusedVariables false

theorem bulk_up {H : Type} (l : List (DataW H)) : bulkAll l ≤ Rows.uptoBulkAll l :=
  bulks_mono (f := Rows.uptoBulk) (fs := Rows.uptoBulkAll) (fun b => by rw [Rows.uptoBulk]; exact Nat.le_refl _) (fun l => by cases l <;> simp [Rows.uptoBulk]) (by simp [Rows.uptoBulk]) (fun d => by simp [Rows.uptoBulk]) (fun a b => by simp [Rows.uptoBulk])
    (fun a => by simp [Rows.uptoBulk]) (fun t d => by simp [Rows.uptoBulk]) (fun m => by simp [Rows.uptoBulk]) (fun x => by simp [Rows.uptoBulk]) (fun d r => by rw [Rows.uptoBulkAll]; exact Nat.le_refl _) l
set_option maxRecDepth 100000 in
theorem contract (H : Type) (enc : TypeId × Value → H) (W : World) (base : Nat) (args : Array Value) (ds gs : List (DataW H)) (before : List MemPlace)
    (hval : ∀ (j : Nat) t v, Tryz.f3.params[j]? = some t → args[j]? = some v → Value.okWide Tryz.prog W .any base t v)
    (hW : DataW.Whole enc Tryz.prog Tryz.f3.params.toList Rows.plannerChecksSpec.vars false W args.toList ds gs before)
    (hsz : (DataW.weightsEach Tryz.prog (Tryz.f3.params.toList ++ Rows.plannerChecksSpec.plain.varTypes Tryz.prog) (ds ++ gs)).all (· ≤ reachBytes) = true) (hL : laidMetH Tryz.prog Rows.plannerChecksUptoRow.laid W) (hk : Rows.uptoBulkAll (ds ++ gs) ≤ 1048576) :
    Calls Tryz.prog 3 args W fun e W' => ∃ v, e = .returned v ∧ Rows.plannerChecksSpec.post enc Tryz.prog Tryz.f3 false true false false W args v W' := by
  have hW' := hW
  obtain ⟨p, q, hA0, hV, rfl, hfz, hnd⟩ := hW
  have hA : DataW.TrodAll enc Tryz.prog W 0 (fun _ => true) true Tryz.f3.params.toList args.toList ds p := hA0
  rw [Tryz.params3] at hA hval hsz
  obtain ⟨v0, vs0, d0, ds0, p0, q0, hargs, rfl, rfl, h0, r0⟩ := trodAll_cons hA
  obtain ⟨rfl, rfl, rfl⟩ := trodAll_nil r0
  obtain rfl : args = #[v0] := by cases args; simp_all
  obtain ⟨rfl, rfl⟩ := trodVars_none hV
  have hwt : WtEach Tryz.prog [43] [d0] := fun x hx => by
    have := List.all_eq_true.1 hsz x (by exact hx)
    simpa using this
  obtain ⟨wt0, hwt⟩ := hwt.cons
  obtain ⟨cs0, rfl, hcs0⟩ := okWide_struct Tryz.underlying43 (hval 0 43 v0 rfl rfl)
  obtain ⟨fu0, ho0⟩ := h0
  obtain ⟨xs0, rd0, ft0, sz0⟩ := open_trod tabs_ok fu0 43 _ _ d0 p0 ho0 rfl wt0
  clear hA0
  simp only [List.append_nil] at hW'
  have hk1 : bulkAll ([d0] ++ []) ≤ 1048576 := Nat.le_trans (bulk_up _) hk
  simp only [List.append_nil, bulkAll] at hk1
  have hgl := gl_ok hL
  have htb := tb_ok hL
  have hp0 := paths_le (v := xs0) (by rw [ft0.length]; decide)
  refine ((lawF_true ft0) ▸ lawF_ok W Gl (fun _ _ h b => gl_bl h b) awake_ok hgl xs0 cs0.toList ft0 rd0.any (by have := sz0; omega) htb).mono fun e W' ⟨he, hg⟩ => ?_
  subst he
  exact ⟨_, rfl, post_law (tb := 4) (by simpa using hW') rfl rfl rfl Tryz.underlying4 laid (by kernel_rfl) hg⟩

noncomputable def lw0 (os : Os) : World := World.holding Tryz.prog os ⟨#[], #[], []⟩
noncomputable def lw1 (os : Os) : World :=
  { lw0 os with heap := (lw0 os).heap.modify 6 fun
      | .cells _ t frozen => .cells #[.int .u8 0, .int .u8 1, .int .u8 28, .int .u8 2, .int .u8 29, .int .u8 14, .int .u8 24, .int .u8 3, .int .u8 30, .int .u8 22, .int .u8 20, .int .u8 15, .int .u8 25, .int .u8 17, .int .u8 4, .int .u8 8, .int .u8 31, .int .u8 27, .int .u8 13, .int .u8 23, .int .u8 21, .int .u8 19, .int .u8 16, .int .u8 7, .int .u8 26, .int .u8 12, .int .u8 18, .int .u8 6, .int .u8 11, .int .u8 5, .int .u8 10, .int .u8 9] t frozen
      | o => o }
noncomputable def lw2 (os : Os) : World :=
  { lw1 os with heap := (lw1 os).heap.modify 7 fun
      | .cells _ t frozen => .cells #[.int .u8 0, .int .u8 1, .int .u8 56, .int .u8 2, .int .u8 57, .int .u8 49, .int .u8 28, .int .u8 3, .int .u8 61, .int .u8 58, .int .u8 42, .int .u8 50, .int .u8 38, .int .u8 29, .int .u8 17, .int .u8 4, .int .u8 62, .int .u8 47, .int .u8 59, .int .u8 36, .int .u8 45, .int .u8 43, .int .u8 51, .int .u8 22, .int .u8 53, .int .u8 39, .int .u8 33, .int .u8 30, .int .u8 24, .int .u8 18, .int .u8 12, .int .u8 5, .int .u8 63, .int .u8 55, .int .u8 48, .int .u8 27, .int .u8 60, .int .u8 41, .int .u8 37, .int .u8 16, .int .u8 46, .int .u8 35, .int .u8 44, .int .u8 21, .int .u8 52, .int .u8 32, .int .u8 23, .int .u8 11, .int .u8 54, .int .u8 26, .int .u8 40, .int .u8 15, .int .u8 34, .int .u8 20, .int .u8 31, .int .u8 10, .int .u8 25, .int .u8 14, .int .u8 19, .int .u8 9, .int .u8 13, .int .u8 8, .int .u8 7, .int .u8 6] t frozen
      | o => o }
noncomputable def lw3 (os : Os) : World :=
  { lw2 os with heap := (lw2 os).heap.modify 5 fun
      | .cells _ t frozen => .cells #[.int .u64 1, .int .u64 10, .int .u64 100, .int .u64 1000, .int .u64 10000, .int .u64 100000, .int .u64 1000000, .int .u64 10000000, .int .u64 100000000, .int .u64 1000000000, .int .u64 10000000000, .int .u64 100000000000, .int .u64 1000000000000, .int .u64 10000000000000, .int .u64 100000000000000, .int .u64 1000000000000000, .int .u64 10000000000000000, .int .u64 100000000000000000, .int .u64 1000000000000000000, .int .u64 10000000000000000000] t frozen
      | o => o }
noncomputable def lw4 (os : Os) : World :=
  { lw3 os with heap := (lw3 os).heap.modify 4 fun
      | .cells _ t frozen => .cells #[.int .u8 128, .int .u8 191, .int .u8 160, .int .u8 191, .int .u8 128, .int .u8 159, .int .u8 144, .int .u8 191, .int .u8 128, .int .u8 143, .int .u8 0, .int .u8 0, .int .u8 0, .int .u8 0, .int .u8 0, .int .u8 0, .int .u8 0, .int .u8 0, .int .u8 0, .int .u8 0, .int .u8 0, .int .u8 0, .int .u8 0, .int .u8 0, .int .u8 0, .int .u8 0, .int .u8 0, .int .u8 0, .int .u8 0, .int .u8 0, .int .u8 0, .int .u8 0] t frozen
      | o => o }
noncomputable def lw5 (os : Os) : World :=
  { lw4 os with heap := (lw4 os).heap.modify 1 fun
      | .cells _ t frozen => .cells #[.string ⟨#[]⟩, .string ⟨#[36, 118, 97, 108, 117, 101]⟩, .string ⟨#[]⟩, .string ⟨#[]⟩, .string ⟨#[36, 97, 100, 100]⟩, .string ⟨#[36, 115, 117, 98]⟩, .string ⟨#[36, 109, 117, 108]⟩, .string ⟨#[36, 100, 105, 118]⟩, .string ⟨#[36, 109, 111, 100]⟩, .string ⟨#[36, 99, 109, 112]⟩, .string ⟨#[36, 101, 113]⟩, .string ⟨#[36, 110, 101]⟩, .string ⟨#[36, 103, 116]⟩, .string ⟨#[36, 103, 101]⟩, .string ⟨#[36, 108, 116]⟩, .string ⟨#[36, 108, 101]⟩, .string ⟨#[36, 97, 110, 100]⟩, .string ⟨#[36, 111, 114]⟩, .string ⟨#[36, 110, 111, 116]⟩, .string ⟨#[36, 105, 102]⟩, .string ⟨#[36, 105, 102, 78, 117, 108, 108]⟩, .string ⟨#[36, 99, 111, 110, 99, 97, 116]⟩, .string ⟨#[36, 108, 111, 119, 101, 114]⟩, .string ⟨#[36, 117, 112, 112, 101, 114]⟩, .string ⟨#[36, 108, 101, 110, 103, 116, 104]⟩, .string ⟨#[36, 115, 108, 105, 99, 101]⟩, .string ⟨#[36, 115, 105, 122, 101]⟩, .string ⟨#[36, 97, 116]⟩, .string ⟨#[36, 105, 110]⟩, .string ⟨#[36, 106, 111, 105, 110]⟩, .string ⟨#[36, 114, 101, 118, 101, 114, 115, 101]⟩, .string ⟨#[36, 115, 117, 109]⟩, .string ⟨#[36, 109, 97, 112]⟩, .string ⟨#[36, 102, 105, 108, 116, 101, 114]⟩, .string ⟨#[]⟩, .string ⟨#[]⟩, .string ⟨#[36, 107, 105, 110, 100]⟩, .string ⟨#[36, 109, 101, 114, 103, 101]⟩] t frozen
      | o => o }
noncomputable def lw6 (os : Os) : World :=
  { lw5 os with heap := (lw5 os).heap.modify 0 fun
      | .cells _ t frozen => .cells #[.string ⟨#[]⟩, .string ⟨#[]⟩, .string ⟨#[36, 101, 113]⟩, .string ⟨#[36, 110, 101]⟩, .string ⟨#[36, 103, 116]⟩, .string ⟨#[36, 103, 101]⟩, .string ⟨#[36, 108, 116]⟩, .string ⟨#[36, 108, 101]⟩, .string ⟨#[36, 105, 110]⟩, .string ⟨#[36, 110, 111, 116, 73, 110]⟩, .string ⟨#[36, 101, 120, 105, 115, 116, 115]⟩, .string ⟨#[36, 107, 105, 110, 100]⟩, .string ⟨#[36, 109, 111, 100]⟩, .string ⟨#[36, 115, 105, 122, 101]⟩, .string ⟨#[36, 97, 108, 108]⟩, .string ⟨#[36, 101, 108, 101, 109]⟩, .string ⟨#[36, 112, 114, 101, 102, 105, 120]⟩, .string ⟨#[36, 108, 105, 107, 101]⟩, .string ⟨#[36, 119, 105, 116, 104, 105, 110]⟩, .string ⟨#[36, 119, 111, 114, 100, 115]⟩, .string ⟨#[]⟩, .string ⟨#[]⟩, .string ⟨#[]⟩, .string ⟨#[36, 110, 111, 116]⟩, .string ⟨#[]⟩] t frozen
      | o => o }
noncomputable def lw7 (os : Os) : World :=
  { lw6 os with heap := (lw6 os).heap.modify 3 fun
      | .cells _ t frozen => .cells (Go.Pinned.utf8FirstZ.map (fun (n : Nat) => Value.int .u8 n)).toArray t frozen
      | o => o }
def zargs : Array Value := (#[.agg #[.int .i64 0, .slice none 0 0, .int .i64 0, .int .i64 0, .string ByteArray.empty, .slice none 0 0, .slice none 0 0, .slice none 0 0, .int .i64 0, .int .i64 0, .int .i64 0, .slice none 0 0, .int .i64 0, .int .i64 0, .slice none 0 0, .string ByteArray.empty, .slice none 0 0, .int .i64 0, .int .i64 0, .string ByteArray.empty, .slice none 0 0, .slice none 0 0, .int .i64 0, .slice none 0 0, .slice none 0 0, .slice none 0 0, .int .i64 0, .int .i64 0, .bool false, .slice none 0 0, .bool false, .slice none 0 0, .slice none 0 0, .string ByteArray.empty]] : Array Value)
set_option maxRecDepth 100000 in
theorem laid_met (os : Os) : laidMet Tryz.prog Rows.plannerChecksUptoRow.laid ((lw7 os).forCall (fun _ _ => 0) ⟨#[], zargs, []⟩).memory :=
  laidMet_of_run' 8 (by kernel_rfl) (by kernel_rfl)
set_option maxRecDepth 100000 in
theorem reads (os : Os) {H : Type} (enc : TypeId × Value → H) : ∃ places, DataW.whole enc Tryz.prog ((lw7 os).forCall (fun _ _ => 0) ⟨#[], zargs, []⟩).memory Tryz.f3.params.toList Rows.plannerChecksSpec.vars false zargs.toList 8 = some ([.agg [.agg [.lit (.int .i64 0), .nil, .agg [.lit (.int .i64 0), .lit (.int .i64 0), .lit (.string []), .nil, .nil], .nil, .lit (.int .i64 0), .lit (.int .i64 0), .agg [.lit (.int .i64 0), .nil, .lit (.int .i64 0)], .agg [.lit (.int .i64 0), .nil, .lit (.string []), .nil, .agg [.lit (.int .i64 0), .lit (.int .i64 0), .lit (.string []), .nil, .nil], .lit (.int .i64 0), .nil], .nil], .nil, .lit (.int .i64 0), .lit (.int .i64 0), .agg [.lit (.bool false), .nil, .lit (.bool false), .nil, .nil], .lit (.string [])]], [], places) :=
  ⟨[], by kernel_rfl⟩
set_option maxRecDepth 100000 in
theorem lifted (os : Os) (started : os.Started) (H : Type) (enc : TypeId × Value → H) (F : Stop.Interp) :
    ReturnsInHanded {} Tryz.checked os 3 .any ((Rows.OpenSpec.upto Rows.plannerChecksSpec).preRow enc Tryz.prog Tryz.f3 Rows.plannerChecksUptoRow.domain false Rows.plannerChecksUptoRow.laid) (((Rows.OpenSpec.upto Rows.plannerChecksSpec).at F).post enc Tryz.prog Tryz.f3 false true false false) := by
  obtain ⟨places, hx⟩ := reads os enc
  refine returnsInHanded_of_row (C := Tryz.checked) (s := Rows.OpenSpec.upto Rows.plannerChecksSpec) own started (by kernel_rfl) Tryz.func3
    (witness_row_at (enc := enc) (C := Tryz.checked) false (lw7 os) zargs rfl (by kernel_rfl) (by kernel_rfl) (by kernel_rfl)
      (OpenSpec.preRow_of_cond 8 hx (by kernel_rfl) (fun k hk => by cases hk; kernel_rfl) (by kernel_rfl) (laid_met os))) ?_
  intro W base args ds gs before hval hW _ hcond hsz hL _ _
  exact contract H enc W base args ds gs before hval hW hsz hL (of_decide_eq_true (hcond _ rfl))

set_option maxRecDepth 100000 in
theorem closed : joinedFacts Tryz.pinned.checked.prog 3 Tryz.f3 (Rows.OpenSpec.upto Rows.plannerChecksSpec).bare Rows.plannerChecksUptoRow = true := by
  have e_named : (Rows.plannerChecksUptoRow.named == Tryz.pinned.checked.prog.varsNamed 3) = true := k_named
  have e_inPlace : (Rows.plannerChecksUptoRow.inPlace == Tryz.pinned.checked.prog.inPlace 3) = true := k_inPlace
  have e_unfollowed : (Rows.plannerChecksUptoRow.unfollowed == Tryz.pinned.checked.prog.unfollowed 3) = true := k_unfollowed
  have e_recurses : (Rows.plannerChecksUptoRow.recurses == Tryz.pinned.checked.prog.recurses 3) = true := k_recurses
  unfold joinedFacts
  rw [e_named, e_inPlace, e_unfollowed, e_recurses]
  refine Eq.trans (b := true) ?_ rfl
  kernel_rfl
theorem said : Rows.PlannerChecksUptoSaid :=
  OpenClaim.holds_of_cond 3 Tryz.f3 rfl rfl rfl rfl rfl rfl rfl ⟨rfl, rfl, rfl, rfl, rfl⟩ rfl rfl rfl rfl rfl (by kernel_rfl) Tryz.func3 closed
    (of_decide_eq_true (by kernel_rfl)) (by unfold Func.isWrapper; first | (rw [if_pos (by decide +kernel)]; kernel_rfl) | (rw [if_neg (by decide +kernel)]; exact ⟨rfl, rfl⟩))
    (fun os started H enc _ F => by rw [OpenClaim.pre_eq_preRow]; exact lifted os started H enc F)

theorem plain (f : FuncId) (fn : Func) (hf : Tryz.pinned.checked.prog.funcNamed "docstore/docstorelaw27.PlannerChecks" = some f) (hfn : Tryz.pinned.checked.prog.funcs[f]? = some fn) :
    false = Tryz.pinned.checked.prog.looks [] ∧ ∀ (j : Nat) t, fn.params[j]? = some t → Tryz.pinned.checked.prog.wantsStandIn t = false := by
  obtain rfl : f = 3 := Option.some.inj ((show Tryz.prog.funcNamed "docstore/docstorelaw27.PlannerChecks" = some 3 by kernel_rfl).symm.trans hf) |>.symm
  obtain rfl : fn = Tryz.f3 := (Option.some.inj (Tryz.func3.symm.trans hfn)).symm
  refine ⟨by kernel_rfl, fun j t ht => ?_⟩
  rw [Tryz.params3] at ht
  have hm := Array.mem_of_getElem? ht
  simp only [List.mem_toArray, List.mem_cons, List.not_mem_nil, or_false] at hm
  subst hm
  exact (show Tryz.prog.wantsStandIn 43 = false by kernel_rfl)
theorem proved : Rows.PlannerChecksUptoCardSaid :=
  Claim7.holds_tied_plain_at .later [] _ _ _ _ said (fun _ h => by cases h) (by kernel_rfl) (fun _ h => by cases h) plannerChecksUpto_row_tie rfl ⟨rfl, rfl⟩ (by kernel_rfl) rfl plain (by kernel_rfl)
end Go.Proofs.YtgoipafikbpioaaGreatDoor.plannerChecks
