/- Contracts of functions that only read data, printed by a program of this repository (gen/ro.py). -/
import Derived.Test.YtpdichhabjieeaaGreatDoorEqD
import Derived.Test.YtpdichhabjieeaaGreatDoorBk
import Derived.Test.YtpdichhabjieeaaGreatDoorBl
import Derived.Test.YtpdichhabjieeaaGreatDoorBd
import Derived.Test.YtpdichhabjieeaaGreatDoorApi
import Derived.Test.YtpdichhabjieeaaGreatDoorProg
import Derived.Test.YtpdichhabjieeaaGreatDoorWr
namespace Go.Proofs.YtpdichhabjieeaaGreatDoor
open Go.RowKit Go.Sx
set_option linter.unusedVariables false
set_option linter.unusedSimpArgs false

open Classical in
noncomputable def pfx (a b : List (List D)) : Bool := decide (a.length ≤ b.length ∧ ∀ j, j < a.length → a[j]? = b[j]?)
theorem pfx_yes {a b : List (List D)} (h : a.length ≤ b.length) (h' : ∀ j, j < a.length → a[j]? = b[j]?) : pfx a b = true := by simp only [pfx, decide_eq_true_eq]; exact ⟨h, h'⟩
theorem pfx_no {a b : List (List D)} (h : a.length > b.length ∨ ∃ j, j < a.length ∧ a[j]? ≠ b[j]?) : pfx a b = false := by
  simp only [pfx, decide_eq_false_iff_not]
  rintro ⟨h1, h2⟩
  rcases h with h | ⟨j, hj, h⟩
  · omega
  · exact h (h2 j hj)
theorem pfx_eq {a b : List (List D)} (h : a.length = b.length) : pfx a b = eqR a b := by
  cases hq : eqR a b
  · refine pfx_no (.inr ?_)
    apply Classical.byContradiction
    intro hn
    rw [eqR_of h (fun j hj => Classical.byContradiction (fun h9 => hn ⟨j, hj, h9⟩))] at hq
    cases hq
  · rw [eqR_iff] at hq
    subst hq
    exact pfx_yes (Nat.le_refl _) (fun _ _ => rfl)
theorem rangeAt_lt {w : World} {g o : Nat} {cs : List Value} {v : Value} (h : w.rangeAt g o cs) (hv : cs[0]? = some v) : g < w.heap.size := block_lt_of_cell (h 0 v hv)
theorem prefix_ok (R_x : List (List D)) (a_x : Option Addr) (cap_x : Nat) (fR_x : FitR sh by_ R_x (sh 2)) (b_x : R_x.length * 16 ≤ 140737488355328) (R_y : List (List D)) (a_y : Option Addr) (cap_y : Nat) (fR_y : FitR sh by_ R_y (sh 2)) (b_y : R_y.length * 16 ≤ 140737488355328) (w : World) (S : Nat → Prop) (h_x : Rd S w (.sl R_x) (.slice a_x R_x.length cap_x)) (h_y : Rd S w (.sl R_y) (.slice a_y R_y.length cap_y)) : Calls Tryz.prog 72 #[.slice a_x R_x.length cap_x, .slice a_y R_y.length cap_y] w (fun e w' => e = .returned (.bool (pfx R_x R_y)) ∧ Below w.heap.size w w') := by
  have b0x : R_x.length ≤ 140737488355328 := by omega
  refine Sx.enter (l := [.slice a_x R_x.length cap_x, .slice a_y R_y.length cap_y]) Tryz.func72 rfl (n := 26) rfl (by simp) ?_
  refine wc_eq (S := SH w []) (SH.refl _) ?_
  refine wc_seq ?_
  refine wc_region ?_
  refine wl_go 1 [(4, .bool false)] (by kernel_rfl) ?_
  refine nx_list ?_
  refine nx_then ?_
  refine wc_seq ?_
  refine wc_seq ?_
  refine wc_region ?_
  refine wl_go 5 [(10, .bool (decide ((R_x.length : Int) > (R_y.length : Int)))), (9, .int .i64 (R_y.length : Int)), (8, .slice a_y R_y.length cap_y), (7, .int .i64 (R_x.length : Int)), (6, .slice a_x R_x.length cap_x)] (by kernel_rfl) ?_
  refine nx_list ?_
  refine nx_then ?_
  refine wc_cond (decide ((R_x.length : Int) > (R_y.length : Int))) (by kernel_rfl) (by kernel_rfl) (fun hcg => ?_) (fun hcg => ?_)
  · skip
    have hgt : R_x.length > R_y.length := by simpa using hcg
    refine wc_seq ?_
    refine wc_region ?_
    refine wl_go 1 [(4, .bool false)] (by kernel_rfl) ?_
    refine nx_list ?_
    refine nx_then ?_
    refine nx_ret ?_
    refine nx_then_ret ?_
    refine ret_tmp (v := .bool false) rfl (by kernel_rfl) ?_
    intro w' hw'
    exact ⟨by rw [pfx_no (.inl hgt)], hw'.below (Below.refl _ _) (Nat.le_refl _) (ge_nil _)⟩
  · skip
    have hle : R_x.length ≤ R_y.length := by simpa using hcg
    refine nx_skip ?_
    refine nx_then ?_
    refine wc_seq ?_
    refine wc_seq ?_
    refine wc_region ?_
    refine wl_go 1 [(5, .int .i64 0)] (by kernel_rfl) ?_
    refine nx_list ?_
    refine nx_then ?_
    refine wc_block ?_
    refine wc_loop (σ := { i : Nat // i ≤ R_x.length ∧ ∀ j, j < i → R_x[j]? = R_y[j]? }) (fun x => [(0, .slice a_x R_x.length cap_x), (1, .slice a_y R_y.length cap_y), (5, .int .i64 (x.1 : Int))]) (fun _ => SH w []) (fun x => R_x.length - x.1) (fun w3 h3 => ⟨⟨0, Nat.zero_le _, (fun j hj => by omega)⟩, h3, (subEnv_cons (by kernel_rfl) (subEnv_cons (by kernel_rfl) (subEnv_cons (by kernel_rfl) (subEnv_nil _))))⟩) (fun x => ?_)
    have hx1 := x.2.1
    have hinv := x.2.2
    refine wc_seq ?_
    refine wc_seq ?_
    refine wc_region ?_
    refine wl_go 4 [(14, .bool (decide ((x.1 : Int) < (R_x.length : Int)))), (13, .int .i64 (R_x.length : Int)), (12, .slice a_x R_x.length cap_x), (11, .int .i64 (x.1 : Int))] (by kernel_rfl) ?_
    refine nx_list ?_
    refine nx_then ?_
    refine wc_cond (decide ((x.1 : Int) < (R_x.length : Int))) (by kernel_rfl) (by kernel_rfl) (fun hcl => ?_) (fun hcl => ?_)
    · skip
      have hlt : x.1 < R_x.length := by simpa using hcl
      obtain ⟨r_p, hrow_p⟩ : ∃ r, R_x[x.1]? = some r := ⟨_, List.getElem?_eq_getElem (hlt)⟩
      obtain ⟨gp, op, cs_p, rfl, hI_p, hc_p, l_p, hg_p⟩ := Rd.row_at (es := 1) h_x (fun r hr => fR_x.length r hr) hrow_p
      have hm_p := List.mem_of_getElem? hrow_p
      have hfr_p := fR_x.mem hm_p
      obtain ⟨d_p0, e_p0, rfl, hf_p0, ht_p0⟩ := FitL.cons (k := .str) (ks := _) hfr_p
      obtain ⟨n_p0, rfl, _⟩ := Fit.str hf_p0
      obtain rfl := FitL.nil ht_p0
      obtain ⟨c_p0, z_p0, rfl, h_p0, hr_p0⟩ := RdL.cons hc_p
      rw [Rd] at h_p0; subst h_p0
      obtain rfl := RdL.nil hr_p0
      obtain ⟨r_q, hrow_q⟩ : ∃ r, R_y[x.1]? = some r := ⟨_, List.getElem?_eq_getElem (by omega)⟩
      obtain ⟨gq, oq, cs_q, rfl, hI_q, hc_q, l_q, hg_q⟩ := Rd.row_at (es := 1) h_y (fun r hr => fR_y.length r hr) hrow_q
      have hm_q := List.mem_of_getElem? hrow_q
      have hfr_q := fR_y.mem hm_q
      obtain ⟨d_q0, e_q0, rfl, hf_q0, ht_q0⟩ := FitL.cons (k := .str) (ks := _) hfr_q
      obtain ⟨n_q0, rfl, _⟩ := Fit.str hf_q0
      obtain rfl := FitL.nil ht_q0
      obtain ⟨c_q0, z_q0, rfl, h_q0, hr_q0⟩ := RdL.cons hc_q
      rw [Rd] at h_q0; subst h_q0
      obtain rfl := RdL.nil hr_q0
      refine nx_skip ?_
      refine nx_then ?_
      refine wc_seq ?_
      refine wc_block ?_
      refine wc_seq ?_
      refine wc_draw 9 (SH w []) rfl (by decide) (fun w h => SH.drew h) ?_
      refine wd_go [0, 1] [(18, .int .i64 (x.1 : Int)), (17, .slice (some ⟨gp, op, none⟩) R_x.length cap_x)] #[true, true, false, false, false, false, false, false, false] (f := 7) rfl (by kernel_rfl) (fun w h => h) ?_
      refine wd_yl 2 (d := 19) (v := .pointer (some ⟨gp, op + x.1 * 1, none⟩)) (f := 6) rfl (by kernel_rfl) (by kernel_rfl) (fun w h => h) (yl_index (E := 9) (b := gp) (off := op) (len := R_x.length) (cap := cap_x) (k := x.1) (es := 1) rfl (by kernel_rfl) (by kernel_rfl) (by kernel_rfl) (by omega)) ?_
      refine wd_yl 3 (d := 20) (v := .string n_p0) (f := 5) rfl (by kernel_rfl) (by kernel_rfl) (fun w h => h) (yl_load_im (b := gp) (off := op + x.1 * 1) rfl (by kernel_rfl) (im_new ((rangeAt_lt hg_p rfl)) (ge_nil _)) (by kernel_rfl) (by have := hg_p 0 _ rfl; simpa [Nat.add_assoc] using this)) ?_
      refine wd_go [4, 5] [(22, .int .i64 (x.1 : Int)), (21, .slice (some ⟨gq, oq, none⟩) R_y.length cap_y)] #[true, true, true, true, true, true, false, false, false] (f := 3) rfl (by kernel_rfl) (fun w h => h) ?_
      refine wd_yl 6 (d := 23) (v := .pointer (some ⟨gq, oq + x.1 * 1, none⟩)) (f := 2) rfl (by kernel_rfl) (by kernel_rfl) (fun w h => h) (yl_index (E := 9) (b := gq) (off := oq) (len := R_y.length) (cap := cap_y) (k := x.1) (es := 1) rfl (by kernel_rfl) (by kernel_rfl) (by kernel_rfl) (by omega)) ?_
      refine wd_yl 7 (d := 24) (v := .string n_q0) (f := 1) rfl (by kernel_rfl) (by kernel_rfl) (fun w h => h) (yl_load_im (b := gq) (off := oq + x.1 * 1) rfl (by kernel_rfl) (im_new ((rangeAt_lt hg_q rfl)) (ge_nil _)) (by kernel_rfl) (by have := hg_q 0 _ rfl; simpa [Nat.add_assoc] using this)) ?_
      refine wd_go [8] [(25, .bool (n_p0.toList != n_q0.toList))] #[true, true, true, true, true, true, true, true, true] (f := 0) rfl (by kernel_rfl) (fun w h => h) ?_
      refine wd_done (by kernel_rfl) ?_
      refine nx_list ?_
      refine nx_on ?_
      refine nx_then ?_
      refine wc_cond (n_p0.toList != n_q0.toList) (by kernel_rfl) (by kernel_rfl) (fun hcs => ?_) (fun hcs => ?_)
      · skip
        refine wc_seq ?_
        refine wc_region ?_
        refine wl_go 1 [(4, .bool false)] (by kernel_rfl) ?_
        refine nx_list ?_
        refine nx_then ?_
        refine nx_ret ?_
        refine nx_block_ret ?_
        refine nx_then_ret ?_
        refine nx_then_ret ?_
        refine nx_block_ret ?_
        refine nx_then_ret ?_
        refine ret_tmp (v := .bool false) rfl (by kernel_rfl) ?_
        intro w' hw'
        exact ⟨by rw [pfx_no (.inr ⟨x.1, hlt, by rw [hrow_p, hrow_q]; intro h; cases h; simp at hcs⟩)], hw'.below (Below.refl _ _) (Nat.le_refl _) (ge_nil _)⟩
      · skip
        refine nx_skip ?_
        refine nx_block ?_
        refine nx_then ?_
        refine wc_region ?_
        refine wl_go 1 [(15, .int .i64 (x.1 : Int))] (by kernel_rfl) ?_
        refine wl_yl (d := 16) (v := .int .i64 ((x.1 : Int) + 1)) (by kernel_rfl) (yl_int (t := (x.1 : Int) + 1) (r := (x.1 : Int) + 1) (by kernel_rfl) (i64w (by omega) (by omega))) ?_
        refine wl_go 1 [(5, .int .i64 ((x.1 : Int) + 1))] (by kernel_rfl) ?_
        refine nx_list ?_
        refine nx_round_w (fun w4 hw' => ⟨⟨x.1 + 1, hlt, (fun j hj => by
          by_cases hj9 : j = x.1
          · subst hj9; rw [hrow_p, hrow_q]; have hcs9 := hcs; simp at hcs9; rw [show n_p0 = n_q0 from (eqD_iff (.str n_p0) (.str n_q0)).1 (by rw [eqD]; simpa using hcs) |> fun h => by cases h; rfl]
          · exact hinv j (by omega))⟩, (show R_x.length - (x.1 + 1) < R_x.length - x.1 by omega), (subEnv_cons (by kernel_rfl) (subEnv_cons (by kernel_rfl) (subEnv_cons (by kernel_rfl) (subEnv_nil _)))), hw'⟩)
    · skip
      have hge : R_x.length ≤ x.1 := by simpa using hcl
      refine nx_exit ?_
      refine nx_then_exit ?_
      refine nx_then_exit ?_
      refine nx_block_here ?_
      refine nx_then ?_
      refine wc_seq ?_
      refine wc_region ?_
      refine wl_go 1 [(4, .bool true)] (by kernel_rfl) ?_
      refine nx_list ?_
      refine nx_then ?_
      refine nx_ret ?_
      refine ret_tmp (v := .bool true) rfl (by kernel_rfl) ?_
      intro w' hw'
      exact ⟨by rw [pfx_yes hle (fun j hj => hinv j (by omega))], hw'.below (Below.refl _ _) (Nat.le_refl _) (ge_nil _)⟩

theorem same04_ok (R_x : List (List D)) (a_x : Option Addr) (cap_x : Nat) (fR_x : FitR sh by_ R_x (sh 2)) (b_x : R_x.length * 16 ≤ 140737488355328) (R_y : List (List D)) (a_y : Option Addr) (cap_y : Nat) (fR_y : FitR sh by_ R_y (sh 2)) (b_y : R_y.length * 16 ≤ 140737488355328) (w : World) (S S2 : Nat → Prop) (h_x : Rd S w (.sl R_x) (.slice a_x R_x.length cap_x)) (h_y : Rd S2 w (.sl R_y) (.slice a_y R_y.length cap_y)) : Calls Tryz.prog 45 #[.slice a_x R_x.length cap_x, .slice a_y R_y.length cap_y] w (fun e w' => e = .returned (.bool (eqR R_x R_y)) ∧ Below w.heap.size w w') := by
  refine Sx.enter (l := [.slice a_x R_x.length cap_x, .slice a_y R_y.length cap_y]) Tryz.func45 rfl (n := 15) rfl (by simp) ?_
  refine wc_eq (S := SH w []) (SH.refl _) ?_
  refine wc_seq ?_
  refine wc_region ?_
  refine wl_go 1 [(4, .bool false)] (by kernel_rfl) ?_
  refine nx_list ?_
  refine nx_then ?_
  refine wc_seq ?_
  refine wc_region ?_
  refine wl_go 6 [(10, .bool ((R_x.length : Int) == (R_y.length : Int))), (9, .bool ((R_x.length : Int) == (R_y.length : Int))), (8, .int .i64 (R_y.length : Int)), (7, .slice a_y R_y.length cap_y), (6, .int .i64 (R_x.length : Int)), (5, .slice a_x R_x.length cap_x)] (by kernel_rfl) ?_
  cases hce : ((R_x.length : Int) == (R_y.length : Int))
  · skip
    have hne : R_x.length ≠ R_y.length := by simp at hce; omega
    refine wl_go 5 [(4, .bool false), (14, .bool false), (13, undef), (12, undef), (11, undef)] (by kernel_rfl) ?_
    refine nx_list ?_
    refine nx_then ?_
    refine nx_ret ?_
    refine ret_tmp (v := .bool false) rfl (by kernel_rfl) ?_
    intro w' hw'
    exact ⟨by rw [eqR_len hne], hw'.below (Below.refl _ _) (Nat.le_refl _) (ge_nil _)⟩
  · skip
    have hle : R_x.length = R_y.length := by simp at hce; omega
    refine wl_go 2 [(12, .slice a_y R_y.length cap_y), (11, .slice a_x R_x.length cap_x)] (by kernel_rfl) ?_
    refine wl_callK shK (d := 13) (v := .bool (eqR R_x R_y)) (by kernel_rfl) (by kernel_rfl) (fun w1 h1 => by rw [← pfx_eq hle]; exact prefix_ok R_x _ _ fR_x b_x R_y _ _ fR_y b_y w1 _ (h_x.any.stays (Bl.stays (h1.below (Below.refl _ _) (Nat.le_refl _) (ge_nil _)))) (h_y.any.stays (Bl.stays (h1.below (Below.refl _ _) (Nat.le_refl _) (ge_nil _))))) ?_
    refine wl_go 2 [(4, .bool (eqR R_x R_y)), (14, .bool (eqR R_x R_y))] (by kernel_rfl) ?_
    refine nx_list ?_
    refine nx_then ?_
    refine nx_ret ?_
    refine ret_tmp (v := .bool (eqR R_x R_y)) rfl (by kernel_rfl) ?_
    intro w' hw'
    exact ⟨rfl, hw'.below (Below.refl _ _) (Nat.le_refl _) (ge_nil _)⟩

end Go.Proofs.YtpdichhabjieeaaGreatDoor
