/- The copies of package index return and leave all that was there alone; printed by a program of this repository (gen/cpb.py). -/
import Derived.Test.YtpdichhabjieeaaGreatDoorRo1
import Derived.Test.YtpdichhabjieeaaGreatDoorCw
namespace Go.Proofs.YtpdichhabjieeaaGreatDoor
open Go.RowKit Go.Sx
set_option linter.unusedVariables false
set_option linter.unusedSimpArgs false

theorem szV_mem {R : List (List D)} {r : List D} {k : Nat} (h : (D.sl R).sz < k) (hm : r ∈ R) : szL r < k := by
  have := szR_mem hm
  simp only [D.sz] at h
  omega
theorem cvs_of (k : Nat) (IH : ∀ (n0 n1 : Int) (s : ByteArray) (R3 : List (List D)) (a3 : Option Addr) (c3 : Nat) (f3 : FitR sh by_ R3 (sh 0)) (b3 : R3.length * 80 ≤ 140737488355328) (R4 : List (List D)) (a4 : Option Addr) (c4 : Nat) (f4 : FitR sh by_ R4 (sh 1)) (b4 : R4.length * 96 ≤ 140737488355328) (w : World) (S : Nat → Prop) (h3 : Rd S w (.sl R3) (.slice a3 R3.length c3)) (h4 : Rd S w (.sl R4) (.slice a4 R4.length c4)), szL [.int n0, .int n1, .str s, .sl R3, .sl R4] < k →
    Calls Tryz.prog 118 #[.agg #[.int .i64 n0, .int .i64 n1, .string s, .slice a3 R3.length c3, .slice a4 R4.length c4]] w (fun e w' => ∃ y : (Option Addr × Nat × Nat) × (Option Addr × Nat × Nat), e = .returned (.agg #[.int .i64 n0, .int .i64 n1, .string s, .slice y.1.1 y.1.2.1 y.1.2.2, .slice y.2.1 y.2.2.1 y.2.2.2]) ∧ True ∧ Below w.heap.size w w')) (R_x : List (List D)) (a_x : Option Addr) (cap_x : Nat) (fR_x : FitR sh by_ R_x (sh 0)) (b_x : R_x.length * 80 ≤ 140737488355328) (w : World) (S : Nat → Prop) (h_x : Rd S w (.sl R_x) (.slice a_x R_x.length cap_x)) (hsz0 : (D.sl R_x).sz < k) : Calls Tryz.prog 160 #[.slice a_x R_x.length cap_x] w (fun e w' => ∃ y : (Option Addr × Nat × Nat), e = .returned (.slice y.1 y.2.1 y.2.2) ∧ True ∧ Below w.heap.size w w') := by
  refine Sx.enter (l := [.slice a_x R_x.length cap_x]) Tryz.func160 rfl (n := 19) rfl (by simp) ?_
  refine wc_eq (S := SH w []) (SH.refl _) ?_
  refine wc_seq ?_
  refine wc_region ?_
  refine wl_go 1 [(2, .slice none 0 0)] (by kernel_rfl) ?_
  refine nx_list ?_
  refine nx_then ?_
  refine wc_seq ?_
  refine wc_region ?_
  refine wl_go 1 [(3, .slice none 0 0)] (by kernel_rfl) ?_
  refine nx_list ?_
  refine nx_then ?_
  refine wc_seq ?_
  refine wc_seq ?_
  refine wc_region ?_
  refine wl_go 3 [(8, .int .i64 0), (7, .int .i64 (R_x.length : Int)), (6, .slice a_x R_x.length cap_x)] (by kernel_rfl) ?_
  refine nx_list ?_
  refine nx_then ?_
  refine wc_block ?_
  refine wc_loop (σ := Cw w 25 5 R_x.length) (fun x => [(3, .slice x.a x.n x.c), (6, .slice a_x R_x.length cap_x), (7, .int .i64 (R_x.length : Int)), (8, .int .i64 (x.i : Int))]) (fun x => SH w (([] : List Blk) ++ x.R)) (fun x => R_x.length - x.i) (fun w3 h3 => ⟨Cw.begin w 25 5 R_x.length, SH.addN h3, (subEnv_cons (by kernel_rfl) (subEnv_cons (by kernel_rfl) (subEnv_cons (by kernel_rfl) (subEnv_cons (by kernel_rfl) (subEnv_nil _)))))⟩) (fun x => ?_)
  have hxi_x := x.hi
  refine wc_seq ?_
  refine wc_region ?_
  refine wl_go 1 [(9, .bool (decide ((x.i : Int) < (R_x.length : Int))))] (by kernel_rfl) ?_
  refine nx_list ?_
  refine nx_then ?_
  refine wc_seq ?_
  refine wc_cond (decide ((x.i : Int) < (R_x.length : Int))) (by kernel_rfl) (by kernel_rfl) (fun hcl_x => ?_) (fun hcl_x => ?_)
  · skip
    have hlt_x : x.i < R_x.length := by simpa using hcl_x
    obtain ⟨r_p, hrow_p⟩ : ∃ r, R_x[x.i]? = some r := ⟨_, List.getElem?_eq_getElem (hlt_x)⟩
    obtain ⟨gp, op, cs_p, rfl, hI_p, hc_p, l_p, hg_p⟩ := Rd.row_at (es := 5) h_x (fun r hr => fR_x.length r hr) hrow_p
    have hm_p := List.mem_of_getElem? hrow_p
    have hfr_p := fR_x.mem hm_p
    obtain ⟨d_p0, e_p0, rfl, hf_p0, ht_p0⟩ := FitL.cons (k := .int) (ks := _) hfr_p
    obtain ⟨n_p0, rfl, _⟩ := Fit.int hf_p0
    obtain ⟨d_p1, e_p1, rfl, hf_p1, ht_p1⟩ := FitL.cons (k := .int) (ks := _) ht_p0
    obtain ⟨n_p1, rfl, _⟩ := Fit.int hf_p1
    obtain ⟨d_p2, e_p2, rfl, hf_p2, ht_p2⟩ := FitL.cons (k := .str) (ks := _) ht_p1
    obtain ⟨n_p2, rfl, _⟩ := Fit.str hf_p2
    obtain ⟨d_p3, e_p3, rfl, hf_p3, ht_p3⟩ := FitL.cons (k := .sl 0) (ks := _) ht_p2
    obtain ⟨R_p3, rfl, b_p3, fR_p3⟩ := Fit.sl hf_p3
    have b_p3 : R_p3.length * 80 ≤ 140737488355328 := b_p3
    obtain ⟨d_p4, e_p4, rfl, hf_p4, ht_p4⟩ := FitL.cons (k := .sl 1) (ks := _) ht_p3
    obtain ⟨R_p4, rfl, b_p4, fR_p4⟩ := Fit.sl hf_p4
    have b_p4 : R_p4.length * 96 ≤ 140737488355328 := b_p4
    obtain rfl := FitL.nil ht_p4
    obtain ⟨c_p0, z_p0, rfl, h_p0, hr_p0⟩ := RdL.cons hc_p
    rw [Rd] at h_p0; subst h_p0
    obtain ⟨c_p1, z_p1, rfl, h_p1, hr_p1⟩ := RdL.cons hr_p0
    rw [Rd] at h_p1; subst h_p1
    obtain ⟨c_p2, z_p2, rfl, h_p2, hr_p2⟩ := RdL.cons hr_p1
    rw [Rd] at h_p2; subst h_p2
    obtain ⟨c_p3, z_p3, rfl, h_p3, hr_p3⟩ := RdL.cons hr_p2
    obtain ⟨a_p3, cap_p3, rfl⟩ := h_p3.slv
    obtain ⟨c_p4, z_p4, rfl, h_p4, hr_p4⟩ := RdL.cons hr_p3
    obtain ⟨a_p4, cap_p4, rfl⟩ := h_p4.slv
    obtain rfl := RdL.nil hr_p4
    have hsz := szV_mem hsz0 hm_p
    refine nx_skip ?_
    refine nx_then ?_
    refine wc_seq ?_
    refine wc_block ?_
    refine wc_seq ?_
    refine wc_region ?_
    refine wl_yl (d := 10) (v := .pointer (some ⟨gp, op + x.i * 5, none⟩)) (by kernel_rfl) (yl_index (E := 25) (b := gp) (off := op) (len := R_x.length) (cap := cap_x) (k := x.i) (es := 5) rfl (by kernel_rfl) (by kernel_rfl) (by kernel_rfl) (by omega)) ?_
    refine wl_yl (d := 11) (v := .agg #[.int .i64 n_p0, .int .i64 n_p1, .string n_p2, .slice a_p3 R_p3.length cap_p3, .slice a_p4 R_p4.length cap_p4]) (by kernel_rfl) (yl_loads_im (b := gp) (off := op + x.i * 5) (cs := [.int .i64 n_p0, .int .i64 n_p1, .string n_p2, .slice a_p3 R_p3.length cap_p3, .slice a_p4 R_p4.length cap_p4]) rfl (by kernel_rfl) (im_new ((rangeAt_lt hg_p rfl)) (ge_app (ge_nil _) x.hR)) (by kernel_rfl) hg_p) ?_
    refine wl_new (d := 5) #[.int .i64 0, .int .i64 0, .string ByteArray.empty, .slice none 0 0, .slice none 0 0] 25 (fun r => .pointer (some ⟨r, 0, none⟩)) (by kernel_rfl) (fun r => by kernel_rfl) ?_
    intro r1 hr1
    refine wl_store (b := r1) (off := 0) (v := .agg #[.int .i64 n_p0, .int .i64 n_p1, .string n_p2, .slice a_p3 R_p3.length cap_p3, .slice a_p4 R_p4.length cap_p4]) (c' := #[.int .i64 n_p0, .int .i64 n_p1, .string n_p2, .slice a_p3 R_p3.length cap_p3, .slice a_p4 R_p4.length cap_p4]) (L' := (([⟨r1, #[.int .i64 n_p0, .int .i64 n_p1, .string n_p2, .slice a_p3 R_p3.length cap_p3, .slice a_p4 R_p4.length cap_p4], 25⟩] : List Blk) ++ x.R)) 0 (by kernel_rfl) rfl (by kernel_rfl) (by kernel_rfl) rfl (by kernel_rfl) rfl ?_
    refine nx_list ?_
    refine nx_then ?_
    refine wc_region ?_
    refine wl_go 1 [(12, .slice x.a x.n x.c)] (by kernel_rfl) ?_
    refine wl_yl (d := 13) (v := .agg #[.int .i64 n_p0, .int .i64 n_p1, .string n_p2, .slice a_p3 R_p3.length cap_p3, .slice a_p4 R_p4.length cap_p4]) (by kernel_rfl) (yl_load (b := r1) (off := 0) 0 rfl (by kernel_rfl) rfl (by kernel_rfl)) ?_
    refine wl_callX shK (X := (Option Addr × Nat × Nat) × (Option Addr × Nat × Nat)) (d := 14) (fun y => .agg #[.int .i64 n_p0, .int .i64 n_p1, .string n_p2, .slice y.1.1 y.1.2.1 y.1.2.2, .slice y.2.1 y.2.2.1 y.2.2.2]) (fun _ => True) (by kernel_rfl) (by kernel_rfl) (fun w1 h1 => IH n_p0 n_p1 n_p2 _ _ _ fR_p3 b_p3 _ _ _ fR_p4 b_p4 w1 _ (h_p3.any.stays (Bl.stays (h1.below (Below.refl _ _) (Nat.le_refl _) (ge_app (ge_cons hr1 (ge_nil _)) x.hR)))) (h_p4.any.stays (Bl.stays (h1.below (Below.refl _ _) (Nat.le_refl _) (ge_app (ge_cons hr1 (ge_nil _)) x.hR)))) hsz) ?_
    rintro ⟨⟨a3kq1, n3kq1, c3kq1⟩, ⟨a4kq1, n4kq1, c4kq1⟩⟩ _
    refine wl_new (d := 15) #[.int .i64 n_p0, .int .i64 n_p1, .string n_p2, .slice a3kq1 n3kq1 c3kq1, .slice a4kq1 n4kq1 c4kq1] 25 (fun r => .slice (some ⟨r, 0, none⟩) 1 1) (by kernel_rfl) (fun r => by kernel_rfl) ?_
    intro r2 hr2
    refine wl_appendF (L := ([⟨r2, #[.int .i64 n_p0, .int .i64 n_p1, .string n_p2, .slice a3kq1 n3kq1 c3kq1, .slice a4kq1 n4kq1 c4kq1], 25⟩, ⟨r1, #[.int .i64 n_p0, .int .i64 n_p1, .string n_p2, .slice a_p3 R_p3.length cap_p3, .slice a_p4 R_p4.length cap_p4], 25⟩] : List Blk)) (R := x.R) (d := 16) 25 (.agg #[.int .i64 0, .int .i64 0, .string ByteArray.empty, .slice none 0 0, .slice none 0 0]) 5 80 (v := .slice x.a x.n x.c) (k := x.i) (xs := x.xs) (a := ⟨r2, 0, none⟩) (m := 1) (c := 1) [.int .i64 n_p0, .int .i64 n_p1, .string n_p2, .slice a3kq1 n3kq1 c3kq1, .slice a4kq1 n4kq1 c4kq1] (by kernel_rfl) rfl (by kernel_rfl) rfl (by decide) (by kernel_rfl) x.own x.hR (by kernel_rfl) rfl (fun w3 h3 => h3.news 0 rfl) (by intro u hu; simp only [List.mem_cons, List.not_mem_nil, or_false] at hu; rcases hu with rfl | rfl | rfl | rfl | rfl <;> first | rfl | assumption) (by simp only [maxLen]; omega) (by omega) ?_
    intro nv_x nR_x nown_x nhR_x
    obtain ⟨na_x, nn_x, nc_x, rfl⟩ := nown_x.slv
    refine wl_go 1 [(3, .slice na_x nn_x nc_x)] (by kernel_rfl) ?_
    refine nx_list ?_
    refine nx_block ?_
    refine nx_then ?_
    refine wc_region ?_
    refine wl_yl (d := 17) (v := .int .i64 ((x.i : Int) + 1)) (by kernel_rfl) (yl_int (t := (x.i : Int) + 1) (r := (x.i : Int) + 1) (by kernel_rfl) (i64w (by omega) (by omega))) ?_
    refine wl_go 1 [(8, .int .i64 ((x.i : Int) + 1))] (by kernel_rfl) ?_
    refine nx_list ?_
    refine nx_round_w (fun w9 h9 => ⟨x.next hlt_x nown_x nhR_x, (show R_x.length - (x.i + 1) < R_x.length - x.i by omega), (subEnv_cons (by kernel_rfl) (subEnv_cons (by kernel_rfl) (subEnv_cons (by kernel_rfl) (subEnv_cons (by kernel_rfl) (subEnv_nil _))))), ((h9.tail hr2).tail hr1)⟩)
  · skip
    refine nx_exit ?_
    refine nx_then_exit ?_
    refine nx_then_exit ?_
    refine nx_block_here ?_
    refine nx_then ?_
    refine wc_seq ?_
    refine wc_region ?_
    refine wl_go 2 [(2, .slice x.a x.n x.c), (18, .slice x.a x.n x.c)] (by kernel_rfl) ?_
    refine nx_list ?_
    refine nx_then ?_
    refine nx_ret ?_
    refine ret_tmp (v := .slice x.a x.n x.c) rfl (by kernel_rfl) ?_
    intro w' hw'
    exact ⟨(x.a, x.n, x.c), rfl, trivial, hw'.below (Below.refl _ _) (Nat.le_refl _) (ge_app (ge_nil _) x.hR)⟩

theorem szF_mem {n0 n1 : Int} {s t : ByteArray} {R3 R4 : List (List D)} {m0 m1 : Int} {u : ByteArray} {Q3 Q4 : List (List D)} {k : Nat} (h : szL [.int n0, .int n1, .str s, .sl R3, .sl R4] < k + 1) (hm : [D.str t, .int m0, .int m1, .str u, .sl Q3, .sl Q4] ∈ R4) : szL [.int m0, .int m1, .str u, .sl Q3, .sl Q4] < k := by
  have := szR_mem hm
  simp only [szL, D.sz] at h this ⊢
  omega
theorem cv_step (k : Nat) (IH : ∀ (n0 n1 : Int) (s : ByteArray) (R3 : List (List D)) (a3 : Option Addr) (c3 : Nat) (f3 : FitR sh by_ R3 (sh 0)) (b3 : R3.length * 80 ≤ 140737488355328) (R4 : List (List D)) (a4 : Option Addr) (c4 : Nat) (f4 : FitR sh by_ R4 (sh 1)) (b4 : R4.length * 96 ≤ 140737488355328) (w : World) (S : Nat → Prop) (h3 : Rd S w (.sl R3) (.slice a3 R3.length c3)) (h4 : Rd S w (.sl R4) (.slice a4 R4.length c4)), szL [.int n0, .int n1, .str s, .sl R3, .sl R4] < k →
    Calls Tryz.prog 118 #[.agg #[.int .i64 n0, .int .i64 n1, .string s, .slice a3 R3.length c3, .slice a4 R4.length c4]] w (fun e w' => ∃ y : (Option Addr × Nat × Nat) × (Option Addr × Nat × Nat), e = .returned (.agg #[.int .i64 n0, .int .i64 n1, .string s, .slice y.1.1 y.1.2.1 y.1.2.2, .slice y.2.1 y.2.2.1 y.2.2.2]) ∧ True ∧ Below w.heap.size w w')) (n0 n1 : Int) (s : ByteArray) (R_x3 : List (List D)) (a_x3 : Option Addr) (cap_x3 : Nat) (fR_x3 : FitR sh by_ R_x3 (sh 0)) (b_x3 : R_x3.length * 80 ≤ 140737488355328) (R_x4 : List (List D)) (a_x4 : Option Addr) (cap_x4 : Nat) (fR_x4 : FitR sh by_ R_x4 (sh 1)) (b_x4 : R_x4.length * 96 ≤ 140737488355328) (w : World) (S : Nat → Prop) (h_x3 : Rd S w (.sl R_x3) (.slice a_x3 R_x3.length cap_x3)) (h_x4 : Rd S w (.sl R_x4) (.slice a_x4 R_x4.length cap_x4)) (hsz0 : szL [.int n0, .int n1, .str s, .sl R_x3, .sl R_x4] < k + 1) : Calls Tryz.prog 118 #[.agg #[.int .i64 n0, .int .i64 n1, .string s, .slice a_x3 R_x3.length cap_x3, .slice a_x4 R_x4.length cap_x4]] w (fun e w' => ∃ y : (Option Addr × Nat × Nat) × (Option Addr × Nat × Nat), e = .returned (.agg #[.int .i64 n0, .int .i64 n1, .string s, .slice y.1.1 y.1.2.1 y.1.2.2, .slice y.2.1 y.2.2.1 y.2.2.2]) ∧ True ∧ Below w.heap.size w w') := by
  refine Sx.enter (l := [.agg #[.int .i64 n0, .int .i64 n1, .string s, .slice a_x3 R_x3.length cap_x3, .slice a_x4 R_x4.length cap_x4]]) Tryz.func118 rfl (n := 36) rfl (by simp) ?_
  refine wc_eq (S := SH w []) (SH.refl _) ?_
  refine wc_seq ?_
  refine wc_region ?_
  refine wl_new (d := 1) #[.int .i64 n0, .int .i64 n1, .string s, .slice a_x3 R_x3.length cap_x3, .slice a_x4 R_x4.length cap_x4] 25 (fun r => .pointer (some ⟨r, 0, none⟩)) (by kernel_rfl) (fun r => by kernel_rfl) ?_
  intro r1 hr1
  refine wl_new (d := 2) #[.int .i64 0, .int .i64 0, .string ByteArray.empty, .slice none 0 0, .slice none 0 0] 25 (fun r => .pointer (some ⟨r, 0, none⟩)) (by kernel_rfl) (fun r => by kernel_rfl) ?_
  intro r2 hr2
  refine nx_list ?_
  refine nx_then ?_
  refine wc_seq ?_
  refine wc_draw 11 (SH w [⟨r2, #[.int .i64 0, .int .i64 0, .string ByteArray.empty, .slice none 0 0, .slice none 0 0], 25⟩, ⟨r1, #[.int .i64 n0, .int .i64 n1, .string s, .slice a_x3 R_x3.length cap_x3, .slice a_x4 R_x4.length cap_x4], 25⟩]) rfl (by decide) (fun w h => SH.drew h) ?_
  refine wd_go [0] [(6, .pointer (some ⟨r1, 0, none⟩))] #[true, false, false, false, false, false, false, false, false, false, false, false] (f := 10) rfl (by kernel_rfl) (fun w h => h) ?_
  refine wd_yl 1 (d := 7) (v := .int .i64 n0) (f := 9) rfl (by kernel_rfl) (by kernel_rfl) (fun w h => h) (yl_load (b := r1) (off := 0) 1 rfl (by kernel_rfl) rfl (by kernel_rfl)) ?_
  refine wd_go [2] [(8, .pointer (some ⟨r1, 1, none⟩))] #[true, true, true, false, false, false, false, false, false, false, false, false] (f := 8) rfl (by kernel_rfl) (fun w h => h) ?_
  refine wd_yl 3 (d := 9) (v := .int .i64 n1) (f := 7) rfl (by kernel_rfl) (by kernel_rfl) (fun w h => h) (yl_load (b := r1) (off := 1) 1 rfl (by kernel_rfl) rfl (by kernel_rfl)) ?_
  refine wd_go [4] [(10, .pointer (some ⟨r1, 2, none⟩))] #[true, true, true, true, true, false, false, false, false, false, false, false] (f := 6) rfl (by kernel_rfl) (fun w h => h) ?_
  refine wd_yl 5 (d := 11) (v := .string s) (f := 5) rfl (by kernel_rfl) (by kernel_rfl) (fun w h => h) (yl_load (b := r1) (off := 2) 1 rfl (by kernel_rfl) rfl (by kernel_rfl)) ?_
  refine wd_go [6] [(12, .pointer (some ⟨r1, 3, none⟩))] #[true, true, true, true, true, true, true, false, false, false, false, false] (f := 4) rfl (by kernel_rfl) (fun w h => h) ?_
  refine wd_yl 7 (d := 13) (v := .slice a_x3 R_x3.length cap_x3) (f := 3) rfl (by kernel_rfl) (by kernel_rfl) (fun w h => h) (yl_load (b := r1) (off := 3) 1 rfl (by kernel_rfl) rfl (by kernel_rfl)) ?_
  refine wd_two 8 10 (f := 2) (by kernel_rfl) ?_ ?_
  · skip
    refine w1_callX shK (fun w h => h) 8 (X := (Option Addr × Nat × Nat)) (d := 14) (fu := 2) (fun y => .slice y.1 y.2.1 y.2.2) (fun _ => True) rfl (by decide) (by kernel_rfl) (by kernel_rfl) (fun w1 h1 => cvs_of k IH R_x3 a_x3 cap_x3 fR_x3 b_x3 w1 _ (h_x3.any.stays (Bl.stays (h1.below (Below.refl _ _) (Nat.le_refl _) (ge_cons hr2 (ge_cons hr1 (ge_nil _)))))) (by simp only [szL, D.sz] at hsz0 ⊢; omega)) ?_
    rintro ⟨a3, n3, c3⟩ _
    refine wd_go [9] [(15, .agg #[.int .i64 n0, .int .i64 n1, .string s, .slice a3 n3 c3, .slice none 0 0])] #[true, true, true, true, true, true, true, true, true, true, false, false] (f := 1) rfl (by kernel_rfl) (fun w h => h) ?_
    refine wd_newX (d := 3) (f := 0) 10 #[.int .i64 0, .int .i64 0, .string ByteArray.empty, .slice none 0 0, .slice none 0 0] 25 (fun r => .pointer (some ⟨r, 0, none⟩)) rfl (by decide) (by kernel_rfl) (by kernel_rfl) (fun r => by kernel_rfl) (fun r w hr h => (fun w h => h) _ (h.tail hr)) ?_
    intro r3 hr3
    have hsubq1 : ∀ q, SH w [⟨r3, #[.int .i64 0, .int .i64 0, .string ByteArray.empty, .slice none 0 0, .slice none 0 0], 25⟩, ⟨r2, #[.int .i64 0, .int .i64 0, .string ByteArray.empty, .slice none 0 0, .slice none 0 0], 25⟩, ⟨r1, #[.int .i64 n0, .int .i64 n1, .string s, .slice a_x3 R_x3.length cap_x3, .slice a_x4 R_x4.length cap_x4], 25⟩] q → (SH w [⟨r2, #[.int .i64 0, .int .i64 0, .string ByteArray.empty, .slice none 0 0, .slice none 0 0], 25⟩, ⟨r1, #[.int .i64 n0, .int .i64 n1, .string s, .slice a_x3 R_x3.length cap_x3, .slice a_x4 R_x4.length cap_x4], 25⟩]) q := fun q h => (fun w h => h) _ (h.tail hr3)
    refine wd_done (by kernel_rfl) ?_
    refine wl_store (b := r3) (off := 0) (v := .agg #[.int .i64 n0, .int .i64 n1, .string s, .slice a3 n3 c3, .slice none 0 0]) (c' := #[.int .i64 n0, .int .i64 n1, .string s, .slice a3 n3 c3, .slice none 0 0]) (L' := [⟨r3, #[.int .i64 n0, .int .i64 n1, .string s, .slice a3 n3 c3, .slice none 0 0], 25⟩, ⟨r2, #[.int .i64 0, .int .i64 0, .string ByteArray.empty, .slice none 0 0, .slice none 0 0], 25⟩, ⟨r1, #[.int .i64 n0, .int .i64 n1, .string s, .slice a_x3 R_x3.length cap_x3, .slice a_x4 R_x4.length cap_x4], 25⟩]) 0 (by kernel_rfl) rfl (by kernel_rfl) (by kernel_rfl) rfl (by kernel_rfl) rfl ?_
    refine nx_list ?_
    refine nx_on ?_
    refine nx_then ?_
    refine wc_seq ?_
    refine wc_seq ?_
    refine wc_region ?_
    refine wl_go 1 [(16, .pointer (some ⟨r1, 4, none⟩))] (by kernel_rfl) ?_
    refine wl_yl (d := 17) (v := .slice a_x4 R_x4.length cap_x4) (by kernel_rfl) (yl_load (b := r1) (off := 4) 2 rfl (by kernel_rfl) rfl (by kernel_rfl)) ?_
    refine wl_go 2 [(19, .int .i64 0), (18, .int .i64 (R_x4.length : Int))] (by kernel_rfl) ?_
    refine nx_list ?_
    refine nx_then ?_
    refine wc_block ?_
    refine wc_loop (σ := Cw w 75 6 R_x4.length) (fun x => [(2, .pointer (some ⟨r2, 0, none⟩)), (3, .pointer (some ⟨r3, 0, none⟩)), (17, .slice a_x4 R_x4.length cap_x4), (18, .int .i64 (R_x4.length : Int)), (19, .int .i64 (x.i : Int))]) (fun x => SH w (([⟨r3, #[.int .i64 n0, .int .i64 n1, .string s, .slice a3 n3 c3, .slice x.a x.n x.c], 25⟩, ⟨r2, #[.int .i64 0, .int .i64 0, .string ByteArray.empty, .slice none 0 0, .slice none 0 0], 25⟩, ⟨r1, #[.int .i64 n0, .int .i64 n1, .string s, .slice a_x3 R_x3.length cap_x3, .slice a_x4 R_x4.length cap_x4], 25⟩] : List Blk) ++ x.R)) (fun x => R_x4.length - x.i) (fun w3 h3 => ⟨Cw.begin w 75 6 R_x4.length, SH.addN h3, (subEnv_cons (by kernel_rfl) (subEnv_cons (by kernel_rfl) (subEnv_cons (by kernel_rfl) (subEnv_cons (by kernel_rfl) (subEnv_cons (by kernel_rfl) (subEnv_nil _))))))⟩) (fun x => ?_)
    have hxi_x := x.hi
    refine wc_seq ?_
    refine wc_region ?_
    refine wl_go 1 [(20, .bool (decide ((x.i : Int) < (R_x4.length : Int))))] (by kernel_rfl) ?_
    refine nx_list ?_
    refine nx_then ?_
    refine wc_seq ?_
    refine wc_cond (decide ((x.i : Int) < (R_x4.length : Int))) (by kernel_rfl) (by kernel_rfl) (fun hcl_x => ?_) (fun hcl_x => ?_)
    · skip
      have hlt_x : x.i < R_x4.length := by simpa using hcl_x
      obtain ⟨r_p, hrow_p⟩ : ∃ r, R_x4[x.i]? = some r := ⟨_, List.getElem?_eq_getElem (hlt_x)⟩
      obtain ⟨gp, op, cs_p, rfl, hI_p, hc_p, l_p, hg_p⟩ := Rd.row_at (es := 6) h_x4 (fun r hr => fR_x4.length r hr) hrow_p
      have hm_p := List.mem_of_getElem? hrow_p
      have hfr_p := fR_x4.mem hm_p
      obtain ⟨d_p0, e_p0, rfl, hf_p0, ht_p0⟩ := FitL.cons (k := .str) (ks := _) hfr_p
      obtain ⟨n_p0, rfl, _⟩ := Fit.str hf_p0
      obtain ⟨d_p1, e_p1, rfl, hf_p1, ht_p1⟩ := FitL.cons (k := .int) (ks := _) ht_p0
      obtain ⟨n_p1, rfl, _⟩ := Fit.int hf_p1
      obtain ⟨d_p2, e_p2, rfl, hf_p2, ht_p2⟩ := FitL.cons (k := .int) (ks := _) ht_p1
      obtain ⟨n_p2, rfl, _⟩ := Fit.int hf_p2
      obtain ⟨d_p3, e_p3, rfl, hf_p3, ht_p3⟩ := FitL.cons (k := .str) (ks := _) ht_p2
      obtain ⟨n_p3, rfl, _⟩ := Fit.str hf_p3
      obtain ⟨d_p4, e_p4, rfl, hf_p4, ht_p4⟩ := FitL.cons (k := .sl 0) (ks := _) ht_p3
      obtain ⟨R_p4, rfl, b_p4, fR_p4⟩ := Fit.sl hf_p4
      have b_p4 : R_p4.length * 80 ≤ 140737488355328 := b_p4
      obtain ⟨d_p5, e_p5, rfl, hf_p5, ht_p5⟩ := FitL.cons (k := .sl 1) (ks := _) ht_p4
      obtain ⟨R_p5, rfl, b_p5, fR_p5⟩ := Fit.sl hf_p5
      have b_p5 : R_p5.length * 96 ≤ 140737488355328 := b_p5
      obtain rfl := FitL.nil ht_p5
      obtain ⟨c_p0, z_p0, rfl, h_p0, hr_p0⟩ := RdL.cons hc_p
      rw [Rd] at h_p0; subst h_p0
      obtain ⟨c_p1, z_p1, rfl, h_p1, hr_p1⟩ := RdL.cons hr_p0
      rw [Rd] at h_p1; subst h_p1
      obtain ⟨c_p2, z_p2, rfl, h_p2, hr_p2⟩ := RdL.cons hr_p1
      rw [Rd] at h_p2; subst h_p2
      obtain ⟨c_p3, z_p3, rfl, h_p3, hr_p3⟩ := RdL.cons hr_p2
      rw [Rd] at h_p3; subst h_p3
      obtain ⟨c_p4, z_p4, rfl, h_p4, hr_p4⟩ := RdL.cons hr_p3
      obtain ⟨a_p4, cap_p4, rfl⟩ := h_p4.slv
      obtain ⟨c_p5, z_p5, rfl, h_p5, hr_p5⟩ := RdL.cons hr_p4
      obtain ⟨a_p5, cap_p5, rfl⟩ := h_p5.slv
      obtain rfl := RdL.nil hr_p5
      have hsz := szF_mem hsz0 hm_p
      refine nx_skip ?_
      refine nx_then ?_
      refine wc_seq ?_
      refine wc_block ?_
      refine wc_seq ?_
      refine wc_region ?_
      refine wl_yl (d := 21) (v := .pointer (some ⟨gp, op + x.i * 6, none⟩)) (by kernel_rfl) (yl_index (E := 75) (b := gp) (off := op) (len := R_x4.length) (cap := cap_x4) (k := x.i) (es := 6) rfl (by kernel_rfl) (by kernel_rfl) (by kernel_rfl) (by omega)) ?_
      refine wl_yl (d := 22) (v := .agg #[.string n_p0, .int .i64 n_p1, .int .i64 n_p2, .string n_p3, .slice a_p4 R_p4.length cap_p4, .slice a_p5 R_p5.length cap_p5]) (by kernel_rfl) (yl_loads_im (b := gp) (off := op + x.i * 6) (cs := [.string n_p0, .int .i64 n_p1, .int .i64 n_p2, .string n_p3, .slice a_p4 R_p4.length cap_p4, .slice a_p5 R_p5.length cap_p5]) rfl (by kernel_rfl) (im_new ((rangeAt_lt hg_p rfl)) (ge_app (ge_cons hr3 (ge_cons hr2 (ge_cons hr1 (ge_nil _)))) x.hR)) (by kernel_rfl) hg_p) ?_
      refine wl_new (d := 5) #[.string ByteArray.empty, .int .i64 0, .int .i64 0, .string ByteArray.empty, .slice none 0 0, .slice none 0 0] 75 (fun r => .pointer (some ⟨r, 0, none⟩)) (by kernel_rfl) (fun r => by kernel_rfl) ?_
      intro r4 hr4
      refine wl_store (b := r4) (off := 0) (v := .agg #[.string n_p0, .int .i64 n_p1, .int .i64 n_p2, .string n_p3, .slice a_p4 R_p4.length cap_p4, .slice a_p5 R_p5.length cap_p5]) (c' := #[.string n_p0, .int .i64 n_p1, .int .i64 n_p2, .string n_p3, .slice a_p4 R_p4.length cap_p4, .slice a_p5 R_p5.length cap_p5]) (L' := (([⟨r4, #[.string n_p0, .int .i64 n_p1, .int .i64 n_p2, .string n_p3, .slice a_p4 R_p4.length cap_p4, .slice a_p5 R_p5.length cap_p5], 75⟩, ⟨r3, #[.int .i64 n0, .int .i64 n1, .string s, .slice a3 n3 c3, .slice x.a x.n x.c], 25⟩, ⟨r2, #[.int .i64 0, .int .i64 0, .string ByteArray.empty, .slice none 0 0, .slice none 0 0], 25⟩, ⟨r1, #[.int .i64 n0, .int .i64 n1, .string s, .slice a_x3 R_x3.length cap_x3, .slice (some ⟨gp, op, none⟩) R_x4.length cap_x4], 25⟩] : List Blk) ++ x.R)) 0 (by kernel_rfl) rfl (by kernel_rfl) (by kernel_rfl) rfl (by kernel_rfl) rfl ?_
      refine nx_list ?_
      refine nx_then ?_
      have hS0 : ∀ q, SH w (([⟨r4, #[.string n_p0, .int .i64 n_p1, .int .i64 n_p2, .string n_p3, .slice a_p4 R_p4.length cap_p4, .slice a_p5 R_p5.length cap_p5], 75⟩, ⟨r3, #[.int .i64 n0, .int .i64 n1, .string s, .slice a3 n3 c3, .slice x.a x.n x.c], 25⟩, ⟨r2, #[.int .i64 0, .int .i64 0, .string ByteArray.empty, .slice none 0 0, .slice none 0 0], 25⟩, ⟨r1, #[.int .i64 n0, .int .i64 n1, .string s, .slice a_x3 R_x3.length cap_x3, .slice (some ⟨gp, op, none⟩) R_x4.length cap_x4], 25⟩] : List Blk) ++ x.R) q → ((fun q => ∃ R9 : List Blk, SH w ([⟨r4, #[.string n_p0, .int .i64 n_p1, .int .i64 n_p2, .string n_p3, .slice a_p4 R_p4.length cap_p4, .slice a_p5 R_p5.length cap_p5], 75⟩, ⟨r3, #[.int .i64 n0, .int .i64 n1, .string s, .slice a3 n3 c3, .slice x.a x.n x.c], 25⟩, ⟨r2, #[.int .i64 0, .int .i64 0, .string ByteArray.empty, .slice none 0 0, .slice none 0 0], 25⟩, ⟨r1, #[.int .i64 n0, .int .i64 n1, .string s, .slice a_x3 R_x3.length cap_x3, .slice (some ⟨gp, op, none⟩) R_x4.length cap_x4], 25⟩] ++ R9) q)) q := fun q h => ⟨_, h⟩
      refine wc_draw 11 ((fun q => ∃ R9 : List Blk, SH w ([⟨r4, #[.string n_p0, .int .i64 n_p1, .int .i64 n_p2, .string n_p3, .slice a_p4 R_p4.length cap_p4, .slice a_p5 R_p5.length cap_p5], 75⟩, ⟨r3, #[.int .i64 n0, .int .i64 n1, .string s, .slice a3 n3 c3, .slice x.a x.n x.c], 25⟩, ⟨r2, #[.int .i64 0, .int .i64 0, .string ByteArray.empty, .slice none 0 0, .slice none 0 0], 25⟩, ⟨r1, #[.int .i64 n0, .int .i64 n1, .string s, .slice a_x3 R_x3.length cap_x3, .slice (some ⟨gp, op, none⟩) R_x4.length cap_x4], 25⟩] ++ R9) q)) rfl (by decide) (fun w h => SH.drew h) ?_
      refine wd_go [0] [(23, .pointer (some ⟨r3, 4, none⟩))] #[true, false, false, false, false, false, false, false, false, false, false, false] (f := 10) rfl (by kernel_rfl) (hS0) ?_
      refine wd_yl 1 (d := 24) (v := .slice x.a x.n x.c) (f := 9) rfl (by kernel_rfl) (by kernel_rfl) (hS0) (yl_exR (fun R9 => (yl_load (b := r3) (off := 4) 1 rfl (by kernel_rfl) rfl (by kernel_rfl)))) ?_
      refine wd_go [2] [(25, .pointer (some ⟨r4, 0, none⟩))] #[true, true, true, false, false, false, false, false, false, false, false, false] (f := 8) rfl (by kernel_rfl) (hS0) ?_
      refine wd_yl 3 (d := 26) (v := .string n_p0) (f := 7) rfl (by kernel_rfl) (by kernel_rfl) (hS0) (yl_exR (fun R9 => (yl_load (b := r4) (off := 0) 0 rfl (by kernel_rfl) rfl (by kernel_rfl)))) ?_
      refine wd_go [4] [(27, .pointer (some ⟨r4, 1, none⟩))] #[true, true, true, true, true, false, false, false, false, false, false, false] (f := 6) rfl (by kernel_rfl) (hS0) ?_
      refine wd_yl 5 (d := 28) (v := .agg #[.int .i64 n_p1, .int .i64 n_p2, .string n_p3, .slice a_p4 R_p4.length cap_p4, .slice a_p5 R_p5.length cap_p5]) (f := 5) rfl (by kernel_rfl) (by kernel_rfl) (hS0) (yl_exR (fun R9 => (yl_load (b := r4) (off := 1) 0 rfl (by kernel_rfl) rfl (by kernel_rfl)))) ?_
      refine wd_callX shK (hS0) 6 (X := (Option Addr × Nat × Nat) × (Option Addr × Nat × Nat)) (d := 29) (fu := 4) (fun y => .agg #[.int .i64 n_p1, .int .i64 n_p2, .string n_p3, .slice y.1.1 y.1.2.1 y.1.2.2, .slice y.2.1 y.2.2.1 y.2.2.2]) (fun _ => True) rfl (by decide) (by kernel_rfl) (by kernel_rfl) (by kernel_rfl) (fun w1 h1 => IH n_p1 n_p2 n_p3 _ _ _ fR_p4 b_p4 _ _ _ fR_p5 b_p5 w1 _ (h_p4.any.stays (Bl.stays (h1.below (Below.refl _ _) (Nat.le_refl _) (ge_app (ge_cons hr4 (ge_cons hr3 (ge_cons hr2 (ge_cons hr1 (ge_nil _))))) x.hR)))) (h_p5.any.stays (Bl.stays (h1.below (Below.refl _ _) (Nat.le_refl _) (ge_app (ge_cons hr4 (ge_cons hr3 (ge_cons hr2 (ge_cons hr1 (ge_nil _))))) x.hR)))) hsz) ?_
      rintro ⟨⟨a3kq2, n3kq2, c3kq2⟩, ⟨a4kq2, n4kq2, c4kq2⟩⟩ _
      refine wd_go [7] [(30, .agg #[.string n_p0, .int .i64 n_p1, .int .i64 n_p2, .string n_p3, .slice a3kq2 n3kq2 c3kq2, .slice a4kq2 n4kq2 c4kq2])] #[true, true, true, true, true, true, true, true, false, false, false, false] (f := 3) rfl (by kernel_rfl) (hS0) ?_
      refine wd_newX (d := 31) (f := 2) 8 #[.string n_p0, .int .i64 n_p1, .int .i64 n_p2, .string n_p3, .slice a3kq2 n3kq2 c3kq2, .slice a4kq2 n4kq2 c4kq2] 75 (fun r => .slice (some ⟨r, 0, none⟩) 1 1) rfl (by decide) (by kernel_rfl) (by kernel_rfl) (fun r => by kernel_rfl) (fun r w hr h => (hS0) _ (h.tail hr)) ?_
      intro r5 hr5
      have hsubq3 : ∀ q, SH w (([⟨r5, #[.string n_p0, .int .i64 n_p1, .int .i64 n_p2, .string n_p3, .slice a3kq2 n3kq2 c3kq2, .slice a4kq2 n4kq2 c4kq2], 75⟩, ⟨r4, #[.string n_p0, .int .i64 n_p1, .int .i64 n_p2, .string n_p3, .slice a_p4 R_p4.length cap_p4, .slice a_p5 R_p5.length cap_p5], 75⟩, ⟨r3, #[.int .i64 n0, .int .i64 n1, .string s, .slice a3 n3 c3, .slice x.a x.n x.c], 25⟩, ⟨r2, #[.int .i64 0, .int .i64 0, .string ByteArray.empty, .slice none 0 0, .slice none 0 0], 25⟩, ⟨r1, #[.int .i64 n0, .int .i64 n1, .string s, .slice a_x3 R_x3.length cap_x3, .slice (some ⟨gp, op, none⟩) R_x4.length cap_x4], 25⟩] : List Blk) ++ x.R) q → ((fun q => ∃ R9 : List Blk, SH w ([⟨r4, #[.string n_p0, .int .i64 n_p1, .int .i64 n_p2, .string n_p3, .slice a_p4 R_p4.length cap_p4, .slice a_p5 R_p5.length cap_p5], 75⟩, ⟨r3, #[.int .i64 n0, .int .i64 n1, .string s, .slice a3 n3 c3, .slice x.a x.n x.c], 25⟩, ⟨r2, #[.int .i64 0, .int .i64 0, .string ByteArray.empty, .slice none 0 0, .slice none 0 0], 25⟩, ⟨r1, #[.int .i64 n0, .int .i64 n1, .string s, .slice a_x3 R_x3.length cap_x3, .slice (some ⟨gp, op, none⟩) R_x4.length cap_x4], 25⟩] ++ R9) q)) q := fun q h => (hS0) _ (h.tail hr5)
      refine wd_appendF (f := 1) 9 (L := ([⟨r5, #[.string n_p0, .int .i64 n_p1, .int .i64 n_p2, .string n_p3, .slice a3kq2 n3kq2 c3kq2, .slice a4kq2 n4kq2 c4kq2], 75⟩, ⟨r4, #[.string n_p0, .int .i64 n_p1, .int .i64 n_p2, .string n_p3, .slice a_p4 R_p4.length cap_p4, .slice a_p5 R_p5.length cap_p5], 75⟩, ⟨r3, #[.int .i64 n0, .int .i64 n1, .string s, .slice a3 n3 c3, .slice x.a x.n x.c], 25⟩, ⟨r2, #[.int .i64 0, .int .i64 0, .string ByteArray.empty, .slice none 0 0, .slice none 0 0], 25⟩, ⟨r1, #[.int .i64 n0, .int .i64 n1, .string s, .slice a_x3 R_x3.length cap_x3, .slice (some ⟨gp, op, none⟩) R_x4.length cap_x4], 25⟩] : List Blk)) (R := x.R) (d := 32) 75 (.agg #[.string ByteArray.empty, .int .i64 0, .int .i64 0, .string ByteArray.empty, .slice none 0 0, .slice none 0 0]) 6 96 (v := .slice x.a x.n x.c) (k := x.i) (xs := x.xs) (a := ⟨r5, 0, none⟩) (m := 1) (c := 1) [.string n_p0, .int .i64 n_p1, .int .i64 n_p2, .string n_p3, .slice a3kq2 n3kq2 c3kq2, .slice a4kq2 n4kq2 c4kq2] rfl (by decide) (by kernel_rfl) (by kernel_rfl) rfl (by kernel_rfl) rfl (by decide) (by kernel_rfl) x.own x.hR (by kernel_rfl) rfl (fun w3 h3 => h3.news 0 rfl) (by intro u hu; simp only [List.mem_cons, List.not_mem_nil, or_false] at hu; rcases hu with rfl | rfl | rfl | rfl | rfl | rfl <;> first | rfl | assumption) (by simp only [maxLen]; omega) (by omega) (fun R' q h => ⟨_, h.tail hr5⟩) ?_
      intro nv_x nR_x nown_x nhR_x
      obtain ⟨na_x, nn_x, nc_x, rfl⟩ := nown_x.slv
      have hsubq4 : ∀ q, SH w (([⟨r5, #[.string n_p0, .int .i64 n_p1, .int .i64 n_p2, .string n_p3, .slice a3kq2 n3kq2 c3kq2, .slice a4kq2 n4kq2 c4kq2], 75⟩, ⟨r4, #[.string n_p0, .int .i64 n_p1, .int .i64 n_p2, .string n_p3, .slice a_p4 R_p4.length cap_p4, .slice a_p5 R_p5.length cap_p5], 75⟩, ⟨r3, #[.int .i64 n0, .int .i64 n1, .string s, .slice a3 n3 c3, .slice x.a x.n x.c], 25⟩, ⟨r2, #[.int .i64 0, .int .i64 0, .string ByteArray.empty, .slice none 0 0, .slice none 0 0], 25⟩, ⟨r1, #[.int .i64 n0, .int .i64 n1, .string s, .slice a_x3 R_x3.length cap_x3, .slice (some ⟨gp, op, none⟩) R_x4.length cap_x4], 25⟩] : List Blk) ++ nR_x) q → ((fun q => ∃ R9 : List Blk, SH w ([⟨r4, #[.string n_p0, .int .i64 n_p1, .int .i64 n_p2, .string n_p3, .slice a_p4 R_p4.length cap_p4, .slice a_p5 R_p5.length cap_p5], 75⟩, ⟨r3, #[.int .i64 n0, .int .i64 n1, .string s, .slice a3 n3 c3, .slice x.a x.n x.c], 25⟩, ⟨r2, #[.int .i64 0, .int .i64 0, .string ByteArray.empty, .slice none 0 0, .slice none 0 0], 25⟩, ⟨r1, #[.int .i64 n0, .int .i64 n1, .string s, .slice a_x3 R_x3.length cap_x3, .slice (some ⟨gp, op, none⟩) R_x4.length cap_x4], 25⟩] ++ R9) q)) q := fun q h => ⟨_, h.tail hr5⟩
      refine wd_go [10] [(33, .pointer (some ⟨r3, 4, none⟩))] #[true, true, true, true, true, true, true, true, true, true, true, false] (f := 0) rfl (by kernel_rfl) (hsubq4) ?_
      refine wd_done (by kernel_rfl) ?_
      refine wl_store (b := r3) (off := 4) (v := .slice na_x nn_x nc_x) (c' := #[.int .i64 n0, .int .i64 n1, .string s, .slice a3 n3 c3, .slice na_x nn_x nc_x]) (L' := (([⟨r5, #[.string n_p0, .int .i64 n_p1, .int .i64 n_p2, .string n_p3, .slice a3kq2 n3kq2 c3kq2, .slice a4kq2 n4kq2 c4kq2], 75⟩, ⟨r4, #[.string n_p0, .int .i64 n_p1, .int .i64 n_p2, .string n_p3, .slice a_p4 R_p4.length cap_p4, .slice a_p5 R_p5.length cap_p5], 75⟩, ⟨r3, #[.int .i64 n0, .int .i64 n1, .string s, .slice a3 n3 c3, .slice na_x nn_x nc_x], 25⟩, ⟨r2, #[.int .i64 0, .int .i64 0, .string ByteArray.empty, .slice none 0 0, .slice none 0 0], 25⟩, ⟨r1, #[.int .i64 n0, .int .i64 n1, .string s, .slice a_x3 R_x3.length cap_x3, .slice (some ⟨gp, op, none⟩) R_x4.length cap_x4], 25⟩] : List Blk) ++ nR_x)) 2 (by kernel_rfl) rfl (by kernel_rfl) (by kernel_rfl) rfl (by kernel_rfl) rfl ?_
      refine nx_list ?_
      refine nx_on ?_
      refine nx_block ?_
      refine nx_then ?_
      refine wc_region ?_
      refine wl_yl (d := 34) (v := .int .i64 ((x.i : Int) + 1)) (by kernel_rfl) (yl_int (t := (x.i : Int) + 1) (r := (x.i : Int) + 1) (by kernel_rfl) (i64w (by omega) (by omega))) ?_
      refine wl_go 1 [(19, .int .i64 ((x.i : Int) + 1))] (by kernel_rfl) ?_
      refine nx_list ?_
      refine nx_round_w (fun w9 h9 => ⟨x.next hlt_x nown_x nhR_x, (show R_x4.length - (x.i + 1) < R_x4.length - x.i by omega), (subEnv_cons (by kernel_rfl) (subEnv_cons (by kernel_rfl) (subEnv_cons (by kernel_rfl) (subEnv_cons (by kernel_rfl) (subEnv_cons (by kernel_rfl) (subEnv_nil _)))))), ((h9.tail hr5).tail hr4)⟩)
    · skip
      refine nx_exit ?_
      refine nx_then_exit ?_
      refine nx_then_exit ?_
      refine nx_block_here ?_
      refine nx_then ?_
      refine wc_seq ?_
      refine wc_region ?_
      refine wl_yl (d := 35) (v := .agg #[.int .i64 n0, .int .i64 n1, .string s, .slice a3 n3 c3, .slice x.a x.n x.c]) (by kernel_rfl) (yl_load (b := r3) (off := 0) 0 rfl (by kernel_rfl) rfl (by kernel_rfl)) ?_
      refine wl_store (b := r2) (off := 0) (v := .agg #[.int .i64 n0, .int .i64 n1, .string s, .slice a3 n3 c3, .slice x.a x.n x.c]) (c' := #[.int .i64 n0, .int .i64 n1, .string s, .slice a3 n3 c3, .slice x.a x.n x.c]) (L' := (([⟨r3, #[.int .i64 n0, .int .i64 n1, .string s, .slice a3 n3 c3, .slice x.a x.n x.c], 25⟩, ⟨r2, #[.int .i64 n0, .int .i64 n1, .string s, .slice a3 n3 c3, .slice x.a x.n x.c], 25⟩, ⟨r1, #[.int .i64 n0, .int .i64 n1, .string s, .slice a_x3 R_x3.length cap_x3, .slice a_x4 R_x4.length cap_x4], 25⟩] : List Blk) ++ x.R)) 1 (by kernel_rfl) rfl (by kernel_rfl) (by kernel_rfl) rfl (by kernel_rfl) rfl ?_
      refine nx_list ?_
      refine nx_then ?_
      refine nx_ret ?_
      refine ret_cell (v := .agg #[.int .i64 n0, .int .i64 n1, .string s, .slice a3 n3 c3, .slice x.a x.n x.c]) (b := r2) (off := 0) 1 rfl (by kernel_rfl) rfl (by kernel_rfl) ?_
      intro w' hw'
      exact ⟨((a3, n3, c3), (x.a, x.n, x.c)), rfl, trivial, hw'.below (Below.refl _ _) (Nat.le_refl _) (ge_app (ge_cons hr3 (ge_cons hr2 (ge_cons hr1 (ge_nil _)))) x.hR)⟩
  · skip
    refine w1_new (d := 3) (f := 2) 10 #[.int .i64 0, .int .i64 0, .string ByteArray.empty, .slice none 0 0, .slice none 0 0] 25 (fun r => .pointer (some ⟨r, 0, none⟩)) rfl (by decide) (by kernel_rfl) (fun r => by kernel_rfl) (fun r w hr h => (fun w h => h) _ (h.tail hr)) ?_
    intro r6 hr6
    have hsubq5 : ∀ q, SH w [⟨r6, #[.int .i64 0, .int .i64 0, .string ByteArray.empty, .slice none 0 0, .slice none 0 0], 25⟩, ⟨r2, #[.int .i64 0, .int .i64 0, .string ByteArray.empty, .slice none 0 0, .slice none 0 0], 25⟩, ⟨r1, #[.int .i64 n0, .int .i64 n1, .string s, .slice a_x3 R_x3.length cap_x3, .slice a_x4 R_x4.length cap_x4], 25⟩] q → (SH w [⟨r2, #[.int .i64 0, .int .i64 0, .string ByteArray.empty, .slice none 0 0, .slice none 0 0], 25⟩, ⟨r1, #[.int .i64 n0, .int .i64 n1, .string s, .slice a_x3 R_x3.length cap_x3, .slice a_x4 R_x4.length cap_x4], 25⟩]) q := fun q h => (fun w h => h) _ (h.tail hr6)
    refine wd_callX shK (hsubq5) 8 (X := (Option Addr × Nat × Nat)) (d := 14) (fu := 1) (fun y => .slice y.1 y.2.1 y.2.2) (fun _ => True) rfl (by decide) (by kernel_rfl) (by kernel_rfl) (by kernel_rfl) (fun w1 h1 => cvs_of k IH R_x3 a_x3 cap_x3 fR_x3 b_x3 w1 _ (h_x3.any.stays (Bl.stays (h1.below (Below.refl _ _) (Nat.le_refl _) (ge_cons hr6 (ge_cons hr2 (ge_cons hr1 (ge_nil _))))))) (by simp only [szL, D.sz] at hsz0 ⊢; omega)) ?_
    rintro ⟨a3, n3, c3⟩ _
    refine wd_go [9] [(15, .agg #[.int .i64 n0, .int .i64 n1, .string s, .slice a3 n3 c3, .slice none 0 0])] #[true, true, true, true, true, true, true, true, true, true, true, false] (f := 0) rfl (by kernel_rfl) (hsubq5) ?_
    refine wd_done (by kernel_rfl) ?_
    refine wl_store (b := r6) (off := 0) (v := .agg #[.int .i64 n0, .int .i64 n1, .string s, .slice a3 n3 c3, .slice none 0 0]) (c' := #[.int .i64 n0, .int .i64 n1, .string s, .slice a3 n3 c3, .slice none 0 0]) (L' := [⟨r6, #[.int .i64 n0, .int .i64 n1, .string s, .slice a3 n3 c3, .slice none 0 0], 25⟩, ⟨r2, #[.int .i64 0, .int .i64 0, .string ByteArray.empty, .slice none 0 0, .slice none 0 0], 25⟩, ⟨r1, #[.int .i64 n0, .int .i64 n1, .string s, .slice a_x3 R_x3.length cap_x3, .slice a_x4 R_x4.length cap_x4], 25⟩]) 0 (by kernel_rfl) rfl (by kernel_rfl) (by kernel_rfl) rfl (by kernel_rfl) rfl ?_
    refine nx_list ?_
    refine nx_on ?_
    refine nx_then ?_
    refine wc_seq ?_
    refine wc_seq ?_
    refine wc_region ?_
    refine wl_go 1 [(16, .pointer (some ⟨r1, 4, none⟩))] (by kernel_rfl) ?_
    refine wl_yl (d := 17) (v := .slice a_x4 R_x4.length cap_x4) (by kernel_rfl) (yl_load (b := r1) (off := 4) 2 rfl (by kernel_rfl) rfl (by kernel_rfl)) ?_
    refine wl_go 2 [(19, .int .i64 0), (18, .int .i64 (R_x4.length : Int))] (by kernel_rfl) ?_
    refine nx_list ?_
    refine nx_then ?_
    refine wc_block ?_
    refine wc_loop (σ := Cw w 75 6 R_x4.length) (fun x => [(2, .pointer (some ⟨r2, 0, none⟩)), (3, .pointer (some ⟨r6, 0, none⟩)), (17, .slice a_x4 R_x4.length cap_x4), (18, .int .i64 (R_x4.length : Int)), (19, .int .i64 (x.i : Int))]) (fun x => SH w (([⟨r6, #[.int .i64 n0, .int .i64 n1, .string s, .slice a3 n3 c3, .slice x.a x.n x.c], 25⟩, ⟨r2, #[.int .i64 0, .int .i64 0, .string ByteArray.empty, .slice none 0 0, .slice none 0 0], 25⟩, ⟨r1, #[.int .i64 n0, .int .i64 n1, .string s, .slice a_x3 R_x3.length cap_x3, .slice a_x4 R_x4.length cap_x4], 25⟩] : List Blk) ++ x.R)) (fun x => R_x4.length - x.i) (fun w3 h3 => ⟨Cw.begin w 75 6 R_x4.length, SH.addN h3, (subEnv_cons (by kernel_rfl) (subEnv_cons (by kernel_rfl) (subEnv_cons (by kernel_rfl) (subEnv_cons (by kernel_rfl) (subEnv_cons (by kernel_rfl) (subEnv_nil _))))))⟩) (fun x => ?_)
    have hxi_x := x.hi
    refine wc_seq ?_
    refine wc_region ?_
    refine wl_go 1 [(20, .bool (decide ((x.i : Int) < (R_x4.length : Int))))] (by kernel_rfl) ?_
    refine nx_list ?_
    refine nx_then ?_
    refine wc_seq ?_
    refine wc_cond (decide ((x.i : Int) < (R_x4.length : Int))) (by kernel_rfl) (by kernel_rfl) (fun hcl_x => ?_) (fun hcl_x => ?_)
    · skip
      have hlt_x : x.i < R_x4.length := by simpa using hcl_x
      obtain ⟨r_p, hrow_p⟩ : ∃ r, R_x4[x.i]? = some r := ⟨_, List.getElem?_eq_getElem (hlt_x)⟩
      obtain ⟨gp, op, cs_p, rfl, hI_p, hc_p, l_p, hg_p⟩ := Rd.row_at (es := 6) h_x4 (fun r hr => fR_x4.length r hr) hrow_p
      have hm_p := List.mem_of_getElem? hrow_p
      have hfr_p := fR_x4.mem hm_p
      obtain ⟨d_p0, e_p0, rfl, hf_p0, ht_p0⟩ := FitL.cons (k := .str) (ks := _) hfr_p
      obtain ⟨n_p0, rfl, _⟩ := Fit.str hf_p0
      obtain ⟨d_p1, e_p1, rfl, hf_p1, ht_p1⟩ := FitL.cons (k := .int) (ks := _) ht_p0
      obtain ⟨n_p1, rfl, _⟩ := Fit.int hf_p1
      obtain ⟨d_p2, e_p2, rfl, hf_p2, ht_p2⟩ := FitL.cons (k := .int) (ks := _) ht_p1
      obtain ⟨n_p2, rfl, _⟩ := Fit.int hf_p2
      obtain ⟨d_p3, e_p3, rfl, hf_p3, ht_p3⟩ := FitL.cons (k := .str) (ks := _) ht_p2
      obtain ⟨n_p3, rfl, _⟩ := Fit.str hf_p3
      obtain ⟨d_p4, e_p4, rfl, hf_p4, ht_p4⟩ := FitL.cons (k := .sl 0) (ks := _) ht_p3
      obtain ⟨R_p4, rfl, b_p4, fR_p4⟩ := Fit.sl hf_p4
      have b_p4 : R_p4.length * 80 ≤ 140737488355328 := b_p4
      obtain ⟨d_p5, e_p5, rfl, hf_p5, ht_p5⟩ := FitL.cons (k := .sl 1) (ks := _) ht_p4
      obtain ⟨R_p5, rfl, b_p5, fR_p5⟩ := Fit.sl hf_p5
      have b_p5 : R_p5.length * 96 ≤ 140737488355328 := b_p5
      obtain rfl := FitL.nil ht_p5
      obtain ⟨c_p0, z_p0, rfl, h_p0, hr_p0⟩ := RdL.cons hc_p
      rw [Rd] at h_p0; subst h_p0
      obtain ⟨c_p1, z_p1, rfl, h_p1, hr_p1⟩ := RdL.cons hr_p0
      rw [Rd] at h_p1; subst h_p1
      obtain ⟨c_p2, z_p2, rfl, h_p2, hr_p2⟩ := RdL.cons hr_p1
      rw [Rd] at h_p2; subst h_p2
      obtain ⟨c_p3, z_p3, rfl, h_p3, hr_p3⟩ := RdL.cons hr_p2
      rw [Rd] at h_p3; subst h_p3
      obtain ⟨c_p4, z_p4, rfl, h_p4, hr_p4⟩ := RdL.cons hr_p3
      obtain ⟨a_p4, cap_p4, rfl⟩ := h_p4.slv
      obtain ⟨c_p5, z_p5, rfl, h_p5, hr_p5⟩ := RdL.cons hr_p4
      obtain ⟨a_p5, cap_p5, rfl⟩ := h_p5.slv
      obtain rfl := RdL.nil hr_p5
      have hsz := szF_mem hsz0 hm_p
      refine nx_skip ?_
      refine nx_then ?_
      refine wc_seq ?_
      refine wc_block ?_
      refine wc_seq ?_
      refine wc_region ?_
      refine wl_yl (d := 21) (v := .pointer (some ⟨gp, op + x.i * 6, none⟩)) (by kernel_rfl) (yl_index (E := 75) (b := gp) (off := op) (len := R_x4.length) (cap := cap_x4) (k := x.i) (es := 6) rfl (by kernel_rfl) (by kernel_rfl) (by kernel_rfl) (by omega)) ?_
      refine wl_yl (d := 22) (v := .agg #[.string n_p0, .int .i64 n_p1, .int .i64 n_p2, .string n_p3, .slice a_p4 R_p4.length cap_p4, .slice a_p5 R_p5.length cap_p5]) (by kernel_rfl) (yl_loads_im (b := gp) (off := op + x.i * 6) (cs := [.string n_p0, .int .i64 n_p1, .int .i64 n_p2, .string n_p3, .slice a_p4 R_p4.length cap_p4, .slice a_p5 R_p5.length cap_p5]) rfl (by kernel_rfl) (im_new ((rangeAt_lt hg_p rfl)) (ge_app (ge_cons hr6 (ge_cons hr2 (ge_cons hr1 (ge_nil _)))) x.hR)) (by kernel_rfl) hg_p) ?_
      refine wl_new (d := 5) #[.string ByteArray.empty, .int .i64 0, .int .i64 0, .string ByteArray.empty, .slice none 0 0, .slice none 0 0] 75 (fun r => .pointer (some ⟨r, 0, none⟩)) (by kernel_rfl) (fun r => by kernel_rfl) ?_
      intro r7 hr7
      refine wl_store (b := r7) (off := 0) (v := .agg #[.string n_p0, .int .i64 n_p1, .int .i64 n_p2, .string n_p3, .slice a_p4 R_p4.length cap_p4, .slice a_p5 R_p5.length cap_p5]) (c' := #[.string n_p0, .int .i64 n_p1, .int .i64 n_p2, .string n_p3, .slice a_p4 R_p4.length cap_p4, .slice a_p5 R_p5.length cap_p5]) (L' := (([⟨r7, #[.string n_p0, .int .i64 n_p1, .int .i64 n_p2, .string n_p3, .slice a_p4 R_p4.length cap_p4, .slice a_p5 R_p5.length cap_p5], 75⟩, ⟨r6, #[.int .i64 n0, .int .i64 n1, .string s, .slice a3 n3 c3, .slice x.a x.n x.c], 25⟩, ⟨r2, #[.int .i64 0, .int .i64 0, .string ByteArray.empty, .slice none 0 0, .slice none 0 0], 25⟩, ⟨r1, #[.int .i64 n0, .int .i64 n1, .string s, .slice a_x3 R_x3.length cap_x3, .slice (some ⟨gp, op, none⟩) R_x4.length cap_x4], 25⟩] : List Blk) ++ x.R)) 0 (by kernel_rfl) rfl (by kernel_rfl) (by kernel_rfl) rfl (by kernel_rfl) rfl ?_
      refine nx_list ?_
      refine nx_then ?_
      have hS0 : ∀ q, SH w (([⟨r7, #[.string n_p0, .int .i64 n_p1, .int .i64 n_p2, .string n_p3, .slice a_p4 R_p4.length cap_p4, .slice a_p5 R_p5.length cap_p5], 75⟩, ⟨r6, #[.int .i64 n0, .int .i64 n1, .string s, .slice a3 n3 c3, .slice x.a x.n x.c], 25⟩, ⟨r2, #[.int .i64 0, .int .i64 0, .string ByteArray.empty, .slice none 0 0, .slice none 0 0], 25⟩, ⟨r1, #[.int .i64 n0, .int .i64 n1, .string s, .slice a_x3 R_x3.length cap_x3, .slice (some ⟨gp, op, none⟩) R_x4.length cap_x4], 25⟩] : List Blk) ++ x.R) q → ((fun q => ∃ R9 : List Blk, SH w ([⟨r7, #[.string n_p0, .int .i64 n_p1, .int .i64 n_p2, .string n_p3, .slice a_p4 R_p4.length cap_p4, .slice a_p5 R_p5.length cap_p5], 75⟩, ⟨r6, #[.int .i64 n0, .int .i64 n1, .string s, .slice a3 n3 c3, .slice x.a x.n x.c], 25⟩, ⟨r2, #[.int .i64 0, .int .i64 0, .string ByteArray.empty, .slice none 0 0, .slice none 0 0], 25⟩, ⟨r1, #[.int .i64 n0, .int .i64 n1, .string s, .slice a_x3 R_x3.length cap_x3, .slice (some ⟨gp, op, none⟩) R_x4.length cap_x4], 25⟩] ++ R9) q)) q := fun q h => ⟨_, h⟩
      refine wc_draw 11 ((fun q => ∃ R9 : List Blk, SH w ([⟨r7, #[.string n_p0, .int .i64 n_p1, .int .i64 n_p2, .string n_p3, .slice a_p4 R_p4.length cap_p4, .slice a_p5 R_p5.length cap_p5], 75⟩, ⟨r6, #[.int .i64 n0, .int .i64 n1, .string s, .slice a3 n3 c3, .slice x.a x.n x.c], 25⟩, ⟨r2, #[.int .i64 0, .int .i64 0, .string ByteArray.empty, .slice none 0 0, .slice none 0 0], 25⟩, ⟨r1, #[.int .i64 n0, .int .i64 n1, .string s, .slice a_x3 R_x3.length cap_x3, .slice (some ⟨gp, op, none⟩) R_x4.length cap_x4], 25⟩] ++ R9) q)) rfl (by decide) (fun w h => SH.drew h) ?_
      refine wd_go [0] [(23, .pointer (some ⟨r6, 4, none⟩))] #[true, false, false, false, false, false, false, false, false, false, false, false] (f := 10) rfl (by kernel_rfl) (hS0) ?_
      refine wd_yl 1 (d := 24) (v := .slice x.a x.n x.c) (f := 9) rfl (by kernel_rfl) (by kernel_rfl) (hS0) (yl_exR (fun R9 => (yl_load (b := r6) (off := 4) 1 rfl (by kernel_rfl) rfl (by kernel_rfl)))) ?_
      refine wd_go [2] [(25, .pointer (some ⟨r7, 0, none⟩))] #[true, true, true, false, false, false, false, false, false, false, false, false] (f := 8) rfl (by kernel_rfl) (hS0) ?_
      refine wd_yl 3 (d := 26) (v := .string n_p0) (f := 7) rfl (by kernel_rfl) (by kernel_rfl) (hS0) (yl_exR (fun R9 => (yl_load (b := r7) (off := 0) 0 rfl (by kernel_rfl) rfl (by kernel_rfl)))) ?_
      refine wd_go [4] [(27, .pointer (some ⟨r7, 1, none⟩))] #[true, true, true, true, true, false, false, false, false, false, false, false] (f := 6) rfl (by kernel_rfl) (hS0) ?_
      refine wd_yl 5 (d := 28) (v := .agg #[.int .i64 n_p1, .int .i64 n_p2, .string n_p3, .slice a_p4 R_p4.length cap_p4, .slice a_p5 R_p5.length cap_p5]) (f := 5) rfl (by kernel_rfl) (by kernel_rfl) (hS0) (yl_exR (fun R9 => (yl_load (b := r7) (off := 1) 0 rfl (by kernel_rfl) rfl (by kernel_rfl)))) ?_
      refine wd_callX shK (hS0) 6 (X := (Option Addr × Nat × Nat) × (Option Addr × Nat × Nat)) (d := 29) (fu := 4) (fun y => .agg #[.int .i64 n_p1, .int .i64 n_p2, .string n_p3, .slice y.1.1 y.1.2.1 y.1.2.2, .slice y.2.1 y.2.2.1 y.2.2.2]) (fun _ => True) rfl (by decide) (by kernel_rfl) (by kernel_rfl) (by kernel_rfl) (fun w1 h1 => IH n_p1 n_p2 n_p3 _ _ _ fR_p4 b_p4 _ _ _ fR_p5 b_p5 w1 _ (h_p4.any.stays (Bl.stays (h1.below (Below.refl _ _) (Nat.le_refl _) (ge_app (ge_cons hr7 (ge_cons hr6 (ge_cons hr2 (ge_cons hr1 (ge_nil _))))) x.hR)))) (h_p5.any.stays (Bl.stays (h1.below (Below.refl _ _) (Nat.le_refl _) (ge_app (ge_cons hr7 (ge_cons hr6 (ge_cons hr2 (ge_cons hr1 (ge_nil _))))) x.hR)))) hsz) ?_
      rintro ⟨⟨a3kq6, n3kq6, c3kq6⟩, ⟨a4kq6, n4kq6, c4kq6⟩⟩ _
      refine wd_go [7] [(30, .agg #[.string n_p0, .int .i64 n_p1, .int .i64 n_p2, .string n_p3, .slice a3kq6 n3kq6 c3kq6, .slice a4kq6 n4kq6 c4kq6])] #[true, true, true, true, true, true, true, true, false, false, false, false] (f := 3) rfl (by kernel_rfl) (hS0) ?_
      refine wd_newX (d := 31) (f := 2) 8 #[.string n_p0, .int .i64 n_p1, .int .i64 n_p2, .string n_p3, .slice a3kq6 n3kq6 c3kq6, .slice a4kq6 n4kq6 c4kq6] 75 (fun r => .slice (some ⟨r, 0, none⟩) 1 1) rfl (by decide) (by kernel_rfl) (by kernel_rfl) (fun r => by kernel_rfl) (fun r w hr h => (hS0) _ (h.tail hr)) ?_
      intro r8 hr8
      have hsubq7 : ∀ q, SH w (([⟨r8, #[.string n_p0, .int .i64 n_p1, .int .i64 n_p2, .string n_p3, .slice a3kq6 n3kq6 c3kq6, .slice a4kq6 n4kq6 c4kq6], 75⟩, ⟨r7, #[.string n_p0, .int .i64 n_p1, .int .i64 n_p2, .string n_p3, .slice a_p4 R_p4.length cap_p4, .slice a_p5 R_p5.length cap_p5], 75⟩, ⟨r6, #[.int .i64 n0, .int .i64 n1, .string s, .slice a3 n3 c3, .slice x.a x.n x.c], 25⟩, ⟨r2, #[.int .i64 0, .int .i64 0, .string ByteArray.empty, .slice none 0 0, .slice none 0 0], 25⟩, ⟨r1, #[.int .i64 n0, .int .i64 n1, .string s, .slice a_x3 R_x3.length cap_x3, .slice (some ⟨gp, op, none⟩) R_x4.length cap_x4], 25⟩] : List Blk) ++ x.R) q → ((fun q => ∃ R9 : List Blk, SH w ([⟨r7, #[.string n_p0, .int .i64 n_p1, .int .i64 n_p2, .string n_p3, .slice a_p4 R_p4.length cap_p4, .slice a_p5 R_p5.length cap_p5], 75⟩, ⟨r6, #[.int .i64 n0, .int .i64 n1, .string s, .slice a3 n3 c3, .slice x.a x.n x.c], 25⟩, ⟨r2, #[.int .i64 0, .int .i64 0, .string ByteArray.empty, .slice none 0 0, .slice none 0 0], 25⟩, ⟨r1, #[.int .i64 n0, .int .i64 n1, .string s, .slice a_x3 R_x3.length cap_x3, .slice (some ⟨gp, op, none⟩) R_x4.length cap_x4], 25⟩] ++ R9) q)) q := fun q h => (hS0) _ (h.tail hr8)
      refine wd_appendF (f := 1) 9 (L := ([⟨r8, #[.string n_p0, .int .i64 n_p1, .int .i64 n_p2, .string n_p3, .slice a3kq6 n3kq6 c3kq6, .slice a4kq6 n4kq6 c4kq6], 75⟩, ⟨r7, #[.string n_p0, .int .i64 n_p1, .int .i64 n_p2, .string n_p3, .slice a_p4 R_p4.length cap_p4, .slice a_p5 R_p5.length cap_p5], 75⟩, ⟨r6, #[.int .i64 n0, .int .i64 n1, .string s, .slice a3 n3 c3, .slice x.a x.n x.c], 25⟩, ⟨r2, #[.int .i64 0, .int .i64 0, .string ByteArray.empty, .slice none 0 0, .slice none 0 0], 25⟩, ⟨r1, #[.int .i64 n0, .int .i64 n1, .string s, .slice a_x3 R_x3.length cap_x3, .slice (some ⟨gp, op, none⟩) R_x4.length cap_x4], 25⟩] : List Blk)) (R := x.R) (d := 32) 75 (.agg #[.string ByteArray.empty, .int .i64 0, .int .i64 0, .string ByteArray.empty, .slice none 0 0, .slice none 0 0]) 6 96 (v := .slice x.a x.n x.c) (k := x.i) (xs := x.xs) (a := ⟨r8, 0, none⟩) (m := 1) (c := 1) [.string n_p0, .int .i64 n_p1, .int .i64 n_p2, .string n_p3, .slice a3kq6 n3kq6 c3kq6, .slice a4kq6 n4kq6 c4kq6] rfl (by decide) (by kernel_rfl) (by kernel_rfl) rfl (by kernel_rfl) rfl (by decide) (by kernel_rfl) x.own x.hR (by kernel_rfl) rfl (fun w3 h3 => h3.news 0 rfl) (by intro u hu; simp only [List.mem_cons, List.not_mem_nil, or_false] at hu; rcases hu with rfl | rfl | rfl | rfl | rfl | rfl <;> first | rfl | assumption) (by simp only [maxLen]; omega) (by omega) (fun R' q h => ⟨_, h.tail hr8⟩) ?_
      intro nv_x nR_x nown_x nhR_x
      obtain ⟨na_x, nn_x, nc_x, rfl⟩ := nown_x.slv
      have hsubq8 : ∀ q, SH w (([⟨r8, #[.string n_p0, .int .i64 n_p1, .int .i64 n_p2, .string n_p3, .slice a3kq6 n3kq6 c3kq6, .slice a4kq6 n4kq6 c4kq6], 75⟩, ⟨r7, #[.string n_p0, .int .i64 n_p1, .int .i64 n_p2, .string n_p3, .slice a_p4 R_p4.length cap_p4, .slice a_p5 R_p5.length cap_p5], 75⟩, ⟨r6, #[.int .i64 n0, .int .i64 n1, .string s, .slice a3 n3 c3, .slice x.a x.n x.c], 25⟩, ⟨r2, #[.int .i64 0, .int .i64 0, .string ByteArray.empty, .slice none 0 0, .slice none 0 0], 25⟩, ⟨r1, #[.int .i64 n0, .int .i64 n1, .string s, .slice a_x3 R_x3.length cap_x3, .slice (some ⟨gp, op, none⟩) R_x4.length cap_x4], 25⟩] : List Blk) ++ nR_x) q → ((fun q => ∃ R9 : List Blk, SH w ([⟨r7, #[.string n_p0, .int .i64 n_p1, .int .i64 n_p2, .string n_p3, .slice a_p4 R_p4.length cap_p4, .slice a_p5 R_p5.length cap_p5], 75⟩, ⟨r6, #[.int .i64 n0, .int .i64 n1, .string s, .slice a3 n3 c3, .slice x.a x.n x.c], 25⟩, ⟨r2, #[.int .i64 0, .int .i64 0, .string ByteArray.empty, .slice none 0 0, .slice none 0 0], 25⟩, ⟨r1, #[.int .i64 n0, .int .i64 n1, .string s, .slice a_x3 R_x3.length cap_x3, .slice (some ⟨gp, op, none⟩) R_x4.length cap_x4], 25⟩] ++ R9) q)) q := fun q h => ⟨_, h.tail hr8⟩
      refine wd_go [10] [(33, .pointer (some ⟨r6, 4, none⟩))] #[true, true, true, true, true, true, true, true, true, true, true, false] (f := 0) rfl (by kernel_rfl) (hsubq8) ?_
      refine wd_done (by kernel_rfl) ?_
      refine wl_store (b := r6) (off := 4) (v := .slice na_x nn_x nc_x) (c' := #[.int .i64 n0, .int .i64 n1, .string s, .slice a3 n3 c3, .slice na_x nn_x nc_x]) (L' := (([⟨r8, #[.string n_p0, .int .i64 n_p1, .int .i64 n_p2, .string n_p3, .slice a3kq6 n3kq6 c3kq6, .slice a4kq6 n4kq6 c4kq6], 75⟩, ⟨r7, #[.string n_p0, .int .i64 n_p1, .int .i64 n_p2, .string n_p3, .slice a_p4 R_p4.length cap_p4, .slice a_p5 R_p5.length cap_p5], 75⟩, ⟨r6, #[.int .i64 n0, .int .i64 n1, .string s, .slice a3 n3 c3, .slice na_x nn_x nc_x], 25⟩, ⟨r2, #[.int .i64 0, .int .i64 0, .string ByteArray.empty, .slice none 0 0, .slice none 0 0], 25⟩, ⟨r1, #[.int .i64 n0, .int .i64 n1, .string s, .slice a_x3 R_x3.length cap_x3, .slice (some ⟨gp, op, none⟩) R_x4.length cap_x4], 25⟩] : List Blk) ++ nR_x)) 2 (by kernel_rfl) rfl (by kernel_rfl) (by kernel_rfl) rfl (by kernel_rfl) rfl ?_
      refine nx_list ?_
      refine nx_on ?_
      refine nx_block ?_
      refine nx_then ?_
      refine wc_region ?_
      refine wl_yl (d := 34) (v := .int .i64 ((x.i : Int) + 1)) (by kernel_rfl) (yl_int (t := (x.i : Int) + 1) (r := (x.i : Int) + 1) (by kernel_rfl) (i64w (by omega) (by omega))) ?_
      refine wl_go 1 [(19, .int .i64 ((x.i : Int) + 1))] (by kernel_rfl) ?_
      refine nx_list ?_
      refine nx_round_w (fun w9 h9 => ⟨x.next hlt_x nown_x nhR_x, (show R_x4.length - (x.i + 1) < R_x4.length - x.i by omega), (subEnv_cons (by kernel_rfl) (subEnv_cons (by kernel_rfl) (subEnv_cons (by kernel_rfl) (subEnv_cons (by kernel_rfl) (subEnv_cons (by kernel_rfl) (subEnv_nil _)))))), ((h9.tail hr8).tail hr7)⟩)
    · skip
      refine nx_exit ?_
      refine nx_then_exit ?_
      refine nx_then_exit ?_
      refine nx_block_here ?_
      refine nx_then ?_
      refine wc_seq ?_
      refine wc_region ?_
      refine wl_yl (d := 35) (v := .agg #[.int .i64 n0, .int .i64 n1, .string s, .slice a3 n3 c3, .slice x.a x.n x.c]) (by kernel_rfl) (yl_load (b := r6) (off := 0) 0 rfl (by kernel_rfl) rfl (by kernel_rfl)) ?_
      refine wl_store (b := r2) (off := 0) (v := .agg #[.int .i64 n0, .int .i64 n1, .string s, .slice a3 n3 c3, .slice x.a x.n x.c]) (c' := #[.int .i64 n0, .int .i64 n1, .string s, .slice a3 n3 c3, .slice x.a x.n x.c]) (L' := (([⟨r6, #[.int .i64 n0, .int .i64 n1, .string s, .slice a3 n3 c3, .slice x.a x.n x.c], 25⟩, ⟨r2, #[.int .i64 n0, .int .i64 n1, .string s, .slice a3 n3 c3, .slice x.a x.n x.c], 25⟩, ⟨r1, #[.int .i64 n0, .int .i64 n1, .string s, .slice a_x3 R_x3.length cap_x3, .slice a_x4 R_x4.length cap_x4], 25⟩] : List Blk) ++ x.R)) 1 (by kernel_rfl) rfl (by kernel_rfl) (by kernel_rfl) rfl (by kernel_rfl) rfl ?_
      refine nx_list ?_
      refine nx_then ?_
      refine nx_ret ?_
      refine ret_cell (v := .agg #[.int .i64 n0, .int .i64 n1, .string s, .slice a3 n3 c3, .slice x.a x.n x.c]) (b := r2) (off := 0) 1 rfl (by kernel_rfl) rfl (by kernel_rfl) ?_
      intro w' hw'
      exact ⟨((a3, n3, c3), (x.a, x.n, x.c)), rfl, trivial, hw'.below (Below.refl _ _) (Nat.le_refl _) (ge_app (ge_cons hr6 (ge_cons hr2 (ge_cons hr1 (ge_nil _)))) x.hR)⟩

theorem cv_all : ∀ (k : Nat), ∀ (n0 n1 : Int) (s : ByteArray) (R3 : List (List D)) (a3 : Option Addr) (c3 : Nat) (f3 : FitR sh by_ R3 (sh 0)) (b3 : R3.length * 80 ≤ 140737488355328) (R4 : List (List D)) (a4 : Option Addr) (c4 : Nat) (f4 : FitR sh by_ R4 (sh 1)) (b4 : R4.length * 96 ≤ 140737488355328) (w : World) (S : Nat → Prop) (h3 : Rd S w (.sl R3) (.slice a3 R3.length c3)) (h4 : Rd S w (.sl R4) (.slice a4 R4.length c4)), szL [.int n0, .int n1, .str s, .sl R3, .sl R4] < k →
    Calls Tryz.prog 118 #[.agg #[.int .i64 n0, .int .i64 n1, .string s, .slice a3 R3.length c3, .slice a4 R4.length c4]] w (fun e w' => ∃ y : (Option Addr × Nat × Nat) × (Option Addr × Nat × Nat), e = .returned (.agg #[.int .i64 n0, .int .i64 n1, .string s, .slice y.1.1 y.1.2.1 y.1.2.2, .slice y.2.1 y.2.2.1 y.2.2.2]) ∧ True ∧ Below w.heap.size w w')
  | 0 => fun n0 n1 s R3 a3 c3 f3 b3 R4 a4 c4 f4 b4 w S h3 h4 hs => by omega
  | k + 1 => fun n0 n1 s R3 a3 c3 f3 b3 R4 a4 c4 f4 b4 w S h3 h4 hs => cv_step k (cv_all k) n0 n1 s R3 a3 c3 f3 b3 R4 a4 c4 f4 b4 w S h3 h4 hs
theorem cb_ok (R_x : List (List D)) (a_x : Option Addr) (cap_x : Nat) (fR_x : FitR sh by_ R_x (sh 21)) (b_x : R_x.length * 24 ≤ 140737488355328) (w : World) (S : Nat → Prop) (h_x : Rd S w (.sl R_x) (.slice a_x R_x.length cap_x)) : Calls Tryz.prog 78 #[.slice a_x R_x.length cap_x] w (fun e w' => ∃ y : (Option Addr × Nat × Nat), e = .returned (.slice y.1 y.2.1 y.2.2) ∧ True ∧ Below w.heap.size w w') := by
  refine Sx.enter (l := [.slice a_x R_x.length cap_x]) Tryz.func78 rfl (n := 40) rfl (by simp) ?_
  refine wc_eq (S := SH w []) (SH.refl _) ?_
  refine wc_seq ?_
  refine wc_region ?_
  refine wl_go 1 [(2, .slice none 0 0)] (by kernel_rfl) ?_
  refine nx_list ?_
  refine nx_then ?_
  refine wc_seq ?_
  refine wc_region ?_
  refine wl_go 1 [(3, .slice none 0 0)] (by kernel_rfl) ?_
  refine nx_list ?_
  refine nx_then ?_
  refine wc_seq ?_
  refine wc_seq ?_
  refine wc_region ?_
  refine wl_go 3 [(11, .int .i64 0), (10, .int .i64 (R_x.length : Int)), (9, .slice a_x R_x.length cap_x)] (by kernel_rfl) ?_
  refine nx_list ?_
  refine nx_then ?_
  refine wc_block ?_
  refine wc_loop (σ := Cw w 188 1 R_x.length) (fun x => [(3, .slice x.a x.n x.c), (9, .slice a_x R_x.length cap_x), (10, .int .i64 (R_x.length : Int)), (11, .int .i64 (x.i : Int))]) (fun x => SH w (([] : List Blk) ++ x.R)) (fun x => R_x.length - x.i) (fun w3 h3 => ⟨Cw.begin w 188 1 R_x.length, SH.addN h3, (subEnv_cons (by kernel_rfl) (subEnv_cons (by kernel_rfl) (subEnv_cons (by kernel_rfl) (subEnv_cons (by kernel_rfl) (subEnv_nil _)))))⟩) (fun x => ?_)
  have hxi_x := x.hi
  refine wc_seq ?_
  refine wc_region ?_
  refine wl_go 1 [(12, .bool (decide ((x.i : Int) < (R_x.length : Int))))] (by kernel_rfl) ?_
  refine nx_list ?_
  refine nx_then ?_
  refine wc_seq ?_
  refine wc_cond (decide ((x.i : Int) < (R_x.length : Int))) (by kernel_rfl) (by kernel_rfl) (fun hcl_x => ?_) (fun hcl_x => ?_)
  · skip
    have hlt_x : x.i < R_x.length := by simpa using hcl_x
    obtain ⟨r_p, hrow_p⟩ : ∃ r, R_x[x.i]? = some r := ⟨_, List.getElem?_eq_getElem (hlt_x)⟩
    obtain ⟨gp, op, cs_p, rfl, hI_p, hc_p, l_p, hg_p⟩ := Rd.row_at (es := 1) h_x (fun r hr => fR_x.length r hr) hrow_p
    have hm_p := List.mem_of_getElem? hrow_p
    have hfr_p := fR_x.mem hm_p
    obtain ⟨d_p0, e_p0, rfl, hf_p0, ht_p0⟩ := FitL.cons (k := .sl 22) (ks := _) hfr_p
    obtain ⟨R_p0, rfl, b_p0, fR_p0⟩ := Fit.sl hf_p0
    have b_p0 : R_p0.length * 168 ≤ 140737488355328 := b_p0
    obtain rfl := FitL.nil ht_p0
    obtain ⟨c_p0, z_p0, rfl, h_p0, hr_p0⟩ := RdL.cons hc_p
    obtain ⟨a_p0, cap_p0, rfl⟩ := h_p0.slv
    obtain rfl := RdL.nil hr_p0
    refine nx_skip ?_
    refine nx_then ?_
    refine wc_seq ?_
    refine wc_block ?_
    refine wc_seq ?_
    refine wc_region ?_
    refine wl_yl (d := 13) (v := .pointer (some ⟨gp, op + x.i * 1, none⟩)) (by kernel_rfl) (yl_index (E := 188) (b := gp) (off := op) (len := R_x.length) (cap := cap_x) (k := x.i) (es := 1) rfl (by kernel_rfl) (by kernel_rfl) (by kernel_rfl) (by omega)) ?_
    refine wl_yl (d := 14) (v := .slice a_p0 R_p0.length cap_p0) (by kernel_rfl) (yl_load_im (b := gp) (off := op + x.i * 1) rfl (by kernel_rfl) (im_new ((rangeAt_lt hg_p rfl)) (ge_app (ge_nil _) x.hR)) (by kernel_rfl) (by have := hg_p 0 _ rfl; simpa [Nat.add_assoc] using this)) ?_
    refine wl_go 1 [(5, .slice a_p0 R_p0.length cap_p0)] (by kernel_rfl) ?_
    refine nx_list ?_
    refine nx_then ?_
    refine wc_seq ?_
    refine wc_region ?_
    refine wl_go 1 [(6, .slice none 0 0)] (by kernel_rfl) ?_
    refine nx_list ?_
    refine nx_then ?_
    refine wc_seq ?_
    refine wc_seq ?_
    refine wc_region ?_
    refine wl_go 3 [(17, .int .i64 0), (16, .int .i64 (R_p0.length : Int)), (15, .slice a_p0 R_p0.length cap_p0)] (by kernel_rfl) ?_
    refine nx_list ?_
    refine nx_then ?_
    refine wc_block ?_
    refine wc_loop (σ := Cw w 190 12 R_p0.length) (fun y => [(3, .slice x.a x.n x.c), (6, .slice y.a y.n y.c), (9, .slice (some ⟨gp, op, none⟩) R_x.length cap_x), (10, .int .i64 (R_x.length : Int)), (11, .int .i64 (x.i : Int)), (15, .slice a_p0 R_p0.length cap_p0), (16, .int .i64 (R_p0.length : Int)), (17, .int .i64 (y.i : Int))]) (fun y => SH w ((([] : List Blk) ++ x.R) ++ y.R)) (fun y => R_p0.length - y.i) (fun w3 h3 => ⟨Cw.begin w 190 12 R_p0.length, SH.addN h3, (subEnv_cons (by kernel_rfl) (subEnv_cons (by kernel_rfl) (subEnv_cons (by kernel_rfl) (subEnv_cons (by kernel_rfl) (subEnv_cons (by kernel_rfl) (subEnv_cons (by kernel_rfl) (subEnv_cons (by kernel_rfl) (subEnv_cons (by kernel_rfl) (subEnv_nil _)))))))))⟩) (fun y => ?_)
    have hxi_y := y.hi
    refine wc_seq ?_
    refine wc_region ?_
    refine wl_go 1 [(18, .bool (decide ((y.i : Int) < (R_p0.length : Int))))] (by kernel_rfl) ?_
    refine nx_list ?_
    refine nx_then ?_
    refine wc_seq ?_
    refine wc_cond (decide ((y.i : Int) < (R_p0.length : Int))) (by kernel_rfl) (by kernel_rfl) (fun hcl_y => ?_) (fun hcl_y => ?_)
    · skip
      have hlt_y : y.i < R_p0.length := by simpa using hcl_y
      obtain ⟨r_q, hrow_q⟩ : ∃ r, R_p0[y.i]? = some r := ⟨_, List.getElem?_eq_getElem (hlt_y)⟩
      obtain ⟨gq, oq, cs_q, rfl, hI_q, hc_q, l_q, hg_q⟩ := Rd.row_at (es := 12) h_p0 (fun r hr => fR_p0.length r hr) hrow_q
      have hm_q := List.mem_of_getElem? hrow_q
      have hfr_q := fR_p0.mem hm_q
      obtain ⟨d_q0, e_q0, rfl, hf_q0, ht_q0⟩ := FitL.cons (k := .int) (ks := _) hfr_q
      obtain ⟨n_q0, rfl, _⟩ := Fit.int hf_q0
      obtain ⟨d_q1, e_q1, rfl, hf_q1, ht_q1⟩ := FitL.cons (k := .int) (ks := _) ht_q0
      obtain ⟨n_q1, rfl, _⟩ := Fit.int hf_q1
      obtain ⟨d_q2, e_q2, rfl, hf_q2, ht_q2⟩ := FitL.cons (k := .str) (ks := _) ht_q1
      obtain ⟨n_q2, rfl, _⟩ := Fit.str hf_q2
      obtain ⟨d_q3, e_q3, rfl, hf_q3, ht_q3⟩ := FitL.cons (k := .sl 0) (ks := _) ht_q2
      obtain ⟨R_q3, rfl, b_q3, fR_q3⟩ := Fit.sl hf_q3
      have b_q3 : R_q3.length * 80 ≤ 140737488355328 := b_q3
      obtain ⟨d_q4, e_q4, rfl, hf_q4, ht_q4⟩ := FitL.cons (k := .sl 1) (ks := _) ht_q3
      obtain ⟨R_q4, rfl, b_q4, fR_q4⟩ := Fit.sl hf_q4
      have b_q4 : R_q4.length * 96 ≤ 140737488355328 := b_q4
      obtain ⟨d_q5, e_q5, rfl, hf_q5, ht_q5⟩ := FitL.cons (k := .int) (ks := _) ht_q4
      obtain ⟨n_q5, rfl, _⟩ := Fit.int hf_q5
      obtain ⟨d_q6, e_q6, rfl, hf_q6, ht_q6⟩ := FitL.cons (k := .int) (ks := _) ht_q5
      obtain ⟨n_q6, rfl, _⟩ := Fit.int hf_q6
      obtain ⟨d_q7, e_q7, rfl, hf_q7, ht_q7⟩ := FitL.cons (k := .str) (ks := _) ht_q6
      obtain ⟨n_q7, rfl, _⟩ := Fit.str hf_q7
      obtain ⟨d_q8, e_q8, rfl, hf_q8, ht_q8⟩ := FitL.cons (k := .sl 0) (ks := _) ht_q7
      obtain ⟨R_q8, rfl, b_q8, fR_q8⟩ := Fit.sl hf_q8
      have b_q8 : R_q8.length * 80 ≤ 140737488355328 := b_q8
      obtain ⟨d_q9, e_q9, rfl, hf_q9, ht_q9⟩ := FitL.cons (k := .sl 1) (ks := _) ht_q8
      obtain ⟨R_q9, rfl, b_q9, fR_q9⟩ := Fit.sl hf_q9
      have b_q9 : R_q9.length * 96 ≤ 140737488355328 := b_q9
      obtain ⟨d_q10, e_q10, rfl, hf_q10, ht_q10⟩ := FitL.cons (k := .bool) (ks := _) ht_q9
      obtain ⟨n_q10, rfl⟩ := Fit.bool hf_q10
      obtain ⟨d_q11, e_q11, rfl, hf_q11, ht_q11⟩ := FitL.cons (k := .bool) (ks := _) ht_q10
      obtain ⟨n_q11, rfl⟩ := Fit.bool hf_q11
      obtain rfl := FitL.nil ht_q11
      obtain ⟨c_q0, z_q0, rfl, h_q0, hr_q0⟩ := RdL.cons hc_q
      rw [Rd] at h_q0; subst h_q0
      obtain ⟨c_q1, z_q1, rfl, h_q1, hr_q1⟩ := RdL.cons hr_q0
      rw [Rd] at h_q1; subst h_q1
      obtain ⟨c_q2, z_q2, rfl, h_q2, hr_q2⟩ := RdL.cons hr_q1
      rw [Rd] at h_q2; subst h_q2
      obtain ⟨c_q3, z_q3, rfl, h_q3, hr_q3⟩ := RdL.cons hr_q2
      obtain ⟨a_q3, cap_q3, rfl⟩ := h_q3.slv
      obtain ⟨c_q4, z_q4, rfl, h_q4, hr_q4⟩ := RdL.cons hr_q3
      obtain ⟨a_q4, cap_q4, rfl⟩ := h_q4.slv
      obtain ⟨c_q5, z_q5, rfl, h_q5, hr_q5⟩ := RdL.cons hr_q4
      rw [Rd] at h_q5; subst h_q5
      obtain ⟨c_q6, z_q6, rfl, h_q6, hr_q6⟩ := RdL.cons hr_q5
      rw [Rd] at h_q6; subst h_q6
      obtain ⟨c_q7, z_q7, rfl, h_q7, hr_q7⟩ := RdL.cons hr_q6
      rw [Rd] at h_q7; subst h_q7
      obtain ⟨c_q8, z_q8, rfl, h_q8, hr_q8⟩ := RdL.cons hr_q7
      obtain ⟨a_q8, cap_q8, rfl⟩ := h_q8.slv
      obtain ⟨c_q9, z_q9, rfl, h_q9, hr_q9⟩ := RdL.cons hr_q8
      obtain ⟨a_q9, cap_q9, rfl⟩ := h_q9.slv
      obtain ⟨c_q10, z_q10, rfl, h_q10, hr_q10⟩ := RdL.cons hr_q9
      rw [Rd] at h_q10; subst h_q10
      obtain ⟨c_q11, z_q11, rfl, h_q11, hr_q11⟩ := RdL.cons hr_q10
      rw [Rd] at h_q11; subst h_q11
      obtain rfl := RdL.nil hr_q11
      refine nx_skip ?_
      refine nx_then ?_
      refine wc_seq ?_
      refine wc_block ?_
      refine wc_seq ?_
      refine wc_region ?_
      refine wl_yl (d := 19) (v := .pointer (some ⟨gq, oq + y.i * 12, none⟩)) (by kernel_rfl) (yl_index (E := 190) (b := gq) (off := oq) (len := R_p0.length) (cap := cap_p0) (k := y.i) (es := 12) rfl (by kernel_rfl) (by kernel_rfl) (by kernel_rfl) (by omega)) ?_
      refine wl_yl (d := 20) (v := .agg #[.int .i64 n_q0, .int .i64 n_q1, .string n_q2, .slice a_q3 R_q3.length cap_q3, .slice a_q4 R_q4.length cap_q4, .int .i64 n_q5, .int .i64 n_q6, .string n_q7, .slice a_q8 R_q8.length cap_q8, .slice a_q9 R_q9.length cap_q9, .bool n_q10, .bool n_q11]) (by kernel_rfl) (yl_loads_im (b := gq) (off := oq + y.i * 12) (cs := [.int .i64 n_q0, .int .i64 n_q1, .string n_q2, .slice a_q3 R_q3.length cap_q3, .slice a_q4 R_q4.length cap_q4, .int .i64 n_q5, .int .i64 n_q6, .string n_q7, .slice a_q8 R_q8.length cap_q8, .slice a_q9 R_q9.length cap_q9, .bool n_q10, .bool n_q11]) rfl (by kernel_rfl) (im_new ((rangeAt_lt hg_q rfl)) (ge_app (ge_app (ge_nil _) x.hR) y.hR)) (by kernel_rfl) hg_q) ?_
      refine wl_new (d := 8) #[.int .i64 0, .int .i64 0, .string ByteArray.empty, .slice none 0 0, .slice none 0 0, .int .i64 0, .int .i64 0, .string ByteArray.empty, .slice none 0 0, .slice none 0 0, .bool false, .bool false] 190 (fun r => .pointer (some ⟨r, 0, none⟩)) (by kernel_rfl) (fun r => by kernel_rfl) ?_
      intro r1 hr1
      refine wl_store (b := r1) (off := 0) (v := .agg #[.int .i64 n_q0, .int .i64 n_q1, .string n_q2, .slice a_q3 R_q3.length cap_q3, .slice a_q4 R_q4.length cap_q4, .int .i64 n_q5, .int .i64 n_q6, .string n_q7, .slice a_q8 R_q8.length cap_q8, .slice a_q9 R_q9.length cap_q9, .bool n_q10, .bool n_q11]) (c' := #[.int .i64 n_q0, .int .i64 n_q1, .string n_q2, .slice a_q3 R_q3.length cap_q3, .slice a_q4 R_q4.length cap_q4, .int .i64 n_q5, .int .i64 n_q6, .string n_q7, .slice a_q8 R_q8.length cap_q8, .slice a_q9 R_q9.length cap_q9, .bool n_q10, .bool n_q11]) (L' := ((([⟨r1, #[.int .i64 n_q0, .int .i64 n_q1, .string n_q2, .slice a_q3 R_q3.length cap_q3, .slice a_q4 R_q4.length cap_q4, .int .i64 n_q5, .int .i64 n_q6, .string n_q7, .slice a_q8 R_q8.length cap_q8, .slice a_q9 R_q9.length cap_q9, .bool n_q10, .bool n_q11], 190⟩] : List Blk) ++ x.R) ++ y.R)) 0 (by kernel_rfl) rfl (by kernel_rfl) (by kernel_rfl) rfl (by kernel_rfl) rfl ?_
      refine nx_list ?_
      refine nx_then ?_
      refine wc_seq ?_
      refine wc_draw 7 (SH w ((([⟨r1, #[.int .i64 n_q0, .int .i64 n_q1, .string n_q2, .slice a_q3 R_q3.length cap_q3, .slice a_q4 R_q4.length cap_q4, .int .i64 n_q5, .int .i64 n_q6, .string n_q7, .slice a_q8 R_q8.length cap_q8, .slice a_q9 R_q9.length cap_q9, .bool n_q10, .bool n_q11], 190⟩] : List Blk) ++ x.R) ++ y.R)) rfl (by decide) (fun w h => SH.drew h) ?_
      refine wd_go [0] [(21, .pointer (some ⟨r1, 0, none⟩))] #[true, false, false, false, false, false, false, false, false, false] (f := 6) rfl (by kernel_rfl) (fun w h => h) ?_
      refine wd_yl 1 (d := 22) (v := .agg #[.int .i64 n_q0, .int .i64 n_q1, .string n_q2, .slice a_q3 R_q3.length cap_q3, .slice a_q4 R_q4.length cap_q4]) (f := 5) rfl (by kernel_rfl) (by kernel_rfl) (fun w h => h) (yl_load (b := r1) (off := 0) 0 rfl (by kernel_rfl) rfl (by kernel_rfl)) ?_
      refine wd_go [3] [(24, .pointer (some ⟨r1, 5, none⟩))] #[true, true, false, true, false, false, false, false, false, false] (f := 4) rfl (by kernel_rfl) (fun w h => h) ?_
      refine wd_yl 4 (d := 25) (v := .agg #[.int .i64 n_q5, .int .i64 n_q6, .string n_q7, .slice a_q8 R_q8.length cap_q8, .slice a_q9 R_q9.length cap_q9]) (f := 3) rfl (by kernel_rfl) (by kernel_rfl) (fun w h => h) (yl_load (b := r1) (off := 5) 0 rfl (by kernel_rfl) rfl (by kernel_rfl)) ?_
      refine wd_callX shK (fun w h => h) 2 (X := (Option Addr × Nat × Nat) × (Option Addr × Nat × Nat)) (d := 23) (fu := 2) (fun y => .agg #[.int .i64 n_q0, .int .i64 n_q1, .string n_q2, .slice y.1.1 y.1.2.1 y.1.2.2, .slice y.2.1 y.2.2.1 y.2.2.2]) (fun _ => True) rfl (by decide) (by kernel_rfl) (by kernel_rfl) (by kernel_rfl) (fun w1 h1 => cv_all _ n_q0 n_q1 n_q2 _ _ _ fR_q3 b_q3 _ _ _ fR_q4 b_q4 w1 _ (h_q3.any.stays (Bl.stays (h1.below (Below.refl _ _) (Nat.le_refl _) (ge_app (ge_app (ge_cons hr1 (ge_nil _)) x.hR) y.hR)))) (h_q4.any.stays (Bl.stays (h1.below (Below.refl _ _) (Nat.le_refl _) (ge_app (ge_app (ge_cons hr1 (ge_nil _)) x.hR) y.hR)))) (Nat.lt_succ_self _)) ?_
      rintro ⟨⟨a3kq1, n3kq1, c3kq1⟩, ⟨a4kq1, n4kq1, c4kq1⟩⟩ _
      refine wd_go [6] [(27, .pointer (some ⟨r1, 0, none⟩))] #[true, true, true, true, true, false, true, false, false, false] (f := 1) rfl (by kernel_rfl) (fun w h => h) ?_
      refine wd_callX shK (fun w h => h) 5 (X := (Option Addr × Nat × Nat) × (Option Addr × Nat × Nat)) (d := 26) (fu := 0) (fun y => .agg #[.int .i64 n_q5, .int .i64 n_q6, .string n_q7, .slice y.1.1 y.1.2.1 y.1.2.2, .slice y.2.1 y.2.2.1 y.2.2.2]) (fun _ => True) rfl (by decide) (by kernel_rfl) (by kernel_rfl) (by kernel_rfl) (fun w1 h1 => cv_all _ n_q5 n_q6 n_q7 _ _ _ fR_q8 b_q8 _ _ _ fR_q9 b_q9 w1 _ (h_q8.any.stays (Bl.stays (h1.below (Below.refl _ _) (Nat.le_refl _) (ge_app (ge_app (ge_cons hr1 (ge_nil _)) x.hR) y.hR)))) (h_q9.any.stays (Bl.stays (h1.below (Below.refl _ _) (Nat.le_refl _) (ge_app (ge_app (ge_cons hr1 (ge_nil _)) x.hR) y.hR)))) (Nat.lt_succ_self _)) ?_
      rintro ⟨⟨a3kq2, n3kq2, c3kq2⟩, ⟨a4kq2, n4kq2, c4kq2⟩⟩ _
      refine wd_done (by kernel_rfl) ?_
      refine wl_store (b := r1) (off := 0) (v := .agg #[.int .i64 n_q0, .int .i64 n_q1, .string n_q2, .slice a3kq1 n3kq1 c3kq1, .slice a4kq1 n4kq1 c4kq1]) (c' := #[.int .i64 n_q0, .int .i64 n_q1, .string n_q2, .slice a3kq1 n3kq1 c3kq1, .slice a4kq1 n4kq1 c4kq1, .int .i64 n_q5, .int .i64 n_q6, .string n_q7, .slice a_q8 R_q8.length cap_q8, .slice a_q9 R_q9.length cap_q9, .bool n_q10, .bool n_q11]) (L' := ((([⟨r1, #[.int .i64 n_q0, .int .i64 n_q1, .string n_q2, .slice a3kq1 n3kq1 c3kq1, .slice a4kq1 n4kq1 c4kq1, .int .i64 n_q5, .int .i64 n_q6, .string n_q7, .slice a_q8 R_q8.length cap_q8, .slice a_q9 R_q9.length cap_q9, .bool n_q10, .bool n_q11], 190⟩] : List Blk) ++ x.R) ++ y.R)) 0 (by kernel_rfl) rfl (by kernel_rfl) (by kernel_rfl) rfl (by kernel_rfl) rfl ?_
      refine wl_go 1 [(28, .pointer (some ⟨r1, 5, none⟩))] (by kernel_rfl) ?_
      refine wl_store (b := r1) (off := 5) (v := .agg #[.int .i64 n_q5, .int .i64 n_q6, .string n_q7, .slice a3kq2 n3kq2 c3kq2, .slice a4kq2 n4kq2 c4kq2]) (c' := #[.int .i64 n_q0, .int .i64 n_q1, .string n_q2, .slice a3kq1 n3kq1 c3kq1, .slice a4kq1 n4kq1 c4kq1, .int .i64 n_q5, .int .i64 n_q6, .string n_q7, .slice a3kq2 n3kq2 c3kq2, .slice a4kq2 n4kq2 c4kq2, .bool n_q10, .bool n_q11]) (L' := ((([⟨r1, #[.int .i64 n_q0, .int .i64 n_q1, .string n_q2, .slice a3kq1 n3kq1 c3kq1, .slice a4kq1 n4kq1 c4kq1, .int .i64 n_q5, .int .i64 n_q6, .string n_q7, .slice a3kq2 n3kq2 c3kq2, .slice a4kq2 n4kq2 c4kq2, .bool n_q10, .bool n_q11], 190⟩] : List Blk) ++ x.R) ++ y.R)) 0 (by kernel_rfl) rfl (by kernel_rfl) (by kernel_rfl) rfl (by kernel_rfl) rfl ?_
      refine nx_list ?_
      refine nx_on ?_
      refine nx_then ?_
      refine wc_region ?_
      refine wl_go 1 [(29, .slice y.a y.n y.c)] (by kernel_rfl) ?_
      refine wl_yl (d := 30) (v := .agg #[.int .i64 n_q0, .int .i64 n_q1, .string n_q2, .slice a3kq1 n3kq1 c3kq1, .slice a4kq1 n4kq1 c4kq1, .int .i64 n_q5, .int .i64 n_q6, .string n_q7, .slice a3kq2 n3kq2 c3kq2, .slice a4kq2 n4kq2 c4kq2, .bool n_q10, .bool n_q11]) (by kernel_rfl) (yl_load (b := r1) (off := 0) 0 rfl (by kernel_rfl) rfl (by kernel_rfl)) ?_
      refine wl_new (d := 31) #[.int .i64 n_q0, .int .i64 n_q1, .string n_q2, .slice a3kq1 n3kq1 c3kq1, .slice a4kq1 n4kq1 c4kq1, .int .i64 n_q5, .int .i64 n_q6, .string n_q7, .slice a3kq2 n3kq2 c3kq2, .slice a4kq2 n4kq2 c4kq2, .bool n_q10, .bool n_q11] 190 (fun r => .slice (some ⟨r, 0, none⟩) 1 1) (by kernel_rfl) (fun r => by kernel_rfl) ?_
      intro r2 hr2
      refine wl_weak (SH w ((([⟨r2, #[.int .i64 n_q0, .int .i64 n_q1, .string n_q2, .slice a3kq1 n3kq1 c3kq1, .slice a4kq1 n4kq1 c4kq1, .int .i64 n_q5, .int .i64 n_q6, .string n_q7, .slice a3kq2 n3kq2 c3kq2, .slice a4kq2 n4kq2 c4kq2, .bool n_q10, .bool n_q11], 190⟩, ⟨r1, #[.int .i64 n_q0, .int .i64 n_q1, .string n_q2, .slice a3kq1 n3kq1 c3kq1, .slice a4kq1 n4kq1 c4kq1, .int .i64 n_q5, .int .i64 n_q6, .string n_q7, .slice a3kq2 n3kq2 c3kq2, .slice a4kq2 n4kq2 c4kq2, .bool n_q10, .bool n_q11], 190⟩] ++ x.R) : List Blk) ++ y.R)) (fun q h => h) ?_
      refine wl_appendF (R := y.R) (d := 32) 190 (.agg #[.int .i64 0, .int .i64 0, .string ByteArray.empty, .slice none 0 0, .slice none 0 0, .int .i64 0, .int .i64 0, .string ByteArray.empty, .slice none 0 0, .slice none 0 0, .bool false, .bool false]) 12 168 (v := .slice y.a y.n y.c) (k := y.i) (xs := y.xs) (a := ⟨r2, 0, none⟩) (m := 1) (c := 1) [.int .i64 n_q0, .int .i64 n_q1, .string n_q2, .slice a3kq1 n3kq1 c3kq1, .slice a4kq1 n4kq1 c4kq1, .int .i64 n_q5, .int .i64 n_q6, .string n_q7, .slice a3kq2 n3kq2 c3kq2, .slice a4kq2 n4kq2 c4kq2, .bool n_q10, .bool n_q11] (by kernel_rfl) rfl (by kernel_rfl) rfl (by decide) (by kernel_rfl) y.own y.hR (by kernel_rfl) rfl (fun w3 h3 => h3.news 0 rfl) (by intro u hu; simp only [List.mem_cons, List.not_mem_nil, or_false] at hu; rcases hu with rfl | rfl | rfl | rfl | rfl | rfl | rfl | rfl | rfl | rfl | rfl | rfl <;> first | rfl | assumption) (by simp only [maxLen]; omega) (by omega) ?_
      intro nv_y nR_y nown_y nhR_y
      obtain ⟨na_y, nn_y, nc_y, rfl⟩ := nown_y.slv
      refine wl_go 1 [(6, .slice na_y nn_y nc_y)] (by kernel_rfl) ?_
      refine nx_list ?_
      refine nx_block ?_
      refine nx_then ?_
      refine wc_region ?_
      refine wl_yl (d := 33) (v := .int .i64 ((y.i : Int) + 1)) (by kernel_rfl) (yl_int (t := (y.i : Int) + 1) (r := (y.i : Int) + 1) (by kernel_rfl) (i64w (by omega) (by omega))) ?_
      refine wl_go 1 [(17, .int .i64 ((y.i : Int) + 1))] (by kernel_rfl) ?_
      refine nx_list ?_
      refine nx_round_w (fun w9 h9 => ⟨y.next hlt_y nown_y nhR_y, (show R_p0.length - (y.i + 1) < R_p0.length - y.i by omega), (subEnv_cons (by kernel_rfl) (subEnv_cons (by kernel_rfl) (subEnv_cons (by kernel_rfl) (subEnv_cons (by kernel_rfl) (subEnv_cons (by kernel_rfl) (subEnv_cons (by kernel_rfl) (subEnv_cons (by kernel_rfl) (subEnv_cons (by kernel_rfl) (subEnv_nil _))))))))), ((h9.tail hr2).tail hr1)⟩)
    · skip
      refine wc_weak (fun q h => SH.forgetR h y.hR) ?_
      refine nx_exit ?_
      refine nx_then_exit ?_
      refine nx_then_exit ?_
      refine nx_block_here ?_
      refine nx_then ?_
      refine wc_region ?_
      refine wl_go 2 [(35, .slice y.a y.n y.c), (34, .slice x.a x.n x.c)] (by kernel_rfl) ?_
      refine wl_new (d := 36) #[.slice y.a y.n y.c] 188 (fun r => .slice (some ⟨r, 0, none⟩) 1 1) (by kernel_rfl) (fun r => by kernel_rfl) ?_
      intro r3 hr3
      refine wl_appendF (L := ([⟨r3, #[.slice y.a y.n y.c], 188⟩] : List Blk)) (R := x.R) (d := 37) 188 (.slice none 0 0) 1 24 (v := .slice x.a x.n x.c) (k := x.i) (xs := x.xs) (a := ⟨r3, 0, none⟩) (m := 1) (c := 1) [.slice y.a y.n y.c] (by kernel_rfl) rfl (by kernel_rfl) rfl (by decide) (by kernel_rfl) x.own x.hR (by kernel_rfl) rfl (fun w3 h3 => h3.news 0 rfl) (by intro u hu; simp only [List.mem_cons, List.not_mem_nil, or_false] at hu; rcases hu with rfl <;> first | rfl | assumption) (by simp only [maxLen]; omega) (by omega) ?_
      intro nv_x nR_x nown_x nhR_x
      obtain ⟨na_x, nn_x, nc_x, rfl⟩ := nown_x.slv
      refine wl_go 1 [(3, .slice na_x nn_x nc_x)] (by kernel_rfl) ?_
      refine nx_list ?_
      refine nx_block ?_
      refine nx_then ?_
      refine wc_region ?_
      refine wl_yl (d := 38) (v := .int .i64 ((x.i : Int) + 1)) (by kernel_rfl) (yl_int (t := (x.i : Int) + 1) (r := (x.i : Int) + 1) (by kernel_rfl) (i64w (by omega) (by omega))) ?_
      refine wl_go 1 [(11, .int .i64 ((x.i : Int) + 1))] (by kernel_rfl) ?_
      refine nx_list ?_
      refine nx_round_w (fun w9 h9 => ⟨x.next hlt_x nown_x nhR_x, (show R_x.length - (x.i + 1) < R_x.length - x.i by omega), (subEnv_cons (by kernel_rfl) (subEnv_cons (by kernel_rfl) (subEnv_cons (by kernel_rfl) (subEnv_cons (by kernel_rfl) (subEnv_nil _))))), (h9.tail hr3)⟩)
  · skip
    refine nx_exit ?_
    refine nx_then_exit ?_
    refine nx_then_exit ?_
    refine nx_block_here ?_
    refine nx_then ?_
    refine wc_seq ?_
    refine wc_region ?_
    refine wl_go 2 [(2, .slice x.a x.n x.c), (39, .slice x.a x.n x.c)] (by kernel_rfl) ?_
    refine nx_list ?_
    refine nx_then ?_
    refine nx_ret ?_
    refine ret_tmp (v := .slice x.a x.n x.c) rfl (by kernel_rfl) ?_
    intro w' hw'
    exact ⟨(x.a, x.n, x.c), rfl, trivial, hw'.below (Below.refl _ _) (Nat.le_refl _) (ge_app (ge_nil _) x.hR)⟩

end Go.Proofs.YtpdichhabjieeaaGreatDoor
