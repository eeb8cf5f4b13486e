/- The walk of the law RollbackCommon, printed by a program of this repository (gen/rbcommon.py). -/
import Derived.Test.YthedokpgogopiaaRbSame
import Derived.Test.YthedokpgogopiaaAwake
namespace Go.Proofs.Ythedokpgogopiaa
open Go.RowKit Go.Sx
set_option linter.unusedVariables false
set_option linter.unusedSimpArgs false

theorem short_ok (aa : Option Addr) (n ca : Nat) (w : World) : Calls Try.prog 7 #[.slice aa n ca] w (fun e w' => e = .returned (.bool (decide ((n : Int) ≤ 60))) ∧ w = w') := by
  refine Sx.enter (l := [.slice aa n ca]) Try.func7 rfl (n := 6) rfl (by simp) ?_
  refine wc_seq ?_
  refine wc_region ?_
  refine wl_go 1 [(2, .bool false)] (by kernel_rfl) ?_
  refine nx_list ?_
  refine nx_then ?_
  refine wc_seq ?_
  refine wc_region ?_
  refine wl_go 4 [(2, .bool (decide ((n : Int) ≤ 60))), (5, .bool (decide ((n : Int) ≤ 60))), (4, .int .i64 (n : Int)), (3, .slice aa n ca)] (by kernel_rfl) ?_
  refine nx_list ?_
  refine nx_then ?_
  refine nx_ret ?_
  refine ret_tmp (v := .bool (decide ((n : Int) ≤ 60))) rfl (by kernel_rfl) ?_
  intro w' hw'
  exact ⟨rfl, hw'.symm⟩

theorem walk_common (ra rb : List (List D)) (aa ab : Option Addr) (na nb : Nat) (w : World) (h_va : Rd (fun _ => True) w (.sl ra) (.slice aa ra.length na)) (h_vb : Rd (fun _ => True) w (.sl rb) (.slice ab rb.length nb)) (f_ra : FitR sh by_ ra (sh 13)) (f_rb : FitR sh by_ rb (sh 13))
    (b_a : ra.length ≤ 140737488355328) (b_b : rb.length ≤ 140737488355328) : Calls Try.prog 3 #[.slice aa ra.length na, .slice ab rb.length nb] w (fun e w' => e = .returned (.bool true) ∧ Below w.heap.size w w') := by
  refine Sx.enter (l := [.slice aa ra.length na, .slice ab rb.length nb]) Try.func3 rfl (n := 55) rfl (by simp) ?_
  refine wc_eq (S := Bl w) (Below.refl _ _) ?_
  refine wc_seq ?_
  refine wc_region ?_
  refine wl_go 1 [(4, .bool false)] (by kernel_rfl) ?_
  refine nx_list ?_
  refine nx_then ?_
  refine wc_seq ?_
  refine wc_seq ?_
  refine wc_region ?_
  refine wl_go 1 [(5, .slice aa ra.length na)] (by kernel_rfl) ?_
  refine wl_callQ (d := 6) (v := .bool (decide ((ra.length : Int) ≤ 60))) (by kernel_rfl) (by kernel_rfl) (fun w1 h1 => (short_ok aa ra.length na w1).mono (fun e w' h => ⟨h.1, h.2 ▸ Below.refl _ _⟩)) ?_
  refine wl_go 2 [(8, .bool (!(decide ((ra.length : Int) ≤ 60)))), (7, .bool (!(decide ((ra.length : Int) ≤ 60))))] (by kernel_rfl) ?_
  cases hc1 : (!(decide ((ra.length : Int) ≤ 60)))
  · skip
    refine wl_go 1 [(9, .slice ab rb.length nb)] (by kernel_rfl) ?_
    refine wl_callQ (d := 10) (v := .bool (decide ((rb.length : Int) ≤ 60))) (by kernel_rfl) (by kernel_rfl) (fun w1 h1 => (short_ok ab rb.length nb w1).mono (fun e w' h => ⟨h.1, h.2 ▸ Below.refl _ _⟩)) ?_
    refine wl_go 2 [(12, .bool (!(decide ((rb.length : Int) ≤ 60)))), (11, .bool (!(decide ((rb.length : Int) ≤ 60))))] (by kernel_rfl) ?_
    refine nx_list ?_
    refine nx_then ?_
    refine wc_cond (!(decide ((rb.length : Int) ≤ 60))) (by kernel_rfl) (by kernel_rfl) (fun hc2 => ?_) (fun hc2 => ?_)
    · skip
      refine wc_seq ?_
      refine wc_region ?_
      refine wl_callQ (d := 13) (v := .bool true) (by kernel_rfl) (by kernel_rfl) (fun w1 h1 => awake_ok w1) ?_
      refine wl_go 1 [(4, .bool true)] (by kernel_rfl) ?_
      refine nx_list ?_
      refine nx_then ?_
      refine nx_ret ?_
      refine nx_then_ret ?_
      refine ret_tmp (v := .bool true) rfl (by kernel_rfl) ?_
      intro w' hw'
      exact ⟨rfl, hw'⟩
    · skip
      refine nx_skip ?_
      refine nx_then ?_
      refine wc_seq ?_
      refine wc_seq ?_
      refine wc_draw 31 (Bl w) rfl (by decide) (fun w h => Bl.drew h) ?_
      refine wd_go [0, 1, 2, 3] [(17, .bool (decide ((ra.length : Int) > 0))), (16, .bool (decide ((ra.length : Int) > 0))), (15, .int .i64 (ra.length : Int)), (14, .slice aa ra.length na)] #[true, true, true, true, false, false, false, false, false, false, false, false, false, false, false, false, false, false, false, false, false, false, false, false, false, false, false, false, false, false, false] (f := 27) rfl (by kernel_rfl) (fun w h => h) ?_
      cases ha : (decide ((ra.length : Int) > 0))
      · skip
        refine wd_go [4, 5, 6, 7, 8, 9, 10, 11, 12, 13, 14, 15, 16, 17, 18, 19, 20, 21, 22, 23, 24, 25, 26, 27, 28, 29, 30] [(44, .bool false), (43, undef), (42, undef), (41, undef), (40, undef), (39, undef), (38, undef), (37, undef), (36, undef), (35, undef), (34, undef), (33, undef), (32, undef), (31, undef), (30, undef), (29, undef), (28, undef), (27, undef), (26, undef), (25, undef), (24, undef), (23, undef), (22, .bool false), (21, .bool false), (20, undef), (19, undef), (18, undef)] #[true, true, true, true, true, true, true, true, true, true, true, true, true, true, true, true, true, true, true, true, true, true, true, true, true, true, true, true, true, true, true] (f := 0) rfl (by kernel_rfl) (fun w h => h) ?_
        refine wd_done (by kernel_rfl) ?_
        refine nx_list ?_
        refine nx_on ?_
        refine nx_then ?_
        refine wc_cond false (by kernel_rfl) (by kernel_rfl) (fun h => by cases h) (fun _ => ?_)
        refine nx_skip ?_
        refine nx_then ?_
        refine wc_seq ?_
        refine wc_region ?_
        refine wl_go 2 [(46, .slice ab rb.length nb), (45, .slice aa ra.length na)] (by kernel_rfl) ?_
        refine wl_callQ (d := 47) (v := .int .i64 (comm ra rb : Int)) (by kernel_rfl) (by kernel_rfl) (fun w1 h1 => common_11 ra rb aa ab na nb w1 (h_va.stays (Bl.stays h1)) (h_vb.stays (Bl.stays h1)) f_ra f_rb b_a b_b) ?_
        refine wl_go 2 [(49, .slice ab rb.length nb), (48, .slice aa ra.length na)] (by kernel_rfl) ?_
        refine wl_callQ (d := 50) (v := .int .i64 (comm ra rb : Int)) (by kernel_rfl) (by kernel_rfl) (fun w1 h1 => common_12 ra rb aa ab na nb w1 (h_va.stays (Bl.stays h1)) (h_vb.stays (Bl.stays h1)) f_ra f_rb b_a b_b) ?_
        refine wl_go 1 [(51, .bool ((comm ra rb : Int) == (comm ra rb : Int)))] (by kernel_rfl) ?_
        rw [show (((comm ra rb : Nat) : Int) == ((comm ra rb : Nat) : Int)) = true from by simp]
        refine wl_go 1 [(52, .bool true)] (by kernel_rfl) ?_
        refine wl_callQ (d := 53) (v := .bool true) (by kernel_rfl) (by kernel_rfl) (fun w1 h1 => awake_ok w1) ?_
        refine wl_go 2 [(4, .bool true), (54, .bool true)] (by kernel_rfl) ?_
        refine nx_list ?_
        refine nx_then ?_
        refine nx_ret ?_
        refine ret_tmp (v := .bool true) rfl (by kernel_rfl) ?_
        intro w' hw'
        exact ⟨rfl, hw'⟩
      · skip
        have hka : 0 < ra.length := by have := of_decide_eq_true ha; omega
        obtain ⟨ga, oa, ta, sa, da, ca, rfl, hra, l_ca, hga⟩ := entry_at h_va f_ra hka
        refine wd_go [4, 5, 6, 7, 8] [(22, .bool (decide ((rb.length : Int) > 0))), (21, .bool (decide ((rb.length : Int) > 0))), (20, .bool (decide ((rb.length : Int) > 0))), (19, .int .i64 (rb.length : Int)), (18, .slice ab rb.length nb)] #[true, true, true, true, true, true, true, true, true, false, false, false, false, false, false, false, false, false, false, false, false, false, false, false, false, false, false, false, false, false, false] (f := 22) rfl (by kernel_rfl) (fun w h => h) ?_
        cases hb : (decide ((rb.length : Int) > 0))
        · skip
          refine wd_go [9, 10, 11, 12, 13, 14, 15, 16, 17, 18, 19, 20, 21, 22, 23, 24, 25, 26, 27, 28, 29, 30] [(44, .bool false), (43, undef), (42, undef), (41, undef), (40, undef), (39, undef), (38, undef), (37, undef), (36, undef), (35, undef), (34, undef), (33, undef), (32, undef), (31, undef), (30, undef), (29, undef), (28, undef), (27, undef), (26, undef), (25, undef), (24, undef), (23, undef)] #[true, true, true, true, true, true, true, true, true, true, true, true, true, true, true, true, true, true, true, true, true, true, true, true, true, true, true, true, true, true, true] (f := 0) rfl (by kernel_rfl) (fun w h => h) ?_
          refine wd_done (by kernel_rfl) ?_
          refine nx_list ?_
          refine nx_on ?_
          refine nx_then ?_
          refine wc_cond false (by kernel_rfl) (by kernel_rfl) (fun h => by cases h) (fun _ => ?_)
          refine nx_skip ?_
          refine nx_then ?_
          refine wc_seq ?_
          refine wc_region ?_
          refine wl_go 2 [(46, .slice ab rb.length nb), (45, .slice (some ⟨ga, oa, none⟩) ra.length na)] (by kernel_rfl) ?_
          refine wl_callQ (d := 47) (v := .int .i64 (comm ra rb : Int)) (by kernel_rfl) (by kernel_rfl) (fun w1 h1 => common_11 ra rb (some ⟨ga, oa, none⟩) ab na nb w1 (h_va.stays (Bl.stays h1)) (h_vb.stays (Bl.stays h1)) f_ra f_rb b_a b_b) ?_
          refine wl_go 2 [(49, .slice ab rb.length nb), (48, .slice (some ⟨ga, oa, none⟩) ra.length na)] (by kernel_rfl) ?_
          refine wl_callQ (d := 50) (v := .int .i64 (comm ra rb : Int)) (by kernel_rfl) (by kernel_rfl) (fun w1 h1 => common_12 ra rb (some ⟨ga, oa, none⟩) ab na nb w1 (h_va.stays (Bl.stays h1)) (h_vb.stays (Bl.stays h1)) f_ra f_rb b_a b_b) ?_
          refine wl_go 1 [(51, .bool ((comm ra rb : Int) == (comm ra rb : Int)))] (by kernel_rfl) ?_
          rw [show (((comm ra rb : Nat) : Int) == ((comm ra rb : Nat) : Int)) = true from by simp]
          refine wl_go 1 [(52, .bool true)] (by kernel_rfl) ?_
          refine wl_callQ (d := 53) (v := .bool true) (by kernel_rfl) (by kernel_rfl) (fun w1 h1 => awake_ok w1) ?_
          refine wl_go 2 [(4, .bool true), (54, .bool true)] (by kernel_rfl) ?_
          refine nx_list ?_
          refine nx_then ?_
          refine nx_ret ?_
          refine ret_tmp (v := .bool true) rfl (by kernel_rfl) ?_
          intro w' hw'
          exact ⟨rfl, hw'⟩
        · skip
          have hkb : (rb.length - 1) < rb.length := by have := of_decide_eq_true hb; omega
          obtain ⟨gb, ob, tb, sb, db, cb, rfl, hrb, l_cb, hgb⟩ := entry_at h_vb f_rb hkb
          refine wd_go [9] [(23, .slice (some ⟨ga, oa, none⟩) ra.length na)] #[true, true, true, true, true, true, true, true, true, true, false, false, false, false, false, false, false, false, false, false, false, false, false, false, false, false, false, false, false, false, false] (f := 21) rfl (by kernel_rfl) (fun w h => h) ?_
          refine wd_yl 10 (d := 24) (v := .pointer (some ⟨ga, oa + 0 * 82, none⟩)) (f := 20) rfl (by kernel_rfl) (by kernel_rfl) (fun w h => h) (yl_indexI (E := 55) (b := ga) (off := oa) (len := ra.length) (cap := na) (es := 82) (i := 0) 0 rfl (by kernel_rfl) (by kernel_rfl) (by kernel_rfl) (by omega) (by omega)) ?_
          refine wd_yl 11 (d := 25) (v := .agg (List.flatten [[.int .i64 ta], [.int .i64 sa], ca]).toArray) (f := 19) rfl (by kernel_rfl) (by kernel_rfl) (fun w h => h) (yl_loadsB (b := ga) (off := oa + 0 * 82) (cs := (List.flatten [[.int .i64 ta], [.int .i64 sa], ca])) rfl (by kernel_rfl) (by rw [show (List.flatten [[.int .i64 ta], [.int .i64 sa], ca]).length = 82 from by simp [l_ca]]; kernel_rfl) hga) ?_
          refine wd_go [12, 13, 14] [(28, .int .i64 (rb.length : Int)), (27, .slice (some ⟨gb, ob, none⟩) rb.length nb), (26, .slice (some ⟨gb, ob, none⟩) rb.length nb)] #[true, true, true, true, true, true, true, true, true, true, true, true, true, true, true, false, false, false, false, false, false, false, false, false, false, false, false, false, false, false, false] (f := 16) rfl (by kernel_rfl) (fun w h => h) ?_
          refine wd_yl 15 (d := 29) (v := .int .i64 ((rb.length : Int) - 1)) (f := 15) rfl (by kernel_rfl) (by kernel_rfl) (fun w h => h) (yl_int (t := (rb.length : Int) - 1) (r := (rb.length : Int) - 1) (by kernel_rfl) (i64w (by omega) (by omega))) ?_
          refine wd_yl 16 (d := 30) (v := .pointer (some ⟨gb, ob + (rb.length - 1) * 82, none⟩)) (f := 14) rfl (by kernel_rfl) (by kernel_rfl) (fun w h => h) (yl_indexI (E := 55) (b := gb) (off := ob) (len := rb.length) (cap := nb) (es := 82) (i := (rb.length : Int) - 1) (rb.length - 1) rfl (by kernel_rfl) (by kernel_rfl) (by kernel_rfl) (by omega) (by omega)) ?_
          refine wd_yl 17 (d := 31) (v := .agg (List.flatten [[.int .i64 tb], [.int .i64 sb], cb]).toArray) (f := 13) rfl (by kernel_rfl) (by kernel_rfl) (fun w h => h) (yl_loadsB (b := gb) (off := ob + (rb.length - 1) * 82) (cs := (List.flatten [[.int .i64 tb], [.int .i64 sb], cb])) rfl (by kernel_rfl) (by rw [show (List.flatten [[.int .i64 tb], [.int .i64 sb], cb]).length = 82 from by simp [l_cb]]; kernel_rfl) hgb) ?_
          refine wd_go [19] [(33, .slice (some ⟨ga, oa, none⟩) ra.length na)] #[true, true, true, true, true, true, true, true, true, true, true, true, true, true, true, true, true, true, false, true, false, false, false, false, false, false, false, false, false, false, false] (f := 12) rfl (by kernel_rfl) (fun w h => h) ?_
          refine wd_yl 20 (d := 34) (v := .pointer (some ⟨ga, oa + 0 * 82, none⟩)) (f := 11) rfl (by kernel_rfl) (by kernel_rfl) (fun w h => h) (yl_indexI (E := 55) (b := ga) (off := oa) (len := ra.length) (cap := na) (es := 82) (i := 0) 0 rfl (by kernel_rfl) (by kernel_rfl) (by kernel_rfl) (by omega) (by omega)) ?_
          refine wd_yl 21 (d := 35) (v := .agg (List.flatten [[.int .i64 ta], [.int .i64 sa], ca]).toArray) (f := 10) rfl (by kernel_rfl) (by kernel_rfl) (fun w h => h) (yl_loadsB (b := ga) (off := oa + 0 * 82) (cs := (List.flatten [[.int .i64 ta], [.int .i64 sa], ca])) rfl (by kernel_rfl) (by rw [show (List.flatten [[.int .i64 ta], [.int .i64 sa], ca]).length = 82 from by simp [l_ca]]; kernel_rfl) hga) ?_
          refine wd_go [22, 23, 24] [(38, .int .i64 (rb.length : Int)), (37, .slice (some ⟨gb, ob, none⟩) rb.length nb), (36, .slice (some ⟨gb, ob, none⟩) rb.length nb)] #[true, true, true, true, true, true, true, true, true, true, true, true, true, true, true, true, true, true, false, true, true, true, true, true, true, false, false, false, false, false, false] (f := 7) rfl (by kernel_rfl) (fun w h => h) ?_
          refine wd_yl 25 (d := 39) (v := .int .i64 ((rb.length : Int) - 1)) (f := 6) rfl (by kernel_rfl) (by kernel_rfl) (fun w h => h) (yl_int (t := (rb.length : Int) - 1) (r := (rb.length : Int) - 1) (by kernel_rfl) (i64w (by omega) (by omega))) ?_
          refine wd_yl 26 (d := 40) (v := .pointer (some ⟨gb, ob + (rb.length - 1) * 82, none⟩)) (f := 5) rfl (by kernel_rfl) (by kernel_rfl) (fun w h => h) (yl_indexI (E := 55) (b := gb) (off := ob) (len := rb.length) (cap := nb) (es := 82) (i := (rb.length : Int) - 1) (rb.length - 1) rfl (by kernel_rfl) (by kernel_rfl) (by kernel_rfl) (by omega) (by omega)) ?_
          refine wd_yl 27 (d := 41) (v := .agg (List.flatten [[.int .i64 tb], [.int .i64 sb], cb]).toArray) (f := 4) rfl (by kernel_rfl) (by kernel_rfl) (fun w h => h) (yl_loadsB (b := gb) (off := ob + (rb.length - 1) * 82) (cs := (List.flatten [[.int .i64 tb], [.int .i64 sb], cb])) rfl (by kernel_rfl) (by rw [show (List.flatten [[.int .i64 tb], [.int .i64 sb], cb]).length = 82 from by simp [l_cb]]; kernel_rfl) hgb) ?_
          refine wd_callQ 18 (d := 32) (fu := 3) (v := .bool ((ta == tb) && (sa == sb))) rfl (by decide) (by kernel_rfl) (by kernel_rfl) (by kernel_rfl) (fun w1 h1 => same_9 ta sa tb sb ca cb l_ca l_cb w1) ?_
          refine wd_callQ 28 (d := 42) (fu := 2) (v := .bool ((ta == tb) && (sa == sb))) rfl (by decide) (by kernel_rfl) (by kernel_rfl) (by kernel_rfl) (fun w1 h1 => same_10 ta sa tb sb ca cb l_ca l_cb w1) ?_
          refine wd_go [29] [(43, .bool (((ta == tb) && (sa == sb)) != ((ta == tb) && (sa == sb))))] #[true, true, true, true, true, true, true, true, true, true, true, true, true, true, true, true, true, true, true, true, true, true, true, true, true, true, true, true, true, true, false] (f := 1) rfl (by kernel_rfl) (fun w h => h) ?_
          rw [show (((ta == tb) && (sa == sb)) != ((ta == tb) && (sa == sb))) = false from by simp]
          refine wd_go [30] [(44, .bool false)] #[true, true, true, true, true, true, true, true, true, true, true, true, true, true, true, true, true, true, true, true, true, true, true, true, true, true, true, true, true, true, true] (f := 0) rfl (by kernel_rfl) (fun w h => h) ?_
          refine wd_done (by kernel_rfl) ?_
          refine nx_list ?_
          refine nx_on ?_
          refine nx_then ?_
          refine wc_cond false (by kernel_rfl) (by kernel_rfl) (fun h => by cases h) (fun _ => ?_)
          refine nx_skip ?_
          refine nx_then ?_
          refine wc_seq ?_
          refine wc_region ?_
          refine wl_go 2 [(46, .slice (some ⟨gb, ob, none⟩) rb.length nb), (45, .slice (some ⟨ga, oa, none⟩) ra.length na)] (by kernel_rfl) ?_
          refine wl_callQ (d := 47) (v := .int .i64 (comm ra rb : Int)) (by kernel_rfl) (by kernel_rfl) (fun w1 h1 => common_11 ra rb (some ⟨ga, oa, none⟩) (some ⟨gb, ob, none⟩) na nb w1 (h_va.stays (Bl.stays h1)) (h_vb.stays (Bl.stays h1)) f_ra f_rb b_a b_b) ?_
          refine wl_go 2 [(49, .slice (some ⟨gb, ob, none⟩) rb.length nb), (48, .slice (some ⟨ga, oa, none⟩) ra.length na)] (by kernel_rfl) ?_
          refine wl_callQ (d := 50) (v := .int .i64 (comm ra rb : Int)) (by kernel_rfl) (by kernel_rfl) (fun w1 h1 => common_12 ra rb (some ⟨ga, oa, none⟩) (some ⟨gb, ob, none⟩) na nb w1 (h_va.stays (Bl.stays h1)) (h_vb.stays (Bl.stays h1)) f_ra f_rb b_a b_b) ?_
          refine wl_go 1 [(51, .bool ((comm ra rb : Int) == (comm ra rb : Int)))] (by kernel_rfl) ?_
          rw [show (((comm ra rb : Nat) : Int) == ((comm ra rb : Nat) : Int)) = true from by simp]
          refine wl_go 1 [(52, .bool true)] (by kernel_rfl) ?_
          refine wl_callQ (d := 53) (v := .bool true) (by kernel_rfl) (by kernel_rfl) (fun w1 h1 => awake_ok w1) ?_
          refine wl_go 2 [(4, .bool true), (54, .bool true)] (by kernel_rfl) ?_
          refine nx_list ?_
          refine nx_then ?_
          refine nx_ret ?_
          refine ret_tmp (v := .bool true) rfl (by kernel_rfl) ?_
          intro w' hw'
          exact ⟨rfl, hw'⟩
  · skip
    refine wl_go 4 [(12, .bool true), (11, undef), (10, undef), (9, undef)] (by kernel_rfl) ?_
    refine nx_list ?_
    refine nx_then ?_
    refine wc_cond true (by kernel_rfl) (by kernel_rfl) (fun _ => ?_) (fun h => by cases h)
    refine wc_seq ?_
    refine wc_region ?_
    refine wl_callQ (d := 13) (v := .bool true) (by kernel_rfl) (by kernel_rfl) (fun w1 h1 => awake_ok w1) ?_
    refine wl_go 1 [(4, .bool true)] (by kernel_rfl) ?_
    refine nx_list ?_
    refine nx_then ?_
    refine nx_ret ?_
    refine nx_then_ret ?_
    refine ret_tmp (v := .bool true) rfl (by kernel_rfl) ?_
    intro w' hw'
    exact ⟨rfl, hw'⟩

end Go.Proofs.Ythedokpgogopiaa
