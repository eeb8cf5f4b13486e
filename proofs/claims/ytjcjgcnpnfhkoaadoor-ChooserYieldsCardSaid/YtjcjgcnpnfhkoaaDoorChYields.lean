/- The walk of the law ChooserYields, printed by a program of this repository (gen/chyields.py). -/
import Derived.Test.YtjcjgcnpnfhkoaaDoorChBests
namespace Go.Proofs.YtjcjgcnpnfhkoaaDoor
open Go.RowKit Go.Sx
set_option linter.unusedVariables false
set_option linter.unusedSimpArgs false

theorem yl_trans {a b c d e f : Int} (hb : 0 < b) (hd : 0 < d) (hf : 0 < f) (h1 : a * d ≤ c * b) (h2 : c * f < e * d) : a * f < e * b := by
  by_cases h : a * f < e * b
  · exact h
  · have h3 : e * b ≤ a * f := by omega
    have k1 := Int.mul_le_mul_of_nonneg_right h3 (Int.le_of_lt hd)
    have k2 := Int.mul_le_mul_of_nonneg_right h1 (Int.le_of_lt hf)
    have k3 := Int.mul_lt_mul_of_pos_right h2 hb
    rw [Int.mul_right_comm a f d] at k1
    rw [Int.mul_right_comm c b f] at k2
    rw [Int.mul_right_comm e d b] at k3
    omega
theorem bk_max (ts : List Tr) : ∀ x, ∀ i, i < x + 1 → gn (tat ts i) * wr (tat ts (bk ts (x + 1))) ≤ gn (tat ts (bk ts (x + 1))) * wr (tat ts i) ∧ (i < bk ts (x + 1) → gn (tat ts i) * wr (tat ts (bk ts (x + 1))) < gn (tat ts (bk ts (x + 1))) * wr (tat ts i))
  | 0, i, hi => by
    obtain rfl : i = 0 := by omega
    rw [bk_one]
    exact ⟨Int.le_refl _, fun h => by omega⟩
  | x + 1, i, hi => by
    have ih := bk_max ts x
    have hb := bk_lt ts x
    cases h : bet (tat ts (x + 1)) (tat ts (bk ts (x + 1))) with
    | true =>
      rw [bk_yes h]
      have hlt := of_decide_eq_true h
      by_cases hx : i = x + 1
      · subst hx; exact ⟨Int.le_refl _, fun h => by omega⟩
      · have h1 := (ih i (by omega)).1
        have := yl_trans (by have := wr_b (tat ts i); omega) (by have := wr_b (tat ts (bk ts (x + 1))); omega) (by have := wr_b (tat ts (x + 1)); omega) h1 hlt
        exact ⟨by omega, fun _ => this⟩
    | false =>
      rw [bk_no h]
      have hge := of_decide_eq_false h
      by_cases hx : i = x + 1
      · subst hx; exact ⟨by omega, fun h => by omega⟩
      · exact ih i (by omega)
theorem wr_same {t : Tr} (h : 1 ≤ t.wk ∧ t.wk ≤ 65536) : t.wk = wr t := by
  unfold wr
  rw [if_neg (show ¬ (1 : Int) > t.wk by omega), if_neg (show ¬ (65536 : Int) < t.wk by omega)]
theorem walk_yields (ts : List Tr) (aa : Option Addr) (ca : Nat) (w : World) (h_in : TrIn w aa ts) (h_b : ts.length ≤ 140737488355328) : Calls Tryd.prog 5 #[.slice aa ts.length ca] w (fun e w' => e = .returned (.bool true) ∧ Below w.heap.size w w') := by
  refine Sx.enter (l := [.slice aa ts.length ca]) Tryd.func5 rfl (n := 125) rfl (by simp) ?_
  refine wc_eq (S := SH w []) (SH.refl _) ?_
  refine wc_seq ?_
  refine wc_region ?_
  refine wl_go 1 [(2, .bool false)] (by kernel_rfl) ?_
  refine nx_list ?_
  refine nx_then ?_
  refine wc_seq ?_
  refine wc_seq ?_
  refine wc_region ?_
  refine wl_go 4 [(12, .bool (decide ((ts.length : Int) > 20))), (11, .bool (decide ((ts.length : Int) > 20))), (10, .int .i64 (ts.length : Int)), (9, .slice aa ts.length ca)] (by kernel_rfl) ?_
  cases hbig : (decide ((ts.length : Int) > 20))
  · skip
    refine wl_go 4 [(16, .bool ((ts.length : Int) == 0)), (15, .bool ((ts.length : Int) == 0)), (14, .int .i64 (ts.length : Int)), (13, .slice aa ts.length ca)] (by kernel_rfl) ?_
    refine nx_list ?_
    refine nx_then ?_
    refine wc_cond ((ts.length : Int) == 0) (by kernel_rfl) (by kernel_rfl) (fun hz => ?_) (fun hz => ?_)
    · skip
      refine wc_seq ?_
      refine wc_region ?_
      refine wl_callK shK (d := 17) (v := .bool true) (by kernel_rfl) (by kernel_rfl) (fun w1 h1 => awake_ok w1) ?_
      refine wl_go 1 [(2, .bool true)] (by kernel_rfl) ?_
      refine nx_list ?_
      refine nx_then ?_
      refine nx_ret ?_
      refine nx_then_ret ?_
      refine ret_tmp (v := .bool true) rfl (by kernel_rfl) ?_
      intro w' hw'
      exact ⟨rfl, hw'.below (Below.refl _ _) (Nat.le_refl _) (ge_nil _)⟩
    · skip
      refine nx_skip ?_
      refine nx_then ?_
      refine wc_seq ?_
      refine wc_seq ?_
      refine wc_region ?_
      refine wl_go 1 [(3, .int .i64 0)] (by kernel_rfl) ?_
      refine nx_list ?_
      refine nx_then ?_
      refine wc_block ?_
      have h_l : ts.length ≤ 20 := by have := of_decide_eq_false hbig; omega
      have hne : 1 ≤ ts.length := by
        have : ((ts.length : Int) == 0) = false := hz
        simp at this; cases ts with | nil => simp at this | cons _ _ => simp
      refine wc_loop (σ := { k : Nat // k ≤ ts.length ∧ ∀ m, m < k → (tat ts m).n ≤ 5000 ∧ 1 ≤ (tat ts m).wk ∧ (tat ts m).wk ≤ 65536 }) (fun x => [(0, .slice aa ts.length ca), (3, .int .i64 (x.1 : Int))]) (fun _ => SH w []) (fun x => ts.length - x.1) (fun w3 h3 => ⟨⟨0, Nat.zero_le _, fun m hm => by omega⟩, h3, (subEnv_cons (by kernel_rfl) (subEnv_cons (by kernel_rfl) (subEnv_nil _)))⟩) (fun x => ?_)
      obtain ⟨i, hi, hall⟩ := x
      refine wc_seq ?_
      refine wc_seq ?_
      refine wc_region ?_
      refine wl_go 4 [(21, .bool (decide ((i : Int) < (ts.length : Int)))), (20, .int .i64 (ts.length : Int)), (19, .slice aa ts.length ca), (18, .int .i64 (i : Int))] (by kernel_rfl) ?_
      refine nx_list ?_
      refine nx_then ?_
      refine wc_cond (decide ((i : Int) < (ts.length : Int))) (by kernel_rfl) (by kernel_rfl) (fun hlt => ?_) (fun hlt => ?_)
      · skip
        have hk : i < ts.length := by have := of_decide_eq_true hlt; omega
        obtain ⟨gq, oq, rfl, hrow⟩ := h_in.get hk
        have q1 := hrow i hk
        refine nx_skip ?_
        refine nx_then ?_
        refine wc_seq ?_
        refine wc_block ?_
        refine wc_seq ?_
        refine wc_region ?_
        refine wl_go 2 [(25, .int .i64 (i : Int)), (24, .slice (some ⟨gq, oq, none⟩) ts.length ca)] (by kernel_rfl) ?_
        refine wl_yl (d := 26) (v := .pointer (some ⟨gq, oq + i * 5, none⟩)) (by kernel_rfl) (yl_index (E := 51) (b := gq) (off := oq) (len := ts.length) (cap := ca) (k := i) (es := 5) rfl (by kernel_rfl) (by kernel_rfl) (by kernel_rfl) (by omega)) ?_
        refine wl_go 1 [(27, .pointer (some ⟨gq, oq + i * 5, none⟩))] (by kernel_rfl) ?_
        refine wl_yl (d := 28) (v := .slice ((tat ts i).a) ((tat ts i).n) ((tat ts i).c)) (by kernel_rfl) (yl_load_im (b := gq) (off := oq + i * 5) (v := .slice ((tat ts i).a) ((tat ts i).n) ((tat ts i).c)) rfl (by kernel_rfl) (im_of (q1 0 _ rfl) (ge_nil _)) (by kernel_rfl) (q1 0 _ rfl)) ?_
        refine wl_go 3 [(31, .bool (decide (((tat ts i).n : Int) > 5000))), (30, .bool (decide (((tat ts i).n : Int) > 5000))), (29, .int .i64 ((tat ts i).n : Int))] (by kernel_rfl) ?_
        cases hb1 : (decide (((tat ts i).n : Int) > 5000))
        · skip
          refine wl_go 2 [(33, .int .i64 (i : Int)), (32, .slice (some ⟨gq, oq, none⟩) ts.length ca)] (by kernel_rfl) ?_
          refine wl_yl (d := 34) (v := .pointer (some ⟨gq, oq + i * 5, none⟩)) (by kernel_rfl) (yl_index (E := 51) (b := gq) (off := oq) (len := ts.length) (cap := ca) (k := i) (es := 5) rfl (by kernel_rfl) (by kernel_rfl) (by kernel_rfl) (by omega)) ?_
          refine wl_go 1 [(35, .pointer (some ⟨gq, oq + i * 5 + 1, none⟩))] (by kernel_rfl) ?_
          refine wl_yl (d := 36) (v := .int .i64 ((tat ts i).wk)) (by kernel_rfl) (yl_load_im (b := gq) (off := oq + i * 5 + 1) (v := .int .i64 ((tat ts i).wk)) rfl (by kernel_rfl) (im_of (q1 0 _ rfl) (ge_nil _)) (by kernel_rfl) (q1 1 _ rfl)) ?_
          refine wl_go 3 [(39, .bool (decide ((tat ts i).wk < 1))), (38, .bool (decide ((tat ts i).wk < 1))), (37, .bool (decide ((tat ts i).wk < 1)))] (by kernel_rfl) ?_
          cases hb2 : (decide ((tat ts i).wk < 1))
          · skip
            refine wl_go 2 [(41, .int .i64 (i : Int)), (40, .slice (some ⟨gq, oq, none⟩) ts.length ca)] (by kernel_rfl) ?_
            refine wl_yl (d := 42) (v := .pointer (some ⟨gq, oq + i * 5, none⟩)) (by kernel_rfl) (yl_index (E := 51) (b := gq) (off := oq) (len := ts.length) (cap := ca) (k := i) (es := 5) rfl (by kernel_rfl) (by kernel_rfl) (by kernel_rfl) (by omega)) ?_
            refine wl_go 1 [(43, .pointer (some ⟨gq, oq + i * 5 + 1, none⟩))] (by kernel_rfl) ?_
            refine wl_yl (d := 44) (v := .int .i64 ((tat ts i).wk)) (by kernel_rfl) (yl_load_im (b := gq) (off := oq + i * 5 + 1) (v := .int .i64 ((tat ts i).wk)) rfl (by kernel_rfl) (im_of (q1 0 _ rfl) (ge_nil _)) (by kernel_rfl) (q1 1 _ rfl)) ?_
            refine wl_go 2 [(46, .bool (decide ((tat ts i).wk > 65536))), (45, .bool (decide ((tat ts i).wk > 65536)))] (by kernel_rfl) ?_
            refine nx_list ?_
            refine nx_then ?_
            refine wc_cond (decide ((tat ts i).wk > 65536)) (by kernel_rfl) (by kernel_rfl) (fun hb3 => ?_) (fun hb3 => ?_)
            · skip
              refine wc_seq ?_
              refine wc_region ?_
              refine wl_callK shK (d := 47) (v := .bool true) (by kernel_rfl) (by kernel_rfl) (fun w1 h1 => awake_ok w1) ?_
              refine wl_go 1 [(2, .bool true)] (by kernel_rfl) ?_
              refine nx_list ?_
              refine nx_then ?_
              refine nx_ret ?_
              refine nx_block_ret ?_
              refine nx_then_ret ?_
              refine nx_then_ret ?_
              refine nx_block_ret ?_
              refine nx_then_ret ?_
              refine ret_tmp (v := .bool true) rfl (by kernel_rfl) ?_
              intro w' hw'
              exact ⟨rfl, hw'.below (Below.refl _ _) (Nat.le_refl _) (ge_nil _)⟩
            · skip
              refine nx_skip ?_
              refine nx_block ?_
              refine nx_then ?_
              refine wc_region ?_
              refine wl_go 1 [(22, .int .i64 (i : Int))] (by kernel_rfl) ?_
              refine wl_yl (d := 23) (v := .int .i64 ((i : Int) + 1)) (by kernel_rfl) (yl_int (t := (i : Int) + 1) (r := (i : Int) + 1) (by kernel_rfl) (i64w (by omega) (by omega))) ?_
              refine wl_go 1 [(3, .int .i64 ((i : Int) + 1))] (by kernel_rfl) ?_
              refine nx_list ?_
              exact nx_round (y := ⟨i + 1, hk, fun m hm => by
                  by_cases hmi : m = i
                  · subst hmi; have k1 := of_decide_eq_false hb1; have k2 := of_decide_eq_false hb2; have k3 := of_decide_eq_false hb3; omega
                  · exact hall m (by omega)⟩) (show ts.length - (i + 1) < ts.length - i by omega) (subEnv_cons (by kernel_rfl) (subEnv_cons (by kernel_rfl) (subEnv_nil _))) (fun w h => h)
          · skip
            refine wl_go 7 [(46, .bool true), (45, undef), (44, undef), (43, undef), (42, undef), (41, undef), (40, undef)] (by kernel_rfl) ?_
            refine nx_list ?_
            refine nx_then ?_
            refine wc_cond true (by kernel_rfl) (by kernel_rfl) (fun _ => ?_) (fun h => by cases h)
            refine wc_seq ?_
            refine wc_region ?_
            refine wl_callK shK (d := 47) (v := .bool true) (by kernel_rfl) (by kernel_rfl) (fun w1 h1 => awake_ok w1) ?_
            refine wl_go 1 [(2, .bool true)] (by kernel_rfl) ?_
            refine nx_list ?_
            refine nx_then ?_
            refine nx_ret ?_
            refine nx_block_ret ?_
            refine nx_then_ret ?_
            refine nx_then_ret ?_
            refine nx_block_ret ?_
            refine nx_then_ret ?_
            refine ret_tmp (v := .bool true) rfl (by kernel_rfl) ?_
            intro w' hw'
            exact ⟨rfl, hw'.below (Below.refl _ _) (Nat.le_refl _) (ge_nil _)⟩
        · skip
          refine wl_go 15 [(46, .bool true), (45, undef), (44, undef), (43, undef), (42, undef), (41, undef), (40, undef), (39, .bool true), (38, .bool true), (37, undef), (36, undef), (35, undef), (34, undef), (33, undef), (32, undef)] (by kernel_rfl) ?_
          refine nx_list ?_
          refine nx_then ?_
          refine wc_cond true (by kernel_rfl) (by kernel_rfl) (fun _ => ?_) (fun h => by cases h)
          refine wc_seq ?_
          refine wc_region ?_
          refine wl_callK shK (d := 47) (v := .bool true) (by kernel_rfl) (by kernel_rfl) (fun w1 h1 => awake_ok w1) ?_
          refine wl_go 1 [(2, .bool true)] (by kernel_rfl) ?_
          refine nx_list ?_
          refine nx_then ?_
          refine nx_ret ?_
          refine nx_block_ret ?_
          refine nx_then_ret ?_
          refine nx_then_ret ?_
          refine nx_block_ret ?_
          refine nx_then_ret ?_
          refine ret_tmp (v := .bool true) rfl (by kernel_rfl) ?_
          intro w' hw'
          exact ⟨rfl, hw'.below (Below.refl _ _) (Nat.le_refl _) (ge_nil _)⟩
      · skip
        have hl : ts.length = i := by have := of_decide_eq_false hlt; omega
        rw [← hl] at hall
        have h_n := all_n (fun m hm => (hall m hm).1)
        have hkb : (bk ts ts.length : Nat) < ts.length := by
          obtain ⟨y, hy⟩ : ∃ y, ts.length = y + 1 := ⟨ts.length - 1, by omega⟩
          rw [hy]; exact bk_lt ts y
        have hmx : ∀ i, i < ts.length → gn (tat ts i) * wr (tat ts (bk ts ts.length : Nat)) ≤ gn (tat ts (bk ts ts.length : Nat)) * wr (tat ts i) ∧ (i < (bk ts ts.length : Nat) → gn (tat ts i) * wr (tat ts (bk ts ts.length : Nat)) < gn (tat ts (bk ts ts.length : Nat)) * wr (tat ts i)) := by
          obtain ⟨y, hy⟩ : ∃ y, ts.length = y + 1 := ⟨ts.length - 1, by omega⟩
          rw [hy]; exact bk_max ts y
        obtain ⟨gq, oq, rfl, hrow⟩ := h_in.get hkb
        have q1 := hrow (bk ts ts.length : Nat) hkb
        have eW := wr_same (hall (bk ts ts.length : Nat) hkb).2
        refine nx_exit ?_
        refine nx_then_exit ?_
        refine nx_then_exit ?_
        refine nx_block_here ?_
        refine nx_then ?_
        refine wc_seq ?_
        refine wc_region ?_
        refine wl_go 1 [(48, .slice (some ⟨gq, oq, none⟩) ts.length ca)] (by kernel_rfl) ?_
        refine wl_callK shK (d := 49) (v := .int .i64 ((bk ts ts.length : Nat) : Int)) (by kernel_rfl) (by kernel_rfl) (fun w1 h1 => (best_ok ts _ ca w1 (h_in.bel (h1.below (Below.refl _ _) (Nat.le_refl _) (ge_nil _))) h_l h_n).mono (fun e w' h => ⟨by rw [h.1, bi_pos hne], h.2⟩)) ?_
        refine wl_go 1 [(4, .int .i64 ((bk ts ts.length : Nat) : Int))] (by kernel_rfl) ?_
        refine nx_list ?_
        refine nx_then ?_
        refine wc_seq ?_
        refine wc_seq ?_
        refine wc_region ?_
        refine wl_go 2 [(51, .bool (decide (((bk ts ts.length : Nat) : Int) < 0))), (50, .int .i64 ((bk ts ts.length : Nat) : Int))] (by kernel_rfl) ?_
        rw [show decide (((bk ts ts.length : Nat) : Int) < 0) = false from decide_eq_false (by omega)]
        refine wl_go 5 [(56, .bool (decide (((bk ts ts.length : Nat) : Int) ≥ (ts.length : Int)))), (55, .int .i64 (ts.length : Int)), (54, .slice (some ⟨gq, oq, none⟩) ts.length ca), (53, .int .i64 ((bk ts ts.length : Nat) : Int)), (52, .bool false)] (by kernel_rfl) ?_
        rw [show decide (((bk ts ts.length : Nat) : Int) ≥ (ts.length : Int)) = false from decide_eq_false (by omega)]
        refine wl_go 1 [(57, .bool false)] (by kernel_rfl) ?_
        refine nx_list ?_
        refine nx_then ?_
        refine wc_cond false (by kernel_rfl) (by kernel_rfl) (fun h => by cases h) (fun _ => ?_)
        refine nx_skip ?_
        refine nx_then ?_
        refine wc_seq ?_
        refine wc_draw 13 (SH w []) rfl (by decide) (fun w h => SH.drew h) ?_
        refine wd_go [0, 1] [(59, .int .i64 ((bk ts ts.length : Nat) : Int)), (58, .slice (some ⟨gq, oq, none⟩) ts.length ca)] #[true, true, false, false, false, false, false, false, false, false, false, false, false] (f := 11) rfl (by kernel_rfl) (fun w h => h) ?_
        refine wd_yl 2 (d := 60) (v := .pointer (some ⟨gq, oq + (bk ts ts.length : Nat) * 5, none⟩)) (f := 10) rfl (by kernel_rfl) (by kernel_rfl) (fun w h => h) (yl_index (E := 51) (b := gq) (off := oq) (len := ts.length) (cap := ca) (k := (bk ts ts.length : Nat)) (es := 5) rfl (by kernel_rfl) (by kernel_rfl) (by kernel_rfl) (by omega)) ?_
        refine wd_go [3] [(61, .pointer (some ⟨gq, oq + (bk ts ts.length : Nat) * 5, none⟩))] #[true, true, true, true, false, false, false, false, false, false, false, false, false] (f := 9) rfl (by kernel_rfl) (fun w h => h) ?_
        refine wd_yl 4 (d := 62) (v := .slice ((tat ts (bk ts ts.length : Nat)).a) ((tat ts (bk ts ts.length : Nat)).n) ((tat ts (bk ts ts.length : Nat)).c)) (f := 8) rfl (by kernel_rfl) (by kernel_rfl) (fun w h => h) (yl_load_im (b := gq) (off := oq + (bk ts ts.length : Nat) * 5) (v := .slice ((tat ts (bk ts ts.length : Nat)).a) ((tat ts (bk ts ts.length : Nat)).n) ((tat ts (bk ts ts.length : Nat)).c)) rfl (by kernel_rfl) (im_of (q1 0 _ rfl) (ge_nil _)) (by kernel_rfl) (q1 0 _ rfl)) ?_
        refine wd_go [5, 6, 7] [(65, .int .i64 ((bk ts ts.length : Nat) : Int)), (64, .slice (some ⟨gq, oq, none⟩) ts.length ca), (63, .int .i64 ((tat ts (bk ts ts.length : Nat)).n : Int))] #[true, true, true, true, true, true, true, true, false, false, false, false, false] (f := 5) rfl (by kernel_rfl) (fun w h => h) ?_
        refine wd_yl 8 (d := 66) (v := .pointer (some ⟨gq, oq + (bk ts ts.length : Nat) * 5, none⟩)) (f := 4) rfl (by kernel_rfl) (by kernel_rfl) (fun w h => h) (yl_index (E := 51) (b := gq) (off := oq) (len := ts.length) (cap := ca) (k := (bk ts ts.length : Nat)) (es := 5) rfl (by kernel_rfl) (by kernel_rfl) (by kernel_rfl) (by omega)) ?_
        refine wd_go [9] [(67, .pointer (some ⟨gq, oq + (bk ts ts.length : Nat) * 5 + 1, none⟩))] #[true, true, true, true, true, true, true, true, true, true, false, false, false] (f := 3) rfl (by kernel_rfl) (fun w h => h) ?_
        refine wd_yl 10 (d := 68) (v := .int .i64 ((tat ts (bk ts ts.length : Nat)).wk)) (f := 2) rfl (by kernel_rfl) (by kernel_rfl) (fun w h => h) (yl_load_im (b := gq) (off := oq + (bk ts ts.length : Nat) * 5 + 1) (v := .int .i64 ((tat ts (bk ts ts.length : Nat)).wk)) rfl (by kernel_rfl) (im_of (q1 0 _ rfl) (ge_nil _)) (by kernel_rfl) (q1 1 _ rfl)) ?_
        refine wd_go [11, 12] [(6, .int .i64 ((tat ts (bk ts ts.length : Nat)).wk)), (5, .int .i64 ((tat ts (bk ts ts.length : Nat)).n : Int))] #[true, true, true, true, true, true, true, true, true, true, true, true, true] (f := 0) rfl (by kernel_rfl) (fun w h => h) ?_
        refine wd_done (by kernel_rfl) ?_
        refine nx_list ?_
        refine nx_on ?_
        refine nx_then ?_
        refine wc_seq ?_
        refine wc_seq ?_
        refine wc_region ?_
        refine wl_go 2 [(70, .int .i64 ((bk ts ts.length : Nat) : Int)), (69, .slice (some ⟨gq, oq, none⟩) ts.length ca)] (by kernel_rfl) ?_
        refine wl_yl (d := 71) (v := .pointer (some ⟨gq, oq + (bk ts ts.length : Nat) * 5, none⟩)) (by kernel_rfl) (yl_index (E := 51) (b := gq) (off := oq) (len := ts.length) (cap := ca) (k := (bk ts ts.length : Nat)) (es := 5) rfl (by kernel_rfl) (by kernel_rfl) (by kernel_rfl) (by omega)) ?_
        refine wl_go 1 [(72, .pointer (some ⟨gq, oq + (bk ts ts.length : Nat) * 5 + 4, none⟩))] (by kernel_rfl) ?_
        refine wl_yl (d := 73) (v := .bool ((tat ts (bk ts ts.length : Nat)).dn)) (by kernel_rfl) (yl_load_im (b := gq) (off := oq + (bk ts ts.length : Nat) * 5 + 4) (v := .bool ((tat ts (bk ts ts.length : Nat)).dn)) rfl (by kernel_rfl) (im_of (q1 0 _ rfl) (ge_nil _)) (by kernel_rfl) (q1 4 _ rfl)) ?_
        refine nx_list ?_
        refine nx_then ?_
        refine wc_cond ((tat ts (bk ts ts.length : Nat)).dn) (by kernel_rfl) (by kernel_rfl) (fun hdb => ?_) (fun hdb => ?_)
        · skip
          have eN : ((tat ts (bk ts ts.length : Nat)).n : Int) + 1 = gn (tat ts (bk ts ts.length : Nat)) := by simp [gn, hdb]
          have bN := tat_n h_n (bk ts ts.length : Nat)
          refine wc_region ?_
          refine wl_go 1 [(74, .int .i64 ((tat ts (bk ts ts.length : Nat)).n : Int))] (by kernel_rfl) ?_
          refine wl_yl (d := 75) (v := .int .i64 (((tat ts (bk ts ts.length : Nat)).n : Int) + 1)) (by kernel_rfl) (yl_int (t := ((tat ts (bk ts ts.length : Nat)).n : Int) + 1) (r := ((tat ts (bk ts ts.length : Nat)).n : Int) + 1) (by kernel_rfl) (i64w (by omega) (by omega))) ?_
          refine wl_go 1 [(5, .int .i64 (((tat ts (bk ts ts.length : Nat)).n : Int) + 1))] (by kernel_rfl) ?_
          refine nx_list ?_
          refine nx_then ?_
          refine wc_seq ?_
          refine wc_seq ?_
          refine wc_region ?_
          refine wl_go 1 [(7, .int .i64 0)] (by kernel_rfl) ?_
          refine nx_list ?_
          refine nx_then ?_
          refine wc_block ?_
          refine wc_loop (σ := { k : Nat // k ≤ ts.length }) (fun x => [(0, .slice (some ⟨gq, oq, none⟩) ts.length ca), (4, .int .i64 ((bk ts ts.length : Nat) : Int)), (5, .int .i64 (((tat ts (bk ts ts.length : Nat)).n : Int) + 1)), (6, .int .i64 ((tat ts (bk ts ts.length : Nat)).wk)), (7, .int .i64 (x.1 : Int))]) (fun _ => SH w []) (fun x => ts.length - x.1) (fun w3 h3 => ⟨⟨0, Nat.zero_le _⟩, h3, (subEnv_cons (by kernel_rfl) (subEnv_cons (by kernel_rfl) (subEnv_cons (by kernel_rfl) (subEnv_cons (by kernel_rfl) (subEnv_cons (by kernel_rfl) (subEnv_nil _))))))⟩) (fun x => ?_)
          obtain ⟨i, hi⟩ := x
          refine wc_seq ?_
          refine wc_seq ?_
          refine wc_region ?_
          refine wl_go 4 [(79, .bool (decide ((i : Int) < (ts.length : Int)))), (78, .int .i64 (ts.length : Int)), (77, .slice (some ⟨gq, oq, none⟩) ts.length ca), (76, .int .i64 (i : Int))] (by kernel_rfl) ?_
          refine nx_list ?_
          refine nx_then ?_
          refine wc_cond (decide ((i : Int) < (ts.length : Int))) (by kernel_rfl) (by kernel_rfl) (fun hlt2 => ?_) (fun hlt2 => ?_)
          · skip
            have hk : i < ts.length := by have := of_decide_eq_true hlt2; omega
            have q2 := hrow i hk
            have eV := wr_same (hall i hk).2
            refine nx_skip ?_
            refine nx_then ?_
            refine wc_seq ?_
            refine wc_block ?_
            refine wc_seq ?_
            refine wc_region ?_
            refine wl_go 2 [(83, .int .i64 (i : Int)), (82, .slice (some ⟨gq, oq, none⟩) ts.length ca)] (by kernel_rfl) ?_
            refine wl_yl (d := 84) (v := .pointer (some ⟨gq, oq + i * 5, none⟩)) (by kernel_rfl) (yl_index (E := 51) (b := gq) (off := oq) (len := ts.length) (cap := ca) (k := i) (es := 5) rfl (by kernel_rfl) (by kernel_rfl) (by kernel_rfl) (by omega)) ?_
            refine wl_go 1 [(85, .pointer (some ⟨gq, oq + i * 5, none⟩))] (by kernel_rfl) ?_
            refine wl_yl (d := 86) (v := .slice ((tat ts i).a) ((tat ts i).n) ((tat ts i).c)) (by kernel_rfl) (yl_load_im (b := gq) (off := oq + i * 5) (v := .slice ((tat ts i).a) ((tat ts i).n) ((tat ts i).c)) rfl (by kernel_rfl) (im_of (q2 0 _ rfl) (ge_nil _)) (by kernel_rfl) (q2 0 _ rfl)) ?_
            refine wl_go 2 [(8, .int .i64 ((tat ts i).n : Int)), (87, .int .i64 ((tat ts i).n : Int))] (by kernel_rfl) ?_
            refine nx_list ?_
            refine nx_then ?_
            refine wc_seq ?_
            refine wc_seq ?_
            refine wc_region ?_
            refine wl_go 2 [(89, .int .i64 (i : Int)), (88, .slice (some ⟨gq, oq, none⟩) ts.length ca)] (by kernel_rfl) ?_
            refine wl_yl (d := 90) (v := .pointer (some ⟨gq, oq + i * 5, none⟩)) (by kernel_rfl) (yl_index (E := 51) (b := gq) (off := oq) (len := ts.length) (cap := ca) (k := i) (es := 5) rfl (by kernel_rfl) (by kernel_rfl) (by kernel_rfl) (by omega)) ?_
            refine wl_go 1 [(91, .pointer (some ⟨gq, oq + i * 5 + 4, none⟩))] (by kernel_rfl) ?_
            refine wl_yl (d := 92) (v := .bool ((tat ts i).dn)) (by kernel_rfl) (yl_load_im (b := gq) (off := oq + i * 5 + 4) (v := .bool ((tat ts i).dn)) rfl (by kernel_rfl) (im_of (q2 0 _ rfl) (ge_nil _)) (by kernel_rfl) (q2 4 _ rfl)) ?_
            refine nx_list ?_
            refine nx_then ?_
            refine wc_cond ((tat ts i).dn) (by kernel_rfl) (by kernel_rfl) (fun hdi => ?_) (fun hdi => ?_)
            · skip
              have eM : ((tat ts i).n : Int) + 1 = gn (tat ts i) := by simp [gn, hdi]
              have bM := tat_n h_n i
              have e1 : (((tat ts i).n : Int) + 1) * ((tat ts (bk ts ts.length : Nat)).wk) = gn (tat ts i) * wr (tat ts (bk ts ts.length : Nat)) := by rw [eM, eW]
              have e2 : (((tat ts (bk ts ts.length : Nat)).n : Int) + 1) * ((tat ts i).wk) = gn (tat ts (bk ts ts.length : Nat)) * wr (tat ts i) := by rw [eN, eV]
              have m1 := mul_b (gn_b (tat_n h_n i)) (wr_b (tat ts (bk ts ts.length : Nat)))
              have m2 := mul_b (gn_b (tat_n h_n (bk ts ts.length : Nat))) (wr_b (tat ts i))
              rw [← e1] at m1
              rw [← e2] at m2
              have hm := hmx i hk
              rw [← e1, ← e2] at hm
              have kf1 : decide ((((tat ts i).n : Int) + 1) * ((tat ts (bk ts ts.length : Nat)).wk) > (((tat ts (bk ts ts.length : Nat)).n : Int) + 1) * ((tat ts i).wk)) = false := decide_eq_false (by omega)
              refine wc_region ?_
              refine wl_go 1 [(93, .int .i64 ((tat ts i).n : Int))] (by kernel_rfl) ?_
              refine wl_yl (d := 94) (v := .int .i64 (((tat ts i).n : Int) + 1)) (by kernel_rfl) (yl_int (t := ((tat ts i).n : Int) + 1) (r := ((tat ts i).n : Int) + 1) (by kernel_rfl) (i64w (by omega) (by omega))) ?_
              refine wl_go 1 [(8, .int .i64 (((tat ts i).n : Int) + 1))] (by kernel_rfl) ?_
              refine nx_list ?_
              refine nx_then ?_
              refine wc_seq ?_
              refine wc_region ?_
              refine wl_go 2 [(96, .int .i64 ((tat ts (bk ts ts.length : Nat)).wk)), (95, .int .i64 (((tat ts i).n : Int) + 1))] (by kernel_rfl) ?_
              refine wl_yl (d := 97) (v := .int .i64 ((((tat ts i).n : Int) + 1) * ((tat ts (bk ts ts.length : Nat)).wk))) (by kernel_rfl) (yl_int (t := (((tat ts i).n : Int) + 1) * ((tat ts (bk ts ts.length : Nat)).wk)) (r := (((tat ts i).n : Int) + 1) * ((tat ts (bk ts ts.length : Nat)).wk)) (by kernel_rfl) (i64w (by omega) (by omega))) ?_
              refine wl_go 3 [(100, .int .i64 (i : Int)), (99, .slice (some ⟨gq, oq, none⟩) ts.length ca), (98, .int .i64 (((tat ts (bk ts ts.length : Nat)).n : Int) + 1))] (by kernel_rfl) ?_
              refine wl_yl (d := 101) (v := .pointer (some ⟨gq, oq + i * 5, none⟩)) (by kernel_rfl) (yl_index (E := 51) (b := gq) (off := oq) (len := ts.length) (cap := ca) (k := i) (es := 5) rfl (by kernel_rfl) (by kernel_rfl) (by kernel_rfl) (by omega)) ?_
              refine wl_go 1 [(102, .pointer (some ⟨gq, oq + i * 5 + 1, none⟩))] (by kernel_rfl) ?_
              refine wl_yl (d := 103) (v := .int .i64 ((tat ts i).wk)) (by kernel_rfl) (yl_load_im (b := gq) (off := oq + i * 5 + 1) (v := .int .i64 ((tat ts i).wk)) rfl (by kernel_rfl) (im_of (q2 0 _ rfl) (ge_nil _)) (by kernel_rfl) (q2 1 _ rfl)) ?_
              refine wl_yl (d := 104) (v := .int .i64 ((((tat ts (bk ts ts.length : Nat)).n : Int) + 1) * ((tat ts i).wk))) (by kernel_rfl) (yl_int (t := (((tat ts (bk ts ts.length : Nat)).n : Int) + 1) * ((tat ts i).wk)) (r := (((tat ts (bk ts ts.length : Nat)).n : Int) + 1) * ((tat ts i).wk)) (by kernel_rfl) (i64w (by omega) (by omega))) ?_
              refine wl_go 1 [(105, .bool (decide ((((tat ts i).n : Int) + 1) * ((tat ts (bk ts ts.length : Nat)).wk) > (((tat ts (bk ts ts.length : Nat)).n : Int) + 1) * ((tat ts i).wk))))] (by kernel_rfl) ?_
              rw [kf1]
              refine wl_go 5 [(110, .bool (decide ((i : Int) < ((bk ts ts.length : Nat) : Int)))), (109, .bool (decide ((i : Int) < ((bk ts ts.length : Nat) : Int)))), (108, .int .i64 ((bk ts ts.length : Nat) : Int)), (107, .int .i64 (i : Int)), (106, .bool false)] (by kernel_rfl) ?_
              cases hik : (decide ((i : Int) < ((bk ts ts.length : Nat) : Int)))
              · skip
                refine wl_go 13 [(123, .bool false), (122, .bool false), (121, undef), (120, undef), (119, undef), (118, undef), (117, undef), (116, undef), (115, undef), (114, undef), (113, undef), (112, undef), (111, undef)] (by kernel_rfl) ?_
                refine nx_list ?_
                refine nx_then ?_
                refine wc_cond false (by kernel_rfl) (by kernel_rfl) (fun h => by cases h) (fun _ => ?_)
                refine nx_skip ?_
                refine nx_block ?_
                refine nx_then ?_
                refine wc_region ?_
                refine wl_go 1 [(80, .int .i64 (i : Int))] (by kernel_rfl) ?_
                refine wl_yl (d := 81) (v := .int .i64 ((i : Int) + 1)) (by kernel_rfl) (yl_int (t := (i : Int) + 1) (r := (i : Int) + 1) (by kernel_rfl) (i64w (by omega) (by omega))) ?_
                refine wl_go 1 [(7, .int .i64 ((i : Int) + 1))] (by kernel_rfl) ?_
                refine nx_list ?_
                exact nx_round (y := ⟨i + 1, hk⟩) (show ts.length - (i + 1) < ts.length - i by omega) (subEnv_cons (by kernel_rfl) (subEnv_cons (by kernel_rfl) (subEnv_cons (by kernel_rfl) (subEnv_cons (by kernel_rfl) (subEnv_cons (by kernel_rfl) (subEnv_nil _)))))) (fun w h => h)
              · skip
                have kf2 : (((((tat ts i).n : Int) + 1) * ((tat ts (bk ts ts.length : Nat)).wk)) == ((((tat ts (bk ts ts.length : Nat)).n : Int) + 1) * ((tat ts i).wk))) = false := by
                  have h1 := of_decide_eq_true hik
                  have h2 := hm.2 (by omega)
                  exact beq_false_of_ne (by omega)
                refine wl_go 2 [(112, .int .i64 ((tat ts (bk ts ts.length : Nat)).wk)), (111, .int .i64 (((tat ts i).n : Int) + 1))] (by kernel_rfl) ?_
                refine wl_yl (d := 113) (v := .int .i64 ((((tat ts i).n : Int) + 1) * ((tat ts (bk ts ts.length : Nat)).wk))) (by kernel_rfl) (yl_int (t := (((tat ts i).n : Int) + 1) * ((tat ts (bk ts ts.length : Nat)).wk)) (r := (((tat ts i).n : Int) + 1) * ((tat ts (bk ts ts.length : Nat)).wk)) (by kernel_rfl) (i64w (by omega) (by omega))) ?_
                refine wl_go 3 [(116, .int .i64 (i : Int)), (115, .slice (some ⟨gq, oq, none⟩) ts.length ca), (114, .int .i64 (((tat ts (bk ts ts.length : Nat)).n : Int) + 1))] (by kernel_rfl) ?_
                refine wl_yl (d := 117) (v := .pointer (some ⟨gq, oq + i * 5, none⟩)) (by kernel_rfl) (yl_index (E := 51) (b := gq) (off := oq) (len := ts.length) (cap := ca) (k := i) (es := 5) rfl (by kernel_rfl) (by kernel_rfl) (by kernel_rfl) (by omega)) ?_
                refine wl_go 1 [(118, .pointer (some ⟨gq, oq + i * 5 + 1, none⟩))] (by kernel_rfl) ?_
                refine wl_yl (d := 119) (v := .int .i64 ((tat ts i).wk)) (by kernel_rfl) (yl_load_im (b := gq) (off := oq + i * 5 + 1) (v := .int .i64 ((tat ts i).wk)) rfl (by kernel_rfl) (im_of (q2 0 _ rfl) (ge_nil _)) (by kernel_rfl) (q2 1 _ rfl)) ?_
                refine wl_yl (d := 120) (v := .int .i64 ((((tat ts (bk ts ts.length : Nat)).n : Int) + 1) * ((tat ts i).wk))) (by kernel_rfl) (yl_int (t := (((tat ts (bk ts ts.length : Nat)).n : Int) + 1) * ((tat ts i).wk)) (r := (((tat ts (bk ts ts.length : Nat)).n : Int) + 1) * ((tat ts i).wk)) (by kernel_rfl) (i64w (by omega) (by omega))) ?_
                refine wl_go 1 [(121, .bool (((((tat ts i).n : Int) + 1) * ((tat ts (bk ts ts.length : Nat)).wk)) == ((((tat ts (bk ts ts.length : Nat)).n : Int) + 1) * ((tat ts i).wk))))] (by kernel_rfl) ?_
                rw [kf2]
                refine wl_go 2 [(123, .bool false), (122, .bool false)] (by kernel_rfl) ?_
                refine nx_list ?_
                refine nx_then ?_
                refine wc_cond false (by kernel_rfl) (by kernel_rfl) (fun h => by cases h) (fun _ => ?_)
                refine nx_skip ?_
                refine nx_block ?_
                refine nx_then ?_
                refine wc_region ?_
                refine wl_go 1 [(80, .int .i64 (i : Int))] (by kernel_rfl) ?_
                refine wl_yl (d := 81) (v := .int .i64 ((i : Int) + 1)) (by kernel_rfl) (yl_int (t := (i : Int) + 1) (r := (i : Int) + 1) (by kernel_rfl) (i64w (by omega) (by omega))) ?_
                refine wl_go 1 [(7, .int .i64 ((i : Int) + 1))] (by kernel_rfl) ?_
                refine nx_list ?_
                exact nx_round (y := ⟨i + 1, hk⟩) (show ts.length - (i + 1) < ts.length - i by omega) (subEnv_cons (by kernel_rfl) (subEnv_cons (by kernel_rfl) (subEnv_cons (by kernel_rfl) (subEnv_cons (by kernel_rfl) (subEnv_cons (by kernel_rfl) (subEnv_nil _)))))) (fun w h => h)
            · skip
              have eM : ((tat ts i).n : Int) = gn (tat ts i) := by simp [gn, hdi]
              have bM := tat_n h_n i
              have e1 : ((tat ts i).n : Int) * ((tat ts (bk ts ts.length : Nat)).wk) = gn (tat ts i) * wr (tat ts (bk ts ts.length : Nat)) := by rw [eM, eW]
              have e2 : (((tat ts (bk ts ts.length : Nat)).n : Int) + 1) * ((tat ts i).wk) = gn (tat ts (bk ts ts.length : Nat)) * wr (tat ts i) := by rw [eN, eV]
              have m1 := mul_b (gn_b (tat_n h_n i)) (wr_b (tat ts (bk ts ts.length : Nat)))
              have m2 := mul_b (gn_b (tat_n h_n (bk ts ts.length : Nat))) (wr_b (tat ts i))
              rw [← e1] at m1
              rw [← e2] at m2
              have hm := hmx i hk
              rw [← e1, ← e2] at hm
              have kf1 : decide (((tat ts i).n : Int) * ((tat ts (bk ts ts.length : Nat)).wk) > (((tat ts (bk ts ts.length : Nat)).n : Int) + 1) * ((tat ts i).wk)) = false := decide_eq_false (by omega)
              refine nx_skip ?_
              refine nx_then ?_
              refine wc_seq ?_
              refine wc_region ?_
              refine wl_go 2 [(96, .int .i64 ((tat ts (bk ts ts.length : Nat)).wk)), (95, .int .i64 ((tat ts i).n : Int))] (by kernel_rfl) ?_
              refine wl_yl (d := 97) (v := .int .i64 (((tat ts i).n : Int) * ((tat ts (bk ts ts.length : Nat)).wk))) (by kernel_rfl) (yl_int (t := ((tat ts i).n : Int) * ((tat ts (bk ts ts.length : Nat)).wk)) (r := ((tat ts i).n : Int) * ((tat ts (bk ts ts.length : Nat)).wk)) (by kernel_rfl) (i64w (by omega) (by omega))) ?_
              refine wl_go 3 [(100, .int .i64 (i : Int)), (99, .slice (some ⟨gq, oq, none⟩) ts.length ca), (98, .int .i64 (((tat ts (bk ts ts.length : Nat)).n : Int) + 1))] (by kernel_rfl) ?_
              refine wl_yl (d := 101) (v := .pointer (some ⟨gq, oq + i * 5, none⟩)) (by kernel_rfl) (yl_index (E := 51) (b := gq) (off := oq) (len := ts.length) (cap := ca) (k := i) (es := 5) rfl (by kernel_rfl) (by kernel_rfl) (by kernel_rfl) (by omega)) ?_
              refine wl_go 1 [(102, .pointer (some ⟨gq, oq + i * 5 + 1, none⟩))] (by kernel_rfl) ?_
              refine wl_yl (d := 103) (v := .int .i64 ((tat ts i).wk)) (by kernel_rfl) (yl_load_im (b := gq) (off := oq + i * 5 + 1) (v := .int .i64 ((tat ts i).wk)) rfl (by kernel_rfl) (im_of (q2 0 _ rfl) (ge_nil _)) (by kernel_rfl) (q2 1 _ rfl)) ?_
              refine wl_yl (d := 104) (v := .int .i64 ((((tat ts (bk ts ts.length : Nat)).n : Int) + 1) * ((tat ts i).wk))) (by kernel_rfl) (yl_int (t := (((tat ts (bk ts ts.length : Nat)).n : Int) + 1) * ((tat ts i).wk)) (r := (((tat ts (bk ts ts.length : Nat)).n : Int) + 1) * ((tat ts i).wk)) (by kernel_rfl) (i64w (by omega) (by omega))) ?_
              refine wl_go 1 [(105, .bool (decide (((tat ts i).n : Int) * ((tat ts (bk ts ts.length : Nat)).wk) > (((tat ts (bk ts ts.length : Nat)).n : Int) + 1) * ((tat ts i).wk))))] (by kernel_rfl) ?_
              rw [kf1]
              refine wl_go 5 [(110, .bool (decide ((i : Int) < ((bk ts ts.length : Nat) : Int)))), (109, .bool (decide ((i : Int) < ((bk ts ts.length : Nat) : Int)))), (108, .int .i64 ((bk ts ts.length : Nat) : Int)), (107, .int .i64 (i : Int)), (106, .bool false)] (by kernel_rfl) ?_
              cases hik : (decide ((i : Int) < ((bk ts ts.length : Nat) : Int)))
              · skip
                refine wl_go 13 [(123, .bool false), (122, .bool false), (121, undef), (120, undef), (119, undef), (118, undef), (117, undef), (116, undef), (115, undef), (114, undef), (113, undef), (112, undef), (111, undef)] (by kernel_rfl) ?_
                refine nx_list ?_
                refine nx_then ?_
                refine wc_cond false (by kernel_rfl) (by kernel_rfl) (fun h => by cases h) (fun _ => ?_)
                refine nx_skip ?_
                refine nx_block ?_
                refine nx_then ?_
                refine wc_region ?_
                refine wl_go 1 [(80, .int .i64 (i : Int))] (by kernel_rfl) ?_
                refine wl_yl (d := 81) (v := .int .i64 ((i : Int) + 1)) (by kernel_rfl) (yl_int (t := (i : Int) + 1) (r := (i : Int) + 1) (by kernel_rfl) (i64w (by omega) (by omega))) ?_
                refine wl_go 1 [(7, .int .i64 ((i : Int) + 1))] (by kernel_rfl) ?_
                refine nx_list ?_
                exact nx_round (y := ⟨i + 1, hk⟩) (show ts.length - (i + 1) < ts.length - i by omega) (subEnv_cons (by kernel_rfl) (subEnv_cons (by kernel_rfl) (subEnv_cons (by kernel_rfl) (subEnv_cons (by kernel_rfl) (subEnv_cons (by kernel_rfl) (subEnv_nil _)))))) (fun w h => h)
              · skip
                have kf2 : ((((tat ts i).n : Int) * ((tat ts (bk ts ts.length : Nat)).wk)) == ((((tat ts (bk ts ts.length : Nat)).n : Int) + 1) * ((tat ts i).wk))) = false := by
                  have h1 := of_decide_eq_true hik
                  have h2 := hm.2 (by omega)
                  exact beq_false_of_ne (by omega)
                refine wl_go 2 [(112, .int .i64 ((tat ts (bk ts ts.length : Nat)).wk)), (111, .int .i64 ((tat ts i).n : Int))] (by kernel_rfl) ?_
                refine wl_yl (d := 113) (v := .int .i64 (((tat ts i).n : Int) * ((tat ts (bk ts ts.length : Nat)).wk))) (by kernel_rfl) (yl_int (t := ((tat ts i).n : Int) * ((tat ts (bk ts ts.length : Nat)).wk)) (r := ((tat ts i).n : Int) * ((tat ts (bk ts ts.length : Nat)).wk)) (by kernel_rfl) (i64w (by omega) (by omega))) ?_
                refine wl_go 3 [(116, .int .i64 (i : Int)), (115, .slice (some ⟨gq, oq, none⟩) ts.length ca), (114, .int .i64 (((tat ts (bk ts ts.length : Nat)).n : Int) + 1))] (by kernel_rfl) ?_
                refine wl_yl (d := 117) (v := .pointer (some ⟨gq, oq + i * 5, none⟩)) (by kernel_rfl) (yl_index (E := 51) (b := gq) (off := oq) (len := ts.length) (cap := ca) (k := i) (es := 5) rfl (by kernel_rfl) (by kernel_rfl) (by kernel_rfl) (by omega)) ?_
                refine wl_go 1 [(118, .pointer (some ⟨gq, oq + i * 5 + 1, none⟩))] (by kernel_rfl) ?_
                refine wl_yl (d := 119) (v := .int .i64 ((tat ts i).wk)) (by kernel_rfl) (yl_load_im (b := gq) (off := oq + i * 5 + 1) (v := .int .i64 ((tat ts i).wk)) rfl (by kernel_rfl) (im_of (q2 0 _ rfl) (ge_nil _)) (by kernel_rfl) (q2 1 _ rfl)) ?_
                refine wl_yl (d := 120) (v := .int .i64 ((((tat ts (bk ts ts.length : Nat)).n : Int) + 1) * ((tat ts i).wk))) (by kernel_rfl) (yl_int (t := (((tat ts (bk ts ts.length : Nat)).n : Int) + 1) * ((tat ts i).wk)) (r := (((tat ts (bk ts ts.length : Nat)).n : Int) + 1) * ((tat ts i).wk)) (by kernel_rfl) (i64w (by omega) (by omega))) ?_
                refine wl_go 1 [(121, .bool ((((tat ts i).n : Int) * ((tat ts (bk ts ts.length : Nat)).wk)) == ((((tat ts (bk ts ts.length : Nat)).n : Int) + 1) * ((tat ts i).wk))))] (by kernel_rfl) ?_
                rw [kf2]
                refine wl_go 2 [(123, .bool false), (122, .bool false)] (by kernel_rfl) ?_
                refine nx_list ?_
                refine nx_then ?_
                refine wc_cond false (by kernel_rfl) (by kernel_rfl) (fun h => by cases h) (fun _ => ?_)
                refine nx_skip ?_
                refine nx_block ?_
                refine nx_then ?_
                refine wc_region ?_
                refine wl_go 1 [(80, .int .i64 (i : Int))] (by kernel_rfl) ?_
                refine wl_yl (d := 81) (v := .int .i64 ((i : Int) + 1)) (by kernel_rfl) (yl_int (t := (i : Int) + 1) (r := (i : Int) + 1) (by kernel_rfl) (i64w (by omega) (by omega))) ?_
                refine wl_go 1 [(7, .int .i64 ((i : Int) + 1))] (by kernel_rfl) ?_
                refine nx_list ?_
                exact nx_round (y := ⟨i + 1, hk⟩) (show ts.length - (i + 1) < ts.length - i by omega) (subEnv_cons (by kernel_rfl) (subEnv_cons (by kernel_rfl) (subEnv_cons (by kernel_rfl) (subEnv_cons (by kernel_rfl) (subEnv_cons (by kernel_rfl) (subEnv_nil _)))))) (fun w h => h)
          · skip
            refine nx_exit ?_
            refine nx_then_exit ?_
            refine nx_then_exit ?_
            refine nx_block_here ?_
            refine nx_then ?_
            refine wc_seq ?_
            refine wc_region ?_
            refine wl_callK shK (d := 124) (v := .bool true) (by kernel_rfl) (by kernel_rfl) (fun w1 h1 => awake_ok w1) ?_
            refine wl_go 1 [(2, .bool true)] (by kernel_rfl) ?_
            refine nx_list ?_
            refine nx_then ?_
            refine nx_ret ?_
            refine ret_tmp (v := .bool true) rfl (by kernel_rfl) ?_
            intro w' hw'
            exact ⟨rfl, hw'.below (Below.refl _ _) (Nat.le_refl _) (ge_nil _)⟩
        · skip
          have eN : ((tat ts (bk ts ts.length : Nat)).n : Int) = gn (tat ts (bk ts ts.length : Nat)) := by simp [gn, hdb]
          have bN := tat_n h_n (bk ts ts.length : Nat)
          refine nx_skip ?_
          refine nx_then ?_
          refine wc_seq ?_
          refine wc_seq ?_
          refine wc_region ?_
          refine wl_go 1 [(7, .int .i64 0)] (by kernel_rfl) ?_
          refine nx_list ?_
          refine nx_then ?_
          refine wc_block ?_
          refine wc_loop (σ := { k : Nat // k ≤ ts.length }) (fun x => [(0, .slice (some ⟨gq, oq, none⟩) ts.length ca), (4, .int .i64 ((bk ts ts.length : Nat) : Int)), (5, .int .i64 ((tat ts (bk ts ts.length : Nat)).n : Int)), (6, .int .i64 ((tat ts (bk ts ts.length : Nat)).wk)), (7, .int .i64 (x.1 : Int))]) (fun _ => SH w []) (fun x => ts.length - x.1) (fun w3 h3 => ⟨⟨0, Nat.zero_le _⟩, h3, (subEnv_cons (by kernel_rfl) (subEnv_cons (by kernel_rfl) (subEnv_cons (by kernel_rfl) (subEnv_cons (by kernel_rfl) (subEnv_cons (by kernel_rfl) (subEnv_nil _))))))⟩) (fun x => ?_)
          obtain ⟨i, hi⟩ := x
          refine wc_seq ?_
          refine wc_seq ?_
          refine wc_region ?_
          refine wl_go 4 [(79, .bool (decide ((i : Int) < (ts.length : Int)))), (78, .int .i64 (ts.length : Int)), (77, .slice (some ⟨gq, oq, none⟩) ts.length ca), (76, .int .i64 (i : Int))] (by kernel_rfl) ?_
          refine nx_list ?_
          refine nx_then ?_
          refine wc_cond (decide ((i : Int) < (ts.length : Int))) (by kernel_rfl) (by kernel_rfl) (fun hlt2 => ?_) (fun hlt2 => ?_)
          · skip
            have hk : i < ts.length := by have := of_decide_eq_true hlt2; omega
            have q2 := hrow i hk
            have eV := wr_same (hall i hk).2
            refine nx_skip ?_
            refine nx_then ?_
            refine wc_seq ?_
            refine wc_block ?_
            refine wc_seq ?_
            refine wc_region ?_
            refine wl_go 2 [(83, .int .i64 (i : Int)), (82, .slice (some ⟨gq, oq, none⟩) ts.length ca)] (by kernel_rfl) ?_
            refine wl_yl (d := 84) (v := .pointer (some ⟨gq, oq + i * 5, none⟩)) (by kernel_rfl) (yl_index (E := 51) (b := gq) (off := oq) (len := ts.length) (cap := ca) (k := i) (es := 5) rfl (by kernel_rfl) (by kernel_rfl) (by kernel_rfl) (by omega)) ?_
            refine wl_go 1 [(85, .pointer (some ⟨gq, oq + i * 5, none⟩))] (by kernel_rfl) ?_
            refine wl_yl (d := 86) (v := .slice ((tat ts i).a) ((tat ts i).n) ((tat ts i).c)) (by kernel_rfl) (yl_load_im (b := gq) (off := oq + i * 5) (v := .slice ((tat ts i).a) ((tat ts i).n) ((tat ts i).c)) rfl (by kernel_rfl) (im_of (q2 0 _ rfl) (ge_nil _)) (by kernel_rfl) (q2 0 _ rfl)) ?_
            refine wl_go 2 [(8, .int .i64 ((tat ts i).n : Int)), (87, .int .i64 ((tat ts i).n : Int))] (by kernel_rfl) ?_
            refine nx_list ?_
            refine nx_then ?_
            refine wc_seq ?_
            refine wc_seq ?_
            refine wc_region ?_
            refine wl_go 2 [(89, .int .i64 (i : Int)), (88, .slice (some ⟨gq, oq, none⟩) ts.length ca)] (by kernel_rfl) ?_
            refine wl_yl (d := 90) (v := .pointer (some ⟨gq, oq + i * 5, none⟩)) (by kernel_rfl) (yl_index (E := 51) (b := gq) (off := oq) (len := ts.length) (cap := ca) (k := i) (es := 5) rfl (by kernel_rfl) (by kernel_rfl) (by kernel_rfl) (by omega)) ?_
            refine wl_go 1 [(91, .pointer (some ⟨gq, oq + i * 5 + 4, none⟩))] (by kernel_rfl) ?_
            refine wl_yl (d := 92) (v := .bool ((tat ts i).dn)) (by kernel_rfl) (yl_load_im (b := gq) (off := oq + i * 5 + 4) (v := .bool ((tat ts i).dn)) rfl (by kernel_rfl) (im_of (q2 0 _ rfl) (ge_nil _)) (by kernel_rfl) (q2 4 _ rfl)) ?_
            refine nx_list ?_
            refine nx_then ?_
            refine wc_cond ((tat ts i).dn) (by kernel_rfl) (by kernel_rfl) (fun hdi => ?_) (fun hdi => ?_)
            · skip
              have eM : ((tat ts i).n : Int) + 1 = gn (tat ts i) := by simp [gn, hdi]
              have bM := tat_n h_n i
              have e1 : (((tat ts i).n : Int) + 1) * ((tat ts (bk ts ts.length : Nat)).wk) = gn (tat ts i) * wr (tat ts (bk ts ts.length : Nat)) := by rw [eM, eW]
              have e2 : ((tat ts (bk ts ts.length : Nat)).n : Int) * ((tat ts i).wk) = gn (tat ts (bk ts ts.length : Nat)) * wr (tat ts i) := by rw [eN, eV]
              have m1 := mul_b (gn_b (tat_n h_n i)) (wr_b (tat ts (bk ts ts.length : Nat)))
              have m2 := mul_b (gn_b (tat_n h_n (bk ts ts.length : Nat))) (wr_b (tat ts i))
              rw [← e1] at m1
              rw [← e2] at m2
              have hm := hmx i hk
              rw [← e1, ← e2] at hm
              have kf1 : decide ((((tat ts i).n : Int) + 1) * ((tat ts (bk ts ts.length : Nat)).wk) > ((tat ts (bk ts ts.length : Nat)).n : Int) * ((tat ts i).wk)) = false := decide_eq_false (by omega)
              refine wc_region ?_
              refine wl_go 1 [(93, .int .i64 ((tat ts i).n : Int))] (by kernel_rfl) ?_
              refine wl_yl (d := 94) (v := .int .i64 (((tat ts i).n : Int) + 1)) (by kernel_rfl) (yl_int (t := ((tat ts i).n : Int) + 1) (r := ((tat ts i).n : Int) + 1) (by kernel_rfl) (i64w (by omega) (by omega))) ?_
              refine wl_go 1 [(8, .int .i64 (((tat ts i).n : Int) + 1))] (by kernel_rfl) ?_
              refine nx_list ?_
              refine nx_then ?_
              refine wc_seq ?_
              refine wc_region ?_
              refine wl_go 2 [(96, .int .i64 ((tat ts (bk ts ts.length : Nat)).wk)), (95, .int .i64 (((tat ts i).n : Int) + 1))] (by kernel_rfl) ?_
              refine wl_yl (d := 97) (v := .int .i64 ((((tat ts i).n : Int) + 1) * ((tat ts (bk ts ts.length : Nat)).wk))) (by kernel_rfl) (yl_int (t := (((tat ts i).n : Int) + 1) * ((tat ts (bk ts ts.length : Nat)).wk)) (r := (((tat ts i).n : Int) + 1) * ((tat ts (bk ts ts.length : Nat)).wk)) (by kernel_rfl) (i64w (by omega) (by omega))) ?_
              refine wl_go 3 [(100, .int .i64 (i : Int)), (99, .slice (some ⟨gq, oq, none⟩) ts.length ca), (98, .int .i64 ((tat ts (bk ts ts.length : Nat)).n : Int))] (by kernel_rfl) ?_
              refine wl_yl (d := 101) (v := .pointer (some ⟨gq, oq + i * 5, none⟩)) (by kernel_rfl) (yl_index (E := 51) (b := gq) (off := oq) (len := ts.length) (cap := ca) (k := i) (es := 5) rfl (by kernel_rfl) (by kernel_rfl) (by kernel_rfl) (by omega)) ?_
              refine wl_go 1 [(102, .pointer (some ⟨gq, oq + i * 5 + 1, none⟩))] (by kernel_rfl) ?_
              refine wl_yl (d := 103) (v := .int .i64 ((tat ts i).wk)) (by kernel_rfl) (yl_load_im (b := gq) (off := oq + i * 5 + 1) (v := .int .i64 ((tat ts i).wk)) rfl (by kernel_rfl) (im_of (q2 0 _ rfl) (ge_nil _)) (by kernel_rfl) (q2 1 _ rfl)) ?_
              refine wl_yl (d := 104) (v := .int .i64 (((tat ts (bk ts ts.length : Nat)).n : Int) * ((tat ts i).wk))) (by kernel_rfl) (yl_int (t := ((tat ts (bk ts ts.length : Nat)).n : Int) * ((tat ts i).wk)) (r := ((tat ts (bk ts ts.length : Nat)).n : Int) * ((tat ts i).wk)) (by kernel_rfl) (i64w (by omega) (by omega))) ?_
              refine wl_go 1 [(105, .bool (decide ((((tat ts i).n : Int) + 1) * ((tat ts (bk ts ts.length : Nat)).wk) > ((tat ts (bk ts ts.length : Nat)).n : Int) * ((tat ts i).wk))))] (by kernel_rfl) ?_
              rw [kf1]
              refine wl_go 5 [(110, .bool (decide ((i : Int) < ((bk ts ts.length : Nat) : Int)))), (109, .bool (decide ((i : Int) < ((bk ts ts.length : Nat) : Int)))), (108, .int .i64 ((bk ts ts.length : Nat) : Int)), (107, .int .i64 (i : Int)), (106, .bool false)] (by kernel_rfl) ?_
              cases hik : (decide ((i : Int) < ((bk ts ts.length : Nat) : Int)))
              · skip
                refine wl_go 13 [(123, .bool false), (122, .bool false), (121, undef), (120, undef), (119, undef), (118, undef), (117, undef), (116, undef), (115, undef), (114, undef), (113, undef), (112, undef), (111, undef)] (by kernel_rfl) ?_
                refine nx_list ?_
                refine nx_then ?_
                refine wc_cond false (by kernel_rfl) (by kernel_rfl) (fun h => by cases h) (fun _ => ?_)
                refine nx_skip ?_
                refine nx_block ?_
                refine nx_then ?_
                refine wc_region ?_
                refine wl_go 1 [(80, .int .i64 (i : Int))] (by kernel_rfl) ?_
                refine wl_yl (d := 81) (v := .int .i64 ((i : Int) + 1)) (by kernel_rfl) (yl_int (t := (i : Int) + 1) (r := (i : Int) + 1) (by kernel_rfl) (i64w (by omega) (by omega))) ?_
                refine wl_go 1 [(7, .int .i64 ((i : Int) + 1))] (by kernel_rfl) ?_
                refine nx_list ?_
                exact nx_round (y := ⟨i + 1, hk⟩) (show ts.length - (i + 1) < ts.length - i by omega) (subEnv_cons (by kernel_rfl) (subEnv_cons (by kernel_rfl) (subEnv_cons (by kernel_rfl) (subEnv_cons (by kernel_rfl) (subEnv_cons (by kernel_rfl) (subEnv_nil _)))))) (fun w h => h)
              · skip
                have kf2 : (((((tat ts i).n : Int) + 1) * ((tat ts (bk ts ts.length : Nat)).wk)) == (((tat ts (bk ts ts.length : Nat)).n : Int) * ((tat ts i).wk))) = false := by
                  have h1 := of_decide_eq_true hik
                  have h2 := hm.2 (by omega)
                  exact beq_false_of_ne (by omega)
                refine wl_go 2 [(112, .int .i64 ((tat ts (bk ts ts.length : Nat)).wk)), (111, .int .i64 (((tat ts i).n : Int) + 1))] (by kernel_rfl) ?_
                refine wl_yl (d := 113) (v := .int .i64 ((((tat ts i).n : Int) + 1) * ((tat ts (bk ts ts.length : Nat)).wk))) (by kernel_rfl) (yl_int (t := (((tat ts i).n : Int) + 1) * ((tat ts (bk ts ts.length : Nat)).wk)) (r := (((tat ts i).n : Int) + 1) * ((tat ts (bk ts ts.length : Nat)).wk)) (by kernel_rfl) (i64w (by omega) (by omega))) ?_
                refine wl_go 3 [(116, .int .i64 (i : Int)), (115, .slice (some ⟨gq, oq, none⟩) ts.length ca), (114, .int .i64 ((tat ts (bk ts ts.length : Nat)).n : Int))] (by kernel_rfl) ?_
                refine wl_yl (d := 117) (v := .pointer (some ⟨gq, oq + i * 5, none⟩)) (by kernel_rfl) (yl_index (E := 51) (b := gq) (off := oq) (len := ts.length) (cap := ca) (k := i) (es := 5) rfl (by kernel_rfl) (by kernel_rfl) (by kernel_rfl) (by omega)) ?_
                refine wl_go 1 [(118, .pointer (some ⟨gq, oq + i * 5 + 1, none⟩))] (by kernel_rfl) ?_
                refine wl_yl (d := 119) (v := .int .i64 ((tat ts i).wk)) (by kernel_rfl) (yl_load_im (b := gq) (off := oq + i * 5 + 1) (v := .int .i64 ((tat ts i).wk)) rfl (by kernel_rfl) (im_of (q2 0 _ rfl) (ge_nil _)) (by kernel_rfl) (q2 1 _ rfl)) ?_
                refine wl_yl (d := 120) (v := .int .i64 (((tat ts (bk ts ts.length : Nat)).n : Int) * ((tat ts i).wk))) (by kernel_rfl) (yl_int (t := ((tat ts (bk ts ts.length : Nat)).n : Int) * ((tat ts i).wk)) (r := ((tat ts (bk ts ts.length : Nat)).n : Int) * ((tat ts i).wk)) (by kernel_rfl) (i64w (by omega) (by omega))) ?_
                refine wl_go 1 [(121, .bool (((((tat ts i).n : Int) + 1) * ((tat ts (bk ts ts.length : Nat)).wk)) == (((tat ts (bk ts ts.length : Nat)).n : Int) * ((tat ts i).wk))))] (by kernel_rfl) ?_
                rw [kf2]
                refine wl_go 2 [(123, .bool false), (122, .bool false)] (by kernel_rfl) ?_
                refine nx_list ?_
                refine nx_then ?_
                refine wc_cond false (by kernel_rfl) (by kernel_rfl) (fun h => by cases h) (fun _ => ?_)
                refine nx_skip ?_
                refine nx_block ?_
                refine nx_then ?_
                refine wc_region ?_
                refine wl_go 1 [(80, .int .i64 (i : Int))] (by kernel_rfl) ?_
                refine wl_yl (d := 81) (v := .int .i64 ((i : Int) + 1)) (by kernel_rfl) (yl_int (t := (i : Int) + 1) (r := (i : Int) + 1) (by kernel_rfl) (i64w (by omega) (by omega))) ?_
                refine wl_go 1 [(7, .int .i64 ((i : Int) + 1))] (by kernel_rfl) ?_
                refine nx_list ?_
                exact nx_round (y := ⟨i + 1, hk⟩) (show ts.length - (i + 1) < ts.length - i by omega) (subEnv_cons (by kernel_rfl) (subEnv_cons (by kernel_rfl) (subEnv_cons (by kernel_rfl) (subEnv_cons (by kernel_rfl) (subEnv_cons (by kernel_rfl) (subEnv_nil _)))))) (fun w h => h)
            · skip
              have eM : ((tat ts i).n : Int) = gn (tat ts i) := by simp [gn, hdi]
              have bM := tat_n h_n i
              have e1 : ((tat ts i).n : Int) * ((tat ts (bk ts ts.length : Nat)).wk) = gn (tat ts i) * wr (tat ts (bk ts ts.length : Nat)) := by rw [eM, eW]
              have e2 : ((tat ts (bk ts ts.length : Nat)).n : Int) * ((tat ts i).wk) = gn (tat ts (bk ts ts.length : Nat)) * wr (tat ts i) := by rw [eN, eV]
              have m1 := mul_b (gn_b (tat_n h_n i)) (wr_b (tat ts (bk ts ts.length : Nat)))
              have m2 := mul_b (gn_b (tat_n h_n (bk ts ts.length : Nat))) (wr_b (tat ts i))
              rw [← e1] at m1
              rw [← e2] at m2
              have hm := hmx i hk
              rw [← e1, ← e2] at hm
              have kf1 : decide (((tat ts i).n : Int) * ((tat ts (bk ts ts.length : Nat)).wk) > ((tat ts (bk ts ts.length : Nat)).n : Int) * ((tat ts i).wk)) = false := decide_eq_false (by omega)
              refine nx_skip ?_
              refine nx_then ?_
              refine wc_seq ?_
              refine wc_region ?_
              refine wl_go 2 [(96, .int .i64 ((tat ts (bk ts ts.length : Nat)).wk)), (95, .int .i64 ((tat ts i).n : Int))] (by kernel_rfl) ?_
              refine wl_yl (d := 97) (v := .int .i64 (((tat ts i).n : Int) * ((tat ts (bk ts ts.length : Nat)).wk))) (by kernel_rfl) (yl_int (t := ((tat ts i).n : Int) * ((tat ts (bk ts ts.length : Nat)).wk)) (r := ((tat ts i).n : Int) * ((tat ts (bk ts ts.length : Nat)).wk)) (by kernel_rfl) (i64w (by omega) (by omega))) ?_
              refine wl_go 3 [(100, .int .i64 (i : Int)), (99, .slice (some ⟨gq, oq, none⟩) ts.length ca), (98, .int .i64 ((tat ts (bk ts ts.length : Nat)).n : Int))] (by kernel_rfl) ?_
              refine wl_yl (d := 101) (v := .pointer (some ⟨gq, oq + i * 5, none⟩)) (by kernel_rfl) (yl_index (E := 51) (b := gq) (off := oq) (len := ts.length) (cap := ca) (k := i) (es := 5) rfl (by kernel_rfl) (by kernel_rfl) (by kernel_rfl) (by omega)) ?_
              refine wl_go 1 [(102, .pointer (some ⟨gq, oq + i * 5 + 1, none⟩))] (by kernel_rfl) ?_
              refine wl_yl (d := 103) (v := .int .i64 ((tat ts i).wk)) (by kernel_rfl) (yl_load_im (b := gq) (off := oq + i * 5 + 1) (v := .int .i64 ((tat ts i).wk)) rfl (by kernel_rfl) (im_of (q2 0 _ rfl) (ge_nil _)) (by kernel_rfl) (q2 1 _ rfl)) ?_
              refine wl_yl (d := 104) (v := .int .i64 (((tat ts (bk ts ts.length : Nat)).n : Int) * ((tat ts i).wk))) (by kernel_rfl) (yl_int (t := ((tat ts (bk ts ts.length : Nat)).n : Int) * ((tat ts i).wk)) (r := ((tat ts (bk ts ts.length : Nat)).n : Int) * ((tat ts i).wk)) (by kernel_rfl) (i64w (by omega) (by omega))) ?_
              refine wl_go 1 [(105, .bool (decide (((tat ts i).n : Int) * ((tat ts (bk ts ts.length : Nat)).wk) > ((tat ts (bk ts ts.length : Nat)).n : Int) * ((tat ts i).wk))))] (by kernel_rfl) ?_
              rw [kf1]
              refine wl_go 5 [(110, .bool (decide ((i : Int) < ((bk ts ts.length : Nat) : Int)))), (109, .bool (decide ((i : Int) < ((bk ts ts.length : Nat) : Int)))), (108, .int .i64 ((bk ts ts.length : Nat) : Int)), (107, .int .i64 (i : Int)), (106, .bool false)] (by kernel_rfl) ?_
              cases hik : (decide ((i : Int) < ((bk ts ts.length : Nat) : Int)))
              · skip
                refine wl_go 13 [(123, .bool false), (122, .bool false), (121, undef), (120, undef), (119, undef), (118, undef), (117, undef), (116, undef), (115, undef), (114, undef), (113, undef), (112, undef), (111, undef)] (by kernel_rfl) ?_
                refine nx_list ?_
                refine nx_then ?_
                refine wc_cond false (by kernel_rfl) (by kernel_rfl) (fun h => by cases h) (fun _ => ?_)
                refine nx_skip ?_
                refine nx_block ?_
                refine nx_then ?_
                refine wc_region ?_
                refine wl_go 1 [(80, .int .i64 (i : Int))] (by kernel_rfl) ?_
                refine wl_yl (d := 81) (v := .int .i64 ((i : Int) + 1)) (by kernel_rfl) (yl_int (t := (i : Int) + 1) (r := (i : Int) + 1) (by kernel_rfl) (i64w (by omega) (by omega))) ?_
                refine wl_go 1 [(7, .int .i64 ((i : Int) + 1))] (by kernel_rfl) ?_
                refine nx_list ?_
                exact nx_round (y := ⟨i + 1, hk⟩) (show ts.length - (i + 1) < ts.length - i by omega) (subEnv_cons (by kernel_rfl) (subEnv_cons (by kernel_rfl) (subEnv_cons (by kernel_rfl) (subEnv_cons (by kernel_rfl) (subEnv_cons (by kernel_rfl) (subEnv_nil _)))))) (fun w h => h)
              · skip
                have kf2 : ((((tat ts i).n : Int) * ((tat ts (bk ts ts.length : Nat)).wk)) == (((tat ts (bk ts ts.length : Nat)).n : Int) * ((tat ts i).wk))) = false := by
                  have h1 := of_decide_eq_true hik
                  have h2 := hm.2 (by omega)
                  exact beq_false_of_ne (by omega)
                refine wl_go 2 [(112, .int .i64 ((tat ts (bk ts ts.length : Nat)).wk)), (111, .int .i64 ((tat ts i).n : Int))] (by kernel_rfl) ?_
                refine wl_yl (d := 113) (v := .int .i64 (((tat ts i).n : Int) * ((tat ts (bk ts ts.length : Nat)).wk))) (by kernel_rfl) (yl_int (t := ((tat ts i).n : Int) * ((tat ts (bk ts ts.length : Nat)).wk)) (r := ((tat ts i).n : Int) * ((tat ts (bk ts ts.length : Nat)).wk)) (by kernel_rfl) (i64w (by omega) (by omega))) ?_
                refine wl_go 3 [(116, .int .i64 (i : Int)), (115, .slice (some ⟨gq, oq, none⟩) ts.length ca), (114, .int .i64 ((tat ts (bk ts ts.length : Nat)).n : Int))] (by kernel_rfl) ?_
                refine wl_yl (d := 117) (v := .pointer (some ⟨gq, oq + i * 5, none⟩)) (by kernel_rfl) (yl_index (E := 51) (b := gq) (off := oq) (len := ts.length) (cap := ca) (k := i) (es := 5) rfl (by kernel_rfl) (by kernel_rfl) (by kernel_rfl) (by omega)) ?_
                refine wl_go 1 [(118, .pointer (some ⟨gq, oq + i * 5 + 1, none⟩))] (by kernel_rfl) ?_
                refine wl_yl (d := 119) (v := .int .i64 ((tat ts i).wk)) (by kernel_rfl) (yl_load_im (b := gq) (off := oq + i * 5 + 1) (v := .int .i64 ((tat ts i).wk)) rfl (by kernel_rfl) (im_of (q2 0 _ rfl) (ge_nil _)) (by kernel_rfl) (q2 1 _ rfl)) ?_
                refine wl_yl (d := 120) (v := .int .i64 (((tat ts (bk ts ts.length : Nat)).n : Int) * ((tat ts i).wk))) (by kernel_rfl) (yl_int (t := ((tat ts (bk ts ts.length : Nat)).n : Int) * ((tat ts i).wk)) (r := ((tat ts (bk ts ts.length : Nat)).n : Int) * ((tat ts i).wk)) (by kernel_rfl) (i64w (by omega) (by omega))) ?_
                refine wl_go 1 [(121, .bool ((((tat ts i).n : Int) * ((tat ts (bk ts ts.length : Nat)).wk)) == (((tat ts (bk ts ts.length : Nat)).n : Int) * ((tat ts i).wk))))] (by kernel_rfl) ?_
                rw [kf2]
                refine wl_go 2 [(123, .bool false), (122, .bool false)] (by kernel_rfl) ?_
                refine nx_list ?_
                refine nx_then ?_
                refine wc_cond false (by kernel_rfl) (by kernel_rfl) (fun h => by cases h) (fun _ => ?_)
                refine nx_skip ?_
                refine nx_block ?_
                refine nx_then ?_
                refine wc_region ?_
                refine wl_go 1 [(80, .int .i64 (i : Int))] (by kernel_rfl) ?_
                refine wl_yl (d := 81) (v := .int .i64 ((i : Int) + 1)) (by kernel_rfl) (yl_int (t := (i : Int) + 1) (r := (i : Int) + 1) (by kernel_rfl) (i64w (by omega) (by omega))) ?_
                refine wl_go 1 [(7, .int .i64 ((i : Int) + 1))] (by kernel_rfl) ?_
                refine nx_list ?_
                exact nx_round (y := ⟨i + 1, hk⟩) (show ts.length - (i + 1) < ts.length - i by omega) (subEnv_cons (by kernel_rfl) (subEnv_cons (by kernel_rfl) (subEnv_cons (by kernel_rfl) (subEnv_cons (by kernel_rfl) (subEnv_cons (by kernel_rfl) (subEnv_nil _)))))) (fun w h => h)
          · skip
            refine nx_exit ?_
            refine nx_then_exit ?_
            refine nx_then_exit ?_
            refine nx_block_here ?_
            refine nx_then ?_
            refine wc_seq ?_
            refine wc_region ?_
            refine wl_callK shK (d := 124) (v := .bool true) (by kernel_rfl) (by kernel_rfl) (fun w1 h1 => awake_ok w1) ?_
            refine wl_go 1 [(2, .bool true)] (by kernel_rfl) ?_
            refine nx_list ?_
            refine nx_then ?_
            refine nx_ret ?_
            refine ret_tmp (v := .bool true) rfl (by kernel_rfl) ?_
            intro w' hw'
            exact ⟨rfl, hw'.below (Below.refl _ _) (Nat.le_refl _) (ge_nil _)⟩
  · skip
    refine wl_go 4 [(16, .bool true), (15, undef), (14, undef), (13, undef)] (by kernel_rfl) ?_
    refine nx_list ?_
    refine nx_then ?_
    refine wc_cond true (by kernel_rfl) (by kernel_rfl) (fun _ => ?_) (fun h => by cases h)
    refine wc_seq ?_
    refine wc_region ?_
    refine wl_callK shK (d := 17) (v := .bool true) (by kernel_rfl) (by kernel_rfl) (fun w1 h1 => awake_ok w1) ?_
    refine wl_go 1 [(2, .bool true)] (by kernel_rfl) ?_
    refine nx_list ?_
    refine nx_then ?_
    refine nx_ret ?_
    refine nx_then_ret ?_
    refine ret_tmp (v := .bool true) rfl (by kernel_rfl) ?_
    intro w' hw'
    exact ⟨rfl, hw'.below (Below.refl _ _) (Nat.le_refl _) (ge_nil _)⟩

end Go.Proofs.YtjcjgcnpnfhkoaaDoor
