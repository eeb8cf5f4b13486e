/- Contracts of docstoreref43.Cut, SameMember, SameReport, printed by a program of this repository (gen/rbref.py). -/
import Derived.Test.YthedokpgogopiaaRbMem
import Derived.Test.YthedokpgogopiaaAp
import Derived.Test.YthedokpgogopiaaWr4
import Derived.Test.YthedokpgogopiaaBk
namespace Go.Proofs.Ythedokpgogopiaa
open Go.RowKit Go.Sx
set_option linter.unusedVariables false
set_option linter.unusedSimpArgs false

theorem eqInts_ok (rows : List (List D)) (fR : FitR sh by_ rows (sh 3)) (hl : rows.length * 8 ≤ 140737488355328) (w : World) (S S' : Nat → Prop) (aa ab : Option Addr) (na nb : Nat) (ha : Rd S w (.sl rows) (.slice aa rows.length na)) (hb : Rd S' w (.sl rows) (.slice ab rows.length nb)) : Calls Try.prog 24 #[.slice aa rows.length na, .slice ab rows.length nb] w (fun e w' => e = .returned (.bool true) ∧ Below w.heap.size w w') := by
  have h_a := ha.im
  have h_b := hb.im
  have bb : rows.length ≤ 140737488355328 := by omega
  refine Sx.enter (l := [.slice aa rows.length na, .slice ab rows.length nb]) Try.func24 rfl (n := 26) rfl (by simp) ?_
  refine wc_eq (S := SH w []) (SH.refl _) ?_
  refine wc_seq ?_
  refine wc_region ?_
  refine wl_go 1 [(4, .bool false)] (by kernel_rfl) ?_
  refine nx_list ?_
  refine nx_then ?_
  refine wc_seq ?_
  refine wc_seq ?_
  refine wc_region ?_
  refine wl_go 5 [(10, .bool ((rows.length : Int) != (rows.length : Int))), (9, .int .i64 (rows.length : Int)), (8, .slice ab rows.length nb), (7, .int .i64 (rows.length : Int)), (6, .slice aa rows.length na)] (by kernel_rfl) ?_
  rw [show ((rows.length : Int) != (rows.length : Int)) = false from by simp]
  refine nx_list ?_
  refine nx_then ?_
  refine wc_cond false (by kernel_rfl) (by kernel_rfl) (fun h => by cases h) (fun _ => ?_)
  refine nx_skip ?_
  refine nx_then ?_
  refine wc_seq ?_
  refine wc_seq ?_
  refine wc_region ?_
  refine wl_go 3 [(13, .int .i64 0), (12, .int .i64 (rows.length : Int)), (11, .slice aa rows.length na)] (by kernel_rfl) ?_
  refine nx_list ?_
  refine nx_then ?_
  refine wc_block ?_
  refine wc_loop (σ := { i : Nat // i ≤ rows.length }) (fun x => [(0, .slice aa rows.length na), (1, .slice ab rows.length nb), (12, .int .i64 (rows.length : Int)), (13, .int .i64 (x.1 : Int))]) (fun _ => SH w []) (fun x => rows.length - x.1) (fun w3 h3 => ⟨⟨0, Nat.zero_le _⟩, h3, (subEnv_cons (by kernel_rfl) (subEnv_cons (by kernel_rfl) (subEnv_cons (by kernel_rfl) (subEnv_cons (by kernel_rfl) (subEnv_nil _)))))⟩) (fun x => ?_)
  refine wc_seq ?_
  refine wc_region ?_
  refine wl_go 1 [(14, .bool (decide ((x.1 : Int) < (rows.length : Int))))] (by kernel_rfl) ?_
  refine nx_list ?_
  refine nx_then ?_
  refine wc_seq ?_
  refine wc_cond (decide ((x.1 : Int) < (rows.length : Int))) (by kernel_rfl) (by kernel_rfl) (fun hc => ?_) (fun hc => ?_)
  · skip
    have hlt : x.1 < rows.length := by simpa using hc
    obtain ⟨r, hrow⟩ : ∃ r, rows[x.1]? = some r := ⟨_, List.getElem?_eq_getElem hlt⟩
    obtain ⟨d0, e0, rfl, hf0, hft0⟩ := FitL.cons (k := .int) (ks := []) (fR.get x.1 r hrow)
    obtain ⟨n, rfl, _⟩ := Fit.int hf0
    obtain rfl := FitL.nil hft0
    obtain ⟨ga, oa, ca, rfl, hIa, h_ca, l_ca, hga⟩ := Rd.row_at (es := 1) h_a (fun r hr => fR.length r hr) hrow
    obtain ⟨ua, za, rfl, hua, hza⟩ := RdL.cons h_ca
    rw [Rd] at hua; subst hua
    obtain ⟨gb, ob, cb, rfl, hIb, h_cb, l_cb, hgb⟩ := Rd.row_at (es := 1) h_b (fun r hr => fR.length r hr) hrow
    obtain ⟨ub, zb, rfl, hub, hzb⟩ := RdL.cons h_cb
    rw [Rd] at hub; subst hub
    refine nx_skip ?_
    refine nx_then ?_
    refine wc_seq ?_
    refine wc_block ?_
    refine wc_seq ?_
    refine wc_region ?_
    refine wl_go 2 [(5, .int .i64 (x.1 : Int)), (15, .int .i64 (x.1 : Int))] (by kernel_rfl) ?_
    refine nx_list ?_
    refine nx_then ?_
    refine wc_seq ?_
    refine wc_draw 9 (SH w []) rfl (by decide) (fun w h => SH.drew h) ?_
    refine wd_go [0, 1] [(17, .int .i64 (x.1 : Int)), (16, .slice (some ⟨ga, oa, none⟩) rows.length na)] #[true, true, false, false, false, false, false, false, false] (f := 7) rfl (by kernel_rfl) (fun w h => h) ?_
    refine wd_yl 2 (d := 18) (v := .pointer (some ⟨ga, oa + x.1 * 1, none⟩)) (f := 6) rfl (by kernel_rfl) (by kernel_rfl) (fun w h => h) (yl_index (E := 3) (b := ga) (off := oa) (len := rows.length) (cap := na) (k := x.1) (es := 1) rfl (by kernel_rfl) (by kernel_rfl) (by kernel_rfl) (by omega)) ?_
    refine wd_yl 3 (d := 19) (v := .int .i64 n) (f := 5) rfl (by kernel_rfl) (by kernel_rfl) (fun w h => h) (yl_load_im (b := ga) (off := oa + x.1 * 1) (v := .int .i64 n) rfl (by kernel_rfl) hIa (by kernel_rfl) (hga 0 _ rfl)) ?_
    refine wd_go [4, 5] [(21, .int .i64 (x.1 : Int)), (20, .slice (some ⟨gb, ob, none⟩) rows.length nb)] #[true, true, true, true, true, true, false, false, false] (f := 3) rfl (by kernel_rfl) (fun w h => h) ?_
    refine wd_yl 6 (d := 22) (v := .pointer (some ⟨gb, ob + x.1 * 1, none⟩)) (f := 2) rfl (by kernel_rfl) (by kernel_rfl) (fun w h => h) (yl_index (E := 3) (b := gb) (off := ob) (len := rows.length) (cap := nb) (k := x.1) (es := 1) rfl (by kernel_rfl) (by kernel_rfl) (by kernel_rfl) (by omega)) ?_
    refine wd_yl 7 (d := 23) (v := .int .i64 n) (f := 1) rfl (by kernel_rfl) (by kernel_rfl) (fun w h => h) (yl_load_im (b := gb) (off := ob + x.1 * 1) (v := .int .i64 n) rfl (by kernel_rfl) hIb (by kernel_rfl) (hgb 0 _ rfl)) ?_
    refine wd_go [8] [(24, .bool (n != n))] #[true, true, true, true, true, true, true, true, true] (f := 0) rfl (by kernel_rfl) (fun w h => h) ?_
    rw [show (n != n) = false from by simp]
    refine wd_done (by kernel_rfl) ?_
    refine nx_list ?_
    refine nx_on ?_
    refine nx_then ?_
    refine wc_cond false (by kernel_rfl) (by kernel_rfl) (fun h => by cases h) (fun _ => ?_)
    refine nx_skip ?_
    refine nx_block ?_
    refine nx_then ?_
    refine wc_region ?_
    refine wl_yl (d := 25) (v := .int .i64 ((x.1 : Int) + 1)) (by kernel_rfl) (yl_int (t := (x.1 : Int) + 1) (r := (x.1 : Int) + 1) (by kernel_rfl) (i64w (by omega) (by omega))) ?_
    refine wl_go 1 [(13, .int .i64 ((x.1 : Int) + 1))] (by kernel_rfl) ?_
    refine nx_list ?_
    refine nx_round (y := ⟨x.1 + 1, hlt⟩) (show rows.length - (x.1 + 1) < rows.length - x.1 by omega) (subEnv_cons (by kernel_rfl) (subEnv_cons (by kernel_rfl) (subEnv_cons (by kernel_rfl) (subEnv_cons (by kernel_rfl) (subEnv_nil _))))) (fun w h => h)
  · skip
    refine nx_exit ?_
    refine nx_then_exit ?_
    refine nx_then_exit ?_
    refine nx_block_here ?_
    refine nx_then ?_
    refine wc_seq ?_
    refine wc_region ?_
    refine wl_go 1 [(4, .bool true)] (by kernel_rfl) ?_
    refine nx_list ?_
    refine nx_then ?_
    refine nx_ret ?_
    refine ret_tmp (v := .bool true) rfl (by kernel_rfl) ?_
    intro w' hw'
    exact ⟨rfl, hw'.below (Below.refl _ _) (Nat.le_refl _) (ge_nil _)⟩

theorem refcut_ok (n0 n1 n2 n3 n4 n5 n6 n7 n9 : Int) (rows8 rows10 rows11 : List (List D)) (a8 a10 a11 : Option Addr) (cap8 cap10 cap11 : Nat) (at_ : Int) (w : World) (S : Nat → Prop)
    (hr8 : Rd S w (.sl rows8) (.slice a8 rows8.length cap8)) (hcap : rows8.length ≤ cap8) (hr10 : Rd S w (.sl rows10) (.slice a10 rows10.length cap10)) (hr11 : Rd S w (.sl rows11) (.slice a11 rows11.length cap11)) (fR8 : FitR sh by_ rows8 (sh 13)) (b8 : rows8.length * 1208 ≤ 140737488355328) (fR10 : FitR sh by_ rows10 (sh 3)) (b10 : rows10.length * 8 ≤ 140737488355328) (fR11 : FitR sh by_ rows11 (sh 3)) (b11 : rows11.length * 8 ≤ 140737488355328) :
    Calls Try.prog 14 #[.agg #[.int .i64 n0, .int .i64 n1, .int .i64 n2, .int .i64 n3, .int .i64 n4, .int .i64 n5, .int .i64 n6, .int .i64 n7, .slice a8 rows8.length cap8, .int .i64 n9, .slice a10 rows10.length cap10, .slice a11 rows11.length cap11], .int .i64 at_] w (fun e w' => ∃ m r, e = .returned (.tuple #[.agg m.toArray, .agg r.toArray]) ∧ RdL (fun _ => True) w' [.int n0, .int n1, .int n2, .int n3, .int n4, .int n5, .int n6, .int n7, .sl (rows8.take (cutAt at_ n9 rows8.length)), .int n9, .sl rows10, .sl rows11] m ∧ RdL (fun _ => True) w' [.int n0, .int n2, .int (cutAt at_ n9 rows8.length : Int), .sl (rows8.drop (cutAt at_ n9 rows8.length))] r ∧ Below w.heap.size w w') := by
  have h_c8 := hr8.im
  have h_c10 := hr10.im
  have h_c11 := hr11.im
  have hbel := Below.refl w.heap.size w
  have hes8 : ∀ r ∈ rows8, r.length = 82 := fun r hr => fR8.length r hr
  refine Sx.enter (l := [.agg #[.int .i64 n0, .int .i64 n1, .int .i64 n2, .int .i64 n3, .int .i64 n4, .int .i64 n5, .int .i64 n6, .int .i64 n7, .slice a8 rows8.length cap8, .int .i64 n9, .slice a10 rows10.length cap10, .slice a11 rows11.length cap11], .int .i64 at_]) Try.func14 rfl (n := 41) rfl (by simp) ?_
  refine wc_eq (S := SH w []) (SH.refl _) ?_
  refine wc_seq ?_
  refine wc_region ?_
  refine wl_new (d := 2) #[.int .i64 n0, .int .i64 n1, .int .i64 n2, .int .i64 n3, .int .i64 n4, .int .i64 n5, .int .i64 n6, .int .i64 n7, .slice a8 rows8.length cap8, .int .i64 n9, .slice a10 rows10.length cap10, .slice a11 rows11.length cap11] 59 (fun r => .pointer (some ⟨r, 0, none⟩)) (by kernel_rfl) (fun r => by kernel_rfl) ?_
  intro r1 hr1
  have h_c8 := h_c8.stays (im_more (c := #[.int .i64 n0, .int .i64 n1, .int .i64 n2, .int .i64 n3, .int .i64 n4, .int .i64 n5, .int .i64 n6, .int .i64 n7, .slice a8 rows8.length cap8, .int .i64 n9, .slice a10 rows10.length cap10, .slice a11 rows11.length cap11]) (t := 59) hr1)
  have h_c10 := h_c10.stays (im_more (c := #[.int .i64 n0, .int .i64 n1, .int .i64 n2, .int .i64 n3, .int .i64 n4, .int .i64 n5, .int .i64 n6, .int .i64 n7, .slice a8 rows8.length cap8, .int .i64 n9, .slice a10 rows10.length cap10, .slice a11 rows11.length cap11]) (t := 59) hr1)
  have h_c11 := h_c11.stays (im_more (c := #[.int .i64 n0, .int .i64 n1, .int .i64 n2, .int .i64 n3, .int .i64 n4, .int .i64 n5, .int .i64 n6, .int .i64 n7, .slice a8 rows8.length cap8, .int .i64 n9, .slice a10 rows10.length cap10, .slice a11 rows11.length cap11]) (t := 59) hr1)
  have gr1 := Nat.le_trans hbel.size hr1
  refine wl_new (d := 4) #[.int .i64 0, .int .i64 0, .int .i64 0, .int .i64 0, .int .i64 0, .int .i64 0, .int .i64 0, .int .i64 0, .slice none 0 0, .int .i64 0, .slice none 0 0, .slice none 0 0] 59 (fun r => .pointer (some ⟨r, 0, none⟩)) (by kernel_rfl) (fun r => by kernel_rfl) ?_
  intro r2 hr2
  have h_c8 := h_c8.stays (im_more (c := #[.int .i64 0, .int .i64 0, .int .i64 0, .int .i64 0, .int .i64 0, .int .i64 0, .int .i64 0, .int .i64 0, .slice none 0 0, .int .i64 0, .slice none 0 0, .slice none 0 0]) (t := 59) hr2)
  have h_c10 := h_c10.stays (im_more (c := #[.int .i64 0, .int .i64 0, .int .i64 0, .int .i64 0, .int .i64 0, .int .i64 0, .int .i64 0, .int .i64 0, .slice none 0 0, .int .i64 0, .slice none 0 0, .slice none 0 0]) (t := 59) hr2)
  have h_c11 := h_c11.stays (im_more (c := #[.int .i64 0, .int .i64 0, .int .i64 0, .int .i64 0, .int .i64 0, .int .i64 0, .int .i64 0, .int .i64 0, .slice none 0 0, .int .i64 0, .slice none 0 0, .slice none 0 0]) (t := 59) hr2)
  have gr2 := Nat.le_trans hbel.size hr2
  refine wl_new (d := 5) #[.int .i64 0, .int .i64 0, .int .i64 0, .slice none 0 0] 61 (fun r => .pointer (some ⟨r, 0, none⟩)) (by kernel_rfl) (fun r => by kernel_rfl) ?_
  intro r3 hr3
  have h_c8 := h_c8.stays (im_more (c := #[.int .i64 0, .int .i64 0, .int .i64 0, .slice none 0 0]) (t := 61) hr3)
  have h_c10 := h_c10.stays (im_more (c := #[.int .i64 0, .int .i64 0, .int .i64 0, .slice none 0 0]) (t := 61) hr3)
  have h_c11 := h_c11.stays (im_more (c := #[.int .i64 0, .int .i64 0, .int .i64 0, .slice none 0 0]) (t := 61) hr3)
  have gr3 := Nat.le_trans hbel.size hr3
  refine nx_list ?_
  refine nx_then ?_
  refine wc_seq ?_
  refine wc_region ?_
  refine wl_go 2 [(10, .pointer (some ⟨r1, 9, none⟩)), (9, .int .i64 at_)] (by kernel_rfl) ?_
  refine wl_yl (d := 11) (v := .int .i64 n9) (by kernel_rfl) (yl_load (b := r1) (off := 9) 2 rfl (by kernel_rfl) rfl (by kernel_rfl)) ?_
  refine wl_go 2 [(13, .pointer (some ⟨r1, 8, none⟩)), (12, .int .i64 (mx3 at_ n9 0))] (by kernel_rfl) ?_
  refine wl_yl (d := 14) (v := .slice a8 rows8.length cap8) (by kernel_rfl) (yl_load (b := r1) (off := 8) 2 rfl (by kernel_rfl) rfl (by kernel_rfl)) ?_
  refine wl_go 1 [(15, .int .i64 (rows8.length : Int))] (by kernel_rfl) ?_
  refine wl_yl (d := 16) (v := .int .i64 (mn2 (mx3 at_ n9 0) (rows8.length : Int))) (by kernel_rfl) (yl_pure (by kernel_rfl)) ?_
  obtain ⟨k, hk⟩ : ∃ k, k = cutAt at_ n9 rows8.length := ⟨_, rfl⟩
  have hkl : k ≤ rows8.length := by rw [hk]; exact cutAt_le _ _ _
  rw [show mn2 (mx3 at_ n9 0) (rows8.length : Int) = (k : Int) from by rw [hk]; exact cutAt_eq _ _ _]
  refine wl_go 1 [(6, .int .i64 (k : Int))] (by kernel_rfl) ?_
  refine nx_list ?_
  refine nx_then ?_
  refine wc_seq ?_
  refine wc_region ?_
  refine wl_go 1 [(17, .pointer (some ⟨r1, 0, none⟩))] (by kernel_rfl) ?_
  refine wl_yl (d := 18) (v := .int .i64 n0) (by kernel_rfl) (yl_load (b := r1) (off := 0) 2 rfl (by kernel_rfl) rfl (by kernel_rfl)) ?_
  refine wl_go 1 [(19, .pointer (some ⟨r1, 2, none⟩))] (by kernel_rfl) ?_
  refine wl_yl (d := 20) (v := .int .i64 n2) (by kernel_rfl) (yl_load (b := r1) (off := 2) 2 rfl (by kernel_rfl) rfl (by kernel_rfl)) ?_
  refine wl_go 2 [(22, .agg #[.int .i64 n0, .int .i64 n2, .int .i64 (k : Int), .slice none 0 0]), (21, .int .i64 (k : Int))] (by kernel_rfl) ?_
  refine wl_new (d := 7) #[.int .i64 0, .int .i64 0, .int .i64 0, .slice none 0 0] 61 (fun r => .pointer (some ⟨r, 0, none⟩)) (by kernel_rfl) (fun r => by kernel_rfl) ?_
  intro r4 hr4
  have h_c8 := h_c8.stays (im_more (c := #[.int .i64 0, .int .i64 0, .int .i64 0, .slice none 0 0]) (t := 61) hr4)
  have h_c10 := h_c10.stays (im_more (c := #[.int .i64 0, .int .i64 0, .int .i64 0, .slice none 0 0]) (t := 61) hr4)
  have h_c11 := h_c11.stays (im_more (c := #[.int .i64 0, .int .i64 0, .int .i64 0, .slice none 0 0]) (t := 61) hr4)
  have gr4 := Nat.le_trans hbel.size hr4
  refine wl_store (b := r4) (off := 0) (v := .agg #[.int .i64 n0, .int .i64 n2, .int .i64 (k : Int), .slice none 0 0]) (c' := #[.int .i64 n0, .int .i64 n2, .int .i64 (k : Int), .slice none 0 0]) (L' := [⟨r4, #[.int .i64 n0, .int .i64 n2, .int .i64 (k : Int), .slice none 0 0], 61⟩, ⟨r3, #[.int .i64 0, .int .i64 0, .int .i64 0, .slice none 0 0], 61⟩, ⟨r2, #[.int .i64 0, .int .i64 0, .int .i64 0, .int .i64 0, .int .i64 0, .int .i64 0, .int .i64 0, .int .i64 0, .slice none 0 0, .int .i64 0, .slice none 0 0, .slice none 0 0], 59⟩, ⟨r1, #[.int .i64 n0, .int .i64 n1, .int .i64 n2, .int .i64 n3, .int .i64 n4, .int .i64 n5, .int .i64 n6, .int .i64 n7, .slice a8 rows8.length cap8, .int .i64 n9, .slice a10 rows10.length cap10, .slice a11 rows11.length cap11], 59⟩]) 0 (by kernel_rfl) rfl (by kernel_rfl) (by kernel_rfl) rfl (by kernel_rfl) rfl ?_
  refine nx_list ?_
  refine nx_then ?_
  refine wc_seq ?_
  refine wc_draw 8 (SH w [⟨r4, #[.int .i64 n0, .int .i64 n2, .int .i64 (k : Int), .slice none 0 0], 61⟩, ⟨r3, #[.int .i64 0, .int .i64 0, .int .i64 0, .slice none 0 0], 61⟩, ⟨r2, #[.int .i64 0, .int .i64 0, .int .i64 0, .int .i64 0, .int .i64 0, .int .i64 0, .int .i64 0, .int .i64 0, .slice none 0 0, .int .i64 0, .slice none 0 0, .slice none 0 0], 59⟩, ⟨r1, #[.int .i64 n0, .int .i64 n1, .int .i64 n2, .int .i64 n3, .int .i64 n4, .int .i64 n5, .int .i64 n6, .int .i64 n7, .slice a8 rows8.length cap8, .int .i64 n9, .slice a10 rows10.length cap10, .slice a11 rows11.length cap11], 59⟩]) rfl (by decide) (fun w h => SH.drew h) ?_
  refine wd_go [0] [(23, .pointer (some ⟨r4, 3, none⟩))] #[true, false, false, false, false, false, false, false, false] (f := 7) rfl (by kernel_rfl) (fun w h => h) ?_
  refine wd_yl 1 (d := 24) (v := .slice none 0 0) (f := 6) rfl (by kernel_rfl) (by kernel_rfl) (fun w h => h) (yl_load (b := r4) (off := 3) 0 rfl (by kernel_rfl) rfl (by kernel_rfl)) ?_
  refine wd_go [2] [(25, .pointer (some ⟨r1, 8, none⟩))] #[true, true, true, false, false, false, false, false, false] (f := 5) rfl (by kernel_rfl) (fun w h => h) ?_
  refine wd_yl 3 (d := 26) (v := .slice a8 rows8.length cap8) (f := 4) rfl (by kernel_rfl) (by kernel_rfl) (fun w h => h) (yl_load (b := r1) (off := 8) 3 rfl (by kernel_rfl) rfl (by kernel_rfl)) ?_
  refine wd_go [4] [(27, .int .i64 (k : Int))] #[true, true, true, true, true, false, false, false, false] (f := 3) rfl (by kernel_rfl) (fun w h => h) ?_
  refine wd_yl 5 (d := 28) (v := sliced a8 k rows8.length cap8 82) (f := 2) rfl (by kernel_rfl) (by kernel_rfl) (fun w h => h) (yl_from (E := 55) (a := a8) (len := rows8.length) (cap := cap8) (k := k) (es := 82) rfl (by kernel_rfl) (by kernel_rfl) (by kernel_rfl) hkl) ?_
  have h_vdrop := rd_from h_c8 hes8 hkl hcap
  generalize hgen_vdrop : sliced a8 k rows8.length cap8 82 = vdrop at h_vdrop ⊢
  obtain ⟨a_vdrop, cap_vdrop, rfl⟩ := h_vdrop.slv
  have h_c8 := h_c8.stays (im_congS (L := (⟨r4, #[.int .i64 0, .int .i64 0, .int .i64 0, .slice none 0 0], 61⟩ :: (⟨r3, #[.int .i64 0, .int .i64 0, .int .i64 0, .slice none 0 0], 61⟩ :: (⟨r2, #[.int .i64 0, .int .i64 0, .int .i64 0, .int .i64 0, .int .i64 0, .int .i64 0, .int .i64 0, .int .i64 0, .slice none 0 0, .int .i64 0, .slice none 0 0, .slice none 0 0], 59⟩ :: (⟨r1, #[.int .i64 n0, .int .i64 n1, .int .i64 n2, .int .i64 n3, .int .i64 n4, .int .i64 n5, .int .i64 n6, .int .i64 n7, .slice a8 rows8.length cap8, .int .i64 n9, .slice a10 rows10.length cap10, .slice a11 rows11.length cap11], 59⟩ :: []))))) (L' := [⟨r4, #[.int .i64 n0, .int .i64 n2, .int .i64 (k : Int), .slice none 0 0], 61⟩, ⟨r3, #[.int .i64 0, .int .i64 0, .int .i64 0, .slice none 0 0], 61⟩, ⟨r2, #[.int .i64 0, .int .i64 0, .int .i64 0, .int .i64 0, .int .i64 0, .int .i64 0, .int .i64 0, .int .i64 0, .slice none 0 0, .int .i64 0, .slice none 0 0, .slice none 0 0], 59⟩, ⟨r1, #[.int .i64 n0, .int .i64 n1, .int .i64 n2, .int .i64 n3, .int .i64 n4, .int .i64 n5, .int .i64 n6, .int .i64 n7, .slice a8 rows8.length cap8, .int .i64 n9, .slice a10 rows10.length cap10, .slice a11 rows11.length cap11], 59⟩]) rfl)
  have h_c10 := h_c10.stays (im_congS (L := (⟨r4, #[.int .i64 0, .int .i64 0, .int .i64 0, .slice none 0 0], 61⟩ :: (⟨r3, #[.int .i64 0, .int .i64 0, .int .i64 0, .slice none 0 0], 61⟩ :: (⟨r2, #[.int .i64 0, .int .i64 0, .int .i64 0, .int .i64 0, .int .i64 0, .int .i64 0, .int .i64 0, .int .i64 0, .slice none 0 0, .int .i64 0, .slice none 0 0, .slice none 0 0], 59⟩ :: (⟨r1, #[.int .i64 n0, .int .i64 n1, .int .i64 n2, .int .i64 n3, .int .i64 n4, .int .i64 n5, .int .i64 n6, .int .i64 n7, .slice a8 rows8.length cap8, .int .i64 n9, .slice a10 rows10.length cap10, .slice a11 rows11.length cap11], 59⟩ :: []))))) (L' := [⟨r4, #[.int .i64 n0, .int .i64 n2, .int .i64 (k : Int), .slice none 0 0], 61⟩, ⟨r3, #[.int .i64 0, .int .i64 0, .int .i64 0, .slice none 0 0], 61⟩, ⟨r2, #[.int .i64 0, .int .i64 0, .int .i64 0, .int .i64 0, .int .i64 0, .int .i64 0, .int .i64 0, .int .i64 0, .slice none 0 0, .int .i64 0, .slice none 0 0, .slice none 0 0], 59⟩, ⟨r1, #[.int .i64 n0, .int .i64 n1, .int .i64 n2, .int .i64 n3, .int .i64 n4, .int .i64 n5, .int .i64 n6, .int .i64 n7, .slice a8 rows8.length cap8, .int .i64 n9, .slice a10 rows10.length cap10, .slice a11 rows11.length cap11], 59⟩]) rfl)
  have h_c11 := h_c11.stays (im_congS (L := (⟨r4, #[.int .i64 0, .int .i64 0, .int .i64 0, .slice none 0 0], 61⟩ :: (⟨r3, #[.int .i64 0, .int .i64 0, .int .i64 0, .slice none 0 0], 61⟩ :: (⟨r2, #[.int .i64 0, .int .i64 0, .int .i64 0, .int .i64 0, .int .i64 0, .int .i64 0, .int .i64 0, .int .i64 0, .slice none 0 0, .int .i64 0, .slice none 0 0, .slice none 0 0], 59⟩ :: (⟨r1, #[.int .i64 n0, .int .i64 n1, .int .i64 n2, .int .i64 n3, .int .i64 n4, .int .i64 n5, .int .i64 n6, .int .i64 n7, .slice a8 rows8.length cap8, .int .i64 n9, .slice a10 rows10.length cap10, .slice a11 rows11.length cap11], 59⟩ :: []))))) (L' := [⟨r4, #[.int .i64 n0, .int .i64 n2, .int .i64 (k : Int), .slice none 0 0], 61⟩, ⟨r3, #[.int .i64 0, .int .i64 0, .int .i64 0, .slice none 0 0], 61⟩, ⟨r2, #[.int .i64 0, .int .i64 0, .int .i64 0, .int .i64 0, .int .i64 0, .int .i64 0, .int .i64 0, .int .i64 0, .slice none 0 0, .int .i64 0, .slice none 0 0, .slice none 0 0], 59⟩, ⟨r1, #[.int .i64 n0, .int .i64 n1, .int .i64 n2, .int .i64 n3, .int .i64 n4, .int .i64 n5, .int .i64 n6, .int .i64 n7, .slice a8 rows8.length cap8, .int .i64 n9, .slice a10 rows10.length cap10, .slice a11 rows11.length cap11], 59⟩]) rfl)
  have h_vdrop := h_vdrop.stays (im_congS (L := (⟨r4, #[.int .i64 0, .int .i64 0, .int .i64 0, .slice none 0 0], 61⟩ :: (⟨r3, #[.int .i64 0, .int .i64 0, .int .i64 0, .slice none 0 0], 61⟩ :: (⟨r2, #[.int .i64 0, .int .i64 0, .int .i64 0, .int .i64 0, .int .i64 0, .int .i64 0, .int .i64 0, .int .i64 0, .slice none 0 0, .int .i64 0, .slice none 0 0, .slice none 0 0], 59⟩ :: (⟨r1, #[.int .i64 n0, .int .i64 n1, .int .i64 n2, .int .i64 n3, .int .i64 n4, .int .i64 n5, .int .i64 n6, .int .i64 n7, .slice a8 rows8.length cap8, .int .i64 n9, .slice a10 rows10.length cap10, .slice a11 rows11.length cap11], 59⟩ :: []))))) (L' := [⟨r4, #[.int .i64 n0, .int .i64 n2, .int .i64 (k : Int), .slice none 0 0], 61⟩, ⟨r3, #[.int .i64 0, .int .i64 0, .int .i64 0, .slice none 0 0], 61⟩, ⟨r2, #[.int .i64 0, .int .i64 0, .int .i64 0, .int .i64 0, .int .i64 0, .int .i64 0, .int .i64 0, .int .i64 0, .slice none 0 0, .int .i64 0, .slice none 0 0, .slice none 0 0], 59⟩, ⟨r1, #[.int .i64 n0, .int .i64 n1, .int .i64 n2, .int .i64 n3, .int .i64 n4, .int .i64 n5, .int .i64 n6, .int .i64 n7, .slice a8 rows8.length cap8, .int .i64 n9, .slice a10 rows10.length cap10, .slice a11 rows11.length cap11], 59⟩]) rfl)
  refine wd_appendS (d := 29) (f := 1) 6 55 zv55 82 1208 (rows8.drop k) rfl (by decide) (by kernel_rfl) (by kernel_rfl) rfl (by kernel_rfl) (by kernel_rfl) (by decide) (by kernel_rfl) (by kernel_rfl) h_vdrop (fun r hr => hes8 r (List.mem_of_mem_drop hr)) (by simp only [maxLen]; have := dropB (k := k) b8; omega) (dropB b8) (fun w h => h) ?_
  intro wq1 wvdrop h_wvdrop hT hsubq1
  have h_c8 := h_c8.stays hT.stays
  have h_c10 := h_c10.stays hT.stays
  have h_c11 := h_c11.stays hT.stays
  have h_vdrop := h_vdrop.stays hT.stays
  have hbel := hbel.trans (hT.below hbel.size (ge_cons gr4 (ge_cons gr3 (ge_cons gr2 (ge_cons gr1 (ge_nil _))))))
  obtain ⟨a_wvdrop, cap_wvdrop, rfl⟩ := h_wvdrop.slv
  refine wd_go [7] [(30, .pointer (some ⟨r4, 3, none⟩))] #[true, true, true, true, true, true, true, true, false] (f := 0) rfl (by kernel_rfl) (hsubq1) ?_
  refine wd_done (by kernel_rfl) ?_
  refine wl_store (b := r4) (off := 3) (v := .slice a_wvdrop ((rows8.drop k).length) cap_wvdrop) (c' := #[.int .i64 n0, .int .i64 n2, .int .i64 (k : Int), .slice a_wvdrop ((rows8.drop k).length) cap_wvdrop]) (L' := [⟨r4, #[.int .i64 n0, .int .i64 n2, .int .i64 (k : Int), .slice a_wvdrop ((rows8.drop k).length) cap_wvdrop], 61⟩, ⟨r3, #[.int .i64 0, .int .i64 0, .int .i64 0, .slice none 0 0], 61⟩, ⟨r2, #[.int .i64 0, .int .i64 0, .int .i64 0, .int .i64 0, .int .i64 0, .int .i64 0, .int .i64 0, .int .i64 0, .slice none 0 0, .int .i64 0, .slice none 0 0, .slice none 0 0], 59⟩, ⟨r1, #[.int .i64 n0, .int .i64 n1, .int .i64 n2, .int .i64 n3, .int .i64 n4, .int .i64 n5, .int .i64 n6, .int .i64 n7, .slice a8 rows8.length cap8, .int .i64 n9, .slice a10 rows10.length cap10, .slice a11 rows11.length cap11], 59⟩]) 0 (by kernel_rfl) rfl (by kernel_rfl) (by kernel_rfl) rfl (by kernel_rfl) rfl ?_
  refine nx_list ?_
  refine nx_on ?_
  refine nx_then ?_
  refine wc_seq ?_
  refine wc_region ?_
  refine wl_go 1 [(8, .slice none 0 0)] (by kernel_rfl) ?_
  refine nx_list ?_
  refine nx_then ?_
  refine wc_seq ?_
  refine wc_region ?_
  refine wl_go 2 [(32, .pointer (some ⟨r1, 8, none⟩)), (31, .slice none 0 0)] (by kernel_rfl) ?_
  refine wl_yl (d := 33) (v := .slice a8 rows8.length cap8) (by kernel_rfl) (yl_load (b := r1) (off := 8) 3 rfl (by kernel_rfl) rfl (by kernel_rfl)) ?_
  refine wl_go 1 [(34, .int .i64 (k : Int))] (by kernel_rfl) ?_
  refine wl_yl (d := 35) (v := sliced a8 0 k cap8 82) (by kernel_rfl) (yl_to (E := 55) (a := a8) (len := rows8.length) (cap := cap8) (k := k) (es := 82) rfl (by kernel_rfl) (by kernel_rfl) (by kernel_rfl) (Nat.le_trans hkl hcap)) ?_
  have h_vtake := rd_to (es := 82) h_c8 hkl hcap
  generalize hgen_vtake : sliced a8 0 k cap8 82 = vtake at h_vtake ⊢
  obtain ⟨a_vtake, cap_vtake, rfl⟩ := h_vtake.slv
  have h_c8 := h_c8.stays (im_congS (L := [⟨r4, #[.int .i64 n0, .int .i64 n2, .int .i64 (k : Int), .slice none 0 0], 61⟩, ⟨r3, #[.int .i64 0, .int .i64 0, .int .i64 0, .slice none 0 0], 61⟩, ⟨r2, #[.int .i64 0, .int .i64 0, .int .i64 0, .int .i64 0, .int .i64 0, .int .i64 0, .int .i64 0, .int .i64 0, .slice none 0 0, .int .i64 0, .slice none 0 0, .slice none 0 0], 59⟩, ⟨r1, #[.int .i64 n0, .int .i64 n1, .int .i64 n2, .int .i64 n3, .int .i64 n4, .int .i64 n5, .int .i64 n6, .int .i64 n7, .slice a8 rows8.length cap8, .int .i64 n9, .slice a10 rows10.length cap10, .slice a11 rows11.length cap11], 59⟩]) (L' := [⟨r4, #[.int .i64 n0, .int .i64 n2, .int .i64 (k : Int), .slice a_wvdrop ((rows8.drop k).length) cap_wvdrop], 61⟩, ⟨r3, #[.int .i64 0, .int .i64 0, .int .i64 0, .slice none 0 0], 61⟩, ⟨r2, #[.int .i64 0, .int .i64 0, .int .i64 0, .int .i64 0, .int .i64 0, .int .i64 0, .int .i64 0, .int .i64 0, .slice none 0 0, .int .i64 0, .slice none 0 0, .slice none 0 0], 59⟩, ⟨r1, #[.int .i64 n0, .int .i64 n1, .int .i64 n2, .int .i64 n3, .int .i64 n4, .int .i64 n5, .int .i64 n6, .int .i64 n7, .slice a8 rows8.length cap8, .int .i64 n9, .slice a10 rows10.length cap10, .slice a11 rows11.length cap11], 59⟩]) rfl)
  have h_c10 := h_c10.stays (im_congS (L := [⟨r4, #[.int .i64 n0, .int .i64 n2, .int .i64 (k : Int), .slice none 0 0], 61⟩, ⟨r3, #[.int .i64 0, .int .i64 0, .int .i64 0, .slice none 0 0], 61⟩, ⟨r2, #[.int .i64 0, .int .i64 0, .int .i64 0, .int .i64 0, .int .i64 0, .int .i64 0, .int .i64 0, .int .i64 0, .slice none 0 0, .int .i64 0, .slice none 0 0, .slice none 0 0], 59⟩, ⟨r1, #[.int .i64 n0, .int .i64 n1, .int .i64 n2, .int .i64 n3, .int .i64 n4, .int .i64 n5, .int .i64 n6, .int .i64 n7, .slice a8 rows8.length cap8, .int .i64 n9, .slice a10 rows10.length cap10, .slice a11 rows11.length cap11], 59⟩]) (L' := [⟨r4, #[.int .i64 n0, .int .i64 n2, .int .i64 (k : Int), .slice a_wvdrop ((rows8.drop k).length) cap_wvdrop], 61⟩, ⟨r3, #[.int .i64 0, .int .i64 0, .int .i64 0, .slice none 0 0], 61⟩, ⟨r2, #[.int .i64 0, .int .i64 0, .int .i64 0, .int .i64 0, .int .i64 0, .int .i64 0, .int .i64 0, .int .i64 0, .slice none 0 0, .int .i64 0, .slice none 0 0, .slice none 0 0], 59⟩, ⟨r1, #[.int .i64 n0, .int .i64 n1, .int .i64 n2, .int .i64 n3, .int .i64 n4, .int .i64 n5, .int .i64 n6, .int .i64 n7, .slice a8 rows8.length cap8, .int .i64 n9, .slice a10 rows10.length cap10, .slice a11 rows11.length cap11], 59⟩]) rfl)
  have h_c11 := h_c11.stays (im_congS (L := [⟨r4, #[.int .i64 n0, .int .i64 n2, .int .i64 (k : Int), .slice none 0 0], 61⟩, ⟨r3, #[.int .i64 0, .int .i64 0, .int .i64 0, .slice none 0 0], 61⟩, ⟨r2, #[.int .i64 0, .int .i64 0, .int .i64 0, .int .i64 0, .int .i64 0, .int .i64 0, .int .i64 0, .int .i64 0, .slice none 0 0, .int .i64 0, .slice none 0 0, .slice none 0 0], 59⟩, ⟨r1, #[.int .i64 n0, .int .i64 n1, .int .i64 n2, .int .i64 n3, .int .i64 n4, .int .i64 n5, .int .i64 n6, .int .i64 n7, .slice a8 rows8.length cap8, .int .i64 n9, .slice a10 rows10.length cap10, .slice a11 rows11.length cap11], 59⟩]) (L' := [⟨r4, #[.int .i64 n0, .int .i64 n2, .int .i64 (k : Int), .slice a_wvdrop ((rows8.drop k).length) cap_wvdrop], 61⟩, ⟨r3, #[.int .i64 0, .int .i64 0, .int .i64 0, .slice none 0 0], 61⟩, ⟨r2, #[.int .i64 0, .int .i64 0, .int .i64 0, .int .i64 0, .int .i64 0, .int .i64 0, .int .i64 0, .int .i64 0, .slice none 0 0, .int .i64 0, .slice none 0 0, .slice none 0 0], 59⟩, ⟨r1, #[.int .i64 n0, .int .i64 n1, .int .i64 n2, .int .i64 n3, .int .i64 n4, .int .i64 n5, .int .i64 n6, .int .i64 n7, .slice a8 rows8.length cap8, .int .i64 n9, .slice a10 rows10.length cap10, .slice a11 rows11.length cap11], 59⟩]) rfl)
  have h_vdrop := h_vdrop.stays (im_congS (L := [⟨r4, #[.int .i64 n0, .int .i64 n2, .int .i64 (k : Int), .slice none 0 0], 61⟩, ⟨r3, #[.int .i64 0, .int .i64 0, .int .i64 0, .slice none 0 0], 61⟩, ⟨r2, #[.int .i64 0, .int .i64 0, .int .i64 0, .int .i64 0, .int .i64 0, .int .i64 0, .int .i64 0, .int .i64 0, .slice none 0 0, .int .i64 0, .slice none 0 0, .slice none 0 0], 59⟩, ⟨r1, #[.int .i64 n0, .int .i64 n1, .int .i64 n2, .int .i64 n3, .int .i64 n4, .int .i64 n5, .int .i64 n6, .int .i64 n7, .slice a8 rows8.length cap8, .int .i64 n9, .slice a10 rows10.length cap10, .slice a11 rows11.length cap11], 59⟩]) (L' := [⟨r4, #[.int .i64 n0, .int .i64 n2, .int .i64 (k : Int), .slice a_wvdrop ((rows8.drop k).length) cap_wvdrop], 61⟩, ⟨r3, #[.int .i64 0, .int .i64 0, .int .i64 0, .slice none 0 0], 61⟩, ⟨r2, #[.int .i64 0, .int .i64 0, .int .i64 0, .int .i64 0, .int .i64 0, .int .i64 0, .int .i64 0, .int .i64 0, .slice none 0 0, .int .i64 0, .slice none 0 0, .slice none 0 0], 59⟩, ⟨r1, #[.int .i64 n0, .int .i64 n1, .int .i64 n2, .int .i64 n3, .int .i64 n4, .int .i64 n5, .int .i64 n6, .int .i64 n7, .slice a8 rows8.length cap8, .int .i64 n9, .slice a10 rows10.length cap10, .slice a11 rows11.length cap11], 59⟩]) rfl)
  have h_wvdrop := h_wvdrop.stays (im_congS (L := [⟨r4, #[.int .i64 n0, .int .i64 n2, .int .i64 (k : Int), .slice none 0 0], 61⟩, ⟨r3, #[.int .i64 0, .int .i64 0, .int .i64 0, .slice none 0 0], 61⟩, ⟨r2, #[.int .i64 0, .int .i64 0, .int .i64 0, .int .i64 0, .int .i64 0, .int .i64 0, .int .i64 0, .int .i64 0, .slice none 0 0, .int .i64 0, .slice none 0 0, .slice none 0 0], 59⟩, ⟨r1, #[.int .i64 n0, .int .i64 n1, .int .i64 n2, .int .i64 n3, .int .i64 n4, .int .i64 n5, .int .i64 n6, .int .i64 n7, .slice a8 rows8.length cap8, .int .i64 n9, .slice a10 rows10.length cap10, .slice a11 rows11.length cap11], 59⟩]) (L' := [⟨r4, #[.int .i64 n0, .int .i64 n2, .int .i64 (k : Int), .slice a_wvdrop ((rows8.drop k).length) cap_wvdrop], 61⟩, ⟨r3, #[.int .i64 0, .int .i64 0, .int .i64 0, .slice none 0 0], 61⟩, ⟨r2, #[.int .i64 0, .int .i64 0, .int .i64 0, .int .i64 0, .int .i64 0, .int .i64 0, .int .i64 0, .int .i64 0, .slice none 0 0, .int .i64 0, .slice none 0 0, .slice none 0 0], 59⟩, ⟨r1, #[.int .i64 n0, .int .i64 n1, .int .i64 n2, .int .i64 n3, .int .i64 n4, .int .i64 n5, .int .i64 n6, .int .i64 n7, .slice a8 rows8.length cap8, .int .i64 n9, .slice a10 rows10.length cap10, .slice a11 rows11.length cap11], 59⟩]) rfl)
  have h_vtake := h_vtake.stays (im_congS (L := [⟨r4, #[.int .i64 n0, .int .i64 n2, .int .i64 (k : Int), .slice none 0 0], 61⟩, ⟨r3, #[.int .i64 0, .int .i64 0, .int .i64 0, .slice none 0 0], 61⟩, ⟨r2, #[.int .i64 0, .int .i64 0, .int .i64 0, .int .i64 0, .int .i64 0, .int .i64 0, .int .i64 0, .int .i64 0, .slice none 0 0, .int .i64 0, .slice none 0 0, .slice none 0 0], 59⟩, ⟨r1, #[.int .i64 n0, .int .i64 n1, .int .i64 n2, .int .i64 n3, .int .i64 n4, .int .i64 n5, .int .i64 n6, .int .i64 n7, .slice a8 rows8.length cap8, .int .i64 n9, .slice a10 rows10.length cap10, .slice a11 rows11.length cap11], 59⟩]) (L' := [⟨r4, #[.int .i64 n0, .int .i64 n2, .int .i64 (k : Int), .slice a_wvdrop ((rows8.drop k).length) cap_wvdrop], 61⟩, ⟨r3, #[.int .i64 0, .int .i64 0, .int .i64 0, .slice none 0 0], 61⟩, ⟨r2, #[.int .i64 0, .int .i64 0, .int .i64 0, .int .i64 0, .int .i64 0, .int .i64 0, .int .i64 0, .int .i64 0, .slice none 0 0, .int .i64 0, .slice none 0 0, .slice none 0 0], 59⟩, ⟨r1, #[.int .i64 n0, .int .i64 n1, .int .i64 n2, .int .i64 n3, .int .i64 n4, .int .i64 n5, .int .i64 n6, .int .i64 n7, .slice a8 rows8.length cap8, .int .i64 n9, .slice a10 rows10.length cap10, .slice a11 rows11.length cap11], 59⟩]) rfl)
  refine wl_appendS (d := 36) 55 zv55 82 1208 (rows8.take k) (by kernel_rfl) rfl (by kernel_rfl) (by kernel_rfl) (by decide) (by kernel_rfl) (by kernel_rfl) h_vtake (fun r hr => hes8 r (List.mem_of_mem_take hr)) (by simp only [maxLen]; have := takeB (k := k) b8; omega) (takeB b8) ?_
  intro wq2 wvtake h_wvtake hT
  have h_c8 := h_c8.stays hT.stays
  have h_c10 := h_c10.stays hT.stays
  have h_c11 := h_c11.stays hT.stays
  have h_vdrop := h_vdrop.stays hT.stays
  have h_wvdrop := h_wvdrop.stays hT.stays
  have h_vtake := h_vtake.stays hT.stays
  have hbel := hbel.trans (hT.below hbel.size (ge_cons gr4 (ge_cons gr3 (ge_cons gr2 (ge_cons gr1 (ge_nil _))))))
  obtain ⟨a_wvtake, cap_wvtake, rfl⟩ := h_wvtake.slv
  refine wl_go 1 [(8, .slice a_wvtake ((rows8.take k).length) cap_wvtake)] (by kernel_rfl) ?_
  refine nx_list ?_
  refine nx_then ?_
  refine wc_seq ?_
  refine wc_region ?_
  refine wl_go 2 [(38, .pointer (some ⟨r1, 8, none⟩)), (37, .slice a_wvtake ((rows8.take k).length) cap_wvtake)] (by kernel_rfl) ?_
  refine wl_store (b := r1) (off := 8) (v := .slice a_wvtake ((rows8.take k).length) cap_wvtake) (c' := #[.int .i64 n0, .int .i64 n1, .int .i64 n2, .int .i64 n3, .int .i64 n4, .int .i64 n5, .int .i64 n6, .int .i64 n7, .slice a_wvtake ((rows8.take k).length) cap_wvtake, .int .i64 n9, .slice a10 rows10.length cap10, .slice a11 rows11.length cap11]) (L' := [⟨r4, #[.int .i64 n0, .int .i64 n2, .int .i64 (k : Int), .slice a_wvdrop ((rows8.drop k).length) cap_wvdrop], 61⟩, ⟨r3, #[.int .i64 0, .int .i64 0, .int .i64 0, .slice none 0 0], 61⟩, ⟨r2, #[.int .i64 0, .int .i64 0, .int .i64 0, .int .i64 0, .int .i64 0, .int .i64 0, .int .i64 0, .int .i64 0, .slice none 0 0, .int .i64 0, .slice none 0 0, .slice none 0 0], 59⟩, ⟨r1, #[.int .i64 n0, .int .i64 n1, .int .i64 n2, .int .i64 n3, .int .i64 n4, .int .i64 n5, .int .i64 n6, .int .i64 n7, .slice a_wvtake ((rows8.take k).length) cap_wvtake, .int .i64 n9, .slice a10 rows10.length cap10, .slice a11 rows11.length cap11], 59⟩]) 3 (by kernel_rfl) rfl (by kernel_rfl) (by kernel_rfl) rfl (by kernel_rfl) rfl ?_
  refine nx_list ?_
  refine nx_then ?_
  refine wc_seq ?_
  have hlate : ∀ q, SH wq2 [⟨r4, #[.int .i64 n0, .int .i64 n2, .int .i64 (k : Int), .slice a_wvdrop ((rows8.drop k).length) cap_wvdrop], 61⟩, ⟨r3, #[.int .i64 0, .int .i64 0, .int .i64 0, .slice none 0 0], 61⟩, ⟨r2, #[.int .i64 0, .int .i64 0, .int .i64 0, .int .i64 0, .int .i64 0, .int .i64 0, .int .i64 0, .int .i64 0, .slice none 0 0, .int .i64 0, .slice none 0 0, .slice none 0 0], 59⟩, ⟨r1, #[.int .i64 n0, .int .i64 n1, .int .i64 n2, .int .i64 n3, .int .i64 n4, .int .i64 n5, .int .i64 n6, .int .i64 n7, .slice a_wvtake ((rows8.take k).length) cap_wvtake, .int .i64 n9, .slice a10 rows10.length cap10, .slice a11 rows11.length cap11], 59⟩] q → (fun q => ∃ cz : Array Value, SH wq2 [⟨r4, #[.int .i64 n0, .int .i64 n2, .int .i64 (k : Int), .slice a_wvdrop ((rows8.drop k).length) cap_wvdrop], 61⟩, ⟨r3, #[.int .i64 0, .int .i64 0, .int .i64 0, .slice none 0 0], 61⟩, ⟨r2, cz, 59⟩, ⟨r1, #[.int .i64 n0, .int .i64 n1, .int .i64 n2, .int .i64 n3, .int .i64 n4, .int .i64 n5, .int .i64 n6, .int .i64 n7, .slice a_wvtake ((rows8.take k).length) cap_wvtake, .int .i64 n9, .slice a10 rows10.length cap10, .slice a11 rows11.length cap11], 59⟩] q) q := fun q h => ⟨_, h⟩
  refine wc_draw 3 ((fun q => ∃ cz : Array Value, SH wq2 [⟨r4, #[.int .i64 n0, .int .i64 n2, .int .i64 (k : Int), .slice a_wvdrop ((rows8.drop k).length) cap_wvdrop], 61⟩, ⟨r3, #[.int .i64 0, .int .i64 0, .int .i64 0, .slice none 0 0], 61⟩, ⟨r2, cz, 59⟩, ⟨r1, #[.int .i64 n0, .int .i64 n1, .int .i64 n2, .int .i64 n3, .int .i64 n4, .int .i64 n5, .int .i64 n6, .int .i64 n7, .slice a_wvtake ((rows8.take k).length) cap_wvtake, .int .i64 n9, .slice a10 rows10.length cap10, .slice a11 rows11.length cap11], 59⟩] q)) rfl (by decide) (fun w h => SH.drew h) ?_
  refine wd_yl 0 (d := 39) (v := .agg #[.int .i64 n0, .int .i64 n1, .int .i64 n2, .int .i64 n3, .int .i64 n4, .int .i64 n5, .int .i64 n6, .int .i64 n7, .slice a_wvtake ((rows8.take k).length) cap_wvtake, .int .i64 n9, .slice a10 rows10.length cap10, .slice a11 rows11.length cap11]) (f := 2) rfl (by kernel_rfl) (by kernel_rfl) (hlate) (yl_ex (fun cz => (yl_load (b := r1) (off := 0) 3 rfl (by kernel_rfl) rfl (by kernel_rfl)))) ?_
  refine wd_yl 1 (d := 40) (v := .agg #[.int .i64 n0, .int .i64 n2, .int .i64 (k : Int), .slice a_wvdrop ((rows8.drop k).length) cap_wvdrop]) (f := 1) rfl (by kernel_rfl) (by kernel_rfl) (hlate) (yl_ex (fun cz => (yl_load (b := r4) (off := 0) 0 rfl (by kernel_rfl) rfl (by kernel_rfl)))) ?_
  have hsubq3 : ∀ q (cz : Array Value), SH wq2 [⟨r4, #[.int .i64 n0, .int .i64 n2, .int .i64 (k : Int), .slice a_wvdrop ((rows8.drop k).length) cap_wvdrop], 61⟩, ⟨r3, #[.int .i64 0, .int .i64 0, .int .i64 0, .slice none 0 0], 61⟩, ⟨r2, cz, 59⟩, ⟨r1, #[.int .i64 n0, .int .i64 n1, .int .i64 n2, .int .i64 n3, .int .i64 n4, .int .i64 n5, .int .i64 n6, .int .i64 n7, .slice a_wvtake ((rows8.take k).length) cap_wvtake, .int .i64 n9, .slice a10 rows10.length cap10, .slice a11 rows11.length cap11], 59⟩] q → (fun q => ∃ cz : Array Value, SH wq2 [⟨r4, #[.int .i64 n0, .int .i64 n2, .int .i64 (k : Int), .slice a_wvdrop ((rows8.drop k).length) cap_wvdrop], 61⟩, ⟨r3, #[.int .i64 0, .int .i64 0, .int .i64 0, .slice none 0 0], 61⟩, ⟨r2, cz, 59⟩, ⟨r1, #[.int .i64 n0, .int .i64 n1, .int .i64 n2, .int .i64 n3, .int .i64 n4, .int .i64 n5, .int .i64 n6, .int .i64 n7, .slice a_wvtake ((rows8.take k).length) cap_wvtake, .int .i64 n9, .slice a10 rows10.length cap10, .slice a11 rows11.length cap11], 59⟩] q) q := fun q cz h => ⟨cz, h⟩
  refine wd_store (f := 0) (b := r2) (off := 0) (v := .agg #[.int .i64 n0, .int .i64 n1, .int .i64 n2, .int .i64 n3, .int .i64 n4, .int .i64 n5, .int .i64 n6, .int .i64 n7, .slice a_wvtake ((rows8.take k).length) cap_wvtake, .int .i64 n9, .slice a10 rows10.length cap10, .slice a11 rows11.length cap11]) (c' := #[.int .i64 n0, .int .i64 n1, .int .i64 n2, .int .i64 n3, .int .i64 n4, .int .i64 n5, .int .i64 n6, .int .i64 n7, .slice a_wvtake ((rows8.take k).length) cap_wvtake, .int .i64 n9, .slice a10 rows10.length cap10, .slice a11 rows11.length cap11]) (L' := [⟨r4, #[.int .i64 n0, .int .i64 n2, .int .i64 (k : Int), .slice a_wvdrop ((rows8.drop k).length) cap_wvdrop], 61⟩, ⟨r3, #[.int .i64 0, .int .i64 0, .int .i64 0, .slice none 0 0], 61⟩, ⟨r2, #[.int .i64 n0, .int .i64 n1, .int .i64 n2, .int .i64 n3, .int .i64 n4, .int .i64 n5, .int .i64 n6, .int .i64 n7, .slice a_wvtake ((rows8.take k).length) cap_wvtake, .int .i64 n9, .slice a10 rows10.length cap10, .slice a11 rows11.length cap11], 59⟩, ⟨r1, #[.int .i64 n0, .int .i64 n1, .int .i64 n2, .int .i64 n3, .int .i64 n4, .int .i64 n5, .int .i64 n6, .int .i64 n7, .slice a_wvtake ((rows8.take k).length) cap_wvtake, .int .i64 n9, .slice a10 rows10.length cap10, .slice a11 rows11.length cap11], 59⟩]) 2 2 rfl (by decide) (by kernel_rfl) (by kernel_rfl) rfl (by kernel_rfl) (by kernel_rfl) rfl (by kernel_rfl) rfl (fun q h => hsubq3 q _ h) ?_
  refine wd_done (by kernel_rfl) ?_
  refine wl_store (b := r3) (off := 0) (v := .agg #[.int .i64 n0, .int .i64 n2, .int .i64 (k : Int), .slice a_wvdrop ((rows8.drop k).length) cap_wvdrop]) (c' := #[.int .i64 n0, .int .i64 n2, .int .i64 (k : Int), .slice a_wvdrop ((rows8.drop k).length) cap_wvdrop]) (L' := [⟨r4, #[.int .i64 n0, .int .i64 n2, .int .i64 (k : Int), .slice a_wvdrop ((rows8.drop k).length) cap_wvdrop], 61⟩, ⟨r3, #[.int .i64 n0, .int .i64 n2, .int .i64 (k : Int), .slice a_wvdrop ((rows8.drop k).length) cap_wvdrop], 61⟩, ⟨r2, #[.int .i64 n0, .int .i64 n1, .int .i64 n2, .int .i64 n3, .int .i64 n4, .int .i64 n5, .int .i64 n6, .int .i64 n7, .slice a_wvtake ((rows8.take k).length) cap_wvtake, .int .i64 n9, .slice a10 rows10.length cap10, .slice a11 rows11.length cap11], 59⟩, ⟨r1, #[.int .i64 n0, .int .i64 n1, .int .i64 n2, .int .i64 n3, .int .i64 n4, .int .i64 n5, .int .i64 n6, .int .i64 n7, .slice a_wvtake ((rows8.take k).length) cap_wvtake, .int .i64 n9, .slice a10 rows10.length cap10, .slice a11 rows11.length cap11], 59⟩]) 1 (by kernel_rfl) rfl (by kernel_rfl) (by kernel_rfl) rfl (by kernel_rfl) rfl ?_
  refine nx_list ?_
  refine nx_on ?_
  refine nx_then ?_
  refine nx_ret ?_
  refine ret_cell2 (v := .agg #[.int .i64 n0, .int .i64 n1, .int .i64 n2, .int .i64 n3, .int .i64 n4, .int .i64 n5, .int .i64 n6, .int .i64 n7, .slice a_wvtake ((rows8.take k).length) cap_wvtake, .int .i64 n9, .slice a10 rows10.length cap10, .slice a11 rows11.length cap11]) (v' := .agg #[.int .i64 n0, .int .i64 n2, .int .i64 (k : Int), .slice a_wvdrop ((rows8.drop k).length) cap_wvdrop]) (b := r2) (off := 0) (b' := r3) (off' := 0) 2 1 rfl (by kernel_rfl) rfl (by kernel_rfl) (by kernel_rfl) rfl (by kernel_rfl) ?_
  intro w' hw'
  refine ⟨[.int .i64 n0, .int .i64 n1, .int .i64 n2, .int .i64 n3, .int .i64 n4, .int .i64 n5, .int .i64 n6, .int .i64 n7, .slice a_wvtake ((rows8.take k).length) cap_wvtake, .int .i64 n9, .slice a10 rows10.length cap10, .slice a11 rows11.length cap11], [.int .i64 n0, .int .i64 n2, .int .i64 (k : Int), .slice a_wvdrop ((rows8.drop k).length) cap_wvdrop], rfl, ?_, ?_, hw'.below hbel hbel.size (ge_cons gr4 (ge_cons gr3 (ge_cons gr2 (ge_cons gr1 (ge_nil _)))))⟩
  · rw [← hk]
    exact RdL.mk (by rw [Rd]) (RdL.mk (by rw [Rd]) (RdL.mk (by rw [Rd]) (RdL.mk (by rw [Rd]) (RdL.mk (by rw [Rd]) (RdL.mk (by rw [Rd]) (RdL.mk (by rw [Rd]) (RdL.mk (by rw [Rd]) (RdL.mk (h_wvtake.stays (hw'.staysC (L0 := [⟨r4, #[.int .i64 n0, .int .i64 n2, .int .i64 (k : Int), .slice a_wvdrop ((rows8.drop k).length) cap_wvdrop], 61⟩, ⟨r3, #[.int .i64 0, .int .i64 0, .int .i64 0, .slice none 0 0], 61⟩, ⟨r2, #[.int .i64 0, .int .i64 0, .int .i64 0, .int .i64 0, .int .i64 0, .int .i64 0, .int .i64 0, .int .i64 0, .slice none 0 0, .int .i64 0, .slice none 0 0, .slice none 0 0], 59⟩, ⟨r1, #[.int .i64 n0, .int .i64 n1, .int .i64 n2, .int .i64 n3, .int .i64 n4, .int .i64 n5, .int .i64 n6, .int .i64 n7, .slice a8 rows8.length cap8, .int .i64 n9, .slice a10 rows10.length cap10, .slice a11 rows11.length cap11], 59⟩]) rfl)).any (RdL.mk (by rw [Rd]) (RdL.mk (h_c10.stays (hw'.staysC (L0 := [⟨r4, #[.int .i64 n0, .int .i64 n2, .int .i64 (k : Int), .slice a_wvdrop ((rows8.drop k).length) cap_wvdrop], 61⟩, ⟨r3, #[.int .i64 0, .int .i64 0, .int .i64 0, .slice none 0 0], 61⟩, ⟨r2, #[.int .i64 0, .int .i64 0, .int .i64 0, .int .i64 0, .int .i64 0, .int .i64 0, .int .i64 0, .int .i64 0, .slice none 0 0, .int .i64 0, .slice none 0 0, .slice none 0 0], 59⟩, ⟨r1, #[.int .i64 n0, .int .i64 n1, .int .i64 n2, .int .i64 n3, .int .i64 n4, .int .i64 n5, .int .i64 n6, .int .i64 n7, .slice a8 rows8.length cap8, .int .i64 n9, .slice a10 rows10.length cap10, .slice a11 rows11.length cap11], 59⟩]) rfl)).any (RdL.mk (h_c11.stays (hw'.staysC (L0 := [⟨r4, #[.int .i64 n0, .int .i64 n2, .int .i64 (k : Int), .slice a_wvdrop ((rows8.drop k).length) cap_wvdrop], 61⟩, ⟨r3, #[.int .i64 0, .int .i64 0, .int .i64 0, .slice none 0 0], 61⟩, ⟨r2, #[.int .i64 0, .int .i64 0, .int .i64 0, .int .i64 0, .int .i64 0, .int .i64 0, .int .i64 0, .int .i64 0, .slice none 0 0, .int .i64 0, .slice none 0 0, .slice none 0 0], 59⟩, ⟨r1, #[.int .i64 n0, .int .i64 n1, .int .i64 n2, .int .i64 n3, .int .i64 n4, .int .i64 n5, .int .i64 n6, .int .i64 n7, .slice a8 rows8.length cap8, .int .i64 n9, .slice a10 rows10.length cap10, .slice a11 rows11.length cap11], 59⟩]) rfl)).any (RdL.none))))))))))))
  · rw [← hk]
    exact RdL.mk (by rw [Rd]) (RdL.mk (by rw [Rd]) (RdL.mk (by rw [Rd]) (RdL.mk (h_wvdrop.stays (hw'.staysC (L0 := [⟨r4, #[.int .i64 n0, .int .i64 n2, .int .i64 (k : Int), .slice a_wvdrop ((rows8.drop k).length) cap_wvdrop], 61⟩, ⟨r3, #[.int .i64 0, .int .i64 0, .int .i64 0, .slice none 0 0], 61⟩, ⟨r2, #[.int .i64 0, .int .i64 0, .int .i64 0, .int .i64 0, .int .i64 0, .int .i64 0, .int .i64 0, .int .i64 0, .slice none 0 0, .int .i64 0, .slice none 0 0, .slice none 0 0], 59⟩, ⟨r1, #[.int .i64 n0, .int .i64 n1, .int .i64 n2, .int .i64 n3, .int .i64 n4, .int .i64 n5, .int .i64 n6, .int .i64 n7, .slice a8 rows8.length cap8, .int .i64 n9, .slice a10 rows10.length cap10, .slice a11 rows11.length cap11], 59⟩]) rfl)).any (RdL.none))))

theorem sameMember_ok (n0 n1 n2 n3 n4 n5 n6 n7 n9 : Int) (rows8 rows10 rows11 : List (List D)) (fR8 : FitR sh by_ rows8 (sh 13)) (b8 : rows8.length * 1208 ≤ 140737488355328) (fR10 : FitR sh by_ rows10 (sh 3)) (b10 : rows10.length * 8 ≤ 140737488355328) (fR11 : FitR sh by_ rows11 (sh 3)) (b11 : rows11.length * 8 ≤ 140737488355328) (hz : ∀ r ∈ rows8, (encL r).size ≤ 9223372036854775807) (w : World) (S S' : Nat → Prop) (ca cb : List Value) (hra : RdL S w [.int n0, .int n1, .int n2, .int n3, .int n4, .int n5, .int n6, .int n7, .sl rows8, .int n9, .sl rows10, .sl rows11] ca) (hrb : RdL S' w [.int n0, .int n1, .int n2, .int n3, .int n4, .int n5, .int n6, .int n7, .sl rows8, .int n9, .sl rows10, .sl rows11] cb) :
    Calls Try.prog 15 #[.agg ca.toArray, .agg cb.toArray] w (fun e w' => e = .returned (.bool true) ∧ Below w.heap.size w w') := by
  have hra := hra.im
  have hrb := hrb.im
  have hbel := Below.refl w.heap.size w
  obtain ⟨c_a0, z_a0, rfl, h_a0, hr_a0⟩ := RdL.cons hra
  rw [Rd] at h_a0; subst h_a0
  obtain ⟨c_a1, z_a1, rfl, h_a1, hr_a1⟩ := RdL.cons hr_a0
  rw [Rd] at h_a1; subst h_a1
  obtain ⟨c_a2, z_a2, rfl, h_a2, hr_a2⟩ := RdL.cons hr_a1
  rw [Rd] at h_a2; subst h_a2
  obtain ⟨c_a3, z_a3, rfl, h_a3, hr_a3⟩ := RdL.cons hr_a2
  rw [Rd] at h_a3; subst h_a3
  obtain ⟨c_a4, z_a4, rfl, h_a4, hr_a4⟩ := RdL.cons hr_a3
  rw [Rd] at h_a4; subst h_a4
  obtain ⟨c_a5, z_a5, rfl, h_a5, hr_a5⟩ := RdL.cons hr_a4
  rw [Rd] at h_a5; subst h_a5
  obtain ⟨c_a6, z_a6, rfl, h_a6, hr_a6⟩ := RdL.cons hr_a5
  rw [Rd] at h_a6; subst h_a6
  obtain ⟨c_a7, z_a7, rfl, h_a7, hr_a7⟩ := RdL.cons hr_a6
  rw [Rd] at h_a7; subst h_a7
  obtain ⟨c_a8, z_a8, rfl, h_a8, hr_a8⟩ := RdL.cons hr_a7
  obtain ⟨a_a8, cap_a8, rfl⟩ := h_a8.slv
  obtain ⟨c_a9, z_a9, rfl, h_a9, hr_a9⟩ := RdL.cons hr_a8
  rw [Rd] at h_a9; subst h_a9
  obtain ⟨c_a10, z_a10, rfl, h_a10, hr_a10⟩ := RdL.cons hr_a9
  obtain ⟨a_a10, cap_a10, rfl⟩ := h_a10.slv
  obtain ⟨c_a11, z_a11, rfl, h_a11, hr_a11⟩ := RdL.cons hr_a10
  obtain ⟨a_a11, cap_a11, rfl⟩ := h_a11.slv
  obtain rfl := RdL.nil hr_a11
  obtain ⟨c_b0, z_b0, rfl, h_b0, hr_b0⟩ := RdL.cons hrb
  rw [Rd] at h_b0; subst h_b0
  obtain ⟨c_b1, z_b1, rfl, h_b1, hr_b1⟩ := RdL.cons hr_b0
  rw [Rd] at h_b1; subst h_b1
  obtain ⟨c_b2, z_b2, rfl, h_b2, hr_b2⟩ := RdL.cons hr_b1
  rw [Rd] at h_b2; subst h_b2
  obtain ⟨c_b3, z_b3, rfl, h_b3, hr_b3⟩ := RdL.cons hr_b2
  rw [Rd] at h_b3; subst h_b3
  obtain ⟨c_b4, z_b4, rfl, h_b4, hr_b4⟩ := RdL.cons hr_b3
  rw [Rd] at h_b4; subst h_b4
  obtain ⟨c_b5, z_b5, rfl, h_b5, hr_b5⟩ := RdL.cons hr_b4
  rw [Rd] at h_b5; subst h_b5
  obtain ⟨c_b6, z_b6, rfl, h_b6, hr_b6⟩ := RdL.cons hr_b5
  rw [Rd] at h_b6; subst h_b6
  obtain ⟨c_b7, z_b7, rfl, h_b7, hr_b7⟩ := RdL.cons hr_b6
  rw [Rd] at h_b7; subst h_b7
  obtain ⟨c_b8, z_b8, rfl, h_b8, hr_b8⟩ := RdL.cons hr_b7
  obtain ⟨a_b8, cap_b8, rfl⟩ := h_b8.slv
  obtain ⟨c_b9, z_b9, rfl, h_b9, hr_b9⟩ := RdL.cons hr_b8
  rw [Rd] at h_b9; subst h_b9
  obtain ⟨c_b10, z_b10, rfl, h_b10, hr_b10⟩ := RdL.cons hr_b9
  obtain ⟨a_b10, cap_b10, rfl⟩ := h_b10.slv
  obtain ⟨c_b11, z_b11, rfl, h_b11, hr_b11⟩ := RdL.cons hr_b10
  obtain ⟨a_b11, cap_b11, rfl⟩ := h_b11.slv
  obtain rfl := RdL.nil hr_b11
  refine Sx.enter (l := [.agg #[.int .i64 n0, .int .i64 n1, .int .i64 n2, .int .i64 n3, .int .i64 n4, .int .i64 n5, .int .i64 n6, .int .i64 n7, .slice a_a8 rows8.length cap_a8, .int .i64 n9, .slice a_a10 rows10.length cap_a10, .slice a_a11 rows11.length cap_a11], .agg #[.int .i64 n0, .int .i64 n1, .int .i64 n2, .int .i64 n3, .int .i64 n4, .int .i64 n5, .int .i64 n6, .int .i64 n7, .slice a_b8 rows8.length cap_b8, .int .i64 n9, .slice a_b10 rows10.length cap_b10, .slice a_b11 rows11.length cap_b11]]) Try.func15 rfl (n := 87) rfl (by simp) ?_
  refine wc_eq (S := SH w []) (SH.refl _) ?_
  refine wc_seq ?_
  refine wc_region ?_
  refine wl_new (d := 2) #[.int .i64 n0, .int .i64 n1, .int .i64 n2, .int .i64 n3, .int .i64 n4, .int .i64 n5, .int .i64 n6, .int .i64 n7, .slice a_a8 rows8.length cap_a8, .int .i64 n9, .slice a_a10 rows10.length cap_a10, .slice a_a11 rows11.length cap_a11] 59 (fun r => .pointer (some ⟨r, 0, none⟩)) (by kernel_rfl) (fun r => by kernel_rfl) ?_
  intro r1 hr1
  have h_a8 := h_a8.stays (im_more (c := #[.int .i64 n0, .int .i64 n1, .int .i64 n2, .int .i64 n3, .int .i64 n4, .int .i64 n5, .int .i64 n6, .int .i64 n7, .slice a_a8 rows8.length cap_a8, .int .i64 n9, .slice a_a10 rows10.length cap_a10, .slice a_a11 rows11.length cap_a11]) (t := 59) hr1)
  have h_a10 := h_a10.stays (im_more (c := #[.int .i64 n0, .int .i64 n1, .int .i64 n2, .int .i64 n3, .int .i64 n4, .int .i64 n5, .int .i64 n6, .int .i64 n7, .slice a_a8 rows8.length cap_a8, .int .i64 n9, .slice a_a10 rows10.length cap_a10, .slice a_a11 rows11.length cap_a11]) (t := 59) hr1)
  have h_a11 := h_a11.stays (im_more (c := #[.int .i64 n0, .int .i64 n1, .int .i64 n2, .int .i64 n3, .int .i64 n4, .int .i64 n5, .int .i64 n6, .int .i64 n7, .slice a_a8 rows8.length cap_a8, .int .i64 n9, .slice a_a10 rows10.length cap_a10, .slice a_a11 rows11.length cap_a11]) (t := 59) hr1)
  have h_b8 := h_b8.stays (im_more (c := #[.int .i64 n0, .int .i64 n1, .int .i64 n2, .int .i64 n3, .int .i64 n4, .int .i64 n5, .int .i64 n6, .int .i64 n7, .slice a_a8 rows8.length cap_a8, .int .i64 n9, .slice a_a10 rows10.length cap_a10, .slice a_a11 rows11.length cap_a11]) (t := 59) hr1)
  have h_b10 := h_b10.stays (im_more (c := #[.int .i64 n0, .int .i64 n1, .int .i64 n2, .int .i64 n3, .int .i64 n4, .int .i64 n5, .int .i64 n6, .int .i64 n7, .slice a_a8 rows8.length cap_a8, .int .i64 n9, .slice a_a10 rows10.length cap_a10, .slice a_a11 rows11.length cap_a11]) (t := 59) hr1)
  have h_b11 := h_b11.stays (im_more (c := #[.int .i64 n0, .int .i64 n1, .int .i64 n2, .int .i64 n3, .int .i64 n4, .int .i64 n5, .int .i64 n6, .int .i64 n7, .slice a_a8 rows8.length cap_a8, .int .i64 n9, .slice a_a10 rows10.length cap_a10, .slice a_a11 rows11.length cap_a11]) (t := 59) hr1)
  have gr1 := Nat.le_trans hbel.size hr1
  refine wl_new (d := 3) #[.int .i64 n0, .int .i64 n1, .int .i64 n2, .int .i64 n3, .int .i64 n4, .int .i64 n5, .int .i64 n6, .int .i64 n7, .slice a_b8 rows8.length cap_b8, .int .i64 n9, .slice a_b10 rows10.length cap_b10, .slice a_b11 rows11.length cap_b11] 59 (fun r => .pointer (some ⟨r, 0, none⟩)) (by kernel_rfl) (fun r => by kernel_rfl) ?_
  intro r2 hr2
  have h_a8 := h_a8.stays (im_more (c := #[.int .i64 n0, .int .i64 n1, .int .i64 n2, .int .i64 n3, .int .i64 n4, .int .i64 n5, .int .i64 n6, .int .i64 n7, .slice a_b8 rows8.length cap_b8, .int .i64 n9, .slice a_b10 rows10.length cap_b10, .slice a_b11 rows11.length cap_b11]) (t := 59) hr2)
  have h_a10 := h_a10.stays (im_more (c := #[.int .i64 n0, .int .i64 n1, .int .i64 n2, .int .i64 n3, .int .i64 n4, .int .i64 n5, .int .i64 n6, .int .i64 n7, .slice a_b8 rows8.length cap_b8, .int .i64 n9, .slice a_b10 rows10.length cap_b10, .slice a_b11 rows11.length cap_b11]) (t := 59) hr2)
  have h_a11 := h_a11.stays (im_more (c := #[.int .i64 n0, .int .i64 n1, .int .i64 n2, .int .i64 n3, .int .i64 n4, .int .i64 n5, .int .i64 n6, .int .i64 n7, .slice a_b8 rows8.length cap_b8, .int .i64 n9, .slice a_b10 rows10.length cap_b10, .slice a_b11 rows11.length cap_b11]) (t := 59) hr2)
  have h_b8 := h_b8.stays (im_more (c := #[.int .i64 n0, .int .i64 n1, .int .i64 n2, .int .i64 n3, .int .i64 n4, .int .i64 n5, .int .i64 n6, .int .i64 n7, .slice a_b8 rows8.length cap_b8, .int .i64 n9, .slice a_b10 rows10.length cap_b10, .slice a_b11 rows11.length cap_b11]) (t := 59) hr2)
  have h_b10 := h_b10.stays (im_more (c := #[.int .i64 n0, .int .i64 n1, .int .i64 n2, .int .i64 n3, .int .i64 n4, .int .i64 n5, .int .i64 n6, .int .i64 n7, .slice a_b8 rows8.length cap_b8, .int .i64 n9, .slice a_b10 rows10.length cap_b10, .slice a_b11 rows11.length cap_b11]) (t := 59) hr2)
  have h_b11 := h_b11.stays (im_more (c := #[.int .i64 n0, .int .i64 n1, .int .i64 n2, .int .i64 n3, .int .i64 n4, .int .i64 n5, .int .i64 n6, .int .i64 n7, .slice a_b8 rows8.length cap_b8, .int .i64 n9, .slice a_b10 rows10.length cap_b10, .slice a_b11 rows11.length cap_b11]) (t := 59) hr2)
  have gr2 := Nat.le_trans hbel.size hr2
  refine wl_go 1 [(4, .bool false)] (by kernel_rfl) ?_
  refine nx_list ?_
  refine nx_then ?_
  refine wc_seq ?_
  refine wc_region ?_
  refine wl_go 1 [(5, .pointer (some ⟨r1, 0, none⟩))] (by kernel_rfl) ?_
  refine wl_yl (d := 6) (v := .int .i64 n0) (by kernel_rfl) (yl_load (b := r1) (off := 0) 1 rfl (by kernel_rfl) rfl (by kernel_rfl)) ?_
  refine wl_go 1 [(7, .pointer (some ⟨r2, 0, none⟩))] (by kernel_rfl) ?_
  refine wl_yl (d := 8) (v := .int .i64 n0) (by kernel_rfl) (yl_load (b := r2) (off := 0) 0 rfl (by kernel_rfl) rfl (by kernel_rfl)) ?_
  refine wl_go 1 [(9, .bool (n0 == n0))] (by kernel_rfl) ?_
  rw [show (n0 == n0) = true from by simp]
  refine wl_go 2 [(11, .pointer (some ⟨r1, 1, none⟩)), (10, .bool true)] (by kernel_rfl) ?_
  refine wl_yl (d := 12) (v := .int .i64 n1) (by kernel_rfl) (yl_load (b := r1) (off := 1) 1 rfl (by kernel_rfl) rfl (by kernel_rfl)) ?_
  refine wl_go 1 [(13, .pointer (some ⟨r2, 1, none⟩))] (by kernel_rfl) ?_
  refine wl_yl (d := 14) (v := .int .i64 n1) (by kernel_rfl) (yl_load (b := r2) (off := 1) 0 rfl (by kernel_rfl) rfl (by kernel_rfl)) ?_
  refine wl_go 1 [(15, .bool (n1 == n1))] (by kernel_rfl) ?_
  rw [show (n1 == n1) = true from by simp]
  refine wl_go 3 [(18, .pointer (some ⟨r1, 2, none⟩)), (17, .bool true), (16, .bool true)] (by kernel_rfl) ?_
  refine wl_yl (d := 19) (v := .int .i64 n2) (by kernel_rfl) (yl_load (b := r1) (off := 2) 1 rfl (by kernel_rfl) rfl (by kernel_rfl)) ?_
  refine wl_go 1 [(20, .pointer (some ⟨r2, 2, none⟩))] (by kernel_rfl) ?_
  refine wl_yl (d := 21) (v := .int .i64 n2) (by kernel_rfl) (yl_load (b := r2) (off := 2) 0 rfl (by kernel_rfl) rfl (by kernel_rfl)) ?_
  refine wl_go 1 [(22, .bool (n2 == n2))] (by kernel_rfl) ?_
  rw [show (n2 == n2) = true from by simp]
  refine wl_go 3 [(25, .pointer (some ⟨r1, 3, none⟩)), (24, .bool true), (23, .bool true)] (by kernel_rfl) ?_
  refine wl_yl (d := 26) (v := .int .i64 n3) (by kernel_rfl) (yl_load (b := r1) (off := 3) 1 rfl (by kernel_rfl) rfl (by kernel_rfl)) ?_
  refine wl_go 1 [(27, .pointer (some ⟨r2, 3, none⟩))] (by kernel_rfl) ?_
  refine wl_yl (d := 28) (v := .int .i64 n3) (by kernel_rfl) (yl_load (b := r2) (off := 3) 0 rfl (by kernel_rfl) rfl (by kernel_rfl)) ?_
  refine wl_go 1 [(29, .bool (n3 == n3))] (by kernel_rfl) ?_
  rw [show (n3 == n3) = true from by simp]
  refine wl_go 3 [(32, .pointer (some ⟨r1, 4, none⟩)), (31, .bool true), (30, .bool true)] (by kernel_rfl) ?_
  refine wl_yl (d := 33) (v := .int .i64 n4) (by kernel_rfl) (yl_load (b := r1) (off := 4) 1 rfl (by kernel_rfl) rfl (by kernel_rfl)) ?_
  refine wl_go 1 [(34, .pointer (some ⟨r2, 4, none⟩))] (by kernel_rfl) ?_
  refine wl_yl (d := 35) (v := .int .i64 n4) (by kernel_rfl) (yl_load (b := r2) (off := 4) 0 rfl (by kernel_rfl) rfl (by kernel_rfl)) ?_
  refine wl_go 1 [(36, .bool (n4 == n4))] (by kernel_rfl) ?_
  rw [show (n4 == n4) = true from by simp]
  refine wl_go 3 [(39, .pointer (some ⟨r1, 5, none⟩)), (38, .bool true), (37, .bool true)] (by kernel_rfl) ?_
  refine wl_yl (d := 40) (v := .int .i64 n5) (by kernel_rfl) (yl_load (b := r1) (off := 5) 1 rfl (by kernel_rfl) rfl (by kernel_rfl)) ?_
  refine wl_go 1 [(41, .pointer (some ⟨r2, 5, none⟩))] (by kernel_rfl) ?_
  refine wl_yl (d := 42) (v := .int .i64 n5) (by kernel_rfl) (yl_load (b := r2) (off := 5) 0 rfl (by kernel_rfl) rfl (by kernel_rfl)) ?_
  refine wl_go 1 [(43, .bool (n5 == n5))] (by kernel_rfl) ?_
  rw [show (n5 == n5) = true from by simp]
  refine wl_go 3 [(46, .pointer (some ⟨r1, 6, none⟩)), (45, .bool true), (44, .bool true)] (by kernel_rfl) ?_
  refine wl_yl (d := 47) (v := .int .i64 n6) (by kernel_rfl) (yl_load (b := r1) (off := 6) 1 rfl (by kernel_rfl) rfl (by kernel_rfl)) ?_
  refine wl_go 1 [(48, .pointer (some ⟨r2, 6, none⟩))] (by kernel_rfl) ?_
  refine wl_yl (d := 49) (v := .int .i64 n6) (by kernel_rfl) (yl_load (b := r2) (off := 6) 0 rfl (by kernel_rfl) rfl (by kernel_rfl)) ?_
  refine wl_go 1 [(50, .bool (n6 == n6))] (by kernel_rfl) ?_
  rw [show (n6 == n6) = true from by simp]
  refine wl_go 3 [(53, .pointer (some ⟨r1, 7, none⟩)), (52, .bool true), (51, .bool true)] (by kernel_rfl) ?_
  refine wl_yl (d := 54) (v := .int .i64 n7) (by kernel_rfl) (yl_load (b := r1) (off := 7) 1 rfl (by kernel_rfl) rfl (by kernel_rfl)) ?_
  refine wl_go 1 [(55, .pointer (some ⟨r2, 7, none⟩))] (by kernel_rfl) ?_
  refine wl_yl (d := 56) (v := .int .i64 n7) (by kernel_rfl) (yl_load (b := r2) (off := 7) 0 rfl (by kernel_rfl) rfl (by kernel_rfl)) ?_
  refine wl_go 1 [(57, .bool (n7 == n7))] (by kernel_rfl) ?_
  rw [show (n7 == n7) = true from by simp]
  refine wl_go 3 [(60, .pointer (some ⟨r1, 9, none⟩)), (59, .bool true), (58, .bool true)] (by kernel_rfl) ?_
  refine wl_yl (d := 61) (v := .int .i64 n9) (by kernel_rfl) (yl_load (b := r1) (off := 9) 1 rfl (by kernel_rfl) rfl (by kernel_rfl)) ?_
  refine wl_go 1 [(62, .pointer (some ⟨r2, 9, none⟩))] (by kernel_rfl) ?_
  refine wl_yl (d := 63) (v := .int .i64 n9) (by kernel_rfl) (yl_load (b := r2) (off := 9) 0 rfl (by kernel_rfl) rfl (by kernel_rfl)) ?_
  refine wl_go 1 [(64, .bool (n9 == n9))] (by kernel_rfl) ?_
  rw [show (n9 == n9) = true from by simp]
  refine wl_go 3 [(67, .pointer (some ⟨r1, 10, none⟩)), (66, .bool true), (65, .bool true)] (by kernel_rfl) ?_
  refine wl_yl (d := 68) (v := .slice a_a10 rows10.length cap_a10) (by kernel_rfl) (yl_load (b := r1) (off := 10) 1 rfl (by kernel_rfl) rfl (by kernel_rfl)) ?_
  refine wl_go 1 [(69, .pointer (some ⟨r2, 10, none⟩))] (by kernel_rfl) ?_
  refine wl_yl (d := 70) (v := .slice a_b10 rows10.length cap_b10) (by kernel_rfl) (yl_load (b := r2) (off := 10) 0 rfl (by kernel_rfl) rfl (by kernel_rfl)) ?_
  refine wl_callK shK (d := 71) (v := .bool true) (by kernel_rfl) (by kernel_rfl) (fun w1 h1 => eqInts_ok rows10 fR10 b10 w1 _ _ _ _ _ _ (h_a10.stays (h1.staysC (L0 := (⟨r2, #[.int .i64 n0, .int .i64 n1, .int .i64 n2, .int .i64 n3, .int .i64 n4, .int .i64 n5, .int .i64 n6, .int .i64 n7, .slice a_b8 rows8.length cap_b8, .int .i64 n9, .slice a_b10 rows10.length cap_b10, .slice a_b11 rows11.length cap_b11], 59⟩ :: (⟨r1, #[.int .i64 n0, .int .i64 n1, .int .i64 n2, .int .i64 n3, .int .i64 n4, .int .i64 n5, .int .i64 n6, .int .i64 n7, .slice a_a8 rows8.length cap_a8, .int .i64 n9, .slice a_a10 rows10.length cap_a10, .slice a_a11 rows11.length cap_a11], 59⟩ :: []))) rfl)) (h_b10.stays (h1.staysC (L0 := (⟨r2, #[.int .i64 n0, .int .i64 n1, .int .i64 n2, .int .i64 n3, .int .i64 n4, .int .i64 n5, .int .i64 n6, .int .i64 n7, .slice a_b8 rows8.length cap_b8, .int .i64 n9, .slice a_b10 rows10.length cap_b10, .slice a_b11 rows11.length cap_b11], 59⟩ :: (⟨r1, #[.int .i64 n0, .int .i64 n1, .int .i64 n2, .int .i64 n3, .int .i64 n4, .int .i64 n5, .int .i64 n6, .int .i64 n7, .slice a_a8 rows8.length cap_a8, .int .i64 n9, .slice a_a10 rows10.length cap_a10, .slice a_a11 rows11.length cap_a11], 59⟩ :: []))) rfl))) ?_
  refine wl_go 3 [(74, .pointer (some ⟨r1, 11, none⟩)), (73, .bool true), (72, .bool true)] (by kernel_rfl) ?_
  refine wl_yl (d := 75) (v := .slice a_a11 rows11.length cap_a11) (by kernel_rfl) (yl_load (b := r1) (off := 11) 1 rfl (by kernel_rfl) rfl (by kernel_rfl)) ?_
  refine wl_go 1 [(76, .pointer (some ⟨r2, 11, none⟩))] (by kernel_rfl) ?_
  refine wl_yl (d := 77) (v := .slice a_b11 rows11.length cap_b11) (by kernel_rfl) (yl_load (b := r2) (off := 11) 0 rfl (by kernel_rfl) rfl (by kernel_rfl)) ?_
  refine wl_callK shK (d := 78) (v := .bool true) (by kernel_rfl) (by kernel_rfl) (fun w1 h1 => eqInts_ok rows11 fR11 b11 w1 _ _ _ _ _ _ (h_a11.stays (h1.staysC (L0 := (⟨r2, #[.int .i64 n0, .int .i64 n1, .int .i64 n2, .int .i64 n3, .int .i64 n4, .int .i64 n5, .int .i64 n6, .int .i64 n7, .slice a_b8 rows8.length cap_b8, .int .i64 n9, .slice a_b10 rows10.length cap_b10, .slice a_b11 rows11.length cap_b11], 59⟩ :: (⟨r1, #[.int .i64 n0, .int .i64 n1, .int .i64 n2, .int .i64 n3, .int .i64 n4, .int .i64 n5, .int .i64 n6, .int .i64 n7, .slice a_a8 rows8.length cap_a8, .int .i64 n9, .slice a_a10 rows10.length cap_a10, .slice a_a11 rows11.length cap_a11], 59⟩ :: []))) rfl)) (h_b11.stays (h1.staysC (L0 := (⟨r2, #[.int .i64 n0, .int .i64 n1, .int .i64 n2, .int .i64 n3, .int .i64 n4, .int .i64 n5, .int .i64 n6, .int .i64 n7, .slice a_b8 rows8.length cap_b8, .int .i64 n9, .slice a_b10 rows10.length cap_b10, .slice a_b11 rows11.length cap_b11], 59⟩ :: (⟨r1, #[.int .i64 n0, .int .i64 n1, .int .i64 n2, .int .i64 n3, .int .i64 n4, .int .i64 n5, .int .i64 n6, .int .i64 n7, .slice a_a8 rows8.length cap_a8, .int .i64 n9, .slice a_a10 rows10.length cap_a10, .slice a_a11 rows11.length cap_a11], 59⟩ :: []))) rfl))) ?_
  refine wl_go 3 [(81, .pointer (some ⟨r1, 8, none⟩)), (80, .bool true), (79, .bool true)] (by kernel_rfl) ?_
  refine wl_yl (d := 82) (v := .slice a_a8 rows8.length cap_a8) (by kernel_rfl) (yl_load (b := r1) (off := 8) 1 rfl (by kernel_rfl) rfl (by kernel_rfl)) ?_
  refine wl_go 1 [(83, .pointer (some ⟨r2, 8, none⟩))] (by kernel_rfl) ?_
  refine wl_yl (d := 84) (v := .slice a_b8 rows8.length cap_b8) (by kernel_rfl) (yl_load (b := r2) (off := 8) 0 rfl (by kernel_rfl) rfl (by kernel_rfl)) ?_
  refine wl_callK shK (d := 85) (v := .bool true) (by kernel_rfl) (by kernel_rfl) (fun w1 h1 => sameEntries_ok rows8 fR8 b8 hz w1 _ _ _ _ _ _ (h_a8.stays (h1.staysC (L0 := (⟨r2, #[.int .i64 n0, .int .i64 n1, .int .i64 n2, .int .i64 n3, .int .i64 n4, .int .i64 n5, .int .i64 n6, .int .i64 n7, .slice a_b8 rows8.length cap_b8, .int .i64 n9, .slice a_b10 rows10.length cap_b10, .slice a_b11 rows11.length cap_b11], 59⟩ :: (⟨r1, #[.int .i64 n0, .int .i64 n1, .int .i64 n2, .int .i64 n3, .int .i64 n4, .int .i64 n5, .int .i64 n6, .int .i64 n7, .slice a_a8 rows8.length cap_a8, .int .i64 n9, .slice a_a10 rows10.length cap_a10, .slice a_a11 rows11.length cap_a11], 59⟩ :: []))) rfl)) (h_b8.stays (h1.staysC (L0 := (⟨r2, #[.int .i64 n0, .int .i64 n1, .int .i64 n2, .int .i64 n3, .int .i64 n4, .int .i64 n5, .int .i64 n6, .int .i64 n7, .slice a_b8 rows8.length cap_b8, .int .i64 n9, .slice a_b10 rows10.length cap_b10, .slice a_b11 rows11.length cap_b11], 59⟩ :: (⟨r1, #[.int .i64 n0, .int .i64 n1, .int .i64 n2, .int .i64 n3, .int .i64 n4, .int .i64 n5, .int .i64 n6, .int .i64 n7, .slice a_a8 rows8.length cap_a8, .int .i64 n9, .slice a_a10 rows10.length cap_a10, .slice a_a11 rows11.length cap_a11], 59⟩ :: []))) rfl))) ?_
  refine wl_go 2 [(4, .bool true), (86, .bool true)] (by kernel_rfl) ?_
  refine nx_list ?_
  refine nx_then ?_
  refine nx_ret ?_
  refine ret_tmp (v := .bool true) rfl (by kernel_rfl) ?_
  intro w' hw'
  exact ⟨rfl, hw'.below hbel hbel.size (ge_cons gr2 (ge_cons gr1 (ge_nil _)))⟩

theorem sameReport_ok (n0 n2 n3 : Int) (rows8 : List (List D)) (fR8 : FitR sh by_ rows8 (sh 13)) (b8 : rows8.length * 1208 ≤ 140737488355328) (hz : ∀ r ∈ rows8, (encL r).size ≤ 9223372036854775807) (w : World) (S S' : Nat → Prop) (ca cb : List Value) (hra : RdL S w [.int n0, .int n2, .int n3, .sl rows8] ca) (hrb : RdL S' w [.int n0, .int n2, .int n3, .sl rows8] cb) :
    Calls Try.prog 16 #[.agg ca.toArray, .agg cb.toArray] w (fun e w' => e = .returned (.bool true) ∧ Below w.heap.size w w') := by
  have hra := hra.im
  have hrb := hrb.im
  have hbel := Below.refl w.heap.size w
  obtain ⟨c_a0, z_a0, rfl, h_a0, hr_a0⟩ := RdL.cons hra
  rw [Rd] at h_a0; subst h_a0
  obtain ⟨c_a1, z_a1, rfl, h_a1, hr_a1⟩ := RdL.cons hr_a0
  rw [Rd] at h_a1; subst h_a1
  obtain ⟨c_a2, z_a2, rfl, h_a2, hr_a2⟩ := RdL.cons hr_a1
  rw [Rd] at h_a2; subst h_a2
  obtain ⟨c_a3, z_a3, rfl, h_a3, hr_a3⟩ := RdL.cons hr_a2
  obtain ⟨a_a3, cap_a3, rfl⟩ := h_a3.slv
  obtain rfl := RdL.nil hr_a3
  obtain ⟨c_b0, z_b0, rfl, h_b0, hr_b0⟩ := RdL.cons hrb
  rw [Rd] at h_b0; subst h_b0
  obtain ⟨c_b1, z_b1, rfl, h_b1, hr_b1⟩ := RdL.cons hr_b0
  rw [Rd] at h_b1; subst h_b1
  obtain ⟨c_b2, z_b2, rfl, h_b2, hr_b2⟩ := RdL.cons hr_b1
  rw [Rd] at h_b2; subst h_b2
  obtain ⟨c_b3, z_b3, rfl, h_b3, hr_b3⟩ := RdL.cons hr_b2
  obtain ⟨a_b3, cap_b3, rfl⟩ := h_b3.slv
  obtain rfl := RdL.nil hr_b3
  refine Sx.enter (l := [.agg #[.int .i64 n0, .int .i64 n2, .int .i64 n3, .slice a_a3 rows8.length cap_a3], .agg #[.int .i64 n0, .int .i64 n2, .int .i64 n3, .slice a_b3 rows8.length cap_b3]]) Try.func16 rfl (n := 31) rfl (by simp) ?_
  refine wc_eq (S := SH w []) (SH.refl _) ?_
  refine wc_seq ?_
  refine wc_region ?_
  refine wl_new (d := 2) #[.int .i64 n0, .int .i64 n2, .int .i64 n3, .slice a_a3 rows8.length cap_a3] 61 (fun r => .pointer (some ⟨r, 0, none⟩)) (by kernel_rfl) (fun r => by kernel_rfl) ?_
  intro r1 hr1
  have h_a3 := h_a3.stays (im_more (c := #[.int .i64 n0, .int .i64 n2, .int .i64 n3, .slice a_a3 rows8.length cap_a3]) (t := 61) hr1)
  have h_b3 := h_b3.stays (im_more (c := #[.int .i64 n0, .int .i64 n2, .int .i64 n3, .slice a_a3 rows8.length cap_a3]) (t := 61) hr1)
  have gr1 := Nat.le_trans hbel.size hr1
  refine wl_new (d := 3) #[.int .i64 n0, .int .i64 n2, .int .i64 n3, .slice a_b3 rows8.length cap_b3] 61 (fun r => .pointer (some ⟨r, 0, none⟩)) (by kernel_rfl) (fun r => by kernel_rfl) ?_
  intro r2 hr2
  have h_a3 := h_a3.stays (im_more (c := #[.int .i64 n0, .int .i64 n2, .int .i64 n3, .slice a_b3 rows8.length cap_b3]) (t := 61) hr2)
  have h_b3 := h_b3.stays (im_more (c := #[.int .i64 n0, .int .i64 n2, .int .i64 n3, .slice a_b3 rows8.length cap_b3]) (t := 61) hr2)
  have gr2 := Nat.le_trans hbel.size hr2
  refine wl_go 1 [(4, .bool false)] (by kernel_rfl) ?_
  refine nx_list ?_
  refine nx_then ?_
  refine wc_seq ?_
  refine wc_region ?_
  refine wl_go 1 [(5, .pointer (some ⟨r1, 0, none⟩))] (by kernel_rfl) ?_
  refine wl_yl (d := 6) (v := .int .i64 n0) (by kernel_rfl) (yl_load (b := r1) (off := 0) 1 rfl (by kernel_rfl) rfl (by kernel_rfl)) ?_
  refine wl_go 1 [(7, .pointer (some ⟨r2, 0, none⟩))] (by kernel_rfl) ?_
  refine wl_yl (d := 8) (v := .int .i64 n0) (by kernel_rfl) (yl_load (b := r2) (off := 0) 0 rfl (by kernel_rfl) rfl (by kernel_rfl)) ?_
  refine wl_go 1 [(9, .bool (n0 == n0))] (by kernel_rfl) ?_
  rw [show (n0 == n0) = true from by simp]
  refine wl_go 2 [(11, .pointer (some ⟨r1, 1, none⟩)), (10, .bool true)] (by kernel_rfl) ?_
  refine wl_yl (d := 12) (v := .int .i64 n2) (by kernel_rfl) (yl_load (b := r1) (off := 1) 1 rfl (by kernel_rfl) rfl (by kernel_rfl)) ?_
  refine wl_go 1 [(13, .pointer (some ⟨r2, 1, none⟩))] (by kernel_rfl) ?_
  refine wl_yl (d := 14) (v := .int .i64 n2) (by kernel_rfl) (yl_load (b := r2) (off := 1) 0 rfl (by kernel_rfl) rfl (by kernel_rfl)) ?_
  refine wl_go 1 [(15, .bool (n2 == n2))] (by kernel_rfl) ?_
  rw [show (n2 == n2) = true from by simp]
  refine wl_go 3 [(18, .pointer (some ⟨r1, 2, none⟩)), (17, .bool true), (16, .bool true)] (by kernel_rfl) ?_
  refine wl_yl (d := 19) (v := .int .i64 n3) (by kernel_rfl) (yl_load (b := r1) (off := 2) 1 rfl (by kernel_rfl) rfl (by kernel_rfl)) ?_
  refine wl_go 1 [(20, .pointer (some ⟨r2, 2, none⟩))] (by kernel_rfl) ?_
  refine wl_yl (d := 21) (v := .int .i64 n3) (by kernel_rfl) (yl_load (b := r2) (off := 2) 0 rfl (by kernel_rfl) rfl (by kernel_rfl)) ?_
  refine wl_go 1 [(22, .bool (n3 == n3))] (by kernel_rfl) ?_
  rw [show (n3 == n3) = true from by simp]
  refine wl_go 3 [(25, .pointer (some ⟨r1, 3, none⟩)), (24, .bool true), (23, .bool true)] (by kernel_rfl) ?_
  refine wl_yl (d := 26) (v := .slice a_a3 rows8.length cap_a3) (by kernel_rfl) (yl_load (b := r1) (off := 3) 1 rfl (by kernel_rfl) rfl (by kernel_rfl)) ?_
  refine wl_go 1 [(27, .pointer (some ⟨r2, 3, none⟩))] (by kernel_rfl) ?_
  refine wl_yl (d := 28) (v := .slice a_b3 rows8.length cap_b3) (by kernel_rfl) (yl_load (b := r2) (off := 3) 0 rfl (by kernel_rfl) rfl (by kernel_rfl)) ?_
  refine wl_callK shK (d := 29) (v := .bool true) (by kernel_rfl) (by kernel_rfl) (fun w1 h1 => sameEntries_ok rows8 fR8 b8 hz w1 _ _ _ _ _ _ (h_a3.stays (h1.staysC (L0 := (⟨r2, #[.int .i64 n0, .int .i64 n2, .int .i64 n3, .slice a_b3 rows8.length cap_b3], 61⟩ :: (⟨r1, #[.int .i64 n0, .int .i64 n2, .int .i64 n3, .slice a_a3 rows8.length cap_a3], 61⟩ :: []))) rfl)) (h_b3.stays (h1.staysC (L0 := (⟨r2, #[.int .i64 n0, .int .i64 n2, .int .i64 n3, .slice a_b3 rows8.length cap_b3], 61⟩ :: (⟨r1, #[.int .i64 n0, .int .i64 n2, .int .i64 n3, .slice a_a3 rows8.length cap_a3], 61⟩ :: []))) rfl))) ?_
  refine wl_go 2 [(4, .bool true), (30, .bool true)] (by kernel_rfl) ?_
  refine nx_list ?_
  refine nx_then ?_
  refine nx_ret ?_
  refine ret_tmp (v := .bool true) rfl (by kernel_rfl) ?_
  intro w' hw'
  exact ⟨rfl, hw'.below hbel hbel.size (ge_cons gr2 (ge_cons gr1 (ge_nil _)))⟩

end Go.Proofs.Ythedokpgogopiaa
