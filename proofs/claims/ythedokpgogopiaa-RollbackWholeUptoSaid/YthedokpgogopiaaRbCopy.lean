/- Contracts of the deep copies of package rollback, printed by a program of this repository (gen/rbcopy.py). -/
import Derived.Test.YthedokpgogopiaaApi
import Derived.Test.YthedokpgogopiaaAn
import Derived.Test.YthedokpgogopiaaProg
namespace Go.Proofs.Ythedokpgogopiaa
open Go.RowKit Go.Sx
set_option linter.unusedVariables false
set_option linter.unusedSimpArgs false

def zv29 : Value := .agg #[.int .i64 0, .int .i64 0, .string ByteArray.empty, .slice none 0 0, .slice none 0 0]
theorem copyAll_0 (rows : List (List D)) (fR : FitR sh by_ rows (sh 0)) (hb : rows.length * 80 ≤ 140737488355328) (one : ∀ r ∈ rows, CopyS Try.prog 33 r) : CopyA Try.prog 41 33 rows := by
  intro w S v hv
  have hv := hv.im
  have hes : ∀ r ∈ rows, r.length = 5 := fun r hr => fR.length r hr
  by_cases hne : rows = []
  · obtain ⟨aa, cap, rfl⟩ := hv.slv
    subst hne
    refine Sx.enter (l := [.slice aa 0 cap, .func (.func 33) #[] #[]]) Try.func41 rfl (n := 29) rfl (by simp) ?_
    refine wc_eq (S := SH w []) (SH.refl _) ?_
    refine wc_seq ?_
    refine wc_region ?_
    refine wl_go 1 [(4, .slice none 0 0)] (by kernel_rfl) ?_
    refine nx_list ?_
    refine nx_then ?_
    refine wc_seq ?_
    refine wc_seq ?_
    refine wc_region ?_
    refine wl_go 3 [(10, .bool true), (9, .int .i64 0), (8, .slice aa 0 cap)] (by kernel_rfl) ?_
    refine nx_list ?_
    refine nx_then ?_
    refine wc_cond true (by kernel_rfl) (by kernel_rfl) (fun _ => ?_) (fun h => by cases h)
    refine wc_seq ?_
    refine wc_region ?_
    refine wl_go 1 [(4, .slice none 0 0)] (by kernel_rfl) ?_
    refine nx_list ?_
    refine nx_then ?_
    refine nx_ret ?_
    refine nx_then_ret ?_
    refine ret_tmp (v := .slice none 0 0) rfl (by kernel_rfl) ?_
    intro w' hw'
    exact ⟨_, rfl, by rw [Rd]; exact ⟨none, 0, rfl, .inl rfl⟩, hw'.below (Below.refl _ _) (Nat.le_refl _) (ge_nil _)⟩
  · obtain ⟨gs, os, cap, rvs, rfl, hR, hrg⟩ := hv.rows hne
    have hlv := (hR.flat (es := 5) hes).1
    have hz0 : ((rows.length : Int) == 0) = false := by
      cases rows with
      | nil => exact absurd rfl hne
      | cons _ _ => simp; omega
    refine Sx.enter (l := [.slice (some ⟨gs, os, none⟩) rows.length cap, .func (.func 33) #[] #[]]) Try.func41 rfl (n := 29) rfl (by simp) ?_
    refine wc_eq (S := SH w []) (SH.refl _) ?_
    refine wc_seq ?_
    refine wc_region ?_
    refine wl_go 1 [(4, .slice none 0 0)] (by kernel_rfl) ?_
    refine nx_list ?_
    refine nx_then ?_
    refine wc_seq ?_
    refine wc_seq ?_
    refine wc_region ?_
    refine wl_go 3 [(10, .bool ((rows.length : Int) == 0)), (9, .int .i64 (rows.length : Int)), (8, .slice (some ⟨gs, os, none⟩) rows.length cap)] (by kernel_rfl) ?_
    rw [show ((rows.length : Int) == 0) = false from hz0]
    refine nx_list ?_
    refine nx_then ?_
    refine wc_cond false (by kernel_rfl) (by kernel_rfl) (fun h => by cases h) (fun _ => ?_)
    refine nx_skip ?_
    refine nx_then ?_
    refine wc_seq ?_
    refine wc_region ?_
    refine wl_go 2 [(12, .int .i64 (rows.length : Int)), (11, .slice (some ⟨gs, os, none⟩) rows.length cap)] (by kernel_rfl) ?_
    refine wl_make (d := 13) (t := 26) 29 zv29 5 80 rows.length (by kernel_rfl) rfl (by kernel_rfl) (by kernel_rfl) (by kernel_rfl) (by kernel_rfl) (by omega) (by omega) ?_
    intro g rv0 hg hcnt0 hlen0
    refine wl_go 1 [(5, .slice (some ⟨g, 0, none⟩) rows.length rows.length)] (by kernel_rfl) ?_
    refine nx_list ?_
    refine nx_then ?_
    refine wc_seq ?_
    refine wc_seq ?_
    refine wc_region ?_
    refine wl_go 3 [(16, .int .i64 0), (15, .int .i64 (rows.length : Int)), (14, .slice (some ⟨gs, os, none⟩) rows.length cap)] (by kernel_rfl) ?_
    refine nx_list ?_
    refine nx_then ?_
    refine wc_block ?_
    refine wc_loop (σ := Ca 29 5 w rows g) (fun x => [(1, .func (.func 33) #[] #[]), (5, .slice (some ⟨g, 0, none⟩) rows.length rows.length), (14, .slice (some ⟨gs, os, none⟩) rows.length cap), (15, .int .i64 (rows.length : Int)), (16, .int .i64 (x.i : Int))]) (fun x => SH x.wb [⟨g, (x.rv.flatten ++ []).toArray, 29⟩]) (fun x => rows.length - x.i) (fun w3 h3 => ⟨⟨0, w, rv0, Nat.zero_le _, hcnt0, hlen0, hg, fun j r v hj => by omega, Below.refl _ _⟩, h3, (subEnv_cons (by kernel_rfl) (subEnv_cons (by kernel_rfl) (subEnv_cons (by kernel_rfl) (subEnv_cons (by kernel_rfl) (subEnv_cons (by kernel_rfl) (subEnv_nil _))))))⟩) (fun x => ?_)
    refine wc_seq ?_
    refine wc_region ?_
    refine wl_go 1 [(17, .bool (decide ((x.i : Int) < (rows.length : Int))))] (by kernel_rfl) ?_
    refine nx_list ?_
    refine nx_then ?_
    refine wc_seq ?_
    refine wc_cond (decide ((x.i : Int) < (rows.length : Int))) (by kernel_rfl) (by kernel_rfl) (fun hc => ?_) (fun hc => ?_)
    · skip
      have hlt : x.i < rows.length := by simpa using hc
      have hr0 : rows[x.i]? = some rows[x.i] := List.getElem?_eq_getElem hlt
      obtain ⟨cs, hcs, h_cs⟩ := hR.get x.i _ hr0
      have l_cs : cs.length = 5 := hlv cs (List.mem_of_getElem? hcs)
      have hrow := x.row (range_row hrg hlv hcs) l_cs (by decide) (x.rv.flatten ++ []).toArray 29
      have hval : x.rv[x.i]? = some (x.rv[x.i]'(by rw [x.hcnt]; exact hlt)) := List.getElem?_eq_getElem _
      have hvl := x.hlen _ (List.mem_of_getElem? hval)
      refine nx_skip ?_
      refine nx_then ?_
      refine wc_seq ?_
      refine wc_block ?_
      refine wc_seq ?_
      refine wc_region ?_
      refine wl_go 1 [(18, .int .i64 (x.i : Int))] (by kernel_rfl) ?_
      refine wl_yl (d := 19) (v := .pointer (some ⟨gs, os + x.i * 5, none⟩)) (by kernel_rfl) (yl_index (E := 29) (b := gs) (off := os) (len := rows.length) (cap := cap) (k := x.i) (es := 5) rfl (by kernel_rfl) (by kernel_rfl) (by kernel_rfl) (by omega)) ?_
      refine wl_yl (d := 20) (v := .agg (cs).toArray) (by kernel_rfl) (yl_loads_im (b := gs) (off := os + x.i * 5) (cs := cs) rfl (by kernel_rfl) hrow.2 (by rw [l_cs]; kernel_rfl) hrow.1) ?_
      refine wl_new (d := 7) #[.int .i64 0, .int .i64 0, .string ByteArray.empty, .slice none 0 0, .slice none 0 0] 29 (fun r => .pointer (some ⟨r, 0, none⟩)) (by kernel_rfl) (fun r => by kernel_rfl) ?_
      intro r1 hr1
      refine wl_go 1 [(6, .int .i64 (x.i : Int))] (by kernel_rfl) ?_
      refine wl_store (b := r1) (off := 0) (v := .agg (cs).toArray) (c' := cs.toArray) (L' := [⟨r1, cs.toArray, 29⟩, ⟨g, ((x.rv.flatten ++ []).toArray), 29⟩]) 0 (by kernel_rfl) rfl (by kernel_rfl) (by kernel_rfl) rfl (writeAt_all (by rw [l_cs]; kernel_rfl) (by rw [l_cs]; kernel_rfl) (RdL.oneCell h_cs)) rfl ?_
      refine nx_list ?_
      refine nx_then ?_
      refine wc_region ?_
      refine wl_go 3 [(23, .func (.func 33) #[] #[]), (22, .int .i64 (x.i : Int)), (21, .slice (some ⟨g, 0, none⟩) rows.length rows.length)] (by kernel_rfl) ?_
      refine wl_yl (d := 24) (v := .agg (cs).toArray) (by kernel_rfl) (yl_load (b := r1) (off := 0) 0 rfl (by kernel_rfl) rfl (readAt_all (by rw [l_cs]; kernel_rfl))) ?_
      refine wl_callB (X := List Value) (d := 25) (fun x => .agg x.toArray) (fun wa y wz => RdL (fun k => wa.heap.size ≤ k) wz rows[x.i] y ∧ Below wa.heap.size wa wz) (by kernel_rfl) (by kernel_rfl) (fun w1 h1 => one _ (List.getElem_mem hlt) w1 _ cs (h_cs.stays (x.src h1 (ge_cons (Nat.le_trans x.hbel.size hr1) (ge_cons x.hg (ge_nil _)))))) ?_
      rintro w1 m1 w2 h1 ⟨h_m1, hb⟩
      have l_m1 : m1.length = 5 := h_m1.length.symm.trans (hes _ (List.getElem_mem hlt))
      refine wl_eq (S := SH w2 [⟨r1, cs.toArray, 29⟩, ⟨g, ((x.rv.flatten ++ []).toArray), 29⟩]) (h1.after hb) ?_
      refine wl_yl (d := 26) (v := .pointer (some ⟨g, 0 + x.i * 5, none⟩)) (by kernel_rfl) (yl_index (E := 29) (b := g) (off := 0) (len := rows.length) (cap := rows.length) (k := x.i) (es := 5) rfl (by kernel_rfl) (by kernel_rfl) (by kernel_rfl) (by omega)) ?_
      refine wl_store (b := g) (off := 0 + x.i * 5) (v := .agg (m1).toArray) (c' := ((x.rv.set x.i m1).flatten ++ []).toArray) (L' := [⟨r1, cs.toArray, 29⟩, ⟨g, (((x.rv.set x.i m1).flatten ++ []).toArray), 29⟩]) 1 (by kernel_rfl) rfl (by kernel_rfl) (by kernel_rfl) rfl (writeAt_rowAll m1 x.hlen hval (Nat.zero_add _) rfl (by rw [l_m1, hvl]) (by rw [l_m1]; kernel_rfl) (RdL.oneCell h_m1)) rfl ?_
      refine nx_list ?_
      refine nx_block ?_
      refine nx_then ?_
      refine wc_region ?_
      refine wl_yl (d := 27) (v := .int .i64 ((x.i : Int) + 1)) (by kernel_rfl) (yl_int (t := (x.i : Int) + 1) (r := (x.i : Int) + 1) (by kernel_rfl) (i64w (by omega) (by omega))) ?_
      refine wl_go 1 [(16, .int .i64 ((x.i : Int) + 1))] (by kernel_rfl) ?_
      refine nx_list ?_
      exact nx_round_w (fun w3 h3 => ⟨x.next hlt hr0 hr1 h1 hb h_m1 l_m1 h3, (show rows.length - (x.i + 1) < rows.length - x.i by omega), (subEnv_cons (by kernel_rfl) (subEnv_cons (by kernel_rfl) (subEnv_cons (by kernel_rfl) (subEnv_cons (by kernel_rfl) (subEnv_cons (by kernel_rfl) (subEnv_nil _)))))), h3.drop1⟩)
    · skip
      have hge : rows.length ≤ x.i := by simpa using hc
      refine nx_exit ?_
      refine nx_then_exit ?_
      refine nx_then_exit ?_
      refine nx_block_here ?_
      refine nx_then ?_
      refine wc_seq ?_
      refine wc_region ?_
      refine wl_go 2 [(4, .slice (some ⟨g, 0, none⟩) rows.length rows.length), (28, .slice (some ⟨g, 0, none⟩) rows.length rows.length)] (by kernel_rfl) ?_
      refine nx_list ?_
      refine nx_then ?_
      refine nx_ret ?_
      refine ret_tmp (v := .slice (some ⟨g, 0, none⟩) rows.length rows.length) rfl (by kernel_rfl) ?_
      intro w' hw'
      exact ⟨_, rfl, x.done hge (by decide) hw' _, hw'.below x.hbel x.hbel.size (ge_cons x.hg (ge_nil _))⟩

def zv89 : Value := .agg #[.string ByteArray.empty, .int .i64 0, .int .i64 0, .string ByteArray.empty, .slice none 0 0, .slice none 0 0]
theorem copyAll_1 (rows : List (List D)) (fR : FitR sh by_ rows (sh 1)) (hb : rows.length * 96 ≤ 140737488355328) (one : ∀ r ∈ rows, CopyS Try.prog 43 r) : CopyA Try.prog 42 43 rows := by
  intro w S v hv
  have hv := hv.im
  have hes : ∀ r ∈ rows, r.length = 6 := fun r hr => fR.length r hr
  by_cases hne : rows = []
  · obtain ⟨aa, cap, rfl⟩ := hv.slv
    subst hne
    refine Sx.enter (l := [.slice aa 0 cap, .func (.func 43) #[] #[]]) Try.func42 rfl (n := 29) rfl (by simp) ?_
    refine wc_eq (S := SH w []) (SH.refl _) ?_
    refine wc_seq ?_
    refine wc_region ?_
    refine wl_go 1 [(4, .slice none 0 0)] (by kernel_rfl) ?_
    refine nx_list ?_
    refine nx_then ?_
    refine wc_seq ?_
    refine wc_seq ?_
    refine wc_region ?_
    refine wl_go 3 [(10, .bool true), (9, .int .i64 0), (8, .slice aa 0 cap)] (by kernel_rfl) ?_
    refine nx_list ?_
    refine nx_then ?_
    refine wc_cond true (by kernel_rfl) (by kernel_rfl) (fun _ => ?_) (fun h => by cases h)
    refine wc_seq ?_
    refine wc_region ?_
    refine wl_go 1 [(4, .slice none 0 0)] (by kernel_rfl) ?_
    refine nx_list ?_
    refine nx_then ?_
    refine nx_ret ?_
    refine nx_then_ret ?_
    refine ret_tmp (v := .slice none 0 0) rfl (by kernel_rfl) ?_
    intro w' hw'
    exact ⟨_, rfl, by rw [Rd]; exact ⟨none, 0, rfl, .inl rfl⟩, hw'.below (Below.refl _ _) (Nat.le_refl _) (ge_nil _)⟩
  · obtain ⟨gs, os, cap, rvs, rfl, hR, hrg⟩ := hv.rows hne
    have hlv := (hR.flat (es := 6) hes).1
    have hz0 : ((rows.length : Int) == 0) = false := by
      cases rows with
      | nil => exact absurd rfl hne
      | cons _ _ => simp; omega
    refine Sx.enter (l := [.slice (some ⟨gs, os, none⟩) rows.length cap, .func (.func 43) #[] #[]]) Try.func42 rfl (n := 29) rfl (by simp) ?_
    refine wc_eq (S := SH w []) (SH.refl _) ?_
    refine wc_seq ?_
    refine wc_region ?_
    refine wl_go 1 [(4, .slice none 0 0)] (by kernel_rfl) ?_
    refine nx_list ?_
    refine nx_then ?_
    refine wc_seq ?_
    refine wc_seq ?_
    refine wc_region ?_
    refine wl_go 3 [(10, .bool ((rows.length : Int) == 0)), (9, .int .i64 (rows.length : Int)), (8, .slice (some ⟨gs, os, none⟩) rows.length cap)] (by kernel_rfl) ?_
    rw [show ((rows.length : Int) == 0) = false from hz0]
    refine nx_list ?_
    refine nx_then ?_
    refine wc_cond false (by kernel_rfl) (by kernel_rfl) (fun h => by cases h) (fun _ => ?_)
    refine nx_skip ?_
    refine nx_then ?_
    refine wc_seq ?_
    refine wc_region ?_
    refine wl_go 2 [(12, .int .i64 (rows.length : Int)), (11, .slice (some ⟨gs, os, none⟩) rows.length cap)] (by kernel_rfl) ?_
    refine wl_make (d := 13) (t := 27) 89 zv89 6 96 rows.length (by kernel_rfl) rfl (by kernel_rfl) (by kernel_rfl) (by kernel_rfl) (by kernel_rfl) (by omega) (by omega) ?_
    intro g rv0 hg hcnt0 hlen0
    refine wl_go 1 [(5, .slice (some ⟨g, 0, none⟩) rows.length rows.length)] (by kernel_rfl) ?_
    refine nx_list ?_
    refine nx_then ?_
    refine wc_seq ?_
    refine wc_seq ?_
    refine wc_region ?_
    refine wl_go 3 [(16, .int .i64 0), (15, .int .i64 (rows.length : Int)), (14, .slice (some ⟨gs, os, none⟩) rows.length cap)] (by kernel_rfl) ?_
    refine nx_list ?_
    refine nx_then ?_
    refine wc_block ?_
    refine wc_loop (σ := Ca 89 6 w rows g) (fun x => [(1, .func (.func 43) #[] #[]), (5, .slice (some ⟨g, 0, none⟩) rows.length rows.length), (14, .slice (some ⟨gs, os, none⟩) rows.length cap), (15, .int .i64 (rows.length : Int)), (16, .int .i64 (x.i : Int))]) (fun x => SH x.wb [⟨g, (x.rv.flatten ++ []).toArray, 89⟩]) (fun x => rows.length - x.i) (fun w3 h3 => ⟨⟨0, w, rv0, Nat.zero_le _, hcnt0, hlen0, hg, fun j r v hj => by omega, Below.refl _ _⟩, h3, (subEnv_cons (by kernel_rfl) (subEnv_cons (by kernel_rfl) (subEnv_cons (by kernel_rfl) (subEnv_cons (by kernel_rfl) (subEnv_cons (by kernel_rfl) (subEnv_nil _))))))⟩) (fun x => ?_)
    refine wc_seq ?_
    refine wc_region ?_
    refine wl_go 1 [(17, .bool (decide ((x.i : Int) < (rows.length : Int))))] (by kernel_rfl) ?_
    refine nx_list ?_
    refine nx_then ?_
    refine wc_seq ?_
    refine wc_cond (decide ((x.i : Int) < (rows.length : Int))) (by kernel_rfl) (by kernel_rfl) (fun hc => ?_) (fun hc => ?_)
    · skip
      have hlt : x.i < rows.length := by simpa using hc
      have hr0 : rows[x.i]? = some rows[x.i] := List.getElem?_eq_getElem hlt
      obtain ⟨cs, hcs, h_cs⟩ := hR.get x.i _ hr0
      have l_cs : cs.length = 6 := hlv cs (List.mem_of_getElem? hcs)
      have hrow := x.row (range_row hrg hlv hcs) l_cs (by decide) (x.rv.flatten ++ []).toArray 89
      have hval : x.rv[x.i]? = some (x.rv[x.i]'(by rw [x.hcnt]; exact hlt)) := List.getElem?_eq_getElem _
      have hvl := x.hlen _ (List.mem_of_getElem? hval)
      refine nx_skip ?_
      refine nx_then ?_
      refine wc_seq ?_
      refine wc_block ?_
      refine wc_seq ?_
      refine wc_region ?_
      refine wl_go 1 [(18, .int .i64 (x.i : Int))] (by kernel_rfl) ?_
      refine wl_yl (d := 19) (v := .pointer (some ⟨gs, os + x.i * 6, none⟩)) (by kernel_rfl) (yl_index (E := 89) (b := gs) (off := os) (len := rows.length) (cap := cap) (k := x.i) (es := 6) rfl (by kernel_rfl) (by kernel_rfl) (by kernel_rfl) (by omega)) ?_
      refine wl_yl (d := 20) (v := .agg (cs).toArray) (by kernel_rfl) (yl_loads_im (b := gs) (off := os + x.i * 6) (cs := cs) rfl (by kernel_rfl) hrow.2 (by rw [l_cs]; kernel_rfl) hrow.1) ?_
      refine wl_new (d := 7) #[.string ByteArray.empty, .int .i64 0, .int .i64 0, .string ByteArray.empty, .slice none 0 0, .slice none 0 0] 89 (fun r => .pointer (some ⟨r, 0, none⟩)) (by kernel_rfl) (fun r => by kernel_rfl) ?_
      intro r1 hr1
      refine wl_go 1 [(6, .int .i64 (x.i : Int))] (by kernel_rfl) ?_
      refine wl_store (b := r1) (off := 0) (v := .agg (cs).toArray) (c' := cs.toArray) (L' := [⟨r1, cs.toArray, 89⟩, ⟨g, ((x.rv.flatten ++ []).toArray), 89⟩]) 0 (by kernel_rfl) rfl (by kernel_rfl) (by kernel_rfl) rfl (writeAt_all (by rw [l_cs]; kernel_rfl) (by rw [l_cs]; kernel_rfl) (RdL.oneCell h_cs)) rfl ?_
      refine nx_list ?_
      refine nx_then ?_
      refine wc_region ?_
      refine wl_go 3 [(23, .func (.func 43) #[] #[]), (22, .int .i64 (x.i : Int)), (21, .slice (some ⟨g, 0, none⟩) rows.length rows.length)] (by kernel_rfl) ?_
      refine wl_yl (d := 24) (v := .agg (cs).toArray) (by kernel_rfl) (yl_load (b := r1) (off := 0) 0 rfl (by kernel_rfl) rfl (readAt_all (by rw [l_cs]; kernel_rfl))) ?_
      refine wl_callB (X := List Value) (d := 25) (fun x => .agg x.toArray) (fun wa y wz => RdL (fun k => wa.heap.size ≤ k) wz rows[x.i] y ∧ Below wa.heap.size wa wz) (by kernel_rfl) (by kernel_rfl) (fun w1 h1 => one _ (List.getElem_mem hlt) w1 _ cs (h_cs.stays (x.src h1 (ge_cons (Nat.le_trans x.hbel.size hr1) (ge_cons x.hg (ge_nil _)))))) ?_
      rintro w1 m1 w2 h1 ⟨h_m1, hb⟩
      have l_m1 : m1.length = 6 := h_m1.length.symm.trans (hes _ (List.getElem_mem hlt))
      refine wl_eq (S := SH w2 [⟨r1, cs.toArray, 89⟩, ⟨g, ((x.rv.flatten ++ []).toArray), 89⟩]) (h1.after hb) ?_
      refine wl_yl (d := 26) (v := .pointer (some ⟨g, 0 + x.i * 6, none⟩)) (by kernel_rfl) (yl_index (E := 89) (b := g) (off := 0) (len := rows.length) (cap := rows.length) (k := x.i) (es := 6) rfl (by kernel_rfl) (by kernel_rfl) (by kernel_rfl) (by omega)) ?_
      refine wl_store (b := g) (off := 0 + x.i * 6) (v := .agg (m1).toArray) (c' := ((x.rv.set x.i m1).flatten ++ []).toArray) (L' := [⟨r1, cs.toArray, 89⟩, ⟨g, (((x.rv.set x.i m1).flatten ++ []).toArray), 89⟩]) 1 (by kernel_rfl) rfl (by kernel_rfl) (by kernel_rfl) rfl (writeAt_rowAll m1 x.hlen hval (Nat.zero_add _) rfl (by rw [l_m1, hvl]) (by rw [l_m1]; kernel_rfl) (RdL.oneCell h_m1)) rfl ?_
      refine nx_list ?_
      refine nx_block ?_
      refine nx_then ?_
      refine wc_region ?_
      refine wl_yl (d := 27) (v := .int .i64 ((x.i : Int) + 1)) (by kernel_rfl) (yl_int (t := (x.i : Int) + 1) (r := (x.i : Int) + 1) (by kernel_rfl) (i64w (by omega) (by omega))) ?_
      refine wl_go 1 [(16, .int .i64 ((x.i : Int) + 1))] (by kernel_rfl) ?_
      refine nx_list ?_
      exact nx_round_w (fun w3 h3 => ⟨x.next hlt hr0 hr1 h1 hb h_m1 l_m1 h3, (show rows.length - (x.i + 1) < rows.length - x.i by omega), (subEnv_cons (by kernel_rfl) (subEnv_cons (by kernel_rfl) (subEnv_cons (by kernel_rfl) (subEnv_cons (by kernel_rfl) (subEnv_cons (by kernel_rfl) (subEnv_nil _)))))), h3.drop1⟩)
    · skip
      have hge : rows.length ≤ x.i := by simpa using hc
      refine nx_exit ?_
      refine nx_then_exit ?_
      refine nx_then_exit ?_
      refine nx_block_here ?_
      refine nx_then ?_
      refine wc_seq ?_
      refine wc_region ?_
      refine wl_go 2 [(4, .slice (some ⟨g, 0, none⟩) rows.length rows.length), (28, .slice (some ⟨g, 0, none⟩) rows.length rows.length)] (by kernel_rfl) ?_
      refine nx_list ?_
      refine nx_then ?_
      refine nx_ret ?_
      refine ret_tmp (v := .slice (some ⟨g, 0, none⟩) rows.length rows.length) rfl (by kernel_rfl) ?_
      intro w' hw'
      exact ⟨_, rfl, x.done hge (by decide) hw' _, hw'.below x.hbel x.hbel.size (ge_cons x.hg (ge_nil _))⟩

def zv44 : Value := .agg #[.int .i64 0, .slice none 0 0, .string ByteArray.empty, .slice none 0 0, .int .i64 0, .int .i64 0, .string ByteArray.empty, .slice none 0 0, .slice none 0 0, .int .i64 0, .slice none 0 0]
theorem copyAll_5 (rows : List (List D)) (fR : FitR sh by_ rows (sh 5)) (hb : rows.length * 184 ≤ 140737488355328) (one : ∀ r ∈ rows, CopyS Try.prog 64 r) : CopyA Try.prog 77 64 rows := by
  intro w S v hv
  have hv := hv.im
  have hes : ∀ r ∈ rows, r.length = 11 := fun r hr => fR.length r hr
  by_cases hne : rows = []
  · obtain ⟨aa, cap, rfl⟩ := hv.slv
    subst hne
    refine Sx.enter (l := [.slice aa 0 cap, .func (.func 64) #[] #[]]) Try.func77 rfl (n := 29) rfl (by simp) ?_
    refine wc_eq (S := SH w []) (SH.refl _) ?_
    refine wc_seq ?_
    refine wc_region ?_
    refine wl_go 1 [(4, .slice none 0 0)] (by kernel_rfl) ?_
    refine nx_list ?_
    refine nx_then ?_
    refine wc_seq ?_
    refine wc_seq ?_
    refine wc_region ?_
    refine wl_go 3 [(10, .bool true), (9, .int .i64 0), (8, .slice aa 0 cap)] (by kernel_rfl) ?_
    refine nx_list ?_
    refine nx_then ?_
    refine wc_cond true (by kernel_rfl) (by kernel_rfl) (fun _ => ?_) (fun h => by cases h)
    refine wc_seq ?_
    refine wc_region ?_
    refine wl_go 1 [(4, .slice none 0 0)] (by kernel_rfl) ?_
    refine nx_list ?_
    refine nx_then ?_
    refine nx_ret ?_
    refine nx_then_ret ?_
    refine ret_tmp (v := .slice none 0 0) rfl (by kernel_rfl) ?_
    intro w' hw'
    exact ⟨_, rfl, by rw [Rd]; exact ⟨none, 0, rfl, .inl rfl⟩, hw'.below (Below.refl _ _) (Nat.le_refl _) (ge_nil _)⟩
  · obtain ⟨gs, os, cap, rvs, rfl, hR, hrg⟩ := hv.rows hne
    have hlv := (hR.flat (es := 11) hes).1
    have hz0 : ((rows.length : Int) == 0) = false := by
      cases rows with
      | nil => exact absurd rfl hne
      | cons _ _ => simp; omega
    refine Sx.enter (l := [.slice (some ⟨gs, os, none⟩) rows.length cap, .func (.func 64) #[] #[]]) Try.func77 rfl (n := 29) rfl (by simp) ?_
    refine wc_eq (S := SH w []) (SH.refl _) ?_
    refine wc_seq ?_
    refine wc_region ?_
    refine wl_go 1 [(4, .slice none 0 0)] (by kernel_rfl) ?_
    refine nx_list ?_
    refine nx_then ?_
    refine wc_seq ?_
    refine wc_seq ?_
    refine wc_region ?_
    refine wl_go 3 [(10, .bool ((rows.length : Int) == 0)), (9, .int .i64 (rows.length : Int)), (8, .slice (some ⟨gs, os, none⟩) rows.length cap)] (by kernel_rfl) ?_
    rw [show ((rows.length : Int) == 0) = false from hz0]
    refine nx_list ?_
    refine nx_then ?_
    refine wc_cond false (by kernel_rfl) (by kernel_rfl) (fun h => by cases h) (fun _ => ?_)
    refine nx_skip ?_
    refine nx_then ?_
    refine wc_seq ?_
    refine wc_region ?_
    refine wl_go 2 [(12, .int .i64 (rows.length : Int)), (11, .slice (some ⟨gs, os, none⟩) rows.length cap)] (by kernel_rfl) ?_
    refine wl_make (d := 13) (t := 42) 44 zv44 11 184 rows.length (by kernel_rfl) rfl (by kernel_rfl) (by kernel_rfl) (by kernel_rfl) (by kernel_rfl) (by omega) (by omega) ?_
    intro g rv0 hg hcnt0 hlen0
    refine wl_go 1 [(5, .slice (some ⟨g, 0, none⟩) rows.length rows.length)] (by kernel_rfl) ?_
    refine nx_list ?_
    refine nx_then ?_
    refine wc_seq ?_
    refine wc_seq ?_
    refine wc_region ?_
    refine wl_go 3 [(16, .int .i64 0), (15, .int .i64 (rows.length : Int)), (14, .slice (some ⟨gs, os, none⟩) rows.length cap)] (by kernel_rfl) ?_
    refine nx_list ?_
    refine nx_then ?_
    refine wc_block ?_
    refine wc_loop (σ := Ca 44 11 w rows g) (fun x => [(1, .func (.func 64) #[] #[]), (5, .slice (some ⟨g, 0, none⟩) rows.length rows.length), (14, .slice (some ⟨gs, os, none⟩) rows.length cap), (15, .int .i64 (rows.length : Int)), (16, .int .i64 (x.i : Int))]) (fun x => SH x.wb [⟨g, (x.rv.flatten ++ []).toArray, 44⟩]) (fun x => rows.length - x.i) (fun w3 h3 => ⟨⟨0, w, rv0, Nat.zero_le _, hcnt0, hlen0, hg, fun j r v hj => by omega, Below.refl _ _⟩, h3, (subEnv_cons (by kernel_rfl) (subEnv_cons (by kernel_rfl) (subEnv_cons (by kernel_rfl) (subEnv_cons (by kernel_rfl) (subEnv_cons (by kernel_rfl) (subEnv_nil _))))))⟩) (fun x => ?_)
    refine wc_seq ?_
    refine wc_region ?_
    refine wl_go 1 [(17, .bool (decide ((x.i : Int) < (rows.length : Int))))] (by kernel_rfl) ?_
    refine nx_list ?_
    refine nx_then ?_
    refine wc_seq ?_
    refine wc_cond (decide ((x.i : Int) < (rows.length : Int))) (by kernel_rfl) (by kernel_rfl) (fun hc => ?_) (fun hc => ?_)
    · skip
      have hlt : x.i < rows.length := by simpa using hc
      have hr0 : rows[x.i]? = some rows[x.i] := List.getElem?_eq_getElem hlt
      obtain ⟨cs, hcs, h_cs⟩ := hR.get x.i _ hr0
      have l_cs : cs.length = 11 := hlv cs (List.mem_of_getElem? hcs)
      have hrow := x.row (range_row hrg hlv hcs) l_cs (by decide) (x.rv.flatten ++ []).toArray 44
      have hval : x.rv[x.i]? = some (x.rv[x.i]'(by rw [x.hcnt]; exact hlt)) := List.getElem?_eq_getElem _
      have hvl := x.hlen _ (List.mem_of_getElem? hval)
      refine nx_skip ?_
      refine nx_then ?_
      refine wc_seq ?_
      refine wc_block ?_
      refine wc_seq ?_
      refine wc_region ?_
      refine wl_go 1 [(18, .int .i64 (x.i : Int))] (by kernel_rfl) ?_
      refine wl_yl (d := 19) (v := .pointer (some ⟨gs, os + x.i * 11, none⟩)) (by kernel_rfl) (yl_index (E := 44) (b := gs) (off := os) (len := rows.length) (cap := cap) (k := x.i) (es := 11) rfl (by kernel_rfl) (by kernel_rfl) (by kernel_rfl) (by omega)) ?_
      refine wl_yl (d := 20) (v := .agg (cs).toArray) (by kernel_rfl) (yl_loads_im (b := gs) (off := os + x.i * 11) (cs := cs) rfl (by kernel_rfl) hrow.2 (by rw [l_cs]; kernel_rfl) hrow.1) ?_
      refine wl_new (d := 7) #[.int .i64 0, .slice none 0 0, .string ByteArray.empty, .slice none 0 0, .int .i64 0, .int .i64 0, .string ByteArray.empty, .slice none 0 0, .slice none 0 0, .int .i64 0, .slice none 0 0] 44 (fun r => .pointer (some ⟨r, 0, none⟩)) (by kernel_rfl) (fun r => by kernel_rfl) ?_
      intro r1 hr1
      refine wl_go 1 [(6, .int .i64 (x.i : Int))] (by kernel_rfl) ?_
      refine wl_store (b := r1) (off := 0) (v := .agg (cs).toArray) (c' := cs.toArray) (L' := [⟨r1, cs.toArray, 44⟩, ⟨g, ((x.rv.flatten ++ []).toArray), 44⟩]) 0 (by kernel_rfl) rfl (by kernel_rfl) (by kernel_rfl) rfl (writeAt_all (by rw [l_cs]; kernel_rfl) (by rw [l_cs]; kernel_rfl) (RdL.oneCell h_cs)) rfl ?_
      refine nx_list ?_
      refine nx_then ?_
      refine wc_region ?_
      refine wl_go 3 [(23, .func (.func 64) #[] #[]), (22, .int .i64 (x.i : Int)), (21, .slice (some ⟨g, 0, none⟩) rows.length rows.length)] (by kernel_rfl) ?_
      refine wl_yl (d := 24) (v := .agg (cs).toArray) (by kernel_rfl) (yl_load (b := r1) (off := 0) 0 rfl (by kernel_rfl) rfl (readAt_all (by rw [l_cs]; kernel_rfl))) ?_
      refine wl_callB (X := List Value) (d := 25) (fun x => .agg x.toArray) (fun wa y wz => RdL (fun k => wa.heap.size ≤ k) wz rows[x.i] y ∧ Below wa.heap.size wa wz) (by kernel_rfl) (by kernel_rfl) (fun w1 h1 => one _ (List.getElem_mem hlt) w1 _ cs (h_cs.stays (x.src h1 (ge_cons (Nat.le_trans x.hbel.size hr1) (ge_cons x.hg (ge_nil _)))))) ?_
      rintro w1 m1 w2 h1 ⟨h_m1, hb⟩
      have l_m1 : m1.length = 11 := h_m1.length.symm.trans (hes _ (List.getElem_mem hlt))
      refine wl_eq (S := SH w2 [⟨r1, cs.toArray, 44⟩, ⟨g, ((x.rv.flatten ++ []).toArray), 44⟩]) (h1.after hb) ?_
      refine wl_yl (d := 26) (v := .pointer (some ⟨g, 0 + x.i * 11, none⟩)) (by kernel_rfl) (yl_index (E := 44) (b := g) (off := 0) (len := rows.length) (cap := rows.length) (k := x.i) (es := 11) rfl (by kernel_rfl) (by kernel_rfl) (by kernel_rfl) (by omega)) ?_
      refine wl_store (b := g) (off := 0 + x.i * 11) (v := .agg (m1).toArray) (c' := ((x.rv.set x.i m1).flatten ++ []).toArray) (L' := [⟨r1, cs.toArray, 44⟩, ⟨g, (((x.rv.set x.i m1).flatten ++ []).toArray), 44⟩]) 1 (by kernel_rfl) rfl (by kernel_rfl) (by kernel_rfl) rfl (writeAt_rowAll m1 x.hlen hval (Nat.zero_add _) rfl (by rw [l_m1, hvl]) (by rw [l_m1]; kernel_rfl) (RdL.oneCell h_m1)) rfl ?_
      refine nx_list ?_
      refine nx_block ?_
      refine nx_then ?_
      refine wc_region ?_
      refine wl_yl (d := 27) (v := .int .i64 ((x.i : Int) + 1)) (by kernel_rfl) (yl_int (t := (x.i : Int) + 1) (r := (x.i : Int) + 1) (by kernel_rfl) (i64w (by omega) (by omega))) ?_
      refine wl_go 1 [(16, .int .i64 ((x.i : Int) + 1))] (by kernel_rfl) ?_
      refine nx_list ?_
      exact nx_round_w (fun w3 h3 => ⟨x.next hlt hr0 hr1 h1 hb h_m1 l_m1 h3, (show rows.length - (x.i + 1) < rows.length - x.i by omega), (subEnv_cons (by kernel_rfl) (subEnv_cons (by kernel_rfl) (subEnv_cons (by kernel_rfl) (subEnv_cons (by kernel_rfl) (subEnv_cons (by kernel_rfl) (subEnv_nil _)))))), h3.drop1⟩)
    · skip
      have hge : rows.length ≤ x.i := by simpa using hc
      refine nx_exit ?_
      refine nx_then_exit ?_
      refine nx_then_exit ?_
      refine nx_block_here ?_
      refine nx_then ?_
      refine wc_seq ?_
      refine wc_region ?_
      refine wl_go 2 [(4, .slice (some ⟨g, 0, none⟩) rows.length rows.length), (28, .slice (some ⟨g, 0, none⟩) rows.length rows.length)] (by kernel_rfl) ?_
      refine nx_list ?_
      refine nx_then ?_
      refine nx_ret ?_
      refine ret_tmp (v := .slice (some ⟨g, 0, none⟩) rows.length rows.length) rfl (by kernel_rfl) ?_
      intro w' hw'
      exact ⟨_, rfl, x.done hge (by decide) hw' _, hw'.below x.hbel x.hbel.size (ge_cons x.hg (ge_nil _))⟩

def zv47 : Value := .agg #[.int .i64 0, .slice none 0 0, .int .i64 0, .int .i64 0, .string ByteArray.empty, .slice none 0 0, .slice none 0 0, .slice none 0 0, .int .i64 0, .int .i64 0, .int .i64 0, .slice none 0 0, .int .i64 0, .int .i64 0, .slice none 0 0, .string ByteArray.empty, .slice none 0 0, .int .i64 0, .int .i64 0, .string ByteArray.empty, .slice none 0 0, .slice none 0 0, .int .i64 0, .slice none 0 0, .slice none 0 0]
def zc47 : Array Value := #[.int .i64 0, .slice none 0 0, .int .i64 0, .int .i64 0, .string ByteArray.empty, .slice none 0 0, .slice none 0 0, .slice none 0 0, .int .i64 0, .int .i64 0, .int .i64 0, .slice none 0 0, .int .i64 0, .int .i64 0, .slice none 0 0, .string ByteArray.empty, .slice none 0 0, .int .i64 0, .int .i64 0, .string ByteArray.empty, .slice none 0 0, .slice none 0 0, .int .i64 0, .slice none 0 0, .slice none 0 0]
theorem copyAll_6 (rows : List (List D)) (fR : FitR sh by_ rows (sh 6)) (hb : rows.length * 400 ≤ 140737488355328) (one : ∀ r ∈ rows, CopyS Try.prog 48 r) : CopyA Try.prog 65 48 rows := by
  intro w S v hv
  have hv := hv.im
  have hes : ∀ r ∈ rows, r.length = 25 := fun r hr => fR.length r hr
  by_cases hne : rows = []
  · obtain ⟨aa, cap, rfl⟩ := hv.slv
    subst hne
    refine Sx.enter (l := [.slice aa 0 cap, .func (.func 48) #[] #[]]) Try.func65 rfl (n := 29) rfl (by simp) ?_
    refine wc_eq (S := SH w []) (SH.refl _) ?_
    refine wc_seq ?_
    refine wc_region ?_
    refine wl_go 1 [(4, .slice none 0 0)] (by kernel_rfl) ?_
    refine nx_list ?_
    refine nx_then ?_
    refine wc_seq ?_
    refine wc_seq ?_
    refine wc_region ?_
    refine wl_go 3 [(10, .bool true), (9, .int .i64 0), (8, .slice aa 0 cap)] (by kernel_rfl) ?_
    refine nx_list ?_
    refine nx_then ?_
    refine wc_cond true (by kernel_rfl) (by kernel_rfl) (fun _ => ?_) (fun h => by cases h)
    refine wc_seq ?_
    refine wc_region ?_
    refine wl_go 1 [(4, .slice none 0 0)] (by kernel_rfl) ?_
    refine nx_list ?_
    refine nx_then ?_
    refine nx_ret ?_
    refine nx_then_ret ?_
    refine ret_tmp (v := .slice none 0 0) rfl (by kernel_rfl) ?_
    intro w' hw'
    exact ⟨_, rfl, by rw [Rd]; exact ⟨none, 0, rfl, .inl rfl⟩, hw'.below (Below.refl _ _) (Nat.le_refl _) (ge_nil _)⟩
  · obtain ⟨gs, os, cap, rvs, rfl, hR, hrg⟩ := hv.rows hne
    have hlv := (hR.flat (es := 25) hes).1
    have hz0 : ((rows.length : Int) == 0) = false := by
      cases rows with
      | nil => exact absurd rfl hne
      | cons _ _ => simp; omega
    refine Sx.enter (l := [.slice (some ⟨gs, os, none⟩) rows.length cap, .func (.func 48) #[] #[]]) Try.func65 rfl (n := 29) rfl (by simp) ?_
    refine wc_eq (S := SH w []) (SH.refl _) ?_
    refine wc_seq ?_
    refine wc_region ?_
    refine wl_go 1 [(4, .slice none 0 0)] (by kernel_rfl) ?_
    refine nx_list ?_
    refine nx_then ?_
    refine wc_seq ?_
    refine wc_seq ?_
    refine wc_region ?_
    refine wl_go 3 [(10, .bool ((rows.length : Int) == 0)), (9, .int .i64 (rows.length : Int)), (8, .slice (some ⟨gs, os, none⟩) rows.length cap)] (by kernel_rfl) ?_
    rw [show ((rows.length : Int) == 0) = false from hz0]
    refine nx_list ?_
    refine nx_then ?_
    refine wc_cond false (by kernel_rfl) (by kernel_rfl) (fun h => by cases h) (fun _ => ?_)
    refine nx_skip ?_
    refine nx_then ?_
    refine wc_seq ?_
    refine wc_region ?_
    refine wl_go 2 [(12, .int .i64 (rows.length : Int)), (11, .slice (some ⟨gs, os, none⟩) rows.length cap)] (by kernel_rfl) ?_
    refine wl_make (d := 13) (t := 45) 47 zv47 25 400 rows.length (by kernel_rfl) rfl (by kernel_rfl) (by kernel_rfl) (by kernel_rfl) (by kernel_rfl) (by omega) (by omega) ?_
    intro g rv0 hg hcnt0 hlen0
    refine wl_go 1 [(5, .slice (some ⟨g, 0, none⟩) rows.length rows.length)] (by kernel_rfl) ?_
    refine nx_list ?_
    refine nx_then ?_
    refine wc_seq ?_
    refine wc_seq ?_
    refine wc_region ?_
    refine wl_go 3 [(16, .int .i64 0), (15, .int .i64 (rows.length : Int)), (14, .slice (some ⟨gs, os, none⟩) rows.length cap)] (by kernel_rfl) ?_
    refine nx_list ?_
    refine nx_then ?_
    refine wc_block ?_
    refine wc_loop (σ := Ca 47 25 w rows g) (fun x => [(1, .func (.func 48) #[] #[]), (5, .slice (some ⟨g, 0, none⟩) rows.length rows.length), (14, .slice (some ⟨gs, os, none⟩) rows.length cap), (15, .int .i64 (rows.length : Int)), (16, .int .i64 (x.i : Int))]) (fun x => SH x.wb [⟨g, (x.rv.flatten ++ []).toArray, 47⟩]) (fun x => rows.length - x.i) (fun w3 h3 => ⟨⟨0, w, rv0, Nat.zero_le _, hcnt0, hlen0, hg, fun j r v hj => by omega, Below.refl _ _⟩, h3, (subEnv_cons (by kernel_rfl) (subEnv_cons (by kernel_rfl) (subEnv_cons (by kernel_rfl) (subEnv_cons (by kernel_rfl) (subEnv_cons (by kernel_rfl) (subEnv_nil _))))))⟩) (fun x => ?_)
    refine wc_seq ?_
    refine wc_region ?_
    refine wl_go 1 [(17, .bool (decide ((x.i : Int) < (rows.length : Int))))] (by kernel_rfl) ?_
    refine nx_list ?_
    refine nx_then ?_
    refine wc_seq ?_
    refine wc_cond (decide ((x.i : Int) < (rows.length : Int))) (by kernel_rfl) (by kernel_rfl) (fun hc => ?_) (fun hc => ?_)
    · skip
      have hlt : x.i < rows.length := by simpa using hc
      have hr0 : rows[x.i]? = some rows[x.i] := List.getElem?_eq_getElem hlt
      obtain ⟨cs, hcs, h_cs⟩ := hR.get x.i _ hr0
      have l_cs : cs.length = 25 := hlv cs (List.mem_of_getElem? hcs)
      have hrow := x.row (range_row hrg hlv hcs) l_cs (by decide) (x.rv.flatten ++ []).toArray 47
      have hval : x.rv[x.i]? = some (x.rv[x.i]'(by rw [x.hcnt]; exact hlt)) := List.getElem?_eq_getElem _
      have hvl := x.hlen _ (List.mem_of_getElem? hval)
      refine nx_skip ?_
      refine nx_then ?_
      refine wc_seq ?_
      refine wc_block ?_
      refine wc_seq ?_
      refine wc_region ?_
      refine wl_go 1 [(18, .int .i64 (x.i : Int))] (by kernel_rfl) ?_
      refine wl_yl (d := 19) (v := .pointer (some ⟨gs, os + x.i * 25, none⟩)) (by kernel_rfl) (yl_index (E := 47) (b := gs) (off := os) (len := rows.length) (cap := cap) (k := x.i) (es := 25) rfl (by kernel_rfl) (by kernel_rfl) (by kernel_rfl) (by omega)) ?_
      refine wl_yl (d := 20) (v := .agg (cs).toArray) (by kernel_rfl) (yl_loads_im (b := gs) (off := os + x.i * 25) (cs := cs) rfl (by kernel_rfl) hrow.2 (by rw [l_cs]; kernel_rfl) hrow.1) ?_
      refine wl_new (d := 7) zc47 47 (fun r => .pointer (some ⟨r, 0, none⟩)) (by kernel_rfl) (fun r => by kernel_rfl) ?_
      intro r1 hr1
      refine wl_go 1 [(6, .int .i64 (x.i : Int))] (by kernel_rfl) ?_
      refine wl_store (b := r1) (off := 0) (v := .agg (cs).toArray) (c' := cs.toArray) (L' := [⟨r1, cs.toArray, 47⟩, ⟨g, ((x.rv.flatten ++ []).toArray), 47⟩]) 0 (by kernel_rfl) rfl (by kernel_rfl) (by kernel_rfl) rfl (writeAt_all (by rw [l_cs]; kernel_rfl) (by rw [l_cs]; kernel_rfl) (RdL.oneCell h_cs)) rfl ?_
      refine nx_list ?_
      refine nx_then ?_
      refine wc_region ?_
      refine wl_go 3 [(23, .func (.func 48) #[] #[]), (22, .int .i64 (x.i : Int)), (21, .slice (some ⟨g, 0, none⟩) rows.length rows.length)] (by kernel_rfl) ?_
      refine wl_yl (d := 24) (v := .agg (cs).toArray) (by kernel_rfl) (yl_load (b := r1) (off := 0) 0 rfl (by kernel_rfl) rfl (readAt_all (by rw [l_cs]; kernel_rfl))) ?_
      refine wl_callB (X := List Value) (d := 25) (fun x => .agg x.toArray) (fun wa y wz => RdL (fun k => wa.heap.size ≤ k) wz rows[x.i] y ∧ Below wa.heap.size wa wz) (by kernel_rfl) (by kernel_rfl) (fun w1 h1 => one _ (List.getElem_mem hlt) w1 _ cs (h_cs.stays (x.src h1 (ge_cons (Nat.le_trans x.hbel.size hr1) (ge_cons x.hg (ge_nil _)))))) ?_
      rintro w1 m1 w2 h1 ⟨h_m1, hb⟩
      have l_m1 : m1.length = 25 := h_m1.length.symm.trans (hes _ (List.getElem_mem hlt))
      refine wl_eq (S := SH w2 [⟨r1, cs.toArray, 47⟩, ⟨g, ((x.rv.flatten ++ []).toArray), 47⟩]) (h1.after hb) ?_
      refine wl_yl (d := 26) (v := .pointer (some ⟨g, 0 + x.i * 25, none⟩)) (by kernel_rfl) (yl_index (E := 47) (b := g) (off := 0) (len := rows.length) (cap := rows.length) (k := x.i) (es := 25) rfl (by kernel_rfl) (by kernel_rfl) (by kernel_rfl) (by omega)) ?_
      refine wl_store (b := g) (off := 0 + x.i * 25) (v := .agg (m1).toArray) (c' := ((x.rv.set x.i m1).flatten ++ []).toArray) (L' := [⟨r1, cs.toArray, 47⟩, ⟨g, (((x.rv.set x.i m1).flatten ++ []).toArray), 47⟩]) 1 (by kernel_rfl) rfl (by kernel_rfl) (by kernel_rfl) rfl (writeAt_rowAll m1 x.hlen hval (Nat.zero_add _) rfl (by rw [l_m1, hvl]) (by rw [l_m1]; kernel_rfl) (RdL.oneCell h_m1)) rfl ?_
      refine nx_list ?_
      refine nx_block ?_
      refine nx_then ?_
      refine wc_region ?_
      refine wl_yl (d := 27) (v := .int .i64 ((x.i : Int) + 1)) (by kernel_rfl) (yl_int (t := (x.i : Int) + 1) (r := (x.i : Int) + 1) (by kernel_rfl) (i64w (by omega) (by omega))) ?_
      refine wl_go 1 [(16, .int .i64 ((x.i : Int) + 1))] (by kernel_rfl) ?_
      refine nx_list ?_
      exact nx_round_w (fun w3 h3 => ⟨x.next hlt hr0 hr1 h1 hb h_m1 l_m1 h3, (show rows.length - (x.i + 1) < rows.length - x.i by omega), (subEnv_cons (by kernel_rfl) (subEnv_cons (by kernel_rfl) (subEnv_cons (by kernel_rfl) (subEnv_cons (by kernel_rfl) (subEnv_cons (by kernel_rfl) (subEnv_nil _)))))), h3.drop1⟩)
    · skip
      have hge : rows.length ≤ x.i := by simpa using hc
      refine nx_exit ?_
      refine nx_then_exit ?_
      refine nx_then_exit ?_
      refine nx_block_here ?_
      refine nx_then ?_
      refine wc_seq ?_
      refine wc_region ?_
      refine wl_go 2 [(4, .slice (some ⟨g, 0, none⟩) rows.length rows.length), (28, .slice (some ⟨g, 0, none⟩) rows.length rows.length)] (by kernel_rfl) ?_
      refine nx_list ?_
      refine nx_then ?_
      refine nx_ret ?_
      refine ret_tmp (v := .slice (some ⟨g, 0, none⟩) rows.length rows.length) rfl (by kernel_rfl) ?_
      intro w' hw'
      exact ⟨_, rfl, x.done hge (by decide) hw' _, hw'.below x.hbel x.hbel.size (ge_cons x.hg (ge_nil _))⟩

def zv95 : Value := .agg #[.slice none 0 0, .bool false]
theorem copyAll_7 (rows : List (List D)) (fR : FitR sh by_ rows (sh 7)) (hb : rows.length * 32 ≤ 140737488355328) (one : ∀ r ∈ rows, CopyS Try.prog 47 r) : CopyA Try.prog 46 47 rows := by
  intro w S v hv
  have hv := hv.im
  have hes : ∀ r ∈ rows, r.length = 2 := fun r hr => fR.length r hr
  by_cases hne : rows = []
  · obtain ⟨aa, cap, rfl⟩ := hv.slv
    subst hne
    refine Sx.enter (l := [.slice aa 0 cap, .func (.func 47) #[] #[]]) Try.func46 rfl (n := 29) rfl (by simp) ?_
    refine wc_eq (S := SH w []) (SH.refl _) ?_
    refine wc_seq ?_
    refine wc_region ?_
    refine wl_go 1 [(4, .slice none 0 0)] (by kernel_rfl) ?_
    refine nx_list ?_
    refine nx_then ?_
    refine wc_seq ?_
    refine wc_seq ?_
    refine wc_region ?_
    refine wl_go 3 [(10, .bool true), (9, .int .i64 0), (8, .slice aa 0 cap)] (by kernel_rfl) ?_
    refine nx_list ?_
    refine nx_then ?_
    refine wc_cond true (by kernel_rfl) (by kernel_rfl) (fun _ => ?_) (fun h => by cases h)
    refine wc_seq ?_
    refine wc_region ?_
    refine wl_go 1 [(4, .slice none 0 0)] (by kernel_rfl) ?_
    refine nx_list ?_
    refine nx_then ?_
    refine nx_ret ?_
    refine nx_then_ret ?_
    refine ret_tmp (v := .slice none 0 0) rfl (by kernel_rfl) ?_
    intro w' hw'
    exact ⟨_, rfl, by rw [Rd]; exact ⟨none, 0, rfl, .inl rfl⟩, hw'.below (Below.refl _ _) (Nat.le_refl _) (ge_nil _)⟩
  · obtain ⟨gs, os, cap, rvs, rfl, hR, hrg⟩ := hv.rows hne
    have hlv := (hR.flat (es := 2) hes).1
    have hz0 : ((rows.length : Int) == 0) = false := by
      cases rows with
      | nil => exact absurd rfl hne
      | cons _ _ => simp; omega
    refine Sx.enter (l := [.slice (some ⟨gs, os, none⟩) rows.length cap, .func (.func 47) #[] #[]]) Try.func46 rfl (n := 29) rfl (by simp) ?_
    refine wc_eq (S := SH w []) (SH.refl _) ?_
    refine wc_seq ?_
    refine wc_region ?_
    refine wl_go 1 [(4, .slice none 0 0)] (by kernel_rfl) ?_
    refine nx_list ?_
    refine nx_then ?_
    refine wc_seq ?_
    refine wc_seq ?_
    refine wc_region ?_
    refine wl_go 3 [(10, .bool ((rows.length : Int) == 0)), (9, .int .i64 (rows.length : Int)), (8, .slice (some ⟨gs, os, none⟩) rows.length cap)] (by kernel_rfl) ?_
    rw [show ((rows.length : Int) == 0) = false from hz0]
    refine nx_list ?_
    refine nx_then ?_
    refine wc_cond false (by kernel_rfl) (by kernel_rfl) (fun h => by cases h) (fun _ => ?_)
    refine nx_skip ?_
    refine nx_then ?_
    refine wc_seq ?_
    refine wc_region ?_
    refine wl_go 2 [(12, .int .i64 (rows.length : Int)), (11, .slice (some ⟨gs, os, none⟩) rows.length cap)] (by kernel_rfl) ?_
    refine wl_make (d := 13) (t := 38) 95 zv95 2 32 rows.length (by kernel_rfl) rfl (by kernel_rfl) (by kernel_rfl) (by kernel_rfl) (by kernel_rfl) (by omega) (by omega) ?_
    intro g rv0 hg hcnt0 hlen0
    refine wl_go 1 [(5, .slice (some ⟨g, 0, none⟩) rows.length rows.length)] (by kernel_rfl) ?_
    refine nx_list ?_
    refine nx_then ?_
    refine wc_seq ?_
    refine wc_seq ?_
    refine wc_region ?_
    refine wl_go 3 [(16, .int .i64 0), (15, .int .i64 (rows.length : Int)), (14, .slice (some ⟨gs, os, none⟩) rows.length cap)] (by kernel_rfl) ?_
    refine nx_list ?_
    refine nx_then ?_
    refine wc_block ?_
    refine wc_loop (σ := Ca 95 2 w rows g) (fun x => [(1, .func (.func 47) #[] #[]), (5, .slice (some ⟨g, 0, none⟩) rows.length rows.length), (14, .slice (some ⟨gs, os, none⟩) rows.length cap), (15, .int .i64 (rows.length : Int)), (16, .int .i64 (x.i : Int))]) (fun x => SH x.wb [⟨g, (x.rv.flatten ++ []).toArray, 95⟩]) (fun x => rows.length - x.i) (fun w3 h3 => ⟨⟨0, w, rv0, Nat.zero_le _, hcnt0, hlen0, hg, fun j r v hj => by omega, Below.refl _ _⟩, h3, (subEnv_cons (by kernel_rfl) (subEnv_cons (by kernel_rfl) (subEnv_cons (by kernel_rfl) (subEnv_cons (by kernel_rfl) (subEnv_cons (by kernel_rfl) (subEnv_nil _))))))⟩) (fun x => ?_)
    refine wc_seq ?_
    refine wc_region ?_
    refine wl_go 1 [(17, .bool (decide ((x.i : Int) < (rows.length : Int))))] (by kernel_rfl) ?_
    refine nx_list ?_
    refine nx_then ?_
    refine wc_seq ?_
    refine wc_cond (decide ((x.i : Int) < (rows.length : Int))) (by kernel_rfl) (by kernel_rfl) (fun hc => ?_) (fun hc => ?_)
    · skip
      have hlt : x.i < rows.length := by simpa using hc
      have hr0 : rows[x.i]? = some rows[x.i] := List.getElem?_eq_getElem hlt
      obtain ⟨cs, hcs, h_cs⟩ := hR.get x.i _ hr0
      have l_cs : cs.length = 2 := hlv cs (List.mem_of_getElem? hcs)
      have hrow := x.row (range_row hrg hlv hcs) l_cs (by decide) (x.rv.flatten ++ []).toArray 95
      have hval : x.rv[x.i]? = some (x.rv[x.i]'(by rw [x.hcnt]; exact hlt)) := List.getElem?_eq_getElem _
      have hvl := x.hlen _ (List.mem_of_getElem? hval)
      refine nx_skip ?_
      refine nx_then ?_
      refine wc_seq ?_
      refine wc_block ?_
      refine wc_seq ?_
      refine wc_region ?_
      refine wl_go 1 [(18, .int .i64 (x.i : Int))] (by kernel_rfl) ?_
      refine wl_yl (d := 19) (v := .pointer (some ⟨gs, os + x.i * 2, none⟩)) (by kernel_rfl) (yl_index (E := 95) (b := gs) (off := os) (len := rows.length) (cap := cap) (k := x.i) (es := 2) rfl (by kernel_rfl) (by kernel_rfl) (by kernel_rfl) (by omega)) ?_
      refine wl_yl (d := 20) (v := .agg (cs).toArray) (by kernel_rfl) (yl_loads_im (b := gs) (off := os + x.i * 2) (cs := cs) rfl (by kernel_rfl) hrow.2 (by rw [l_cs]; kernel_rfl) hrow.1) ?_
      refine wl_new (d := 7) #[.slice none 0 0, .bool false] 95 (fun r => .pointer (some ⟨r, 0, none⟩)) (by kernel_rfl) (fun r => by kernel_rfl) ?_
      intro r1 hr1
      refine wl_go 1 [(6, .int .i64 (x.i : Int))] (by kernel_rfl) ?_
      refine wl_store (b := r1) (off := 0) (v := .agg (cs).toArray) (c' := cs.toArray) (L' := [⟨r1, cs.toArray, 95⟩, ⟨g, ((x.rv.flatten ++ []).toArray), 95⟩]) 0 (by kernel_rfl) rfl (by kernel_rfl) (by kernel_rfl) rfl (writeAt_all (by rw [l_cs]; kernel_rfl) (by rw [l_cs]; kernel_rfl) (RdL.oneCell h_cs)) rfl ?_
      refine nx_list ?_
      refine nx_then ?_
      refine wc_region ?_
      refine wl_go 3 [(23, .func (.func 47) #[] #[]), (22, .int .i64 (x.i : Int)), (21, .slice (some ⟨g, 0, none⟩) rows.length rows.length)] (by kernel_rfl) ?_
      refine wl_yl (d := 24) (v := .agg (cs).toArray) (by kernel_rfl) (yl_load (b := r1) (off := 0) 0 rfl (by kernel_rfl) rfl (readAt_all (by rw [l_cs]; kernel_rfl))) ?_
      refine wl_callB (X := List Value) (d := 25) (fun x => .agg x.toArray) (fun wa y wz => RdL (fun k => wa.heap.size ≤ k) wz rows[x.i] y ∧ Below wa.heap.size wa wz) (by kernel_rfl) (by kernel_rfl) (fun w1 h1 => one _ (List.getElem_mem hlt) w1 _ cs (h_cs.stays (x.src h1 (ge_cons (Nat.le_trans x.hbel.size hr1) (ge_cons x.hg (ge_nil _)))))) ?_
      rintro w1 m1 w2 h1 ⟨h_m1, hb⟩
      have l_m1 : m1.length = 2 := h_m1.length.symm.trans (hes _ (List.getElem_mem hlt))
      refine wl_eq (S := SH w2 [⟨r1, cs.toArray, 95⟩, ⟨g, ((x.rv.flatten ++ []).toArray), 95⟩]) (h1.after hb) ?_
      refine wl_yl (d := 26) (v := .pointer (some ⟨g, 0 + x.i * 2, none⟩)) (by kernel_rfl) (yl_index (E := 95) (b := g) (off := 0) (len := rows.length) (cap := rows.length) (k := x.i) (es := 2) rfl (by kernel_rfl) (by kernel_rfl) (by kernel_rfl) (by omega)) ?_
      refine wl_store (b := g) (off := 0 + x.i * 2) (v := .agg (m1).toArray) (c' := ((x.rv.set x.i m1).flatten ++ []).toArray) (L' := [⟨r1, cs.toArray, 95⟩, ⟨g, (((x.rv.set x.i m1).flatten ++ []).toArray), 95⟩]) 1 (by kernel_rfl) rfl (by kernel_rfl) (by kernel_rfl) rfl (writeAt_rowAll m1 x.hlen hval (Nat.zero_add _) rfl (by rw [l_m1, hvl]) (by rw [l_m1]; kernel_rfl) (RdL.oneCell h_m1)) rfl ?_
      refine nx_list ?_
      refine nx_block ?_
      refine nx_then ?_
      refine wc_region ?_
      refine wl_yl (d := 27) (v := .int .i64 ((x.i : Int) + 1)) (by kernel_rfl) (yl_int (t := (x.i : Int) + 1) (r := (x.i : Int) + 1) (by kernel_rfl) (i64w (by omega) (by omega))) ?_
      refine wl_go 1 [(16, .int .i64 ((x.i : Int) + 1))] (by kernel_rfl) ?_
      refine nx_list ?_
      exact nx_round_w (fun w3 h3 => ⟨x.next hlt hr0 hr1 h1 hb h_m1 l_m1 h3, (show rows.length - (x.i + 1) < rows.length - x.i by omega), (subEnv_cons (by kernel_rfl) (subEnv_cons (by kernel_rfl) (subEnv_cons (by kernel_rfl) (subEnv_cons (by kernel_rfl) (subEnv_cons (by kernel_rfl) (subEnv_nil _)))))), h3.drop1⟩)
    · skip
      have hge : rows.length ≤ x.i := by simpa using hc
      refine nx_exit ?_
      refine nx_then_exit ?_
      refine nx_then_exit ?_
      refine nx_block_here ?_
      refine nx_then ?_
      refine wc_seq ?_
      refine wc_region ?_
      refine wl_go 2 [(4, .slice (some ⟨g, 0, none⟩) rows.length rows.length), (28, .slice (some ⟨g, 0, none⟩) rows.length rows.length)] (by kernel_rfl) ?_
      refine nx_list ?_
      refine nx_then ?_
      refine nx_ret ?_
      refine ret_tmp (v := .slice (some ⟨g, 0, none⟩) rows.length rows.length) rfl (by kernel_rfl) ?_
      intro w' hw'
      exact ⟨_, rfl, x.done hge (by decide) hw' _, hw'.below x.hbel x.hbel.size (ge_cons x.hg (ge_nil _))⟩

def zv49 : Value := .agg #[.string ByteArray.empty, .int .i64 0, .slice none 0 0, .bool false, .bool false, .bool false, .int .i64 0, .slice none 0 0, .int .i64 0, .int .i64 0, .string ByteArray.empty, .slice none 0 0, .slice none 0 0, .slice none 0 0, .int .i64 0, .int .i64 0, .int .i64 0, .slice none 0 0, .int .i64 0, .int .i64 0, .slice none 0 0, .string ByteArray.empty, .slice none 0 0, .int .i64 0, .int .i64 0, .string ByteArray.empty, .slice none 0 0, .slice none 0 0, .int .i64 0, .slice none 0 0, .slice none 0 0]
def zc49 : Array Value := #[.string ByteArray.empty, .int .i64 0, .slice none 0 0, .bool false, .bool false, .bool false, .int .i64 0, .slice none 0 0, .int .i64 0, .int .i64 0, .string ByteArray.empty, .slice none 0 0, .slice none 0 0, .slice none 0 0, .int .i64 0, .int .i64 0, .int .i64 0, .slice none 0 0, .int .i64 0, .int .i64 0, .slice none 0 0, .string ByteArray.empty, .slice none 0 0, .int .i64 0, .int .i64 0, .string ByteArray.empty, .slice none 0 0, .slice none 0 0, .int .i64 0, .slice none 0 0, .slice none 0 0]
theorem copyAll_8 (rows : List (List D)) (fR : FitR sh by_ rows (sh 8)) (hb : rows.length * 456 ≤ 140737488355328) (one : ∀ r ∈ rows, CopyS Try.prog 35 r) : CopyA Try.prog 44 35 rows := by
  intro w S v hv
  have hv := hv.im
  have hes : ∀ r ∈ rows, r.length = 31 := fun r hr => fR.length r hr
  by_cases hne : rows = []
  · obtain ⟨aa, cap, rfl⟩ := hv.slv
    subst hne
    refine Sx.enter (l := [.slice aa 0 cap, .func (.func 35) #[] #[]]) Try.func44 rfl (n := 29) rfl (by simp) ?_
    refine wc_eq (S := SH w []) (SH.refl _) ?_
    refine wc_seq ?_
    refine wc_region ?_
    refine wl_go 1 [(4, .slice none 0 0)] (by kernel_rfl) ?_
    refine nx_list ?_
    refine nx_then ?_
    refine wc_seq ?_
    refine wc_seq ?_
    refine wc_region ?_
    refine wl_go 3 [(10, .bool true), (9, .int .i64 0), (8, .slice aa 0 cap)] (by kernel_rfl) ?_
    refine nx_list ?_
    refine nx_then ?_
    refine wc_cond true (by kernel_rfl) (by kernel_rfl) (fun _ => ?_) (fun h => by cases h)
    refine wc_seq ?_
    refine wc_region ?_
    refine wl_go 1 [(4, .slice none 0 0)] (by kernel_rfl) ?_
    refine nx_list ?_
    refine nx_then ?_
    refine nx_ret ?_
    refine nx_then_ret ?_
    refine ret_tmp (v := .slice none 0 0) rfl (by kernel_rfl) ?_
    intro w' hw'
    exact ⟨_, rfl, by rw [Rd]; exact ⟨none, 0, rfl, .inl rfl⟩, hw'.below (Below.refl _ _) (Nat.le_refl _) (ge_nil _)⟩
  · obtain ⟨gs, os, cap, rvs, rfl, hR, hrg⟩ := hv.rows hne
    have hlv := (hR.flat (es := 31) hes).1
    have hz0 : ((rows.length : Int) == 0) = false := by
      cases rows with
      | nil => exact absurd rfl hne
      | cons _ _ => simp; omega
    refine Sx.enter (l := [.slice (some ⟨gs, os, none⟩) rows.length cap, .func (.func 35) #[] #[]]) Try.func44 rfl (n := 29) rfl (by simp) ?_
    refine wc_eq (S := SH w []) (SH.refl _) ?_
    refine wc_seq ?_
    refine wc_region ?_
    refine wl_go 1 [(4, .slice none 0 0)] (by kernel_rfl) ?_
    refine nx_list ?_
    refine nx_then ?_
    refine wc_seq ?_
    refine wc_seq ?_
    refine wc_region ?_
    refine wl_go 3 [(10, .bool ((rows.length : Int) == 0)), (9, .int .i64 (rows.length : Int)), (8, .slice (some ⟨gs, os, none⟩) rows.length cap)] (by kernel_rfl) ?_
    rw [show ((rows.length : Int) == 0) = false from hz0]
    refine nx_list ?_
    refine nx_then ?_
    refine wc_cond false (by kernel_rfl) (by kernel_rfl) (fun h => by cases h) (fun _ => ?_)
    refine nx_skip ?_
    refine nx_then ?_
    refine wc_seq ?_
    refine wc_region ?_
    refine wl_go 2 [(12, .int .i64 (rows.length : Int)), (11, .slice (some ⟨gs, os, none⟩) rows.length cap)] (by kernel_rfl) ?_
    refine wl_make (d := 13) (t := 30) 49 zv49 31 456 rows.length (by kernel_rfl) rfl (by kernel_rfl) (by kernel_rfl) (by kernel_rfl) (by kernel_rfl) (by omega) (by omega) ?_
    intro g rv0 hg hcnt0 hlen0
    refine wl_go 1 [(5, .slice (some ⟨g, 0, none⟩) rows.length rows.length)] (by kernel_rfl) ?_
    refine nx_list ?_
    refine nx_then ?_
    refine wc_seq ?_
    refine wc_seq ?_
    refine wc_region ?_
    refine wl_go 3 [(16, .int .i64 0), (15, .int .i64 (rows.length : Int)), (14, .slice (some ⟨gs, os, none⟩) rows.length cap)] (by kernel_rfl) ?_
    refine nx_list ?_
    refine nx_then ?_
    refine wc_block ?_
    refine wc_loop (σ := Ca 49 31 w rows g) (fun x => [(1, .func (.func 35) #[] #[]), (5, .slice (some ⟨g, 0, none⟩) rows.length rows.length), (14, .slice (some ⟨gs, os, none⟩) rows.length cap), (15, .int .i64 (rows.length : Int)), (16, .int .i64 (x.i : Int))]) (fun x => SH x.wb [⟨g, (x.rv.flatten ++ []).toArray, 49⟩]) (fun x => rows.length - x.i) (fun w3 h3 => ⟨⟨0, w, rv0, Nat.zero_le _, hcnt0, hlen0, hg, fun j r v hj => by omega, Below.refl _ _⟩, h3, (subEnv_cons (by kernel_rfl) (subEnv_cons (by kernel_rfl) (subEnv_cons (by kernel_rfl) (subEnv_cons (by kernel_rfl) (subEnv_cons (by kernel_rfl) (subEnv_nil _))))))⟩) (fun x => ?_)
    refine wc_seq ?_
    refine wc_region ?_
    refine wl_go 1 [(17, .bool (decide ((x.i : Int) < (rows.length : Int))))] (by kernel_rfl) ?_
    refine nx_list ?_
    refine nx_then ?_
    refine wc_seq ?_
    refine wc_cond (decide ((x.i : Int) < (rows.length : Int))) (by kernel_rfl) (by kernel_rfl) (fun hc => ?_) (fun hc => ?_)
    · skip
      have hlt : x.i < rows.length := by simpa using hc
      have hr0 : rows[x.i]? = some rows[x.i] := List.getElem?_eq_getElem hlt
      obtain ⟨cs, hcs, h_cs⟩ := hR.get x.i _ hr0
      have l_cs : cs.length = 31 := hlv cs (List.mem_of_getElem? hcs)
      have hrow := x.row (range_row hrg hlv hcs) l_cs (by decide) (x.rv.flatten ++ []).toArray 49
      have hval : x.rv[x.i]? = some (x.rv[x.i]'(by rw [x.hcnt]; exact hlt)) := List.getElem?_eq_getElem _
      have hvl := x.hlen _ (List.mem_of_getElem? hval)
      refine nx_skip ?_
      refine nx_then ?_
      refine wc_seq ?_
      refine wc_block ?_
      refine wc_seq ?_
      refine wc_region ?_
      refine wl_go 1 [(18, .int .i64 (x.i : Int))] (by kernel_rfl) ?_
      refine wl_yl (d := 19) (v := .pointer (some ⟨gs, os + x.i * 31, none⟩)) (by kernel_rfl) (yl_index (E := 49) (b := gs) (off := os) (len := rows.length) (cap := cap) (k := x.i) (es := 31) rfl (by kernel_rfl) (by kernel_rfl) (by kernel_rfl) (by omega)) ?_
      refine wl_yl (d := 20) (v := .agg (cs).toArray) (by kernel_rfl) (yl_loads_im (b := gs) (off := os + x.i * 31) (cs := cs) rfl (by kernel_rfl) hrow.2 (by rw [l_cs]; kernel_rfl) hrow.1) ?_
      refine wl_new (d := 7) zc49 49 (fun r => .pointer (some ⟨r, 0, none⟩)) (by kernel_rfl) (fun r => by kernel_rfl) ?_
      intro r1 hr1
      refine wl_go 1 [(6, .int .i64 (x.i : Int))] (by kernel_rfl) ?_
      refine wl_store (b := r1) (off := 0) (v := .agg (cs).toArray) (c' := cs.toArray) (L' := [⟨r1, cs.toArray, 49⟩, ⟨g, ((x.rv.flatten ++ []).toArray), 49⟩]) 0 (by kernel_rfl) rfl (by kernel_rfl) (by kernel_rfl) rfl (writeAt_all (by rw [l_cs]; kernel_rfl) (by rw [l_cs]; kernel_rfl) (RdL.oneCell h_cs)) rfl ?_
      refine nx_list ?_
      refine nx_then ?_
      refine wc_region ?_
      refine wl_go 3 [(23, .func (.func 35) #[] #[]), (22, .int .i64 (x.i : Int)), (21, .slice (some ⟨g, 0, none⟩) rows.length rows.length)] (by kernel_rfl) ?_
      refine wl_yl (d := 24) (v := .agg (cs).toArray) (by kernel_rfl) (yl_load (b := r1) (off := 0) 0 rfl (by kernel_rfl) rfl (readAt_all (by rw [l_cs]; kernel_rfl))) ?_
      refine wl_callB (X := List Value) (d := 25) (fun x => .agg x.toArray) (fun wa y wz => RdL (fun k => wa.heap.size ≤ k) wz rows[x.i] y ∧ Below wa.heap.size wa wz) (by kernel_rfl) (by kernel_rfl) (fun w1 h1 => one _ (List.getElem_mem hlt) w1 _ cs (h_cs.stays (x.src h1 (ge_cons (Nat.le_trans x.hbel.size hr1) (ge_cons x.hg (ge_nil _)))))) ?_
      rintro w1 m1 w2 h1 ⟨h_m1, hb⟩
      have l_m1 : m1.length = 31 := h_m1.length.symm.trans (hes _ (List.getElem_mem hlt))
      refine wl_eq (S := SH w2 [⟨r1, cs.toArray, 49⟩, ⟨g, ((x.rv.flatten ++ []).toArray), 49⟩]) (h1.after hb) ?_
      refine wl_yl (d := 26) (v := .pointer (some ⟨g, 0 + x.i * 31, none⟩)) (by kernel_rfl) (yl_index (E := 49) (b := g) (off := 0) (len := rows.length) (cap := rows.length) (k := x.i) (es := 31) rfl (by kernel_rfl) (by kernel_rfl) (by kernel_rfl) (by omega)) ?_
      refine wl_store (b := g) (off := 0 + x.i * 31) (v := .agg (m1).toArray) (c' := ((x.rv.set x.i m1).flatten ++ []).toArray) (L' := [⟨r1, cs.toArray, 49⟩, ⟨g, (((x.rv.set x.i m1).flatten ++ []).toArray), 49⟩]) 1 (by kernel_rfl) rfl (by kernel_rfl) (by kernel_rfl) rfl (writeAt_rowAll m1 x.hlen hval (Nat.zero_add _) rfl (by rw [l_m1, hvl]) (by rw [l_m1]; kernel_rfl) (RdL.oneCell h_m1)) rfl ?_
      refine nx_list ?_
      refine nx_block ?_
      refine nx_then ?_
      refine wc_region ?_
      refine wl_yl (d := 27) (v := .int .i64 ((x.i : Int) + 1)) (by kernel_rfl) (yl_int (t := (x.i : Int) + 1) (r := (x.i : Int) + 1) (by kernel_rfl) (i64w (by omega) (by omega))) ?_
      refine wl_go 1 [(16, .int .i64 ((x.i : Int) + 1))] (by kernel_rfl) ?_
      refine nx_list ?_
      exact nx_round_w (fun w3 h3 => ⟨x.next hlt hr0 hr1 h1 hb h_m1 l_m1 h3, (show rows.length - (x.i + 1) < rows.length - x.i by omega), (subEnv_cons (by kernel_rfl) (subEnv_cons (by kernel_rfl) (subEnv_cons (by kernel_rfl) (subEnv_cons (by kernel_rfl) (subEnv_cons (by kernel_rfl) (subEnv_nil _)))))), h3.drop1⟩)
    · skip
      have hge : rows.length ≤ x.i := by simpa using hc
      refine nx_exit ?_
      refine nx_then_exit ?_
      refine nx_then_exit ?_
      refine nx_block_here ?_
      refine nx_then ?_
      refine wc_seq ?_
      refine wc_region ?_
      refine wl_go 2 [(4, .slice (some ⟨g, 0, none⟩) rows.length rows.length), (28, .slice (some ⟨g, 0, none⟩) rows.length rows.length)] (by kernel_rfl) ?_
      refine nx_list ?_
      refine nx_then ?_
      refine nx_ret ?_
      refine ret_tmp (v := .slice (some ⟨g, 0, none⟩) rows.length rows.length) rfl (by kernel_rfl) ?_
      intro w' hw'
      exact ⟨_, rfl, x.done hge (by decide) hw' _, hw'.below x.hbel x.hbel.size (ge_cons x.hg (ge_nil _))⟩

def zv35 : Value := .agg #[.int .i64 0, .bool false, .int .i64 0, .int .i64 0, .string ByteArray.empty, .slice none 0 0, .slice none 0 0, .bool false, .int .i64 0, .int .i64 0, .string ByteArray.empty, .slice none 0 0, .slice none 0 0, .slice none 0 0, .int .i64 0, .int .i64 0, .slice none 0 0, .slice none 0 0, .bool false, .slice none 0 0, .bool false]
def zc35 : Array Value := #[.int .i64 0, .bool false, .int .i64 0, .int .i64 0, .string ByteArray.empty, .slice none 0 0, .slice none 0 0, .bool false, .int .i64 0, .int .i64 0, .string ByteArray.empty, .slice none 0 0, .slice none 0 0, .slice none 0 0, .int .i64 0, .int .i64 0, .slice none 0 0, .slice none 0 0, .bool false, .slice none 0 0, .bool false]
theorem copyAll_9 (rows : List (List D)) (fR : FitR sh by_ rows (sh 9)) (hb : rows.length * 312 ≤ 140737488355328) (one : ∀ r ∈ rows, CopyS Try.prog 45 r) : CopyA Try.prog 63 45 rows := by
  intro w S v hv
  have hv := hv.im
  have hes : ∀ r ∈ rows, r.length = 21 := fun r hr => fR.length r hr
  by_cases hne : rows = []
  · obtain ⟨aa, cap, rfl⟩ := hv.slv
    subst hne
    refine Sx.enter (l := [.slice aa 0 cap, .func (.func 45) #[] #[]]) Try.func63 rfl (n := 29) rfl (by simp) ?_
    refine wc_eq (S := SH w []) (SH.refl _) ?_
    refine wc_seq ?_
    refine wc_region ?_
    refine wl_go 1 [(4, .slice none 0 0)] (by kernel_rfl) ?_
    refine nx_list ?_
    refine nx_then ?_
    refine wc_seq ?_
    refine wc_seq ?_
    refine wc_region ?_
    refine wl_go 3 [(10, .bool true), (9, .int .i64 0), (8, .slice aa 0 cap)] (by kernel_rfl) ?_
    refine nx_list ?_
    refine nx_then ?_
    refine wc_cond true (by kernel_rfl) (by kernel_rfl) (fun _ => ?_) (fun h => by cases h)
    refine wc_seq ?_
    refine wc_region ?_
    refine wl_go 1 [(4, .slice none 0 0)] (by kernel_rfl) ?_
    refine nx_list ?_
    refine nx_then ?_
    refine nx_ret ?_
    refine nx_then_ret ?_
    refine ret_tmp (v := .slice none 0 0) rfl (by kernel_rfl) ?_
    intro w' hw'
    exact ⟨_, rfl, by rw [Rd]; exact ⟨none, 0, rfl, .inl rfl⟩, hw'.below (Below.refl _ _) (Nat.le_refl _) (ge_nil _)⟩
  · obtain ⟨gs, os, cap, rvs, rfl, hR, hrg⟩ := hv.rows hne
    have hlv := (hR.flat (es := 21) hes).1
    have hz0 : ((rows.length : Int) == 0) = false := by
      cases rows with
      | nil => exact absurd rfl hne
      | cons _ _ => simp; omega
    refine Sx.enter (l := [.slice (some ⟨gs, os, none⟩) rows.length cap, .func (.func 45) #[] #[]]) Try.func63 rfl (n := 29) rfl (by simp) ?_
    refine wc_eq (S := SH w []) (SH.refl _) ?_
    refine wc_seq ?_
    refine wc_region ?_
    refine wl_go 1 [(4, .slice none 0 0)] (by kernel_rfl) ?_
    refine nx_list ?_
    refine nx_then ?_
    refine wc_seq ?_
    refine wc_seq ?_
    refine wc_region ?_
    refine wl_go 3 [(10, .bool ((rows.length : Int) == 0)), (9, .int .i64 (rows.length : Int)), (8, .slice (some ⟨gs, os, none⟩) rows.length cap)] (by kernel_rfl) ?_
    rw [show ((rows.length : Int) == 0) = false from hz0]
    refine nx_list ?_
    refine nx_then ?_
    refine wc_cond false (by kernel_rfl) (by kernel_rfl) (fun h => by cases h) (fun _ => ?_)
    refine nx_skip ?_
    refine nx_then ?_
    refine wc_seq ?_
    refine wc_region ?_
    refine wl_go 2 [(12, .int .i64 (rows.length : Int)), (11, .slice (some ⟨gs, os, none⟩) rows.length cap)] (by kernel_rfl) ?_
    refine wl_make (d := 13) (t := 33) 35 zv35 21 312 rows.length (by kernel_rfl) rfl (by kernel_rfl) (by kernel_rfl) (by kernel_rfl) (by kernel_rfl) (by omega) (by omega) ?_
    intro g rv0 hg hcnt0 hlen0
    refine wl_go 1 [(5, .slice (some ⟨g, 0, none⟩) rows.length rows.length)] (by kernel_rfl) ?_
    refine nx_list ?_
    refine nx_then ?_
    refine wc_seq ?_
    refine wc_seq ?_
    refine wc_region ?_
    refine wl_go 3 [(16, .int .i64 0), (15, .int .i64 (rows.length : Int)), (14, .slice (some ⟨gs, os, none⟩) rows.length cap)] (by kernel_rfl) ?_
    refine nx_list ?_
    refine nx_then ?_
    refine wc_block ?_
    refine wc_loop (σ := Ca 35 21 w rows g) (fun x => [(1, .func (.func 45) #[] #[]), (5, .slice (some ⟨g, 0, none⟩) rows.length rows.length), (14, .slice (some ⟨gs, os, none⟩) rows.length cap), (15, .int .i64 (rows.length : Int)), (16, .int .i64 (x.i : Int))]) (fun x => SH x.wb [⟨g, (x.rv.flatten ++ []).toArray, 35⟩]) (fun x => rows.length - x.i) (fun w3 h3 => ⟨⟨0, w, rv0, Nat.zero_le _, hcnt0, hlen0, hg, fun j r v hj => by omega, Below.refl _ _⟩, h3, (subEnv_cons (by kernel_rfl) (subEnv_cons (by kernel_rfl) (subEnv_cons (by kernel_rfl) (subEnv_cons (by kernel_rfl) (subEnv_cons (by kernel_rfl) (subEnv_nil _))))))⟩) (fun x => ?_)
    refine wc_seq ?_
    refine wc_region ?_
    refine wl_go 1 [(17, .bool (decide ((x.i : Int) < (rows.length : Int))))] (by kernel_rfl) ?_
    refine nx_list ?_
    refine nx_then ?_
    refine wc_seq ?_
    refine wc_cond (decide ((x.i : Int) < (rows.length : Int))) (by kernel_rfl) (by kernel_rfl) (fun hc => ?_) (fun hc => ?_)
    · skip
      have hlt : x.i < rows.length := by simpa using hc
      have hr0 : rows[x.i]? = some rows[x.i] := List.getElem?_eq_getElem hlt
      obtain ⟨cs, hcs, h_cs⟩ := hR.get x.i _ hr0
      have l_cs : cs.length = 21 := hlv cs (List.mem_of_getElem? hcs)
      have hrow := x.row (range_row hrg hlv hcs) l_cs (by decide) (x.rv.flatten ++ []).toArray 35
      have hval : x.rv[x.i]? = some (x.rv[x.i]'(by rw [x.hcnt]; exact hlt)) := List.getElem?_eq_getElem _
      have hvl := x.hlen _ (List.mem_of_getElem? hval)
      refine nx_skip ?_
      refine nx_then ?_
      refine wc_seq ?_
      refine wc_block ?_
      refine wc_seq ?_
      refine wc_region ?_
      refine wl_go 1 [(18, .int .i64 (x.i : Int))] (by kernel_rfl) ?_
      refine wl_yl (d := 19) (v := .pointer (some ⟨gs, os + x.i * 21, none⟩)) (by kernel_rfl) (yl_index (E := 35) (b := gs) (off := os) (len := rows.length) (cap := cap) (k := x.i) (es := 21) rfl (by kernel_rfl) (by kernel_rfl) (by kernel_rfl) (by omega)) ?_
      refine wl_yl (d := 20) (v := .agg (cs).toArray) (by kernel_rfl) (yl_loads_im (b := gs) (off := os + x.i * 21) (cs := cs) rfl (by kernel_rfl) hrow.2 (by rw [l_cs]; kernel_rfl) hrow.1) ?_
      refine wl_new (d := 7) zc35 35 (fun r => .pointer (some ⟨r, 0, none⟩)) (by kernel_rfl) (fun r => by kernel_rfl) ?_
      intro r1 hr1
      refine wl_go 1 [(6, .int .i64 (x.i : Int))] (by kernel_rfl) ?_
      refine wl_store (b := r1) (off := 0) (v := .agg (cs).toArray) (c' := cs.toArray) (L' := [⟨r1, cs.toArray, 35⟩, ⟨g, ((x.rv.flatten ++ []).toArray), 35⟩]) 0 (by kernel_rfl) rfl (by kernel_rfl) (by kernel_rfl) rfl (writeAt_all (by rw [l_cs]; kernel_rfl) (by rw [l_cs]; kernel_rfl) (RdL.oneCell h_cs)) rfl ?_
      refine nx_list ?_
      refine nx_then ?_
      refine wc_region ?_
      refine wl_go 3 [(23, .func (.func 45) #[] #[]), (22, .int .i64 (x.i : Int)), (21, .slice (some ⟨g, 0, none⟩) rows.length rows.length)] (by kernel_rfl) ?_
      refine wl_yl (d := 24) (v := .agg (cs).toArray) (by kernel_rfl) (yl_load (b := r1) (off := 0) 0 rfl (by kernel_rfl) rfl (readAt_all (by rw [l_cs]; kernel_rfl))) ?_
      refine wl_callB (X := List Value) (d := 25) (fun x => .agg x.toArray) (fun wa y wz => RdL (fun k => wa.heap.size ≤ k) wz rows[x.i] y ∧ Below wa.heap.size wa wz) (by kernel_rfl) (by kernel_rfl) (fun w1 h1 => one _ (List.getElem_mem hlt) w1 _ cs (h_cs.stays (x.src h1 (ge_cons (Nat.le_trans x.hbel.size hr1) (ge_cons x.hg (ge_nil _)))))) ?_
      rintro w1 m1 w2 h1 ⟨h_m1, hb⟩
      have l_m1 : m1.length = 21 := h_m1.length.symm.trans (hes _ (List.getElem_mem hlt))
      refine wl_eq (S := SH w2 [⟨r1, cs.toArray, 35⟩, ⟨g, ((x.rv.flatten ++ []).toArray), 35⟩]) (h1.after hb) ?_
      refine wl_yl (d := 26) (v := .pointer (some ⟨g, 0 + x.i * 21, none⟩)) (by kernel_rfl) (yl_index (E := 35) (b := g) (off := 0) (len := rows.length) (cap := rows.length) (k := x.i) (es := 21) rfl (by kernel_rfl) (by kernel_rfl) (by kernel_rfl) (by omega)) ?_
      refine wl_store (b := g) (off := 0 + x.i * 21) (v := .agg (m1).toArray) (c' := ((x.rv.set x.i m1).flatten ++ []).toArray) (L' := [⟨r1, cs.toArray, 35⟩, ⟨g, (((x.rv.set x.i m1).flatten ++ []).toArray), 35⟩]) 1 (by kernel_rfl) rfl (by kernel_rfl) (by kernel_rfl) rfl (writeAt_rowAll m1 x.hlen hval (Nat.zero_add _) rfl (by rw [l_m1, hvl]) (by rw [l_m1]; kernel_rfl) (RdL.oneCell h_m1)) rfl ?_
      refine nx_list ?_
      refine nx_block ?_
      refine nx_then ?_
      refine wc_region ?_
      refine wl_yl (d := 27) (v := .int .i64 ((x.i : Int) + 1)) (by kernel_rfl) (yl_int (t := (x.i : Int) + 1) (r := (x.i : Int) + 1) (by kernel_rfl) (i64w (by omega) (by omega))) ?_
      refine wl_go 1 [(16, .int .i64 ((x.i : Int) + 1))] (by kernel_rfl) ?_
      refine nx_list ?_
      exact nx_round_w (fun w3 h3 => ⟨x.next hlt hr0 hr1 h1 hb h_m1 l_m1 h3, (show rows.length - (x.i + 1) < rows.length - x.i by omega), (subEnv_cons (by kernel_rfl) (subEnv_cons (by kernel_rfl) (subEnv_cons (by kernel_rfl) (subEnv_cons (by kernel_rfl) (subEnv_cons (by kernel_rfl) (subEnv_nil _)))))), h3.drop1⟩)
    · skip
      have hge : rows.length ≤ x.i := by simpa using hc
      refine nx_exit ?_
      refine nx_then_exit ?_
      refine nx_then_exit ?_
      refine nx_block_here ?_
      refine nx_then ?_
      refine wc_seq ?_
      refine wc_region ?_
      refine wl_go 2 [(4, .slice (some ⟨g, 0, none⟩) rows.length rows.length), (28, .slice (some ⟨g, 0, none⟩) rows.length rows.length)] (by kernel_rfl) ?_
      refine nx_list ?_
      refine nx_then ?_
      refine nx_ret ?_
      refine ret_tmp (v := .slice (some ⟨g, 0, none⟩) rows.length rows.length) rfl (by kernel_rfl) ?_
      intro w' hw'
      exact ⟨_, rfl, x.done hge (by decide) hw' _, hw'.below x.hbel x.hbel.size (ge_cons x.hg (ge_nil _))⟩

def zv105 : Value := .agg #[.string ByteArray.empty, .int .i64 0, .bool false, .int .i64 0, .int .i64 0, .string ByteArray.empty, .slice none 0 0, .slice none 0 0, .bool false, .int .i64 0, .int .i64 0, .string ByteArray.empty, .slice none 0 0, .slice none 0 0, .slice none 0 0, .int .i64 0, .int .i64 0, .slice none 0 0, .slice none 0 0, .bool false, .slice none 0 0, .bool false]
def zc105 : Array Value := #[.string ByteArray.empty, .int .i64 0, .bool false, .int .i64 0, .int .i64 0, .string ByteArray.empty, .slice none 0 0, .slice none 0 0, .bool false, .int .i64 0, .int .i64 0, .string ByteArray.empty, .slice none 0 0, .slice none 0 0, .slice none 0 0, .int .i64 0, .int .i64 0, .slice none 0 0, .slice none 0 0, .bool false, .slice none 0 0, .bool false]
theorem copyAll_10 (rows : List (List D)) (fR : FitR sh by_ rows (sh 10)) (hb : rows.length * 328 ≤ 140737488355328) (one : ∀ r ∈ rows, CopyS Try.prog 62 r) : CopyA Try.prog 61 62 rows := by
  intro w S v hv
  have hv := hv.im
  have hes : ∀ r ∈ rows, r.length = 22 := fun r hr => fR.length r hr
  by_cases hne : rows = []
  · obtain ⟨aa, cap, rfl⟩ := hv.slv
    subst hne
    refine Sx.enter (l := [.slice aa 0 cap, .func (.func 62) #[] #[]]) Try.func61 rfl (n := 29) rfl (by simp) ?_
    refine wc_eq (S := SH w []) (SH.refl _) ?_
    refine wc_seq ?_
    refine wc_region ?_
    refine wl_go 1 [(4, .slice none 0 0)] (by kernel_rfl) ?_
    refine nx_list ?_
    refine nx_then ?_
    refine wc_seq ?_
    refine wc_seq ?_
    refine wc_region ?_
    refine wl_go 3 [(10, .bool true), (9, .int .i64 0), (8, .slice aa 0 cap)] (by kernel_rfl) ?_
    refine nx_list ?_
    refine nx_then ?_
    refine wc_cond true (by kernel_rfl) (by kernel_rfl) (fun _ => ?_) (fun h => by cases h)
    refine wc_seq ?_
    refine wc_region ?_
    refine wl_go 1 [(4, .slice none 0 0)] (by kernel_rfl) ?_
    refine nx_list ?_
    refine nx_then ?_
    refine nx_ret ?_
    refine nx_then_ret ?_
    refine ret_tmp (v := .slice none 0 0) rfl (by kernel_rfl) ?_
    intro w' hw'
    exact ⟨_, rfl, by rw [Rd]; exact ⟨none, 0, rfl, .inl rfl⟩, hw'.below (Below.refl _ _) (Nat.le_refl _) (ge_nil _)⟩
  · obtain ⟨gs, os, cap, rvs, rfl, hR, hrg⟩ := hv.rows hne
    have hlv := (hR.flat (es := 22) hes).1
    have hz0 : ((rows.length : Int) == 0) = false := by
      cases rows with
      | nil => exact absurd rfl hne
      | cons _ _ => simp; omega
    refine Sx.enter (l := [.slice (some ⟨gs, os, none⟩) rows.length cap, .func (.func 62) #[] #[]]) Try.func61 rfl (n := 29) rfl (by simp) ?_
    refine wc_eq (S := SH w []) (SH.refl _) ?_
    refine wc_seq ?_
    refine wc_region ?_
    refine wl_go 1 [(4, .slice none 0 0)] (by kernel_rfl) ?_
    refine nx_list ?_
    refine nx_then ?_
    refine wc_seq ?_
    refine wc_seq ?_
    refine wc_region ?_
    refine wl_go 3 [(10, .bool ((rows.length : Int) == 0)), (9, .int .i64 (rows.length : Int)), (8, .slice (some ⟨gs, os, none⟩) rows.length cap)] (by kernel_rfl) ?_
    rw [show ((rows.length : Int) == 0) = false from hz0]
    refine nx_list ?_
    refine nx_then ?_
    refine wc_cond false (by kernel_rfl) (by kernel_rfl) (fun h => by cases h) (fun _ => ?_)
    refine nx_skip ?_
    refine nx_then ?_
    refine wc_seq ?_
    refine wc_region ?_
    refine wl_go 2 [(12, .int .i64 (rows.length : Int)), (11, .slice (some ⟨gs, os, none⟩) rows.length cap)] (by kernel_rfl) ?_
    refine wl_make (d := 13) (t := 32) 105 zv105 22 328 rows.length (by kernel_rfl) rfl (by kernel_rfl) (by kernel_rfl) (by kernel_rfl) (by kernel_rfl) (by omega) (by omega) ?_
    intro g rv0 hg hcnt0 hlen0
    refine wl_go 1 [(5, .slice (some ⟨g, 0, none⟩) rows.length rows.length)] (by kernel_rfl) ?_
    refine nx_list ?_
    refine nx_then ?_
    refine wc_seq ?_
    refine wc_seq ?_
    refine wc_region ?_
    refine wl_go 3 [(16, .int .i64 0), (15, .int .i64 (rows.length : Int)), (14, .slice (some ⟨gs, os, none⟩) rows.length cap)] (by kernel_rfl) ?_
    refine nx_list ?_
    refine nx_then ?_
    refine wc_block ?_
    refine wc_loop (σ := Ca 105 22 w rows g) (fun x => [(1, .func (.func 62) #[] #[]), (5, .slice (some ⟨g, 0, none⟩) rows.length rows.length), (14, .slice (some ⟨gs, os, none⟩) rows.length cap), (15, .int .i64 (rows.length : Int)), (16, .int .i64 (x.i : Int))]) (fun x => SH x.wb [⟨g, (x.rv.flatten ++ []).toArray, 105⟩]) (fun x => rows.length - x.i) (fun w3 h3 => ⟨⟨0, w, rv0, Nat.zero_le _, hcnt0, hlen0, hg, fun j r v hj => by omega, Below.refl _ _⟩, h3, (subEnv_cons (by kernel_rfl) (subEnv_cons (by kernel_rfl) (subEnv_cons (by kernel_rfl) (subEnv_cons (by kernel_rfl) (subEnv_cons (by kernel_rfl) (subEnv_nil _))))))⟩) (fun x => ?_)
    refine wc_seq ?_
    refine wc_region ?_
    refine wl_go 1 [(17, .bool (decide ((x.i : Int) < (rows.length : Int))))] (by kernel_rfl) ?_
    refine nx_list ?_
    refine nx_then ?_
    refine wc_seq ?_
    refine wc_cond (decide ((x.i : Int) < (rows.length : Int))) (by kernel_rfl) (by kernel_rfl) (fun hc => ?_) (fun hc => ?_)
    · skip
      have hlt : x.i < rows.length := by simpa using hc
      have hr0 : rows[x.i]? = some rows[x.i] := List.getElem?_eq_getElem hlt
      obtain ⟨cs, hcs, h_cs⟩ := hR.get x.i _ hr0
      have l_cs : cs.length = 22 := hlv cs (List.mem_of_getElem? hcs)
      have hrow := x.row (range_row hrg hlv hcs) l_cs (by decide) (x.rv.flatten ++ []).toArray 105
      have hval : x.rv[x.i]? = some (x.rv[x.i]'(by rw [x.hcnt]; exact hlt)) := List.getElem?_eq_getElem _
      have hvl := x.hlen _ (List.mem_of_getElem? hval)
      refine nx_skip ?_
      refine nx_then ?_
      refine wc_seq ?_
      refine wc_block ?_
      refine wc_seq ?_
      refine wc_region ?_
      refine wl_go 1 [(18, .int .i64 (x.i : Int))] (by kernel_rfl) ?_
      refine wl_yl (d := 19) (v := .pointer (some ⟨gs, os + x.i * 22, none⟩)) (by kernel_rfl) (yl_index (E := 105) (b := gs) (off := os) (len := rows.length) (cap := cap) (k := x.i) (es := 22) rfl (by kernel_rfl) (by kernel_rfl) (by kernel_rfl) (by omega)) ?_
      refine wl_yl (d := 20) (v := .agg (cs).toArray) (by kernel_rfl) (yl_loads_im (b := gs) (off := os + x.i * 22) (cs := cs) rfl (by kernel_rfl) hrow.2 (by rw [l_cs]; kernel_rfl) hrow.1) ?_
      refine wl_new (d := 7) zc105 105 (fun r => .pointer (some ⟨r, 0, none⟩)) (by kernel_rfl) (fun r => by kernel_rfl) ?_
      intro r1 hr1
      refine wl_go 1 [(6, .int .i64 (x.i : Int))] (by kernel_rfl) ?_
      refine wl_store (b := r1) (off := 0) (v := .agg (cs).toArray) (c' := cs.toArray) (L' := [⟨r1, cs.toArray, 105⟩, ⟨g, ((x.rv.flatten ++ []).toArray), 105⟩]) 0 (by kernel_rfl) rfl (by kernel_rfl) (by kernel_rfl) rfl (writeAt_all (by rw [l_cs]; kernel_rfl) (by rw [l_cs]; kernel_rfl) (RdL.oneCell h_cs)) rfl ?_
      refine nx_list ?_
      refine nx_then ?_
      refine wc_region ?_
      refine wl_go 3 [(23, .func (.func 62) #[] #[]), (22, .int .i64 (x.i : Int)), (21, .slice (some ⟨g, 0, none⟩) rows.length rows.length)] (by kernel_rfl) ?_
      refine wl_yl (d := 24) (v := .agg (cs).toArray) (by kernel_rfl) (yl_load (b := r1) (off := 0) 0 rfl (by kernel_rfl) rfl (readAt_all (by rw [l_cs]; kernel_rfl))) ?_
      refine wl_callB (X := List Value) (d := 25) (fun x => .agg x.toArray) (fun wa y wz => RdL (fun k => wa.heap.size ≤ k) wz rows[x.i] y ∧ Below wa.heap.size wa wz) (by kernel_rfl) (by kernel_rfl) (fun w1 h1 => one _ (List.getElem_mem hlt) w1 _ cs (h_cs.stays (x.src h1 (ge_cons (Nat.le_trans x.hbel.size hr1) (ge_cons x.hg (ge_nil _)))))) ?_
      rintro w1 m1 w2 h1 ⟨h_m1, hb⟩
      have l_m1 : m1.length = 22 := h_m1.length.symm.trans (hes _ (List.getElem_mem hlt))
      refine wl_eq (S := SH w2 [⟨r1, cs.toArray, 105⟩, ⟨g, ((x.rv.flatten ++ []).toArray), 105⟩]) (h1.after hb) ?_
      refine wl_yl (d := 26) (v := .pointer (some ⟨g, 0 + x.i * 22, none⟩)) (by kernel_rfl) (yl_index (E := 105) (b := g) (off := 0) (len := rows.length) (cap := rows.length) (k := x.i) (es := 22) rfl (by kernel_rfl) (by kernel_rfl) (by kernel_rfl) (by omega)) ?_
      refine wl_store (b := g) (off := 0 + x.i * 22) (v := .agg (m1).toArray) (c' := ((x.rv.set x.i m1).flatten ++ []).toArray) (L' := [⟨r1, cs.toArray, 105⟩, ⟨g, (((x.rv.set x.i m1).flatten ++ []).toArray), 105⟩]) 1 (by kernel_rfl) rfl (by kernel_rfl) (by kernel_rfl) rfl (writeAt_rowAll m1 x.hlen hval (Nat.zero_add _) rfl (by rw [l_m1, hvl]) (by rw [l_m1]; kernel_rfl) (RdL.oneCell h_m1)) rfl ?_
      refine nx_list ?_
      refine nx_block ?_
      refine nx_then ?_
      refine wc_region ?_
      refine wl_yl (d := 27) (v := .int .i64 ((x.i : Int) + 1)) (by kernel_rfl) (yl_int (t := (x.i : Int) + 1) (r := (x.i : Int) + 1) (by kernel_rfl) (i64w (by omega) (by omega))) ?_
      refine wl_go 1 [(16, .int .i64 ((x.i : Int) + 1))] (by kernel_rfl) ?_
      refine nx_list ?_
      exact nx_round_w (fun w3 h3 => ⟨x.next hlt hr0 hr1 h1 hb h_m1 l_m1 h3, (show rows.length - (x.i + 1) < rows.length - x.i by omega), (subEnv_cons (by kernel_rfl) (subEnv_cons (by kernel_rfl) (subEnv_cons (by kernel_rfl) (subEnv_cons (by kernel_rfl) (subEnv_cons (by kernel_rfl) (subEnv_nil _)))))), h3.drop1⟩)
    · skip
      have hge : rows.length ≤ x.i := by simpa using hc
      refine nx_exit ?_
      refine nx_then_exit ?_
      refine nx_then_exit ?_
      refine nx_block_here ?_
      refine nx_then ?_
      refine wc_seq ?_
      refine wc_region ?_
      refine wl_go 2 [(4, .slice (some ⟨g, 0, none⟩) rows.length rows.length), (28, .slice (some ⟨g, 0, none⟩) rows.length rows.length)] (by kernel_rfl) ?_
      refine nx_list ?_
      refine nx_then ?_
      refine nx_ret ?_
      refine ret_tmp (v := .slice (some ⟨g, 0, none⟩) rows.length rows.length) rfl (by kernel_rfl) ?_
      intro w' hw'
      exact ⟨_, rfl, x.done hge (by decide) hw' _, hw'.below x.hbel x.hbel.size (ge_cons x.hg (ge_nil _))⟩

def zv53 : Value := .agg #[.int .i64 0, .string ByteArray.empty, .int .i64 0, .int .i64 0, .string ByteArray.empty, .slice none 0 0, .slice none 0 0, .int .i64 0, .int .i64 0, .string ByteArray.empty, .slice none 0 0, .slice none 0 0, .int .i64 0, .int .i64 0, .string ByteArray.empty, .slice none 0 0, .slice none 0 0, .string ByteArray.empty, .slice none 0 0, .int .i64 0, .bool false, .int .i64 0, .int .i64 0, .string ByteArray.empty, .slice none 0 0, .slice none 0 0, .bool false, .int .i64 0, .int .i64 0, .string ByteArray.empty, .slice none 0 0, .slice none 0 0, .slice none 0 0, .int .i64 0, .int .i64 0, .slice none 0 0, .slice none 0 0, .bool false, .slice none 0 0, .bool false, .int .i64 0, .int .i64 0, .string ByteArray.empty, .int .i64 0, .slice none 0 0, .bool false, .bool false, .bool false, .int .i64 0, .slice none 0 0, .int .i64 0, .int .i64 0, .string ByteArray.empty, .slice none 0 0, .slice none 0 0, .slice none 0 0, .int .i64 0, .int .i64 0, .int .i64 0, .slice none 0 0, .int .i64 0, .int .i64 0, .slice none 0 0, .string ByteArray.empty, .slice none 0 0, .int .i64 0, .int .i64 0, .string ByteArray.empty, .slice none 0 0, .slice none 0 0, .int .i64 0, .slice none 0 0, .slice none 0 0, .string ByteArray.empty, .int .i64 0, .slice none 0 0, .slice none 0 0, .bool false]
def zc53 : Array Value := #[.int .i64 0, .string ByteArray.empty, .int .i64 0, .int .i64 0, .string ByteArray.empty, .slice none 0 0, .slice none 0 0, .int .i64 0, .int .i64 0, .string ByteArray.empty, .slice none 0 0, .slice none 0 0, .int .i64 0, .int .i64 0, .string ByteArray.empty, .slice none 0 0, .slice none 0 0, .string ByteArray.empty, .slice none 0 0, .int .i64 0, .bool false, .int .i64 0, .int .i64 0, .string ByteArray.empty, .slice none 0 0, .slice none 0 0, .bool false, .int .i64 0, .int .i64 0, .string ByteArray.empty, .slice none 0 0, .slice none 0 0, .slice none 0 0, .int .i64 0, .int .i64 0, .slice none 0 0, .slice none 0 0, .bool false, .slice none 0 0, .bool false, .int .i64 0, .int .i64 0, .string ByteArray.empty, .int .i64 0, .slice none 0 0, .bool false, .bool false, .bool false, .int .i64 0, .slice none 0 0, .int .i64 0, .int .i64 0, .string ByteArray.empty, .slice none 0 0, .slice none 0 0, .slice none 0 0, .int .i64 0, .int .i64 0, .int .i64 0, .slice none 0 0, .int .i64 0, .int .i64 0, .slice none 0 0, .string ByteArray.empty, .slice none 0 0, .int .i64 0, .int .i64 0, .string ByteArray.empty, .slice none 0 0, .slice none 0 0, .int .i64 0, .slice none 0 0, .slice none 0 0, .string ByteArray.empty, .int .i64 0, .slice none 0 0, .slice none 0 0, .bool false]
theorem copyAll_12 (rows : List (List D)) (fR : FitR sh by_ rows (sh 12)) (hb : rows.length * 1168 ≤ 140737488355328) (one : ∀ r ∈ rows, CopyS Try.prog 28 r) : CopyA Try.prog 36 28 rows := by
  intro w S v hv
  have hv := hv.im
  have hes : ∀ r ∈ rows, r.length = 78 := fun r hr => fR.length r hr
  by_cases hne : rows = []
  · obtain ⟨aa, cap, rfl⟩ := hv.slv
    subst hne
    refine Sx.enter (l := [.slice aa 0 cap, .func (.func 28) #[] #[]]) Try.func36 rfl (n := 29) rfl (by simp) ?_
    refine wc_eq (S := SH w []) (SH.refl _) ?_
    refine wc_seq ?_
    refine wc_region ?_
    refine wl_go 1 [(4, .slice none 0 0)] (by kernel_rfl) ?_
    refine nx_list ?_
    refine nx_then ?_
    refine wc_seq ?_
    refine wc_seq ?_
    refine wc_region ?_
    refine wl_go 3 [(10, .bool true), (9, .int .i64 0), (8, .slice aa 0 cap)] (by kernel_rfl) ?_
    refine nx_list ?_
    refine nx_then ?_
    refine wc_cond true (by kernel_rfl) (by kernel_rfl) (fun _ => ?_) (fun h => by cases h)
    refine wc_seq ?_
    refine wc_region ?_
    refine wl_go 1 [(4, .slice none 0 0)] (by kernel_rfl) ?_
    refine nx_list ?_
    refine nx_then ?_
    refine nx_ret ?_
    refine nx_then_ret ?_
    refine ret_tmp (v := .slice none 0 0) rfl (by kernel_rfl) ?_
    intro w' hw'
    exact ⟨_, rfl, by rw [Rd]; exact ⟨none, 0, rfl, .inl rfl⟩, hw'.below (Below.refl _ _) (Nat.le_refl _) (ge_nil _)⟩
  · obtain ⟨gs, os, cap, rvs, rfl, hR, hrg⟩ := hv.rows hne
    have hlv := (hR.flat (es := 78) hes).1
    have hz0 : ((rows.length : Int) == 0) = false := by
      cases rows with
      | nil => exact absurd rfl hne
      | cons _ _ => simp; omega
    refine Sx.enter (l := [.slice (some ⟨gs, os, none⟩) rows.length cap, .func (.func 28) #[] #[]]) Try.func36 rfl (n := 29) rfl (by simp) ?_
    refine wc_eq (S := SH w []) (SH.refl _) ?_
    refine wc_seq ?_
    refine wc_region ?_
    refine wl_go 1 [(4, .slice none 0 0)] (by kernel_rfl) ?_
    refine nx_list ?_
    refine nx_then ?_
    refine wc_seq ?_
    refine wc_seq ?_
    refine wc_region ?_
    refine wl_go 3 [(10, .bool ((rows.length : Int) == 0)), (9, .int .i64 (rows.length : Int)), (8, .slice (some ⟨gs, os, none⟩) rows.length cap)] (by kernel_rfl) ?_
    rw [show ((rows.length : Int) == 0) = false from hz0]
    refine nx_list ?_
    refine nx_then ?_
    refine wc_cond false (by kernel_rfl) (by kernel_rfl) (fun h => by cases h) (fun _ => ?_)
    refine nx_skip ?_
    refine nx_then ?_
    refine wc_seq ?_
    refine wc_region ?_
    refine wl_go 2 [(12, .int .i64 (rows.length : Int)), (11, .slice (some ⟨gs, os, none⟩) rows.length cap)] (by kernel_rfl) ?_
    refine wl_make (d := 13) (t := 50) 53 zv53 78 1168 rows.length (by kernel_rfl) rfl (by kernel_rfl) (by kernel_rfl) (by kernel_rfl) (by kernel_rfl) (by omega) (by omega) ?_
    intro g rv0 hg hcnt0 hlen0
    refine wl_go 1 [(5, .slice (some ⟨g, 0, none⟩) rows.length rows.length)] (by kernel_rfl) ?_
    refine nx_list ?_
    refine nx_then ?_
    refine wc_seq ?_
    refine wc_seq ?_
    refine wc_region ?_
    refine wl_go 3 [(16, .int .i64 0), (15, .int .i64 (rows.length : Int)), (14, .slice (some ⟨gs, os, none⟩) rows.length cap)] (by kernel_rfl) ?_
    refine nx_list ?_
    refine nx_then ?_
    refine wc_block ?_
    refine wc_loop (σ := Ca 53 78 w rows g) (fun x => [(1, .func (.func 28) #[] #[]), (5, .slice (some ⟨g, 0, none⟩) rows.length rows.length), (14, .slice (some ⟨gs, os, none⟩) rows.length cap), (15, .int .i64 (rows.length : Int)), (16, .int .i64 (x.i : Int))]) (fun x => SH x.wb [⟨g, (x.rv.flatten ++ []).toArray, 53⟩]) (fun x => rows.length - x.i) (fun w3 h3 => ⟨⟨0, w, rv0, Nat.zero_le _, hcnt0, hlen0, hg, fun j r v hj => by omega, Below.refl _ _⟩, h3, (subEnv_cons (by kernel_rfl) (subEnv_cons (by kernel_rfl) (subEnv_cons (by kernel_rfl) (subEnv_cons (by kernel_rfl) (subEnv_cons (by kernel_rfl) (subEnv_nil _))))))⟩) (fun x => ?_)
    refine wc_seq ?_
    refine wc_region ?_
    refine wl_go 1 [(17, .bool (decide ((x.i : Int) < (rows.length : Int))))] (by kernel_rfl) ?_
    refine nx_list ?_
    refine nx_then ?_
    refine wc_seq ?_
    refine wc_cond (decide ((x.i : Int) < (rows.length : Int))) (by kernel_rfl) (by kernel_rfl) (fun hc => ?_) (fun hc => ?_)
    · skip
      have hlt : x.i < rows.length := by simpa using hc
      have hr0 : rows[x.i]? = some rows[x.i] := List.getElem?_eq_getElem hlt
      obtain ⟨cs, hcs, h_cs⟩ := hR.get x.i _ hr0
      have l_cs : cs.length = 78 := hlv cs (List.mem_of_getElem? hcs)
      have hrow := x.row (range_row hrg hlv hcs) l_cs (by decide) (x.rv.flatten ++ []).toArray 53
      have hval : x.rv[x.i]? = some (x.rv[x.i]'(by rw [x.hcnt]; exact hlt)) := List.getElem?_eq_getElem _
      have hvl := x.hlen _ (List.mem_of_getElem? hval)
      refine nx_skip ?_
      refine nx_then ?_
      refine wc_seq ?_
      refine wc_block ?_
      refine wc_seq ?_
      refine wc_region ?_
      refine wl_go 1 [(18, .int .i64 (x.i : Int))] (by kernel_rfl) ?_
      refine wl_yl (d := 19) (v := .pointer (some ⟨gs, os + x.i * 78, none⟩)) (by kernel_rfl) (yl_index (E := 53) (b := gs) (off := os) (len := rows.length) (cap := cap) (k := x.i) (es := 78) rfl (by kernel_rfl) (by kernel_rfl) (by kernel_rfl) (by omega)) ?_
      refine wl_yl (d := 20) (v := .agg (cs).toArray) (by kernel_rfl) (yl_loads_im (b := gs) (off := os + x.i * 78) (cs := cs) rfl (by kernel_rfl) hrow.2 (by rw [l_cs]; kernel_rfl) hrow.1) ?_
      refine wl_new (d := 7) zc53 53 (fun r => .pointer (some ⟨r, 0, none⟩)) (by kernel_rfl) (fun r => by kernel_rfl) ?_
      intro r1 hr1
      refine wl_go 1 [(6, .int .i64 (x.i : Int))] (by kernel_rfl) ?_
      refine wl_store (b := r1) (off := 0) (v := .agg (cs).toArray) (c' := cs.toArray) (L' := [⟨r1, cs.toArray, 53⟩, ⟨g, ((x.rv.flatten ++ []).toArray), 53⟩]) 0 (by kernel_rfl) rfl (by kernel_rfl) (by kernel_rfl) rfl (writeAt_all (by rw [l_cs]; kernel_rfl) (by rw [l_cs]; kernel_rfl) (RdL.oneCell h_cs)) rfl ?_
      refine nx_list ?_
      refine nx_then ?_
      refine wc_region ?_
      refine wl_go 3 [(23, .func (.func 28) #[] #[]), (22, .int .i64 (x.i : Int)), (21, .slice (some ⟨g, 0, none⟩) rows.length rows.length)] (by kernel_rfl) ?_
      refine wl_yl (d := 24) (v := .agg (cs).toArray) (by kernel_rfl) (yl_load (b := r1) (off := 0) 0 rfl (by kernel_rfl) rfl (readAt_all (by rw [l_cs]; kernel_rfl))) ?_
      refine wl_callB (X := List Value) (d := 25) (fun x => .agg x.toArray) (fun wa y wz => RdL (fun k => wa.heap.size ≤ k) wz rows[x.i] y ∧ Below wa.heap.size wa wz) (by kernel_rfl) (by kernel_rfl) (fun w1 h1 => one _ (List.getElem_mem hlt) w1 _ cs (h_cs.stays (x.src h1 (ge_cons (Nat.le_trans x.hbel.size hr1) (ge_cons x.hg (ge_nil _)))))) ?_
      rintro w1 m1 w2 h1 ⟨h_m1, hb⟩
      have l_m1 : m1.length = 78 := h_m1.length.symm.trans (hes _ (List.getElem_mem hlt))
      refine wl_eq (S := SH w2 [⟨r1, cs.toArray, 53⟩, ⟨g, ((x.rv.flatten ++ []).toArray), 53⟩]) (h1.after hb) ?_
      refine wl_yl (d := 26) (v := .pointer (some ⟨g, 0 + x.i * 78, none⟩)) (by kernel_rfl) (yl_index (E := 53) (b := g) (off := 0) (len := rows.length) (cap := rows.length) (k := x.i) (es := 78) rfl (by kernel_rfl) (by kernel_rfl) (by kernel_rfl) (by omega)) ?_
      refine wl_store (b := g) (off := 0 + x.i * 78) (v := .agg (m1).toArray) (c' := ((x.rv.set x.i m1).flatten ++ []).toArray) (L' := [⟨r1, cs.toArray, 53⟩, ⟨g, (((x.rv.set x.i m1).flatten ++ []).toArray), 53⟩]) 1 (by kernel_rfl) rfl (by kernel_rfl) (by kernel_rfl) rfl (writeAt_rowAll m1 x.hlen hval (Nat.zero_add _) rfl (by rw [l_m1, hvl]) (by rw [l_m1]; kernel_rfl) (RdL.oneCell h_m1)) rfl ?_
      refine nx_list ?_
      refine nx_block ?_
      refine nx_then ?_
      refine wc_region ?_
      refine wl_yl (d := 27) (v := .int .i64 ((x.i : Int) + 1)) (by kernel_rfl) (yl_int (t := (x.i : Int) + 1) (r := (x.i : Int) + 1) (by kernel_rfl) (i64w (by omega) (by omega))) ?_
      refine wl_go 1 [(16, .int .i64 ((x.i : Int) + 1))] (by kernel_rfl) ?_
      refine nx_list ?_
      exact nx_round_w (fun w3 h3 => ⟨x.next hlt hr0 hr1 h1 hb h_m1 l_m1 h3, (show rows.length - (x.i + 1) < rows.length - x.i by omega), (subEnv_cons (by kernel_rfl) (subEnv_cons (by kernel_rfl) (subEnv_cons (by kernel_rfl) (subEnv_cons (by kernel_rfl) (subEnv_cons (by kernel_rfl) (subEnv_nil _)))))), h3.drop1⟩)
    · skip
      have hge : rows.length ≤ x.i := by simpa using hc
      refine nx_exit ?_
      refine nx_then_exit ?_
      refine nx_then_exit ?_
      refine nx_block_here ?_
      refine nx_then ?_
      refine wc_seq ?_
      refine wc_region ?_
      refine wl_go 2 [(4, .slice (some ⟨g, 0, none⟩) rows.length rows.length), (28, .slice (some ⟨g, 0, none⟩) rows.length rows.length)] (by kernel_rfl) ?_
      refine nx_list ?_
      refine nx_then ?_
      refine nx_ret ?_
      refine ret_tmp (v := .slice (some ⟨g, 0, none⟩) rows.length rows.length) rfl (by kernel_rfl) ?_
      intro w' hw'
      exact ⟨_, rfl, x.done hge (by decide) hw' _, hw'.below x.hbel x.hbel.size (ge_cons x.hg (ge_nil _))⟩

def zv55 : Value := .agg #[.int .i64 0, .int .i64 0, .string ByteArray.empty, .int .i64 0, .int .i64 0, .string ByteArray.empty, .int .i64 0, .int .i64 0, .string ByteArray.empty, .slice none 0 0, .slice none 0 0, .int .i64 0, .int .i64 0, .string ByteArray.empty, .slice none 0 0, .slice none 0 0, .int .i64 0, .int .i64 0, .string ByteArray.empty, .slice none 0 0, .slice none 0 0, .string ByteArray.empty, .slice none 0 0, .int .i64 0, .bool false, .int .i64 0, .int .i64 0, .string ByteArray.empty, .slice none 0 0, .slice none 0 0, .bool false, .int .i64 0, .int .i64 0, .string ByteArray.empty, .slice none 0 0, .slice none 0 0, .slice none 0 0, .int .i64 0, .int .i64 0, .slice none 0 0, .slice none 0 0, .bool false, .slice none 0 0, .bool false, .int .i64 0, .int .i64 0, .string ByteArray.empty, .int .i64 0, .slice none 0 0, .bool false, .bool false, .bool false, .int .i64 0, .slice none 0 0, .int .i64 0, .int .i64 0, .string ByteArray.empty, .slice none 0 0, .slice none 0 0, .slice none 0 0, .int .i64 0, .int .i64 0, .int .i64 0, .slice none 0 0, .int .i64 0, .int .i64 0, .slice none 0 0, .string ByteArray.empty, .slice none 0 0, .int .i64 0, .int .i64 0, .string ByteArray.empty, .slice none 0 0, .slice none 0 0, .int .i64 0, .slice none 0 0, .slice none 0 0, .string ByteArray.empty, .int .i64 0, .slice none 0 0, .slice none 0 0, .bool false]
def zc55 : Array Value := #[.int .i64 0, .int .i64 0, .string ByteArray.empty, .int .i64 0, .int .i64 0, .string ByteArray.empty, .int .i64 0, .int .i64 0, .string ByteArray.empty, .slice none 0 0, .slice none 0 0, .int .i64 0, .int .i64 0, .string ByteArray.empty, .slice none 0 0, .slice none 0 0, .int .i64 0, .int .i64 0, .string ByteArray.empty, .slice none 0 0, .slice none 0 0, .string ByteArray.empty, .slice none 0 0, .int .i64 0, .bool false, .int .i64 0, .int .i64 0, .string ByteArray.empty, .slice none 0 0, .slice none 0 0, .bool false, .int .i64 0, .int .i64 0, .string ByteArray.empty, .slice none 0 0, .slice none 0 0, .slice none 0 0, .int .i64 0, .int .i64 0, .slice none 0 0, .slice none 0 0, .bool false, .slice none 0 0, .bool false, .int .i64 0, .int .i64 0, .string ByteArray.empty, .int .i64 0, .slice none 0 0, .bool false, .bool false, .bool false, .int .i64 0, .slice none 0 0, .int .i64 0, .int .i64 0, .string ByteArray.empty, .slice none 0 0, .slice none 0 0, .slice none 0 0, .int .i64 0, .int .i64 0, .int .i64 0, .slice none 0 0, .int .i64 0, .int .i64 0, .slice none 0 0, .string ByteArray.empty, .slice none 0 0, .int .i64 0, .int .i64 0, .string ByteArray.empty, .slice none 0 0, .slice none 0 0, .int .i64 0, .slice none 0 0, .slice none 0 0, .string ByteArray.empty, .int .i64 0, .slice none 0 0, .slice none 0 0, .bool false]
theorem copyAll_13 (rows : List (List D)) (fR : FitR sh by_ rows (sh 13)) (hb : rows.length * 1208 ≤ 140737488355328) (one : ∀ r ∈ rows, CopyS Try.prog 22 r) : CopyA Try.prog 21 22 rows := by
  intro w S v hv
  have hv := hv.im
  have hes : ∀ r ∈ rows, r.length = 82 := fun r hr => fR.length r hr
  by_cases hne : rows = []
  · obtain ⟨aa, cap, rfl⟩ := hv.slv
    subst hne
    refine Sx.enter (l := [.slice aa 0 cap, .func (.func 22) #[] #[]]) Try.func21 rfl (n := 29) rfl (by simp) ?_
    refine wc_eq (S := SH w []) (SH.refl _) ?_
    refine wc_seq ?_
    refine wc_region ?_
    refine wl_go 1 [(4, .slice none 0 0)] (by kernel_rfl) ?_
    refine nx_list ?_
    refine nx_then ?_
    refine wc_seq ?_
    refine wc_seq ?_
    refine wc_region ?_
    refine wl_go 3 [(10, .bool true), (9, .int .i64 0), (8, .slice aa 0 cap)] (by kernel_rfl) ?_
    refine nx_list ?_
    refine nx_then ?_
    refine wc_cond true (by kernel_rfl) (by kernel_rfl) (fun _ => ?_) (fun h => by cases h)
    refine wc_seq ?_
    refine wc_region ?_
    refine wl_go 1 [(4, .slice none 0 0)] (by kernel_rfl) ?_
    refine nx_list ?_
    refine nx_then ?_
    refine nx_ret ?_
    refine nx_then_ret ?_
    refine ret_tmp (v := .slice none 0 0) rfl (by kernel_rfl) ?_
    intro w' hw'
    exact ⟨_, rfl, by rw [Rd]; exact ⟨none, 0, rfl, .inl rfl⟩, hw'.below (Below.refl _ _) (Nat.le_refl _) (ge_nil _)⟩
  · obtain ⟨gs, os, cap, rvs, rfl, hR, hrg⟩ := hv.rows hne
    have hlv := (hR.flat (es := 82) hes).1
    have hz0 : ((rows.length : Int) == 0) = false := by
      cases rows with
      | nil => exact absurd rfl hne
      | cons _ _ => simp; omega
    refine Sx.enter (l := [.slice (some ⟨gs, os, none⟩) rows.length cap, .func (.func 22) #[] #[]]) Try.func21 rfl (n := 29) rfl (by simp) ?_
    refine wc_eq (S := SH w []) (SH.refl _) ?_
    refine wc_seq ?_
    refine wc_region ?_
    refine wl_go 1 [(4, .slice none 0 0)] (by kernel_rfl) ?_
    refine nx_list ?_
    refine nx_then ?_
    refine wc_seq ?_
    refine wc_seq ?_
    refine wc_region ?_
    refine wl_go 3 [(10, .bool ((rows.length : Int) == 0)), (9, .int .i64 (rows.length : Int)), (8, .slice (some ⟨gs, os, none⟩) rows.length cap)] (by kernel_rfl) ?_
    rw [show ((rows.length : Int) == 0) = false from hz0]
    refine nx_list ?_
    refine nx_then ?_
    refine wc_cond false (by kernel_rfl) (by kernel_rfl) (fun h => by cases h) (fun _ => ?_)
    refine nx_skip ?_
    refine nx_then ?_
    refine wc_seq ?_
    refine wc_region ?_
    refine wl_go 2 [(12, .int .i64 (rows.length : Int)), (11, .slice (some ⟨gs, os, none⟩) rows.length cap)] (by kernel_rfl) ?_
    refine wl_make (d := 13) (t := 22) 55 zv55 82 1208 rows.length (by kernel_rfl) rfl (by kernel_rfl) (by kernel_rfl) (by kernel_rfl) (by kernel_rfl) (by omega) (by omega) ?_
    intro g rv0 hg hcnt0 hlen0
    refine wl_go 1 [(5, .slice (some ⟨g, 0, none⟩) rows.length rows.length)] (by kernel_rfl) ?_
    refine nx_list ?_
    refine nx_then ?_
    refine wc_seq ?_
    refine wc_seq ?_
    refine wc_region ?_
    refine wl_go 3 [(16, .int .i64 0), (15, .int .i64 (rows.length : Int)), (14, .slice (some ⟨gs, os, none⟩) rows.length cap)] (by kernel_rfl) ?_
    refine nx_list ?_
    refine nx_then ?_
    refine wc_block ?_
    refine wc_loop (σ := Ca 55 82 w rows g) (fun x => [(1, .func (.func 22) #[] #[]), (5, .slice (some ⟨g, 0, none⟩) rows.length rows.length), (14, .slice (some ⟨gs, os, none⟩) rows.length cap), (15, .int .i64 (rows.length : Int)), (16, .int .i64 (x.i : Int))]) (fun x => SH x.wb [⟨g, (x.rv.flatten ++ []).toArray, 55⟩]) (fun x => rows.length - x.i) (fun w3 h3 => ⟨⟨0, w, rv0, Nat.zero_le _, hcnt0, hlen0, hg, fun j r v hj => by omega, Below.refl _ _⟩, h3, (subEnv_cons (by kernel_rfl) (subEnv_cons (by kernel_rfl) (subEnv_cons (by kernel_rfl) (subEnv_cons (by kernel_rfl) (subEnv_cons (by kernel_rfl) (subEnv_nil _))))))⟩) (fun x => ?_)
    refine wc_seq ?_
    refine wc_region ?_
    refine wl_go 1 [(17, .bool (decide ((x.i : Int) < (rows.length : Int))))] (by kernel_rfl) ?_
    refine nx_list ?_
    refine nx_then ?_
    refine wc_seq ?_
    refine wc_cond (decide ((x.i : Int) < (rows.length : Int))) (by kernel_rfl) (by kernel_rfl) (fun hc => ?_) (fun hc => ?_)
    · skip
      have hlt : x.i < rows.length := by simpa using hc
      have hr0 : rows[x.i]? = some rows[x.i] := List.getElem?_eq_getElem hlt
      obtain ⟨cs, hcs, h_cs⟩ := hR.get x.i _ hr0
      have l_cs : cs.length = 82 := hlv cs (List.mem_of_getElem? hcs)
      have hrow := x.row (range_row hrg hlv hcs) l_cs (by decide) (x.rv.flatten ++ []).toArray 55
      have hval : x.rv[x.i]? = some (x.rv[x.i]'(by rw [x.hcnt]; exact hlt)) := List.getElem?_eq_getElem _
      have hvl := x.hlen _ (List.mem_of_getElem? hval)
      refine nx_skip ?_
      refine nx_then ?_
      refine wc_seq ?_
      refine wc_block ?_
      refine wc_seq ?_
      refine wc_region ?_
      refine wl_go 1 [(18, .int .i64 (x.i : Int))] (by kernel_rfl) ?_
      refine wl_yl (d := 19) (v := .pointer (some ⟨gs, os + x.i * 82, none⟩)) (by kernel_rfl) (yl_index (E := 55) (b := gs) (off := os) (len := rows.length) (cap := cap) (k := x.i) (es := 82) rfl (by kernel_rfl) (by kernel_rfl) (by kernel_rfl) (by omega)) ?_
      refine wl_yl (d := 20) (v := .agg (cs).toArray) (by kernel_rfl) (yl_loads_im (b := gs) (off := os + x.i * 82) (cs := cs) rfl (by kernel_rfl) hrow.2 (by rw [l_cs]; kernel_rfl) hrow.1) ?_
      refine wl_new (d := 7) zc55 55 (fun r => .pointer (some ⟨r, 0, none⟩)) (by kernel_rfl) (fun r => by kernel_rfl) ?_
      intro r1 hr1
      refine wl_go 1 [(6, .int .i64 (x.i : Int))] (by kernel_rfl) ?_
      refine wl_store (b := r1) (off := 0) (v := .agg (cs).toArray) (c' := cs.toArray) (L' := [⟨r1, cs.toArray, 55⟩, ⟨g, ((x.rv.flatten ++ []).toArray), 55⟩]) 0 (by kernel_rfl) rfl (by kernel_rfl) (by kernel_rfl) rfl (writeAt_all (by rw [l_cs]; kernel_rfl) (by rw [l_cs]; kernel_rfl) (RdL.oneCell h_cs)) rfl ?_
      refine nx_list ?_
      refine nx_then ?_
      refine wc_region ?_
      refine wl_go 3 [(23, .func (.func 22) #[] #[]), (22, .int .i64 (x.i : Int)), (21, .slice (some ⟨g, 0, none⟩) rows.length rows.length)] (by kernel_rfl) ?_
      refine wl_yl (d := 24) (v := .agg (cs).toArray) (by kernel_rfl) (yl_load (b := r1) (off := 0) 0 rfl (by kernel_rfl) rfl (readAt_all (by rw [l_cs]; kernel_rfl))) ?_
      refine wl_callB (X := List Value) (d := 25) (fun x => .agg x.toArray) (fun wa y wz => RdL (fun k => wa.heap.size ≤ k) wz rows[x.i] y ∧ Below wa.heap.size wa wz) (by kernel_rfl) (by kernel_rfl) (fun w1 h1 => one _ (List.getElem_mem hlt) w1 _ cs (h_cs.stays (x.src h1 (ge_cons (Nat.le_trans x.hbel.size hr1) (ge_cons x.hg (ge_nil _)))))) ?_
      rintro w1 m1 w2 h1 ⟨h_m1, hb⟩
      have l_m1 : m1.length = 82 := h_m1.length.symm.trans (hes _ (List.getElem_mem hlt))
      refine wl_eq (S := SH w2 [⟨r1, cs.toArray, 55⟩, ⟨g, ((x.rv.flatten ++ []).toArray), 55⟩]) (h1.after hb) ?_
      refine wl_yl (d := 26) (v := .pointer (some ⟨g, 0 + x.i * 82, none⟩)) (by kernel_rfl) (yl_index (E := 55) (b := g) (off := 0) (len := rows.length) (cap := rows.length) (k := x.i) (es := 82) rfl (by kernel_rfl) (by kernel_rfl) (by kernel_rfl) (by omega)) ?_
      refine wl_store (b := g) (off := 0 + x.i * 82) (v := .agg (m1).toArray) (c' := ((x.rv.set x.i m1).flatten ++ []).toArray) (L' := [⟨r1, cs.toArray, 55⟩, ⟨g, (((x.rv.set x.i m1).flatten ++ []).toArray), 55⟩]) 1 (by kernel_rfl) rfl (by kernel_rfl) (by kernel_rfl) rfl (writeAt_rowAll m1 x.hlen hval (Nat.zero_add _) rfl (by rw [l_m1, hvl]) (by rw [l_m1]; kernel_rfl) (RdL.oneCell h_m1)) rfl ?_
      refine nx_list ?_
      refine nx_block ?_
      refine nx_then ?_
      refine wc_region ?_
      refine wl_yl (d := 27) (v := .int .i64 ((x.i : Int) + 1)) (by kernel_rfl) (yl_int (t := (x.i : Int) + 1) (r := (x.i : Int) + 1) (by kernel_rfl) (i64w (by omega) (by omega))) ?_
      refine wl_go 1 [(16, .int .i64 ((x.i : Int) + 1))] (by kernel_rfl) ?_
      refine nx_list ?_
      exact nx_round_w (fun w3 h3 => ⟨x.next hlt hr0 hr1 h1 hb h_m1 l_m1 h3, (show rows.length - (x.i + 1) < rows.length - x.i by omega), (subEnv_cons (by kernel_rfl) (subEnv_cons (by kernel_rfl) (subEnv_cons (by kernel_rfl) (subEnv_cons (by kernel_rfl) (subEnv_cons (by kernel_rfl) (subEnv_nil _)))))), h3.drop1⟩)
    · skip
      have hge : rows.length ≤ x.i := by simpa using hc
      refine nx_exit ?_
      refine nx_then_exit ?_
      refine nx_then_exit ?_
      refine nx_block_here ?_
      refine nx_then ?_
      refine wc_seq ?_
      refine wc_region ?_
      refine wl_go 2 [(4, .slice (some ⟨g, 0, none⟩) rows.length rows.length), (28, .slice (some ⟨g, 0, none⟩) rows.length rows.length)] (by kernel_rfl) ?_
      refine nx_list ?_
      refine nx_then ?_
      refine nx_ret ?_
      refine ret_tmp (v := .slice (some ⟨g, 0, none⟩) rows.length rows.length) rfl (by kernel_rfl) ?_
      intro w' hw'
      exact ⟨_, rfl, x.done hge (by decide) hw' _, hw'.below x.hbel x.hbel.size (ge_cons x.hg (ge_nil _))⟩

def zc37 : Array Value := #[.string ByteArray.empty, .slice none 0 0, .int .i64 0, .bool false, .int .i64 0, .int .i64 0, .string ByteArray.empty, .slice none 0 0, .slice none 0 0, .bool false, .int .i64 0, .int .i64 0, .string ByteArray.empty, .slice none 0 0, .slice none 0 0, .slice none 0 0, .int .i64 0, .int .i64 0, .slice none 0 0, .slice none 0 0, .bool false, .slice none 0 0, .bool false, .int .i64 0, .int .i64 0]
theorem copyInts_ok (rows : List (List D)) (fR_rows : FitR sh by_ rows (sh 3)) (b_rows : rows.length * 8 ≤ 140737488355328) : CopyV Try.prog 29 rows := by
  intro w S v hr
  have h_v := hr.im
  have hbel := Below.refl w.heap.size w
  refine Sx.enter (l := [v]) Try.func29 rfl (n := 5) rfl (by simp) ?_
  refine wc_eq (S := SH w []) (SH.refl _) ?_
  refine wc_seq ?_
  refine wc_region ?_
  refine wl_go 1 [(2, .slice none 0 0)] (by kernel_rfl) ?_
  refine nx_list ?_
  refine nx_then ?_
  refine wc_seq ?_
  refine wc_region ?_
  refine wl_go 1 [(3, v)] (by kernel_rfl) ?_
  refine wl_appendNil (d := 4) 3 (.int .i64 0) 1 8 rows w.heap.size (by kernel_rfl) rfl (by kernel_rfl) (by kernel_rfl) (by decide) (by kernel_rfl) (by kernel_rfl) (h_v.stays (im_congS (L := []) (L' := []) rfl)) (fun r hr => fR_rows.length r hr) (bareR_of_fit fR_rows (by simp [sh])) hbel.size (by simp only [maxLen]; have := b_rows; omega) b_rows ?_
  intro wq1 vq1 h_vq1 hT0
  have hT := hT0.cong (L0 := []) rfl
  have h_v := h_v.stays hT.stays
  have hbel := hbel.trans (hT0.below hbel.size (ge_nil _))
  refine wl_go 1 [(2, vq1)] (by kernel_rfl) ?_
  refine nx_list ?_
  refine nx_then ?_
  refine nx_ret ?_
  refine ret_tmp (v := vq1) rfl (by kernel_rfl) ?_
  intro w' hw'
  exact ⟨_, rfl, h_vq1.stays (hw'.staysN (L0 := []) rfl), hw'.below hbel hbel.size (ge_nil _)⟩

theorem copyStrings_ok (rows : List (List D)) (fR_rows : FitR sh by_ rows (sh 2)) (b_rows : rows.length * 16 ≤ 140737488355328) : CopyV Try.prog 60 rows := by
  intro w S v hr
  have h_v := hr.im
  have hbel := Below.refl w.heap.size w
  refine Sx.enter (l := [v]) Try.func60 rfl (n := 5) rfl (by simp) ?_
  refine wc_eq (S := SH w []) (SH.refl _) ?_
  refine wc_seq ?_
  refine wc_region ?_
  refine wl_go 1 [(2, .slice none 0 0)] (by kernel_rfl) ?_
  refine nx_list ?_
  refine nx_then ?_
  refine wc_seq ?_
  refine wc_region ?_
  refine wl_go 1 [(3, v)] (by kernel_rfl) ?_
  refine wl_appendNil (d := 4) 9 (.string ByteArray.empty) 1 16 rows w.heap.size (by kernel_rfl) rfl (by kernel_rfl) (by kernel_rfl) (by decide) (by kernel_rfl) (by kernel_rfl) (h_v.stays (im_congS (L := []) (L' := []) rfl)) (fun r hr => fR_rows.length r hr) (bareR_of_fit fR_rows (by simp [sh])) hbel.size (by simp only [maxLen]; have := b_rows; omega) b_rows ?_
  intro wq1 vq1 h_vq1 hT0
  have hT := hT0.cong (L0 := []) rfl
  have h_v := h_v.stays hT.stays
  have hbel := hbel.trans (hT0.below hbel.size (ge_nil _))
  refine wl_go 1 [(2, vq1)] (by kernel_rfl) ?_
  refine nx_list ?_
  refine nx_then ?_
  refine nx_ret ?_
  refine ret_tmp (v := vq1) rfl (by kernel_rfl) ?_
  intro w' hw'
  exact ⟨_, rfl, h_vq1.stays (hw'.staysN (L0 := []) rfl), hw'.below hbel hbel.size (ge_nil _)⟩

theorem copyField_step (ds : List D) (hfit : FitL sh by_ ds (sh 1)) (ih : ∀ (r : List D), szL r < szL ds → FitL sh by_ r shV → CopyS Try.prog 33 r) : CopyS Try.prog 43 ds := by
  intro w S cs hrdS
  have hrd := hrdS.im
  have hbel := Below.refl w.heap.size w
  obtain ⟨d0, e0, rfl, hf0, hft0⟩ := FitL.cons (k := .str) (ks := shV) hfit
  obtain ⟨n0, rfl, _⟩ := Fit.str hf0
  obtain ⟨d1, e1, rfl, hf1, hft1⟩ := FitL.split (ks := shV) (ks' := []) hft0
  obtain rfl := FitL.nil hft1
  obtain ⟨c0, z0, rfl, h_c0, hrd0⟩ := RdL.cons hrd
  obtain ⟨c1, z1, rfl, h_c1, hrd1⟩ := RdL.split hrd0
  have l_c1 : c1.length = 5 := h_c1.length.symm.trans hf1.length
  obtain rfl := RdL.nil hrd1
  rw [show c0 :: (c1 ++ ([])) = List.flatten [[c0], c1] from by simp]
  refine Sx.enter (l := [.agg (List.flatten [[c0], c1]).toArray]) Try.func43 rfl (n := 9) rfl (by simp) ?_
  refine wc_eq (S := SH w []) (SH.refl _) ?_
  refine wc_seq ?_
  refine wc_region ?_
  refine wl_new (d := 1) (List.flatten [[c0], c1]).toArray 89 (fun r => .pointer (some ⟨r, 0, none⟩)) (by kernel_rfl) (fun r => by kernel_rfl) ?_
  intro r1 hr1
  have h_c1 := h_c1.stays (im_more (c := (List.flatten [[c0], c1]).toArray) (t := 89) hr1)
  refine wl_new (d := 2) #[.string ByteArray.empty, .int .i64 0, .int .i64 0, .string ByteArray.empty, .slice none 0 0, .slice none 0 0] 89 (fun r => .pointer (some ⟨r, 0, none⟩)) (by kernel_rfl) (fun r => by kernel_rfl) ?_
  intro r2 hr2
  have h_c1 := h_c1.stays (im_more (c := #[.string ByteArray.empty, .int .i64 0, .int .i64 0, .string ByteArray.empty, .slice none 0 0, .slice none 0 0]) (t := 89) hr2)
  refine nx_list ?_
  refine nx_then ?_
  refine wc_seq ?_
  refine wc_draw 6 (SH w [⟨r2, #[.string ByteArray.empty, .int .i64 0, .int .i64 0, .string ByteArray.empty, .slice none 0 0, .slice none 0 0], 89⟩, ⟨r1, (List.flatten [[c0], c1]).toArray, 89⟩]) rfl (by decide) (fun w h => SH.drew h) ?_
  refine wd_go [0] [(3, .pointer (some ⟨r1, 0, none⟩))] #[true, false, false, false, false, false, false] (f := 5) rfl (by kernel_rfl) (fun w h => h) ?_
  refine wd_yl 1 (d := 4) (v := c0) (f := 4) rfl (by kernel_rfl) (by kernel_rfl) (fun w h => h) (yl_load (b := r1) (off := 0) 1 rfl (by kernel_rfl) rfl (readAt_seg1 0 rfl (by simp [l_c1]) (by kernel_rfl))) ?_
  refine wd_go [2] [(5, .pointer (some ⟨r1, 1, none⟩))] #[true, true, true, false, false, false, false] (f := 3) rfl (by kernel_rfl) (fun w h => h) ?_
  refine wd_yl 3 (d := 6) (v := .agg (c1).toArray) (f := 2) rfl (by kernel_rfl) (by kernel_rfl) (fun w h => h) (yl_load (b := r1) (off := 1) 1 rfl (by kernel_rfl) rfl (readAt_seg 1 rfl (by simp [l_c1]) (by rw [l_c1]; kernel_rfl))) ?_
  refine wd_callB 4 (X := List Value) (d := 7) (fu := 1) (fun x => .agg x.toArray) (fun wa y wz => RdL (fun k => wa.heap.size ≤ k) wz d1 y ∧ Below wa.heap.size wa wz) rfl (by decide) (by kernel_rfl) (by kernel_rfl) (by kernel_rfl) (fun w1 h1 => (ih d1 (by simp only [szL, szL_append, D.sz]; omega) hf1) w1 _ c1 (h_c1.stays (h1.staysC (L0 := (⟨r2, #[.string ByteArray.empty, .int .i64 0, .int .i64 0, .string ByteArray.empty, .slice none 0 0, .slice none 0 0], 89⟩ :: (⟨r1, (List.flatten [[c0], c1]).toArray, 89⟩ :: []))) rfl))) ?_
  rintro wq1 mq1 wq2 h1 ⟨h_mq1, hb⟩
  refine ⟨h1.keep hb, ?_⟩
  have hsubq2 : ∀ q, SH wq2 [⟨r2, #[.string ByteArray.empty, .int .i64 0, .int .i64 0, .string ByteArray.empty, .slice none 0 0, .slice none 0 0], 89⟩, ⟨r1, (List.flatten [[c0], c1]).toArray, 89⟩] q → SH w [⟨r2, #[.string ByteArray.empty, .int .i64 0, .int .i64 0, .string ByteArray.empty, .slice none 0 0, .slice none 0 0], 89⟩, ⟨r1, (List.flatten [[c0], c1]).toArray, 89⟩] q := fun q h => (h1.keep hb).trans h
  have h_mq1 := h_mq1.stays (stays_newN h1 (Nat.le_trans hbel.size h1.size))
  have l_mq1 : mq1.length = 5 := h_mq1.length.symm.trans (h_c1.length.trans l_c1)
  have hT := (h1.tr hb).cong (L0 := (⟨r2, #[.string ByteArray.empty, .int .i64 0, .int .i64 0, .string ByteArray.empty, .slice none 0 0, .slice none 0 0], 89⟩ :: (⟨r1, (List.flatten [[c0], c1]).toArray, 89⟩ :: []))) rfl
  have h_c1 := h_c1.stays hT.stays
  have hbel := h1.belowCall hbel (ge_cons hr2 (ge_cons hr1 (ge_nil _))) hb
  refine wd_eq (T := SH wq2 [⟨r2, #[.string ByteArray.empty, .int .i64 0, .int .i64 0, .string ByteArray.empty, .slice none 0 0, .slice none 0 0], 89⟩, ⟨r1, (List.flatten [[c0], c1]).toArray, 89⟩]) (h1.after hb) ?_
  refine wd_yl 5 (d := 8) (v := .agg (List.flatten [[c0], mq1]).toArray) (f := 0) rfl (by kernel_rfl) (by kernel_rfl) (hsubq2) (yl_build (c := (List.flatten [[c0], mq1]).toArray) zv89 [(0, 1), (1, 5)] [(0, c0), (1, .agg (mq1).toArray)] rfl (by kernel_rfl) (by kernel_rfl) (by kernel_rfl) ((fill_seg (pre := []) (mid := [.string ByteArray.empty]) (post := [.int .i64 0, .int .i64 0, .string ByteArray.empty, .slice none 0 0, .slice none 0 0]) [c0] rfl (Rd.cells h_c0) rfl rfl rfl).trans ((fill_seg (pre := ([c0])) (mid := [.int .i64 0, .int .i64 0, .string ByteArray.empty, .slice none 0 0, .slice none 0 0]) (post := []) mq1 rfl rfl l_mq1 rfl rfl).trans (congrArg some (by simp))))) ?_
  refine wd_done (by kernel_rfl) ?_
  refine wl_store (b := r2) (off := 0) (v := .agg (List.flatten [[c0], mq1]).toArray) (c' := (List.flatten [[c0], mq1]).toArray) (L' := [⟨r2, (List.flatten [[c0], mq1]).toArray, 89⟩, ⟨r1, (List.flatten [[c0], c1]).toArray, 89⟩]) 0 (by kernel_rfl) rfl (by kernel_rfl) (by kernel_rfl) rfl (writeAt_all (by rw [show (List.flatten [[c0], mq1]).length = 6 from by simp [l_mq1]]; kernel_rfl) (by rw [show (List.flatten [[c0], mq1]).length = 6 from by simp [l_mq1]]; kernel_rfl) (oc_cons (fun u hu => by simp only [List.mem_singleton] at hu; subst hu; exact h_c0.oneCell) (oc_cons (RdL.oneCell h_mq1) oc_nil))) rfl ?_
  refine nx_list ?_
  refine nx_on ?_
  refine nx_then ?_
  refine nx_ret ?_
  refine ret_cell (v := .agg (List.flatten [[c0], mq1]).toArray) (b := r2) (off := 0) 0 rfl (by kernel_rfl) rfl (readAt_all (by rw [show (List.flatten [[c0], mq1]).length = 6 from by simp [l_mq1]]; kernel_rfl)) ?_
  intro w' hw'
  refine ⟨_, rfl, ?_, hw'.below hbel hbel.size (ge_cons hr2 (ge_cons hr1 (ge_nil _)))⟩
  rw [show (List.flatten [[c0], mq1] : List Value) = (c0) :: (mq1 ++ ([])) from by simp]
  exact RdL.mk (h_c0.bare rfl) (RdL.append (h_mq1.stays (hw'.staysN (L0 := [⟨r2, #[.string ByteArray.empty, .int .i64 0, .int .i64 0, .string ByteArray.empty, .slice none 0 0, .slice none 0 0], 89⟩, ⟨r1, (List.flatten [[c0], c1]).toArray, 89⟩]) rfl)) (RdL.none))

theorem copyValue_step (ds : List D) (hfit : FitL sh by_ ds shV) (ih : ∀ (r : List D), szL r < szL ds → FitL sh by_ r shV → CopyS Try.prog 33 r) : CopyS Try.prog 33 ds := by
  intro w S cs hrdS
  have hrd := hrdS.im
  have hbel := Below.refl w.heap.size w
  obtain ⟨d0, e0, rfl, hf0, hft0⟩ := FitL.cons (k := .int) (ks := [.int] ++ [.str] ++ [.sl 0] ++ [.sl 1]) hfit
  obtain ⟨n0, rfl, _⟩ := Fit.int hf0
  obtain ⟨d1, e1, rfl, hf1, hft1⟩ := FitL.cons (k := .int) (ks := [.str] ++ [.sl 0] ++ [.sl 1]) hft0
  obtain ⟨n1, rfl, _⟩ := Fit.int hf1
  obtain ⟨d2, e2, rfl, hf2, hft2⟩ := FitL.cons (k := .str) (ks := [.sl 0] ++ [.sl 1]) hft1
  obtain ⟨n2, rfl, _⟩ := Fit.str hf2
  obtain ⟨d3, e3, rfl, hf3, hft3⟩ := FitL.cons (k := .sl 0) (ks := [.sl 1]) hft2
  obtain ⟨rows3, rfl, b_rows3, fR_rows3⟩ := Fit.sl hf3
  have b_rows3 : rows3.length * 80 ≤ 140737488355328 := b_rows3
  obtain ⟨d4, e4, rfl, hf4, hft4⟩ := FitL.cons (k := .sl 1) (ks := []) hft3
  obtain ⟨rows4, rfl, b_rows4, fR_rows4⟩ := Fit.sl hf4
  have b_rows4 : rows4.length * 96 ≤ 140737488355328 := b_rows4
  obtain rfl := FitL.nil hft4
  obtain ⟨c0, z0, rfl, h_c0, hrd0⟩ := RdL.cons hrd
  obtain ⟨c1, z1, rfl, h_c1, hrd1⟩ := RdL.cons hrd0
  obtain ⟨c2, z2, rfl, h_c2, hrd2⟩ := RdL.cons hrd1
  obtain ⟨c3, z3, rfl, h_c3, hrd3⟩ := RdL.cons hrd2
  obtain ⟨c4, z4, rfl, h_c4, hrd4⟩ := RdL.cons hrd3
  obtain rfl := RdL.nil hrd4
  rw [show c0 :: (c1 :: (c2 :: (c3 :: (c4 :: ([]))))) = List.flatten [[c0], [c1], [c2], [c3], [c4]] from by simp]
  refine Sx.enter (l := [.agg (List.flatten [[c0], [c1], [c2], [c3], [c4]]).toArray]) Try.func33 rfl (n := 12) rfl (by simp) ?_
  refine wc_eq (S := SH w []) (SH.refl _) ?_
  refine wc_seq ?_
  refine wc_region ?_
  refine wl_new (d := 1) (List.flatten [[c0], [c1], [c2], [c3], [c4]]).toArray 29 (fun r => .pointer (some ⟨r, 0, none⟩)) (by kernel_rfl) (fun r => by kernel_rfl) ?_
  intro r1 hr1
  have h_c3 := h_c3.stays (im_more (c := (List.flatten [[c0], [c1], [c2], [c3], [c4]]).toArray) (t := 29) hr1)
  have h_c4 := h_c4.stays (im_more (c := (List.flatten [[c0], [c1], [c2], [c3], [c4]]).toArray) (t := 29) hr1)
  refine wl_new (d := 2) #[.int .i64 0, .int .i64 0, .string ByteArray.empty, .slice none 0 0, .slice none 0 0] 29 (fun r => .pointer (some ⟨r, 0, none⟩)) (by kernel_rfl) (fun r => by kernel_rfl) ?_
  intro r2 hr2
  have h_c3 := h_c3.stays (im_more (c := #[.int .i64 0, .int .i64 0, .string ByteArray.empty, .slice none 0 0, .slice none 0 0]) (t := 29) hr2)
  have h_c4 := h_c4.stays (im_more (c := #[.int .i64 0, .int .i64 0, .string ByteArray.empty, .slice none 0 0, .slice none 0 0]) (t := 29) hr2)
  refine nx_list ?_
  refine nx_then ?_
  refine wc_seq ?_
  refine wc_region ?_
  refine wl_go 1 [(3, .pointer (some ⟨r1, 3, none⟩))] (by kernel_rfl) ?_
  refine wl_yl (d := 4) (v := c3) (by kernel_rfl) (yl_load (b := r1) (off := 3) 1 rfl (by kernel_rfl) rfl (readAt_seg1 3 rfl (by simp) (by kernel_rfl))) ?_
  refine wl_callB (X := Value) (d := 5) (fun x => x) (fun wa y wz => Rd (fun k => wa.heap.size ≤ k) wz (.sl rows3) y ∧ Below wa.heap.size wa wz) (by kernel_rfl) (by kernel_rfl) (fun w1 h1 => (copyAll_0 rows3 fR_rows3 b_rows3 (fun r hr => ih r (by have := szR_mem hr; simp only [szL, szL_append, D.sz]; omega) (fR_rows3.mem hr))) w1 _ c3 (h_c3.stays (h1.staysC (L0 := (⟨r2, #[.int .i64 0, .int .i64 0, .string ByteArray.empty, .slice none 0 0, .slice none 0 0], 29⟩ :: (⟨r1, (List.flatten [[c0], [c1], [c2], [c3], [c4]]).toArray, 29⟩ :: []))) rfl))) ?_
  rintro wq1 vq1 wq2 h1 ⟨h_vq1, hb⟩
  have h_vq1 := h_vq1.stays (stays_newN h1 (Nat.le_trans hbel.size h1.size))
  have hT := (h1.tr hb).cong (L0 := (⟨r2, #[.int .i64 0, .int .i64 0, .string ByteArray.empty, .slice none 0 0, .slice none 0 0], 29⟩ :: (⟨r1, (List.flatten [[c0], [c1], [c2], [c3], [c4]]).toArray, 29⟩ :: []))) rfl
  have h_c3 := h_c3.stays hT.stays
  have h_c4 := h_c4.stays hT.stays
  have hbel := h1.belowCall hbel (ge_cons hr2 (ge_cons hr1 (ge_nil _))) hb
  refine wl_eq (S := SH wq2 [⟨r2, #[.int .i64 0, .int .i64 0, .string ByteArray.empty, .slice none 0 0, .slice none 0 0], 29⟩, ⟨r1, (List.flatten [[c0], [c1], [c2], [c3], [c4]]).toArray, 29⟩]) (h1.after hb) ?_
  refine wl_go 1 [(6, .pointer (some ⟨r1, 3, none⟩))] (by kernel_rfl) ?_
  refine wl_store (b := r1) (off := 3) (v := vq1) (c' := (List.flatten [[c0], [c1], [c2], [vq1], [c4]]).toArray) (L' := [⟨r2, #[.int .i64 0, .int .i64 0, .string ByteArray.empty, .slice none 0 0, .slice none 0 0], 29⟩, ⟨r1, (List.flatten [[c0], [c1], [c2], [vq1], [c4]]).toArray, 29⟩]) 1 (by kernel_rfl) rfl (by kernel_rfl) (by kernel_rfl) rfl (writeAt_seg 3 ([vq1]) rfl (by simp) (Rd.cells h_vq1) rfl (by kernel_rfl) (fun u hu => by simp only [List.mem_singleton] at hu; subst hu; exact h_vq1.oneCell) rfl) rfl ?_
  refine nx_list ?_
  refine nx_then ?_
  refine wc_seq ?_
  refine wc_region ?_
  refine wl_go 1 [(7, .pointer (some ⟨r1, 4, none⟩))] (by kernel_rfl) ?_
  refine wl_yl (d := 8) (v := c4) (by kernel_rfl) (yl_load (b := r1) (off := 4) 1 rfl (by kernel_rfl) rfl (readAt_seg1 4 rfl (by simp) (by kernel_rfl))) ?_
  refine wl_callB (X := Value) (d := 9) (fun x => x) (fun wa y wz => Rd (fun k => wa.heap.size ≤ k) wz (.sl rows4) y ∧ Below wa.heap.size wa wz) (by kernel_rfl) (by kernel_rfl) (fun w1 h1 => (copyAll_1 rows4 fR_rows4 b_rows4 (fun r hr => copyField_step r (fR_rows4.mem hr) (fun q hq hfq => ih q (by have := szR_mem hr; simp only [szL, szL_append, D.sz]; omega) hfq))) w1 _ c4 (h_c4.stays (h1.staysC (L0 := [⟨r2, #[.int .i64 0, .int .i64 0, .string ByteArray.empty, .slice none 0 0, .slice none 0 0], 29⟩, ⟨r1, (List.flatten [[c0], [c1], [c2], [c3], [c4]]).toArray, 29⟩]) rfl))) ?_
  rintro wq3 vq2 wq4 h1 ⟨h_vq2, hb⟩
  have h_vq2 := h_vq2.stays (stays_newN h1 (Nat.le_trans hbel.size h1.size))
  have hT := (h1.tr hb).cong (L0 := [⟨r2, #[.int .i64 0, .int .i64 0, .string ByteArray.empty, .slice none 0 0, .slice none 0 0], 29⟩, ⟨r1, (List.flatten [[c0], [c1], [c2], [c3], [c4]]).toArray, 29⟩]) rfl
  have h_c3 := h_c3.stays hT.stays
  have h_c4 := h_c4.stays hT.stays
  have h_vq1 := h_vq1.stays hT.staysN
  have hbel := h1.belowCall hbel (ge_cons hr2 (ge_cons hr1 (ge_nil _))) hb
  refine wl_eq (S := SH wq4 [⟨r2, #[.int .i64 0, .int .i64 0, .string ByteArray.empty, .slice none 0 0, .slice none 0 0], 29⟩, ⟨r1, (List.flatten [[c0], [c1], [c2], [vq1], [c4]]).toArray, 29⟩]) (h1.after hb) ?_
  refine wl_go 1 [(10, .pointer (some ⟨r1, 4, none⟩))] (by kernel_rfl) ?_
  refine wl_store (b := r1) (off := 4) (v := vq2) (c' := (List.flatten [[c0], [c1], [c2], [vq1], [vq2]]).toArray) (L' := [⟨r2, #[.int .i64 0, .int .i64 0, .string ByteArray.empty, .slice none 0 0, .slice none 0 0], 29⟩, ⟨r1, (List.flatten [[c0], [c1], [c2], [vq1], [vq2]]).toArray, 29⟩]) 1 (by kernel_rfl) rfl (by kernel_rfl) (by kernel_rfl) rfl (writeAt_seg 4 ([vq2]) rfl (by simp) (Rd.cells h_vq2) rfl (by kernel_rfl) (fun u hu => by simp only [List.mem_singleton] at hu; subst hu; exact h_vq2.oneCell) rfl) rfl ?_
  refine nx_list ?_
  refine nx_then ?_
  refine wc_seq ?_
  refine wc_region ?_
  refine wl_yl (d := 11) (v := .agg (List.flatten [[c0], [c1], [c2], [vq1], [vq2]]).toArray) (by kernel_rfl) (yl_load (b := r1) (off := 0) 1 rfl (by kernel_rfl) rfl (readAt_all (by rw [show (List.flatten [[c0], [c1], [c2], [vq1], [vq2]]).length = 5 from by simp]; kernel_rfl))) ?_
  refine wl_store (b := r2) (off := 0) (v := .agg (List.flatten [[c0], [c1], [c2], [vq1], [vq2]]).toArray) (c' := (List.flatten [[c0], [c1], [c2], [vq1], [vq2]]).toArray) (L' := [⟨r2, (List.flatten [[c0], [c1], [c2], [vq1], [vq2]]).toArray, 29⟩, ⟨r1, (List.flatten [[c0], [c1], [c2], [vq1], [vq2]]).toArray, 29⟩]) 0 (by kernel_rfl) rfl (by kernel_rfl) (by kernel_rfl) rfl (writeAt_all (by rw [show (List.flatten [[c0], [c1], [c2], [vq1], [vq2]]).length = 5 from by simp]; kernel_rfl) (by rw [show (List.flatten [[c0], [c1], [c2], [vq1], [vq2]]).length = 5 from by simp]; kernel_rfl) (oc_cons (fun u hu => by simp only [List.mem_singleton] at hu; subst hu; exact h_c0.oneCell) (oc_cons (fun u hu => by simp only [List.mem_singleton] at hu; subst hu; exact h_c1.oneCell) (oc_cons (fun u hu => by simp only [List.mem_singleton] at hu; subst hu; exact h_c2.oneCell) (oc_cons (fun u hu => by simp only [List.mem_singleton] at hu; subst hu; exact h_vq1.oneCell) (oc_cons (fun u hu => by simp only [List.mem_singleton] at hu; subst hu; exact h_vq2.oneCell) oc_nil)))))) rfl ?_
  refine nx_list ?_
  refine nx_then ?_
  refine nx_ret ?_
  refine ret_cell (v := .agg (List.flatten [[c0], [c1], [c2], [vq1], [vq2]]).toArray) (b := r2) (off := 0) 0 rfl (by kernel_rfl) rfl (readAt_all (by rw [show (List.flatten [[c0], [c1], [c2], [vq1], [vq2]]).length = 5 from by simp]; kernel_rfl)) ?_
  intro w' hw'
  refine ⟨_, rfl, ?_, hw'.below hbel hbel.size (ge_cons hr2 (ge_cons hr1 (ge_nil _)))⟩
  rw [show (List.flatten [[c0], [c1], [c2], [vq1], [vq2]] : List Value) = (c0) :: ((c1) :: ((c2) :: ((vq1) :: ((vq2) :: ([]))))) from by simp]
  exact RdL.mk (h_c0.bare rfl) (RdL.mk (h_c1.bare rfl) (RdL.mk (h_c2.bare rfl) (RdL.mk (h_vq1.stays (hw'.staysN (L0 := [⟨r2, #[.int .i64 0, .int .i64 0, .string ByteArray.empty, .slice none 0 0, .slice none 0 0], 29⟩, ⟨r1, (List.flatten [[c0], [c1], [c2], [vq1], [c4]]).toArray, 29⟩]) rfl)) (RdL.mk (h_vq2.stays (hw'.staysN (L0 := [⟨r2, #[.int .i64 0, .int .i64 0, .string ByteArray.empty, .slice none 0 0, .slice none 0 0], 29⟩, ⟨r1, (List.flatten [[c0], [c1], [c2], [vq1], [c4]]).toArray, 29⟩]) rfl)) (RdL.none)))))

theorem copyValue_all (ds : List D) (hfit : FitL sh by_ ds shV) : CopyS Try.prog 33 ds := by
  have key : ∀ (m : Nat) (ds : List D), szL ds < m → FitL sh by_ ds shV → CopyS Try.prog 33 ds := by
    intro m
    induction m with
    | zero => intro ds h; omega
    | succ m ih => intro ds h hf; exact copyValue_step ds hf (fun r hr hfr => ih r (by omega) hfr)
  exact key _ ds (Nat.lt_succ_self _) hfit

theorem copyExpr_step (ds : List D) (hfit : FitL sh by_ ds shExpr) (ih : ∀ (r : List D), szL r < szL ds → FitL sh by_ r shExpr → CopyS Try.prog 64 r) : CopyS Try.prog 64 ds := by
  intro w S cs hrdS
  have hrd := hrdS.im
  have hbel := Below.refl w.heap.size w
  obtain ⟨d0, e0, rfl, hf0, hft0⟩ := FitL.cons (k := .int) (ks := [.sl 2] ++ [.str] ++ [.sl 2] ++ shV ++ [.int] ++ [.sl 5]) hfit
  obtain ⟨n0, rfl, _⟩ := Fit.int hf0
  obtain ⟨d1, e1, rfl, hf1, hft1⟩ := FitL.cons (k := .sl 2) (ks := [.str] ++ [.sl 2] ++ shV ++ [.int] ++ [.sl 5]) hft0
  obtain ⟨rows1, rfl, b_rows1, fR_rows1⟩ := Fit.sl hf1
  have b_rows1 : rows1.length * 16 ≤ 140737488355328 := b_rows1
  obtain ⟨d2, e2, rfl, hf2, hft2⟩ := FitL.cons (k := .str) (ks := [.sl 2] ++ shV ++ [.int] ++ [.sl 5]) hft1
  obtain ⟨n2, rfl, _⟩ := Fit.str hf2
  obtain ⟨d3, e3, rfl, hf3, hft3⟩ := FitL.cons (k := .sl 2) (ks := shV ++ [.int] ++ [.sl 5]) hft2
  obtain ⟨rows3, rfl, b_rows3, fR_rows3⟩ := Fit.sl hf3
  have b_rows3 : rows3.length * 16 ≤ 140737488355328 := b_rows3
  obtain ⟨d4, e4, rfl, hf4, hft4⟩ := FitL.split (ks := shV) (ks' := [.int] ++ [.sl 5]) hft3
  obtain ⟨d5, e5, rfl, hf5, hft5⟩ := FitL.cons (k := .int) (ks := [.sl 5]) hft4
  obtain ⟨n5, rfl, _⟩ := Fit.int hf5
  obtain ⟨d6, e6, rfl, hf6, hft6⟩ := FitL.cons (k := .sl 5) (ks := []) hft5
  obtain ⟨rows6, rfl, b_rows6, fR_rows6⟩ := Fit.sl hf6
  have b_rows6 : rows6.length * 184 ≤ 140737488355328 := b_rows6
  obtain rfl := FitL.nil hft6
  obtain ⟨c0, z0, rfl, h_c0, hrd0⟩ := RdL.cons hrd
  obtain ⟨c1, z1, rfl, h_c1, hrd1⟩ := RdL.cons hrd0
  obtain ⟨c2, z2, rfl, h_c2, hrd2⟩ := RdL.cons hrd1
  obtain ⟨c3, z3, rfl, h_c3, hrd3⟩ := RdL.cons hrd2
  obtain ⟨c4, z4, rfl, h_c4, hrd4⟩ := RdL.split hrd3
  have l_c4 : c4.length = 5 := h_c4.length.symm.trans hf4.length
  obtain ⟨c5, z5, rfl, h_c5, hrd5⟩ := RdL.cons hrd4
  obtain ⟨c6, z6, rfl, h_c6, hrd6⟩ := RdL.cons hrd5
  obtain rfl := RdL.nil hrd6
  rw [show c0 :: (c1 :: (c2 :: (c3 :: (c4 ++ (c5 :: (c6 :: ([]))))))) = List.flatten [[c0], [c1], [c2], [c3], c4, [c5], [c6]] from by simp]
  refine Sx.enter (l := [.agg (List.flatten [[c0], [c1], [c2], [c3], c4, [c5], [c6]]).toArray]) Try.func64 rfl (n := 20) rfl (by simp) ?_
  refine wc_eq (S := SH w []) (SH.refl _) ?_
  refine wc_seq ?_
  refine wc_region ?_
  refine wl_new (d := 1) (List.flatten [[c0], [c1], [c2], [c3], c4, [c5], [c6]]).toArray 44 (fun r => .pointer (some ⟨r, 0, none⟩)) (by kernel_rfl) (fun r => by kernel_rfl) ?_
  intro r1 hr1
  have h_c1 := h_c1.stays (im_more (c := (List.flatten [[c0], [c1], [c2], [c3], c4, [c5], [c6]]).toArray) (t := 44) hr1)
  have h_c3 := h_c3.stays (im_more (c := (List.flatten [[c0], [c1], [c2], [c3], c4, [c5], [c6]]).toArray) (t := 44) hr1)
  have h_c4 := h_c4.stays (im_more (c := (List.flatten [[c0], [c1], [c2], [c3], c4, [c5], [c6]]).toArray) (t := 44) hr1)
  have h_c6 := h_c6.stays (im_more (c := (List.flatten [[c0], [c1], [c2], [c3], c4, [c5], [c6]]).toArray) (t := 44) hr1)
  refine wl_new (d := 2) #[.int .i64 0, .slice none 0 0, .string ByteArray.empty, .slice none 0 0, .int .i64 0, .int .i64 0, .string ByteArray.empty, .slice none 0 0, .slice none 0 0, .int .i64 0, .slice none 0 0] 44 (fun r => .pointer (some ⟨r, 0, none⟩)) (by kernel_rfl) (fun r => by kernel_rfl) ?_
  intro r2 hr2
  have h_c1 := h_c1.stays (im_more (c := #[.int .i64 0, .slice none 0 0, .string ByteArray.empty, .slice none 0 0, .int .i64 0, .int .i64 0, .string ByteArray.empty, .slice none 0 0, .slice none 0 0, .int .i64 0, .slice none 0 0]) (t := 44) hr2)
  have h_c3 := h_c3.stays (im_more (c := #[.int .i64 0, .slice none 0 0, .string ByteArray.empty, .slice none 0 0, .int .i64 0, .int .i64 0, .string ByteArray.empty, .slice none 0 0, .slice none 0 0, .int .i64 0, .slice none 0 0]) (t := 44) hr2)
  have h_c4 := h_c4.stays (im_more (c := #[.int .i64 0, .slice none 0 0, .string ByteArray.empty, .slice none 0 0, .int .i64 0, .int .i64 0, .string ByteArray.empty, .slice none 0 0, .slice none 0 0, .int .i64 0, .slice none 0 0]) (t := 44) hr2)
  have h_c6 := h_c6.stays (im_more (c := #[.int .i64 0, .slice none 0 0, .string ByteArray.empty, .slice none 0 0, .int .i64 0, .int .i64 0, .string ByteArray.empty, .slice none 0 0, .slice none 0 0, .int .i64 0, .slice none 0 0]) (t := 44) hr2)
  refine nx_list ?_
  refine nx_then ?_
  refine wc_seq ?_
  refine wc_region ?_
  refine wl_go 1 [(3, .pointer (some ⟨r1, 1, none⟩))] (by kernel_rfl) ?_
  refine wl_yl (d := 4) (v := c1) (by kernel_rfl) (yl_load (b := r1) (off := 1) 1 rfl (by kernel_rfl) rfl (readAt_seg1 1 rfl (by simp [l_c4]) (by kernel_rfl))) ?_
  refine wl_callB (X := Value) (d := 5) (fun x => x) (fun wa y wz => Rd (fun k => wa.heap.size ≤ k) wz (.sl rows1) y ∧ Below wa.heap.size wa wz) (by kernel_rfl) (by kernel_rfl) (fun w1 h1 => (copyStrings_ok rows1 fR_rows1 b_rows1) w1 _ c1 (h_c1.stays (h1.staysC (L0 := (⟨r2, #[.int .i64 0, .slice none 0 0, .string ByteArray.empty, .slice none 0 0, .int .i64 0, .int .i64 0, .string ByteArray.empty, .slice none 0 0, .slice none 0 0, .int .i64 0, .slice none 0 0], 44⟩ :: (⟨r1, (List.flatten [[c0], [c1], [c2], [c3], c4, [c5], [c6]]).toArray, 44⟩ :: []))) rfl))) ?_
  rintro wq1 vq1 wq2 h1 ⟨h_vq1, hb⟩
  have h_vq1 := h_vq1.stays (stays_newN h1 (Nat.le_trans hbel.size h1.size))
  have hT := (h1.tr hb).cong (L0 := (⟨r2, #[.int .i64 0, .slice none 0 0, .string ByteArray.empty, .slice none 0 0, .int .i64 0, .int .i64 0, .string ByteArray.empty, .slice none 0 0, .slice none 0 0, .int .i64 0, .slice none 0 0], 44⟩ :: (⟨r1, (List.flatten [[c0], [c1], [c2], [c3], c4, [c5], [c6]]).toArray, 44⟩ :: []))) rfl
  have h_c1 := h_c1.stays hT.stays
  have h_c3 := h_c3.stays hT.stays
  have h_c4 := h_c4.stays hT.stays
  have h_c6 := h_c6.stays hT.stays
  have hbel := h1.belowCall hbel (ge_cons hr2 (ge_cons hr1 (ge_nil _))) hb
  refine wl_eq (S := SH wq2 [⟨r2, #[.int .i64 0, .slice none 0 0, .string ByteArray.empty, .slice none 0 0, .int .i64 0, .int .i64 0, .string ByteArray.empty, .slice none 0 0, .slice none 0 0, .int .i64 0, .slice none 0 0], 44⟩, ⟨r1, (List.flatten [[c0], [c1], [c2], [c3], c4, [c5], [c6]]).toArray, 44⟩]) (h1.after hb) ?_
  refine wl_go 1 [(6, .pointer (some ⟨r1, 1, none⟩))] (by kernel_rfl) ?_
  refine wl_store (b := r1) (off := 1) (v := vq1) (c' := (List.flatten [[c0], [vq1], [c2], [c3], c4, [c5], [c6]]).toArray) (L' := [⟨r2, #[.int .i64 0, .slice none 0 0, .string ByteArray.empty, .slice none 0 0, .int .i64 0, .int .i64 0, .string ByteArray.empty, .slice none 0 0, .slice none 0 0, .int .i64 0, .slice none 0 0], 44⟩, ⟨r1, (List.flatten [[c0], [vq1], [c2], [c3], c4, [c5], [c6]]).toArray, 44⟩]) 1 (by kernel_rfl) rfl (by kernel_rfl) (by kernel_rfl) rfl (writeAt_seg 1 ([vq1]) rfl (by simp [l_c4]) (Rd.cells h_vq1) rfl (by kernel_rfl) (fun u hu => by simp only [List.mem_singleton] at hu; subst hu; exact h_vq1.oneCell) rfl) rfl ?_
  refine nx_list ?_
  refine nx_then ?_
  refine wc_seq ?_
  refine wc_region ?_
  refine wl_go 1 [(7, .pointer (some ⟨r1, 3, none⟩))] (by kernel_rfl) ?_
  refine wl_yl (d := 8) (v := c3) (by kernel_rfl) (yl_load (b := r1) (off := 3) 1 rfl (by kernel_rfl) rfl (readAt_seg1 3 rfl (by simp [l_c4]) (by kernel_rfl))) ?_
  refine wl_callB (X := Value) (d := 9) (fun x => x) (fun wa y wz => Rd (fun k => wa.heap.size ≤ k) wz (.sl rows3) y ∧ Below wa.heap.size wa wz) (by kernel_rfl) (by kernel_rfl) (fun w1 h1 => (copyStrings_ok rows3 fR_rows3 b_rows3) w1 _ c3 (h_c3.stays (h1.staysC (L0 := [⟨r2, #[.int .i64 0, .slice none 0 0, .string ByteArray.empty, .slice none 0 0, .int .i64 0, .int .i64 0, .string ByteArray.empty, .slice none 0 0, .slice none 0 0, .int .i64 0, .slice none 0 0], 44⟩, ⟨r1, (List.flatten [[c0], [c1], [c2], [c3], c4, [c5], [c6]]).toArray, 44⟩]) rfl))) ?_
  rintro wq3 vq2 wq4 h1 ⟨h_vq2, hb⟩
  have h_vq2 := h_vq2.stays (stays_newN h1 (Nat.le_trans hbel.size h1.size))
  have hT := (h1.tr hb).cong (L0 := [⟨r2, #[.int .i64 0, .slice none 0 0, .string ByteArray.empty, .slice none 0 0, .int .i64 0, .int .i64 0, .string ByteArray.empty, .slice none 0 0, .slice none 0 0, .int .i64 0, .slice none 0 0], 44⟩, ⟨r1, (List.flatten [[c0], [c1], [c2], [c3], c4, [c5], [c6]]).toArray, 44⟩]) rfl
  have h_c1 := h_c1.stays hT.stays
  have h_c3 := h_c3.stays hT.stays
  have h_c4 := h_c4.stays hT.stays
  have h_c6 := h_c6.stays hT.stays
  have h_vq1 := h_vq1.stays hT.staysN
  have hbel := h1.belowCall hbel (ge_cons hr2 (ge_cons hr1 (ge_nil _))) hb
  refine wl_eq (S := SH wq4 [⟨r2, #[.int .i64 0, .slice none 0 0, .string ByteArray.empty, .slice none 0 0, .int .i64 0, .int .i64 0, .string ByteArray.empty, .slice none 0 0, .slice none 0 0, .int .i64 0, .slice none 0 0], 44⟩, ⟨r1, (List.flatten [[c0], [vq1], [c2], [c3], c4, [c5], [c6]]).toArray, 44⟩]) (h1.after hb) ?_
  refine wl_go 1 [(10, .pointer (some ⟨r1, 3, none⟩))] (by kernel_rfl) ?_
  refine wl_store (b := r1) (off := 3) (v := vq2) (c' := (List.flatten [[c0], [vq1], [c2], [vq2], c4, [c5], [c6]]).toArray) (L' := [⟨r2, #[.int .i64 0, .slice none 0 0, .string ByteArray.empty, .slice none 0 0, .int .i64 0, .int .i64 0, .string ByteArray.empty, .slice none 0 0, .slice none 0 0, .int .i64 0, .slice none 0 0], 44⟩, ⟨r1, (List.flatten [[c0], [vq1], [c2], [vq2], c4, [c5], [c6]]).toArray, 44⟩]) 1 (by kernel_rfl) rfl (by kernel_rfl) (by kernel_rfl) rfl (writeAt_seg 3 ([vq2]) rfl (by simp [l_c4]) (Rd.cells h_vq2) rfl (by kernel_rfl) (fun u hu => by simp only [List.mem_singleton] at hu; subst hu; exact h_vq2.oneCell) rfl) rfl ?_
  refine nx_list ?_
  refine nx_then ?_
  refine wc_seq ?_
  refine wc_region ?_
  refine wl_go 1 [(11, .pointer (some ⟨r1, 4, none⟩))] (by kernel_rfl) ?_
  refine wl_yl (d := 12) (v := .agg (c4).toArray) (by kernel_rfl) (yl_load (b := r1) (off := 4) 1 rfl (by kernel_rfl) rfl (readAt_seg 4 rfl (by simp [l_c4]) (by rw [l_c4]; kernel_rfl))) ?_
  refine wl_callB (X := List Value) (d := 13) (fun x => .agg x.toArray) (fun wa y wz => RdL (fun k => wa.heap.size ≤ k) wz d4 y ∧ Below wa.heap.size wa wz) (by kernel_rfl) (by kernel_rfl) (fun w1 h1 => (copyValue_all d4 hf4) w1 _ c4 (h_c4.stays (h1.staysC (L0 := [⟨r2, #[.int .i64 0, .slice none 0 0, .string ByteArray.empty, .slice none 0 0, .int .i64 0, .int .i64 0, .string ByteArray.empty, .slice none 0 0, .slice none 0 0, .int .i64 0, .slice none 0 0], 44⟩, ⟨r1, (List.flatten [[c0], [vq1], [c2], [c3], c4, [c5], [c6]]).toArray, 44⟩]) rfl))) ?_
  rintro wq5 mq3 wq6 h1 ⟨h_mq3, hb⟩
  have h_mq3 := h_mq3.stays (stays_newN h1 (Nat.le_trans hbel.size h1.size))
  have l_mq3 : mq3.length = 5 := h_mq3.length.symm.trans (h_c4.length.trans l_c4)
  have hT := (h1.tr hb).cong (L0 := [⟨r2, #[.int .i64 0, .slice none 0 0, .string ByteArray.empty, .slice none 0 0, .int .i64 0, .int .i64 0, .string ByteArray.empty, .slice none 0 0, .slice none 0 0, .int .i64 0, .slice none 0 0], 44⟩, ⟨r1, (List.flatten [[c0], [vq1], [c2], [c3], c4, [c5], [c6]]).toArray, 44⟩]) rfl
  have h_c1 := h_c1.stays hT.stays
  have h_c3 := h_c3.stays hT.stays
  have h_c4 := h_c4.stays hT.stays
  have h_c6 := h_c6.stays hT.stays
  have h_vq1 := h_vq1.stays hT.staysN
  have h_vq2 := h_vq2.stays hT.staysN
  have hbel := h1.belowCall hbel (ge_cons hr2 (ge_cons hr1 (ge_nil _))) hb
  refine wl_eq (S := SH wq6 [⟨r2, #[.int .i64 0, .slice none 0 0, .string ByteArray.empty, .slice none 0 0, .int .i64 0, .int .i64 0, .string ByteArray.empty, .slice none 0 0, .slice none 0 0, .int .i64 0, .slice none 0 0], 44⟩, ⟨r1, (List.flatten [[c0], [vq1], [c2], [vq2], c4, [c5], [c6]]).toArray, 44⟩]) (h1.after hb) ?_
  refine wl_go 1 [(14, .pointer (some ⟨r1, 4, none⟩))] (by kernel_rfl) ?_
  refine wl_store (b := r1) (off := 4) (v := .agg (mq3).toArray) (c' := (List.flatten [[c0], [vq1], [c2], [vq2], mq3, [c5], [c6]]).toArray) (L' := [⟨r2, #[.int .i64 0, .slice none 0 0, .string ByteArray.empty, .slice none 0 0, .int .i64 0, .int .i64 0, .string ByteArray.empty, .slice none 0 0, .slice none 0 0, .int .i64 0, .slice none 0 0], 44⟩, ⟨r1, (List.flatten [[c0], [vq1], [c2], [vq2], mq3, [c5], [c6]]).toArray, 44⟩]) 1 (by kernel_rfl) rfl (by kernel_rfl) (by kernel_rfl) rfl (writeAt_seg 4 (mq3) rfl (by simp [l_c4]) rfl (by rw [l_mq3, l_c4]) (by rw [l_mq3]; kernel_rfl) (RdL.oneCell h_mq3) rfl) rfl ?_
  refine nx_list ?_
  refine nx_then ?_
  refine wc_seq ?_
  refine wc_region ?_
  refine wl_go 1 [(15, .pointer (some ⟨r1, 10, none⟩))] (by kernel_rfl) ?_
  refine wl_yl (d := 16) (v := c6) (by kernel_rfl) (yl_load (b := r1) (off := 10) 1 rfl (by kernel_rfl) rfl (readAt_seg1 6 rfl (by simp [l_mq3]) (by kernel_rfl))) ?_
  refine wl_callB (X := Value) (d := 17) (fun x => x) (fun wa y wz => Rd (fun k => wa.heap.size ≤ k) wz (.sl rows6) y ∧ Below wa.heap.size wa wz) (by kernel_rfl) (by kernel_rfl) (fun w1 h1 => (copyAll_5 rows6 fR_rows6 b_rows6 (fun r hr => ih r (by have := szR_mem hr; simp only [szL, szL_append, D.sz]; omega) (fR_rows6.mem hr))) w1 _ c6 (h_c6.stays (h1.staysC (L0 := [⟨r2, #[.int .i64 0, .slice none 0 0, .string ByteArray.empty, .slice none 0 0, .int .i64 0, .int .i64 0, .string ByteArray.empty, .slice none 0 0, .slice none 0 0, .int .i64 0, .slice none 0 0], 44⟩, ⟨r1, (List.flatten [[c0], [vq1], [c2], [vq2], c4, [c5], [c6]]).toArray, 44⟩]) rfl))) ?_
  rintro wq7 vq4 wq8 h1 ⟨h_vq4, hb⟩
  have h_vq4 := h_vq4.stays (stays_newN h1 (Nat.le_trans hbel.size h1.size))
  have hT := (h1.tr hb).cong (L0 := [⟨r2, #[.int .i64 0, .slice none 0 0, .string ByteArray.empty, .slice none 0 0, .int .i64 0, .int .i64 0, .string ByteArray.empty, .slice none 0 0, .slice none 0 0, .int .i64 0, .slice none 0 0], 44⟩, ⟨r1, (List.flatten [[c0], [vq1], [c2], [vq2], c4, [c5], [c6]]).toArray, 44⟩]) rfl
  have h_c1 := h_c1.stays hT.stays
  have h_c3 := h_c3.stays hT.stays
  have h_c4 := h_c4.stays hT.stays
  have h_c6 := h_c6.stays hT.stays
  have h_vq1 := h_vq1.stays hT.staysN
  have h_vq2 := h_vq2.stays hT.staysN
  have h_mq3 := h_mq3.stays hT.staysN
  have hbel := h1.belowCall hbel (ge_cons hr2 (ge_cons hr1 (ge_nil _))) hb
  refine wl_eq (S := SH wq8 [⟨r2, #[.int .i64 0, .slice none 0 0, .string ByteArray.empty, .slice none 0 0, .int .i64 0, .int .i64 0, .string ByteArray.empty, .slice none 0 0, .slice none 0 0, .int .i64 0, .slice none 0 0], 44⟩, ⟨r1, (List.flatten [[c0], [vq1], [c2], [vq2], mq3, [c5], [c6]]).toArray, 44⟩]) (h1.after hb) ?_
  refine wl_go 1 [(18, .pointer (some ⟨r1, 10, none⟩))] (by kernel_rfl) ?_
  refine wl_store (b := r1) (off := 10) (v := vq4) (c' := (List.flatten [[c0], [vq1], [c2], [vq2], mq3, [c5], [vq4]]).toArray) (L' := [⟨r2, #[.int .i64 0, .slice none 0 0, .string ByteArray.empty, .slice none 0 0, .int .i64 0, .int .i64 0, .string ByteArray.empty, .slice none 0 0, .slice none 0 0, .int .i64 0, .slice none 0 0], 44⟩, ⟨r1, (List.flatten [[c0], [vq1], [c2], [vq2], mq3, [c5], [vq4]]).toArray, 44⟩]) 1 (by kernel_rfl) rfl (by kernel_rfl) (by kernel_rfl) rfl (writeAt_seg 6 ([vq4]) rfl (by simp [l_mq3]) (Rd.cells h_vq4) rfl (by kernel_rfl) (fun u hu => by simp only [List.mem_singleton] at hu; subst hu; exact h_vq4.oneCell) rfl) rfl ?_
  refine nx_list ?_
  refine nx_then ?_
  refine wc_seq ?_
  refine wc_region ?_
  refine wl_yl (d := 19) (v := .agg (List.flatten [[c0], [vq1], [c2], [vq2], mq3, [c5], [vq4]]).toArray) (by kernel_rfl) (yl_load (b := r1) (off := 0) 1 rfl (by kernel_rfl) rfl (readAt_all (by rw [show (List.flatten [[c0], [vq1], [c2], [vq2], mq3, [c5], [vq4]]).length = 11 from by simp [l_mq3]]; kernel_rfl))) ?_
  refine wl_store (b := r2) (off := 0) (v := .agg (List.flatten [[c0], [vq1], [c2], [vq2], mq3, [c5], [vq4]]).toArray) (c' := (List.flatten [[c0], [vq1], [c2], [vq2], mq3, [c5], [vq4]]).toArray) (L' := [⟨r2, (List.flatten [[c0], [vq1], [c2], [vq2], mq3, [c5], [vq4]]).toArray, 44⟩, ⟨r1, (List.flatten [[c0], [vq1], [c2], [vq2], mq3, [c5], [vq4]]).toArray, 44⟩]) 0 (by kernel_rfl) rfl (by kernel_rfl) (by kernel_rfl) rfl (writeAt_all (by rw [show (List.flatten [[c0], [vq1], [c2], [vq2], mq3, [c5], [vq4]]).length = 11 from by simp [l_mq3]]; kernel_rfl) (by rw [show (List.flatten [[c0], [vq1], [c2], [vq2], mq3, [c5], [vq4]]).length = 11 from by simp [l_mq3]]; kernel_rfl) (oc_cons (fun u hu => by simp only [List.mem_singleton] at hu; subst hu; exact h_c0.oneCell) (oc_cons (fun u hu => by simp only [List.mem_singleton] at hu; subst hu; exact h_vq1.oneCell) (oc_cons (fun u hu => by simp only [List.mem_singleton] at hu; subst hu; exact h_c2.oneCell) (oc_cons (fun u hu => by simp only [List.mem_singleton] at hu; subst hu; exact h_vq2.oneCell) (oc_cons (RdL.oneCell h_mq3) (oc_cons (fun u hu => by simp only [List.mem_singleton] at hu; subst hu; exact h_c5.oneCell) (oc_cons (fun u hu => by simp only [List.mem_singleton] at hu; subst hu; exact h_vq4.oneCell) oc_nil)))))))) rfl ?_
  refine nx_list ?_
  refine nx_then ?_
  refine nx_ret ?_
  refine ret_cell (v := .agg (List.flatten [[c0], [vq1], [c2], [vq2], mq3, [c5], [vq4]]).toArray) (b := r2) (off := 0) 0 rfl (by kernel_rfl) rfl (readAt_all (by rw [show (List.flatten [[c0], [vq1], [c2], [vq2], mq3, [c5], [vq4]]).length = 11 from by simp [l_mq3]]; kernel_rfl)) ?_
  intro w' hw'
  refine ⟨_, rfl, ?_, hw'.below hbel hbel.size (ge_cons hr2 (ge_cons hr1 (ge_nil _)))⟩
  rw [show (List.flatten [[c0], [vq1], [c2], [vq2], mq3, [c5], [vq4]] : List Value) = (c0) :: ((vq1) :: ((c2) :: ((vq2) :: (mq3 ++ ((c5) :: ((vq4) :: ([]))))))) from by simp]
  exact RdL.mk (h_c0.bare rfl) (RdL.mk (h_vq1.stays (hw'.staysN (L0 := [⟨r2, #[.int .i64 0, .slice none 0 0, .string ByteArray.empty, .slice none 0 0, .int .i64 0, .int .i64 0, .string ByteArray.empty, .slice none 0 0, .slice none 0 0, .int .i64 0, .slice none 0 0], 44⟩, ⟨r1, (List.flatten [[c0], [vq1], [c2], [vq2], mq3, [c5], [c6]]).toArray, 44⟩]) rfl)) (RdL.mk (h_c2.bare rfl) (RdL.mk (h_vq2.stays (hw'.staysN (L0 := [⟨r2, #[.int .i64 0, .slice none 0 0, .string ByteArray.empty, .slice none 0 0, .int .i64 0, .int .i64 0, .string ByteArray.empty, .slice none 0 0, .slice none 0 0, .int .i64 0, .slice none 0 0], 44⟩, ⟨r1, (List.flatten [[c0], [vq1], [c2], [vq2], mq3, [c5], [c6]]).toArray, 44⟩]) rfl)) (RdL.append (h_mq3.stays (hw'.staysN (L0 := [⟨r2, #[.int .i64 0, .slice none 0 0, .string ByteArray.empty, .slice none 0 0, .int .i64 0, .int .i64 0, .string ByteArray.empty, .slice none 0 0, .slice none 0 0, .int .i64 0, .slice none 0 0], 44⟩, ⟨r1, (List.flatten [[c0], [vq1], [c2], [vq2], mq3, [c5], [c6]]).toArray, 44⟩]) rfl)) (RdL.mk (h_c5.bare rfl) (RdL.mk (h_vq4.stays (hw'.staysN (L0 := [⟨r2, #[.int .i64 0, .slice none 0 0, .string ByteArray.empty, .slice none 0 0, .int .i64 0, .int .i64 0, .string ByteArray.empty, .slice none 0 0, .slice none 0 0, .int .i64 0, .slice none 0 0], 44⟩, ⟨r1, (List.flatten [[c0], [vq1], [c2], [vq2], mq3, [c5], [c6]]).toArray, 44⟩]) rfl)) (RdL.none)))))))

theorem copyExpr_all (ds : List D) (hfit : FitL sh by_ ds shExpr) : CopyS Try.prog 64 ds := by
  have key : ∀ (m : Nat) (ds : List D), szL ds < m → FitL sh by_ ds shExpr → CopyS Try.prog 64 ds := by
    intro m
    induction m with
    | zero => intro ds h; omega
    | succ m ih => intro ds h hf; exact copyExpr_step ds hf (fun r hr hfr => ih r (by omega) hfr)
  exact key _ ds (Nat.lt_succ_self _) hfit

theorem copyPred_step (ds : List D) (hfit : FitL sh by_ ds shPred) (ih : ∀ (r : List D), szL r < szL ds → FitL sh by_ r shPred → CopyS Try.prog 48 r) : CopyS Try.prog 48 ds := by
  intro w S cs hrdS
  have hrd := hrdS.im
  have hbel := Below.refl w.heap.size w
  obtain ⟨d0, e0, rfl, hf0, hft0⟩ := FitL.cons (k := .int) (ks := [.sl 2] ++ shV ++ [.sl 0] ++ [.int] ++ [.int] ++ [.int] ++ [.sl 4] ++ [.int] ++ shExpr ++ [.sl 6]) hfit
  obtain ⟨n0, rfl, _⟩ := Fit.int hf0
  obtain ⟨d1, e1, rfl, hf1, hft1⟩ := FitL.cons (k := .sl 2) (ks := shV ++ [.sl 0] ++ [.int] ++ [.int] ++ [.int] ++ [.sl 4] ++ [.int] ++ shExpr ++ [.sl 6]) hft0
  obtain ⟨rows1, rfl, b_rows1, fR_rows1⟩ := Fit.sl hf1
  have b_rows1 : rows1.length * 16 ≤ 140737488355328 := b_rows1
  obtain ⟨d2, e2, rfl, hf2, hft2⟩ := FitL.split (ks := shV) (ks' := [.sl 0] ++ [.int] ++ [.int] ++ [.int] ++ [.sl 4] ++ [.int] ++ shExpr ++ [.sl 6]) hft1
  obtain ⟨d3, e3, rfl, hf3, hft3⟩ := FitL.cons (k := .sl 0) (ks := [.int] ++ [.int] ++ [.int] ++ [.sl 4] ++ [.int] ++ shExpr ++ [.sl 6]) hft2
  obtain ⟨rows3, rfl, b_rows3, fR_rows3⟩ := Fit.sl hf3
  have b_rows3 : rows3.length * 80 ≤ 140737488355328 := b_rows3
  obtain ⟨d4, e4, rfl, hf4, hft4⟩ := FitL.cons (k := .int) (ks := [.int] ++ [.int] ++ [.sl 4] ++ [.int] ++ shExpr ++ [.sl 6]) hft3
  obtain ⟨n4, rfl, _⟩ := Fit.int hf4
  obtain ⟨d5, e5, rfl, hf5, hft5⟩ := FitL.cons (k := .int) (ks := [.int] ++ [.sl 4] ++ [.int] ++ shExpr ++ [.sl 6]) hft4
  obtain ⟨n5, rfl, _⟩ := Fit.int hf5
  obtain ⟨d6, e6, rfl, hf6, hft6⟩ := FitL.cons (k := .int) (ks := [.sl 4] ++ [.int] ++ shExpr ++ [.sl 6]) hft5
  obtain ⟨n6, rfl, _⟩ := Fit.int hf6
  obtain ⟨d7, e7, rfl, hf7, hft7⟩ := FitL.cons (k := .sl 4) (ks := [.int] ++ shExpr ++ [.sl 6]) hft6
  obtain ⟨rows7, rfl, b_rows7, fR_rows7⟩ := Fit.sl hf7
  have b_rows7 : rows7.length * 16 ≤ 140737488355328 := b_rows7
  obtain ⟨d8, e8, rfl, hf8, hft8⟩ := FitL.cons (k := .int) (ks := shExpr ++ [.sl 6]) hft7
  obtain ⟨n8, rfl, _⟩ := Fit.int hf8
  obtain ⟨d9, e9, rfl, hf9, hft9⟩ := FitL.split (ks := shExpr) (ks' := [.sl 6]) hft8
  obtain ⟨d10, e10, rfl, hf10, hft10⟩ := FitL.cons (k := .sl 6) (ks := []) hft9
  obtain ⟨rows10, rfl, b_rows10, fR_rows10⟩ := Fit.sl hf10
  have b_rows10 : rows10.length * 400 ≤ 140737488355328 := b_rows10
  obtain rfl := FitL.nil hft10
  obtain ⟨c0, z0, rfl, h_c0, hrd0⟩ := RdL.cons hrd
  obtain ⟨c1, z1, rfl, h_c1, hrd1⟩ := RdL.cons hrd0
  obtain ⟨c2, z2, rfl, h_c2, hrd2⟩ := RdL.split hrd1
  have l_c2 : c2.length = 5 := h_c2.length.symm.trans hf2.length
  obtain ⟨c3, z3, rfl, h_c3, hrd3⟩ := RdL.cons hrd2
  obtain ⟨c4, z4, rfl, h_c4, hrd4⟩ := RdL.cons hrd3
  obtain ⟨c5, z5, rfl, h_c5, hrd5⟩ := RdL.cons hrd4
  obtain ⟨c6, z6, rfl, h_c6, hrd6⟩ := RdL.cons hrd5
  obtain ⟨c7, z7, rfl, h_c7, hrd7⟩ := RdL.cons hrd6
  obtain ⟨c8, z8, rfl, h_c8, hrd8⟩ := RdL.cons hrd7
  obtain ⟨c9, z9, rfl, h_c9, hrd9⟩ := RdL.split hrd8
  have l_c9 : c9.length = 11 := h_c9.length.symm.trans hf9.length
  obtain ⟨c10, z10, rfl, h_c10, hrd10⟩ := RdL.cons hrd9
  obtain rfl := RdL.nil hrd10
  rw [show c0 :: (c1 :: (c2 ++ (c3 :: (c4 :: (c5 :: (c6 :: (c7 :: (c8 :: (c9 ++ (c10 :: ([]))))))))))) = List.flatten [[c0], [c1], c2, [c3], [c4], [c5], [c6], [c7], [c8], c9, [c10]] from by simp]
  refine Sx.enter (l := [.agg (List.flatten [[c0], [c1], c2, [c3], [c4], [c5], [c6], [c7], [c8], c9, [c10]]).toArray]) Try.func48 rfl (n := 30) rfl (by simp) ?_
  refine wc_eq (S := SH w []) (SH.refl _) ?_
  refine wc_seq ?_
  refine wc_region ?_
  refine wl_new (d := 1) (List.flatten [[c0], [c1], c2, [c3], [c4], [c5], [c6], [c7], [c8], c9, [c10]]).toArray 47 (fun r => .pointer (some ⟨r, 0, none⟩)) (by kernel_rfl) (fun r => by kernel_rfl) ?_
  intro r1 hr1
  have h_c1 := h_c1.stays (im_more (c := (List.flatten [[c0], [c1], c2, [c3], [c4], [c5], [c6], [c7], [c8], c9, [c10]]).toArray) (t := 47) hr1)
  have h_c2 := h_c2.stays (im_more (c := (List.flatten [[c0], [c1], c2, [c3], [c4], [c5], [c6], [c7], [c8], c9, [c10]]).toArray) (t := 47) hr1)
  have h_c3 := h_c3.stays (im_more (c := (List.flatten [[c0], [c1], c2, [c3], [c4], [c5], [c6], [c7], [c8], c9, [c10]]).toArray) (t := 47) hr1)
  have h_c7 := h_c7.stays (im_more (c := (List.flatten [[c0], [c1], c2, [c3], [c4], [c5], [c6], [c7], [c8], c9, [c10]]).toArray) (t := 47) hr1)
  have h_c9 := h_c9.stays (im_more (c := (List.flatten [[c0], [c1], c2, [c3], [c4], [c5], [c6], [c7], [c8], c9, [c10]]).toArray) (t := 47) hr1)
  have h_c10 := h_c10.stays (im_more (c := (List.flatten [[c0], [c1], c2, [c3], [c4], [c5], [c6], [c7], [c8], c9, [c10]]).toArray) (t := 47) hr1)
  refine wl_new (d := 2) zc47 47 (fun r => .pointer (some ⟨r, 0, none⟩)) (by kernel_rfl) (fun r => by kernel_rfl) ?_
  intro r2 hr2
  have h_c1 := h_c1.stays (im_more (c := zc47) (t := 47) hr2)
  have h_c2 := h_c2.stays (im_more (c := zc47) (t := 47) hr2)
  have h_c3 := h_c3.stays (im_more (c := zc47) (t := 47) hr2)
  have h_c7 := h_c7.stays (im_more (c := zc47) (t := 47) hr2)
  have h_c9 := h_c9.stays (im_more (c := zc47) (t := 47) hr2)
  have h_c10 := h_c10.stays (im_more (c := zc47) (t := 47) hr2)
  refine nx_list ?_
  refine nx_then ?_
  refine wc_seq ?_
  refine wc_region ?_
  refine wl_go 1 [(3, .pointer (some ⟨r1, 1, none⟩))] (by kernel_rfl) ?_
  refine wl_yl (d := 4) (v := c1) (by kernel_rfl) (yl_load (b := r1) (off := 1) 1 rfl (by kernel_rfl) rfl (readAt_seg1 1 rfl (by simp [l_c2, l_c9]) (by kernel_rfl))) ?_
  refine wl_callB (X := Value) (d := 5) (fun x => x) (fun wa y wz => Rd (fun k => wa.heap.size ≤ k) wz (.sl rows1) y ∧ Below wa.heap.size wa wz) (by kernel_rfl) (by kernel_rfl) (fun w1 h1 => (copyStrings_ok rows1 fR_rows1 b_rows1) w1 _ c1 (h_c1.stays (h1.staysC (L0 := (⟨r2, zc47, 47⟩ :: (⟨r1, (List.flatten [[c0], [c1], c2, [c3], [c4], [c5], [c6], [c7], [c8], c9, [c10]]).toArray, 47⟩ :: []))) rfl))) ?_
  rintro wq1 vq1 wq2 h1 ⟨h_vq1, hb⟩
  have h_vq1 := h_vq1.stays (stays_newN h1 (Nat.le_trans hbel.size h1.size))
  have hT := (h1.tr hb).cong (L0 := (⟨r2, zc47, 47⟩ :: (⟨r1, (List.flatten [[c0], [c1], c2, [c3], [c4], [c5], [c6], [c7], [c8], c9, [c10]]).toArray, 47⟩ :: []))) rfl
  have h_c1 := h_c1.stays hT.stays
  have h_c2 := h_c2.stays hT.stays
  have h_c3 := h_c3.stays hT.stays
  have h_c7 := h_c7.stays hT.stays
  have h_c9 := h_c9.stays hT.stays
  have h_c10 := h_c10.stays hT.stays
  have hbel := h1.belowCall hbel (ge_cons hr2 (ge_cons hr1 (ge_nil _))) hb
  refine wl_eq (S := SH wq2 [⟨r2, zc47, 47⟩, ⟨r1, (List.flatten [[c0], [c1], c2, [c3], [c4], [c5], [c6], [c7], [c8], c9, [c10]]).toArray, 47⟩]) (h1.after hb) ?_
  refine wl_go 1 [(6, .pointer (some ⟨r1, 1, none⟩))] (by kernel_rfl) ?_
  refine wl_store (b := r1) (off := 1) (v := vq1) (c' := (List.flatten [[c0], [vq1], c2, [c3], [c4], [c5], [c6], [c7], [c8], c9, [c10]]).toArray) (L' := [⟨r2, zc47, 47⟩, ⟨r1, (List.flatten [[c0], [vq1], c2, [c3], [c4], [c5], [c6], [c7], [c8], c9, [c10]]).toArray, 47⟩]) 1 (by kernel_rfl) rfl (by kernel_rfl) (by kernel_rfl) rfl (writeAt_seg 1 ([vq1]) rfl (by simp [l_c2, l_c9]) (Rd.cells h_vq1) rfl (by kernel_rfl) (fun u hu => by simp only [List.mem_singleton] at hu; subst hu; exact h_vq1.oneCell) rfl) rfl ?_
  refine nx_list ?_
  refine nx_then ?_
  refine wc_seq ?_
  refine wc_region ?_
  refine wl_go 1 [(7, .pointer (some ⟨r1, 2, none⟩))] (by kernel_rfl) ?_
  refine wl_yl (d := 8) (v := .agg (c2).toArray) (by kernel_rfl) (yl_load (b := r1) (off := 2) 1 rfl (by kernel_rfl) rfl (readAt_seg 2 rfl (by simp [l_c2, l_c9]) (by rw [l_c2]; kernel_rfl))) ?_
  refine wl_callB (X := List Value) (d := 9) (fun x => .agg x.toArray) (fun wa y wz => RdL (fun k => wa.heap.size ≤ k) wz d2 y ∧ Below wa.heap.size wa wz) (by kernel_rfl) (by kernel_rfl) (fun w1 h1 => (copyValue_all d2 hf2) w1 _ c2 (h_c2.stays (h1.staysC (L0 := [⟨r2, zc47, 47⟩, ⟨r1, (List.flatten [[c0], [c1], c2, [c3], [c4], [c5], [c6], [c7], [c8], c9, [c10]]).toArray, 47⟩]) rfl))) ?_
  rintro wq3 mq2 wq4 h1 ⟨h_mq2, hb⟩
  have h_mq2 := h_mq2.stays (stays_newN h1 (Nat.le_trans hbel.size h1.size))
  have l_mq2 : mq2.length = 5 := h_mq2.length.symm.trans (h_c2.length.trans l_c2)
  have hT := (h1.tr hb).cong (L0 := [⟨r2, zc47, 47⟩, ⟨r1, (List.flatten [[c0], [c1], c2, [c3], [c4], [c5], [c6], [c7], [c8], c9, [c10]]).toArray, 47⟩]) rfl
  have h_c1 := h_c1.stays hT.stays
  have h_c2 := h_c2.stays hT.stays
  have h_c3 := h_c3.stays hT.stays
  have h_c7 := h_c7.stays hT.stays
  have h_c9 := h_c9.stays hT.stays
  have h_c10 := h_c10.stays hT.stays
  have h_vq1 := h_vq1.stays hT.staysN
  have hbel := h1.belowCall hbel (ge_cons hr2 (ge_cons hr1 (ge_nil _))) hb
  refine wl_eq (S := SH wq4 [⟨r2, zc47, 47⟩, ⟨r1, (List.flatten [[c0], [vq1], c2, [c3], [c4], [c5], [c6], [c7], [c8], c9, [c10]]).toArray, 47⟩]) (h1.after hb) ?_
  refine wl_go 1 [(10, .pointer (some ⟨r1, 2, none⟩))] (by kernel_rfl) ?_
  refine wl_store (b := r1) (off := 2) (v := .agg (mq2).toArray) (c' := (List.flatten [[c0], [vq1], mq2, [c3], [c4], [c5], [c6], [c7], [c8], c9, [c10]]).toArray) (L' := [⟨r2, zc47, 47⟩, ⟨r1, (List.flatten [[c0], [vq1], mq2, [c3], [c4], [c5], [c6], [c7], [c8], c9, [c10]]).toArray, 47⟩]) 1 (by kernel_rfl) rfl (by kernel_rfl) (by kernel_rfl) rfl (writeAt_seg 2 (mq2) rfl (by simp [l_c2, l_c9]) rfl (by rw [l_mq2, l_c2]) (by rw [l_mq2]; kernel_rfl) (RdL.oneCell h_mq2) rfl) rfl ?_
  refine nx_list ?_
  refine nx_then ?_
  refine wc_seq ?_
  refine wc_region ?_
  refine wl_go 1 [(11, .pointer (some ⟨r1, 7, none⟩))] (by kernel_rfl) ?_
  refine wl_yl (d := 12) (v := c3) (by kernel_rfl) (yl_load (b := r1) (off := 7) 1 rfl (by kernel_rfl) rfl (readAt_seg1 3 rfl (by simp [l_c9, l_mq2]) (by kernel_rfl))) ?_
  refine wl_callB (X := Value) (d := 13) (fun x => x) (fun wa y wz => Rd (fun k => wa.heap.size ≤ k) wz (.sl rows3) y ∧ Below wa.heap.size wa wz) (by kernel_rfl) (by kernel_rfl) (fun w1 h1 => (copyAll_0 rows3 fR_rows3 b_rows3 (fun r hr => copyValue_all r (fR_rows3.mem hr))) w1 _ c3 (h_c3.stays (h1.staysC (L0 := [⟨r2, zc47, 47⟩, ⟨r1, (List.flatten [[c0], [vq1], c2, [c3], [c4], [c5], [c6], [c7], [c8], c9, [c10]]).toArray, 47⟩]) rfl))) ?_
  rintro wq5 vq3 wq6 h1 ⟨h_vq3, hb⟩
  have h_vq3 := h_vq3.stays (stays_newN h1 (Nat.le_trans hbel.size h1.size))
  have hT := (h1.tr hb).cong (L0 := [⟨r2, zc47, 47⟩, ⟨r1, (List.flatten [[c0], [vq1], c2, [c3], [c4], [c5], [c6], [c7], [c8], c9, [c10]]).toArray, 47⟩]) rfl
  have h_c1 := h_c1.stays hT.stays
  have h_c2 := h_c2.stays hT.stays
  have h_c3 := h_c3.stays hT.stays
  have h_c7 := h_c7.stays hT.stays
  have h_c9 := h_c9.stays hT.stays
  have h_c10 := h_c10.stays hT.stays
  have h_vq1 := h_vq1.stays hT.staysN
  have h_mq2 := h_mq2.stays hT.staysN
  have hbel := h1.belowCall hbel (ge_cons hr2 (ge_cons hr1 (ge_nil _))) hb
  refine wl_eq (S := SH wq6 [⟨r2, zc47, 47⟩, ⟨r1, (List.flatten [[c0], [vq1], mq2, [c3], [c4], [c5], [c6], [c7], [c8], c9, [c10]]).toArray, 47⟩]) (h1.after hb) ?_
  refine wl_go 1 [(14, .pointer (some ⟨r1, 7, none⟩))] (by kernel_rfl) ?_
  refine wl_store (b := r1) (off := 7) (v := vq3) (c' := (List.flatten [[c0], [vq1], mq2, [vq3], [c4], [c5], [c6], [c7], [c8], c9, [c10]]).toArray) (L' := [⟨r2, zc47, 47⟩, ⟨r1, (List.flatten [[c0], [vq1], mq2, [vq3], [c4], [c5], [c6], [c7], [c8], c9, [c10]]).toArray, 47⟩]) 1 (by kernel_rfl) rfl (by kernel_rfl) (by kernel_rfl) rfl (writeAt_seg 3 ([vq3]) rfl (by simp [l_c9, l_mq2]) (Rd.cells h_vq3) rfl (by kernel_rfl) (fun u hu => by simp only [List.mem_singleton] at hu; subst hu; exact h_vq3.oneCell) rfl) rfl ?_
  refine nx_list ?_
  refine nx_then ?_
  refine wc_seq ?_
  refine wc_region ?_
  refine wl_go 2 [(16, .pointer (some ⟨r1, 11, none⟩)), (15, .pointer (some ⟨r1, 10, none⟩))] (by kernel_rfl) ?_
  refine wl_yl (d := 17) (v := c7) (by kernel_rfl) (yl_load (b := r1) (off := 11) 1 rfl (by kernel_rfl) rfl (readAt_seg1 7 rfl (by simp [l_c9, l_mq2]) (by kernel_rfl))) ?_
  refine wl_appendNil (d := 18) 133 (.agg #[.int .i64 0, .int .i64 0]) 2 16 rows7 w.heap.size (by kernel_rfl) rfl (by kernel_rfl) (by kernel_rfl) (by decide) (by kernel_rfl) (by kernel_rfl) (h_c7.stays (im_congS (L := [⟨r2, zc47, 47⟩, ⟨r1, (List.flatten [[c0], [vq1], mq2, [c3], [c4], [c5], [c6], [c7], [c8], c9, [c10]]).toArray, 47⟩]) (L' := [⟨r2, zc47, 47⟩, ⟨r1, (List.flatten [[c0], [vq1], mq2, [vq3], [c4], [c5], [c6], [c7], [c8], c9, [c10]]).toArray, 47⟩]) rfl)) (fun r hr => fR_rows7.length r hr) (bareR_of_fit fR_rows7 (by simp [sh])) hbel.size (by simp only [maxLen]; have := b_rows7; omega) b_rows7 ?_
  intro wq7 vq4 h_vq4 hT0
  have hT := hT0.cong (L0 := [⟨r2, zc47, 47⟩, ⟨r1, (List.flatten [[c0], [vq1], mq2, [c3], [c4], [c5], [c6], [c7], [c8], c9, [c10]]).toArray, 47⟩]) rfl
  have h_c1 := h_c1.stays hT.stays
  have h_c2 := h_c2.stays hT.stays
  have h_c3 := h_c3.stays hT.stays
  have h_c7 := h_c7.stays hT.stays
  have h_c9 := h_c9.stays hT.stays
  have h_c10 := h_c10.stays hT.stays
  have h_vq1 := h_vq1.stays hT.staysN
  have h_mq2 := h_mq2.stays hT.staysN
  have h_vq3 := h_vq3.stays hT.staysN
  have hbel := hbel.trans (hT0.below hbel.size (ge_cons hr2 (ge_cons hr1 (ge_nil _))))
  refine wl_go 2 [(20, .pointer (some ⟨r1, 11, none⟩)), (19, .pointer (some ⟨r1, 10, none⟩))] (by kernel_rfl) ?_
  refine wl_store (b := r1) (off := 11) (v := vq4) (c' := (List.flatten [[c0], [vq1], mq2, [vq3], [c4], [c5], [c6], [vq4], [c8], c9, [c10]]).toArray) (L' := [⟨r2, zc47, 47⟩, ⟨r1, (List.flatten [[c0], [vq1], mq2, [vq3], [c4], [c5], [c6], [vq4], [c8], c9, [c10]]).toArray, 47⟩]) 1 (by kernel_rfl) rfl (by kernel_rfl) (by kernel_rfl) rfl (writeAt_seg 7 ([vq4]) rfl (by simp [l_c9, l_mq2]) (Rd.cells h_vq4) rfl (by kernel_rfl) (fun u hu => by simp only [List.mem_singleton] at hu; subst hu; exact h_vq4.oneCell) rfl) rfl ?_
  refine nx_list ?_
  refine nx_then ?_
  refine wc_seq ?_
  refine wc_region ?_
  refine wl_go 1 [(21, .pointer (some ⟨r1, 13, none⟩))] (by kernel_rfl) ?_
  refine wl_yl (d := 22) (v := .agg (c9).toArray) (by kernel_rfl) (yl_load (b := r1) (off := 13) 1 rfl (by kernel_rfl) rfl (readAt_seg 9 rfl (by simp [l_c9, l_mq2]) (by rw [l_c9]; kernel_rfl))) ?_
  refine wl_callB (X := List Value) (d := 23) (fun x => .agg x.toArray) (fun wa y wz => RdL (fun k => wa.heap.size ≤ k) wz d9 y ∧ Below wa.heap.size wa wz) (by kernel_rfl) (by kernel_rfl) (fun w1 h1 => (copyExpr_all d9 hf9) w1 _ c9 (h_c9.stays (h1.staysC (L0 := [⟨r2, zc47, 47⟩, ⟨r1, (List.flatten [[c0], [vq1], mq2, [vq3], [c4], [c5], [c6], [c7], [c8], c9, [c10]]).toArray, 47⟩]) rfl))) ?_
  rintro wq8 mq5 wq9 h1 ⟨h_mq5, hb⟩
  have h_mq5 := h_mq5.stays (stays_newN h1 (Nat.le_trans hbel.size h1.size))
  have l_mq5 : mq5.length = 11 := h_mq5.length.symm.trans (h_c9.length.trans l_c9)
  have hT := (h1.tr hb).cong (L0 := [⟨r2, zc47, 47⟩, ⟨r1, (List.flatten [[c0], [vq1], mq2, [vq3], [c4], [c5], [c6], [c7], [c8], c9, [c10]]).toArray, 47⟩]) rfl
  have h_c1 := h_c1.stays hT.stays
  have h_c2 := h_c2.stays hT.stays
  have h_c3 := h_c3.stays hT.stays
  have h_c7 := h_c7.stays hT.stays
  have h_c9 := h_c9.stays hT.stays
  have h_c10 := h_c10.stays hT.stays
  have h_vq1 := h_vq1.stays hT.staysN
  have h_mq2 := h_mq2.stays hT.staysN
  have h_vq3 := h_vq3.stays hT.staysN
  have h_vq4 := h_vq4.stays hT.staysN
  have hbel := h1.belowCall hbel (ge_cons hr2 (ge_cons hr1 (ge_nil _))) hb
  refine wl_eq (S := SH wq9 [⟨r2, zc47, 47⟩, ⟨r1, (List.flatten [[c0], [vq1], mq2, [vq3], [c4], [c5], [c6], [vq4], [c8], c9, [c10]]).toArray, 47⟩]) (h1.after hb) ?_
  refine wl_go 1 [(24, .pointer (some ⟨r1, 13, none⟩))] (by kernel_rfl) ?_
  refine wl_store (b := r1) (off := 13) (v := .agg (mq5).toArray) (c' := (List.flatten [[c0], [vq1], mq2, [vq3], [c4], [c5], [c6], [vq4], [c8], mq5, [c10]]).toArray) (L' := [⟨r2, zc47, 47⟩, ⟨r1, (List.flatten [[c0], [vq1], mq2, [vq3], [c4], [c5], [c6], [vq4], [c8], mq5, [c10]]).toArray, 47⟩]) 1 (by kernel_rfl) rfl (by kernel_rfl) (by kernel_rfl) rfl (writeAt_seg 9 (mq5) rfl (by simp [l_c9, l_mq2]) rfl (by rw [l_mq5, l_c9]) (by rw [l_mq5]; kernel_rfl) (RdL.oneCell h_mq5) rfl) rfl ?_
  refine nx_list ?_
  refine nx_then ?_
  refine wc_seq ?_
  refine wc_region ?_
  refine wl_go 1 [(25, .pointer (some ⟨r1, 24, none⟩))] (by kernel_rfl) ?_
  refine wl_yl (d := 26) (v := c10) (by kernel_rfl) (yl_load (b := r1) (off := 24) 1 rfl (by kernel_rfl) rfl (readAt_seg1 10 rfl (by simp [l_mq2, l_mq5]) (by kernel_rfl))) ?_
  refine wl_callB (X := Value) (d := 27) (fun x => x) (fun wa y wz => Rd (fun k => wa.heap.size ≤ k) wz (.sl rows10) y ∧ Below wa.heap.size wa wz) (by kernel_rfl) (by kernel_rfl) (fun w1 h1 => (copyAll_6 rows10 fR_rows10 b_rows10 (fun r hr => ih r (by have := szR_mem hr; simp only [szL, szL_append, D.sz]; omega) (fR_rows10.mem hr))) w1 _ c10 (h_c10.stays (h1.staysC (L0 := [⟨r2, zc47, 47⟩, ⟨r1, (List.flatten [[c0], [vq1], mq2, [vq3], [c4], [c5], [c6], [vq4], [c8], c9, [c10]]).toArray, 47⟩]) rfl))) ?_
  rintro wq10 vq6 wq11 h1 ⟨h_vq6, hb⟩
  have h_vq6 := h_vq6.stays (stays_newN h1 (Nat.le_trans hbel.size h1.size))
  have hT := (h1.tr hb).cong (L0 := [⟨r2, zc47, 47⟩, ⟨r1, (List.flatten [[c0], [vq1], mq2, [vq3], [c4], [c5], [c6], [vq4], [c8], c9, [c10]]).toArray, 47⟩]) rfl
  have h_c1 := h_c1.stays hT.stays
  have h_c2 := h_c2.stays hT.stays
  have h_c3 := h_c3.stays hT.stays
  have h_c7 := h_c7.stays hT.stays
  have h_c9 := h_c9.stays hT.stays
  have h_c10 := h_c10.stays hT.stays
  have h_vq1 := h_vq1.stays hT.staysN
  have h_mq2 := h_mq2.stays hT.staysN
  have h_vq3 := h_vq3.stays hT.staysN
  have h_vq4 := h_vq4.stays hT.staysN
  have h_mq5 := h_mq5.stays hT.staysN
  have hbel := h1.belowCall hbel (ge_cons hr2 (ge_cons hr1 (ge_nil _))) hb
  refine wl_eq (S := SH wq11 [⟨r2, zc47, 47⟩, ⟨r1, (List.flatten [[c0], [vq1], mq2, [vq3], [c4], [c5], [c6], [vq4], [c8], mq5, [c10]]).toArray, 47⟩]) (h1.after hb) ?_
  refine wl_go 1 [(28, .pointer (some ⟨r1, 24, none⟩))] (by kernel_rfl) ?_
  refine wl_store (b := r1) (off := 24) (v := vq6) (c' := (List.flatten [[c0], [vq1], mq2, [vq3], [c4], [c5], [c6], [vq4], [c8], mq5, [vq6]]).toArray) (L' := [⟨r2, zc47, 47⟩, ⟨r1, (List.flatten [[c0], [vq1], mq2, [vq3], [c4], [c5], [c6], [vq4], [c8], mq5, [vq6]]).toArray, 47⟩]) 1 (by kernel_rfl) rfl (by kernel_rfl) (by kernel_rfl) rfl (writeAt_seg 10 ([vq6]) rfl (by simp [l_mq2, l_mq5]) (Rd.cells h_vq6) rfl (by kernel_rfl) (fun u hu => by simp only [List.mem_singleton] at hu; subst hu; exact h_vq6.oneCell) rfl) rfl ?_
  refine nx_list ?_
  refine nx_then ?_
  refine wc_seq ?_
  refine wc_region ?_
  refine wl_yl (d := 29) (v := .agg (List.flatten [[c0], [vq1], mq2, [vq3], [c4], [c5], [c6], [vq4], [c8], mq5, [vq6]]).toArray) (by kernel_rfl) (yl_load (b := r1) (off := 0) 1 rfl (by kernel_rfl) rfl (readAt_all (by rw [show (List.flatten [[c0], [vq1], mq2, [vq3], [c4], [c5], [c6], [vq4], [c8], mq5, [vq6]]).length = 25 from by simp [l_mq2, l_mq5]]; kernel_rfl))) ?_
  refine wl_store (b := r2) (off := 0) (v := .agg (List.flatten [[c0], [vq1], mq2, [vq3], [c4], [c5], [c6], [vq4], [c8], mq5, [vq6]]).toArray) (c' := (List.flatten [[c0], [vq1], mq2, [vq3], [c4], [c5], [c6], [vq4], [c8], mq5, [vq6]]).toArray) (L' := [⟨r2, (List.flatten [[c0], [vq1], mq2, [vq3], [c4], [c5], [c6], [vq4], [c8], mq5, [vq6]]).toArray, 47⟩, ⟨r1, (List.flatten [[c0], [vq1], mq2, [vq3], [c4], [c5], [c6], [vq4], [c8], mq5, [vq6]]).toArray, 47⟩]) 0 (by kernel_rfl) rfl (by kernel_rfl) (by kernel_rfl) rfl (writeAt_all (by rw [show (List.flatten [[c0], [vq1], mq2, [vq3], [c4], [c5], [c6], [vq4], [c8], mq5, [vq6]]).length = 25 from by simp [l_mq2, l_mq5]]; kernel_rfl) (by rw [show (List.flatten [[c0], [vq1], mq2, [vq3], [c4], [c5], [c6], [vq4], [c8], mq5, [vq6]]).length = 25 from by simp [l_mq2, l_mq5]]; kernel_rfl) (oc_cons (fun u hu => by simp only [List.mem_singleton] at hu; subst hu; exact h_c0.oneCell) (oc_cons (fun u hu => by simp only [List.mem_singleton] at hu; subst hu; exact h_vq1.oneCell) (oc_cons (RdL.oneCell h_mq2) (oc_cons (fun u hu => by simp only [List.mem_singleton] at hu; subst hu; exact h_vq3.oneCell) (oc_cons (fun u hu => by simp only [List.mem_singleton] at hu; subst hu; exact h_c4.oneCell) (oc_cons (fun u hu => by simp only [List.mem_singleton] at hu; subst hu; exact h_c5.oneCell) (oc_cons (fun u hu => by simp only [List.mem_singleton] at hu; subst hu; exact h_c6.oneCell) (oc_cons (fun u hu => by simp only [List.mem_singleton] at hu; subst hu; exact h_vq4.oneCell) (oc_cons (fun u hu => by simp only [List.mem_singleton] at hu; subst hu; exact h_c8.oneCell) (oc_cons (RdL.oneCell h_mq5) (oc_cons (fun u hu => by simp only [List.mem_singleton] at hu; subst hu; exact h_vq6.oneCell) oc_nil)))))))))))) rfl ?_
  refine nx_list ?_
  refine nx_then ?_
  refine nx_ret ?_
  refine ret_cell (v := .agg (List.flatten [[c0], [vq1], mq2, [vq3], [c4], [c5], [c6], [vq4], [c8], mq5, [vq6]]).toArray) (b := r2) (off := 0) 0 rfl (by kernel_rfl) rfl (readAt_all (by rw [show (List.flatten [[c0], [vq1], mq2, [vq3], [c4], [c5], [c6], [vq4], [c8], mq5, [vq6]]).length = 25 from by simp [l_mq2, l_mq5]]; kernel_rfl)) ?_
  intro w' hw'
  refine ⟨_, rfl, ?_, hw'.below hbel hbel.size (ge_cons hr2 (ge_cons hr1 (ge_nil _)))⟩
  rw [show (List.flatten [[c0], [vq1], mq2, [vq3], [c4], [c5], [c6], [vq4], [c8], mq5, [vq6]] : List Value) = (c0) :: ((vq1) :: (mq2 ++ ((vq3) :: ((c4) :: ((c5) :: ((c6) :: ((vq4) :: ((c8) :: (mq5 ++ ((vq6) :: ([]))))))))))) from by simp]
  exact RdL.mk (h_c0.bare rfl) (RdL.mk (h_vq1.stays (hw'.staysN (L0 := [⟨r2, zc47, 47⟩, ⟨r1, (List.flatten [[c0], [vq1], mq2, [vq3], [c4], [c5], [c6], [vq4], [c8], mq5, [c10]]).toArray, 47⟩]) rfl)) (RdL.append (h_mq2.stays (hw'.staysN (L0 := [⟨r2, zc47, 47⟩, ⟨r1, (List.flatten [[c0], [vq1], mq2, [vq3], [c4], [c5], [c6], [vq4], [c8], mq5, [c10]]).toArray, 47⟩]) rfl)) (RdL.mk (h_vq3.stays (hw'.staysN (L0 := [⟨r2, zc47, 47⟩, ⟨r1, (List.flatten [[c0], [vq1], mq2, [vq3], [c4], [c5], [c6], [vq4], [c8], mq5, [c10]]).toArray, 47⟩]) rfl)) (RdL.mk (h_c4.bare rfl) (RdL.mk (h_c5.bare rfl) (RdL.mk (h_c6.bare rfl) (RdL.mk (h_vq4.stays (hw'.staysN (L0 := [⟨r2, zc47, 47⟩, ⟨r1, (List.flatten [[c0], [vq1], mq2, [vq3], [c4], [c5], [c6], [vq4], [c8], mq5, [c10]]).toArray, 47⟩]) rfl)) (RdL.mk (h_c8.bare rfl) (RdL.append (h_mq5.stays (hw'.staysN (L0 := [⟨r2, zc47, 47⟩, ⟨r1, (List.flatten [[c0], [vq1], mq2, [vq3], [c4], [c5], [c6], [vq4], [c8], mq5, [c10]]).toArray, 47⟩]) rfl)) (RdL.mk (h_vq6.stays (hw'.staysN (L0 := [⟨r2, zc47, 47⟩, ⟨r1, (List.flatten [[c0], [vq1], mq2, [vq3], [c4], [c5], [c6], [vq4], [c8], mq5, [c10]]).toArray, 47⟩]) rfl)) (RdL.none)))))))))))

theorem copyPred_all (ds : List D) (hfit : FitL sh by_ ds shPred) : CopyS Try.prog 48 ds := by
  have key : ∀ (m : Nat) (ds : List D), szL ds < m → FitL sh by_ ds shPred → CopyS Try.prog 48 ds := by
    intro m
    induction m with
    | zero => intro ds h; omega
    | succ m ih => intro ds h hf; exact copyPred_step ds hf (fun r hr hfr => ih r (by omega) hfr)
  exact key _ ds (Nat.lt_succ_self _) hfit

theorem copyOrder_step (ds : List D) (hfit : FitL sh by_ ds (sh 7)) : CopyS Try.prog 47 ds := by
  intro w S cs hrdS
  have hrd := hrdS.im
  have hbel := Below.refl w.heap.size w
  obtain ⟨d0, e0, rfl, hf0, hft0⟩ := FitL.cons (k := .sl 2) (ks := [.bool]) hfit
  obtain ⟨rows0, rfl, b_rows0, fR_rows0⟩ := Fit.sl hf0
  have b_rows0 : rows0.length * 16 ≤ 140737488355328 := b_rows0
  obtain ⟨d1, e1, rfl, hf1, hft1⟩ := FitL.cons (k := .bool) (ks := []) hft0
  obtain ⟨n1, rfl⟩ := Fit.bool hf1
  obtain rfl := FitL.nil hft1
  obtain ⟨c0, z0, rfl, h_c0, hrd0⟩ := RdL.cons hrd
  obtain ⟨c1, z1, rfl, h_c1, hrd1⟩ := RdL.cons hrd0
  obtain rfl := RdL.nil hrd1
  rw [show c0 :: (c1 :: ([])) = List.flatten [[c0], [c1]] from by simp]
  refine Sx.enter (l := [.agg (List.flatten [[c0], [c1]]).toArray]) Try.func47 rfl (n := 8) rfl (by simp) ?_
  refine wc_eq (S := SH w []) (SH.refl _) ?_
  refine wc_seq ?_
  refine wc_region ?_
  refine wl_new (d := 1) (List.flatten [[c0], [c1]]).toArray 95 (fun r => .pointer (some ⟨r, 0, none⟩)) (by kernel_rfl) (fun r => by kernel_rfl) ?_
  intro r1 hr1
  have h_c0 := h_c0.stays (im_more (c := (List.flatten [[c0], [c1]]).toArray) (t := 95) hr1)
  refine wl_new (d := 2) #[.slice none 0 0, .bool false] 95 (fun r => .pointer (some ⟨r, 0, none⟩)) (by kernel_rfl) (fun r => by kernel_rfl) ?_
  intro r2 hr2
  have h_c0 := h_c0.stays (im_more (c := #[.slice none 0 0, .bool false]) (t := 95) hr2)
  refine nx_list ?_
  refine nx_then ?_
  refine wc_seq ?_
  refine wc_region ?_
  refine wl_go 1 [(3, .pointer (some ⟨r1, 0, none⟩))] (by kernel_rfl) ?_
  refine wl_yl (d := 4) (v := c0) (by kernel_rfl) (yl_load (b := r1) (off := 0) 1 rfl (by kernel_rfl) rfl (readAt_seg1 0 rfl (by simp) (by kernel_rfl))) ?_
  refine wl_callB (X := Value) (d := 5) (fun x => x) (fun wa y wz => Rd (fun k => wa.heap.size ≤ k) wz (.sl rows0) y ∧ Below wa.heap.size wa wz) (by kernel_rfl) (by kernel_rfl) (fun w1 h1 => (copyStrings_ok rows0 fR_rows0 b_rows0) w1 _ c0 (h_c0.stays (h1.staysC (L0 := (⟨r2, #[.slice none 0 0, .bool false], 95⟩ :: (⟨r1, (List.flatten [[c0], [c1]]).toArray, 95⟩ :: []))) rfl))) ?_
  rintro wq1 vq1 wq2 h1 ⟨h_vq1, hb⟩
  have h_vq1 := h_vq1.stays (stays_newN h1 (Nat.le_trans hbel.size h1.size))
  have hT := (h1.tr hb).cong (L0 := (⟨r2, #[.slice none 0 0, .bool false], 95⟩ :: (⟨r1, (List.flatten [[c0], [c1]]).toArray, 95⟩ :: []))) rfl
  have h_c0 := h_c0.stays hT.stays
  have hbel := h1.belowCall hbel (ge_cons hr2 (ge_cons hr1 (ge_nil _))) hb
  refine wl_eq (S := SH wq2 [⟨r2, #[.slice none 0 0, .bool false], 95⟩, ⟨r1, (List.flatten [[c0], [c1]]).toArray, 95⟩]) (h1.after hb) ?_
  refine wl_go 1 [(6, .pointer (some ⟨r1, 0, none⟩))] (by kernel_rfl) ?_
  refine wl_store (b := r1) (off := 0) (v := vq1) (c' := (List.flatten [[vq1], [c1]]).toArray) (L' := [⟨r2, #[.slice none 0 0, .bool false], 95⟩, ⟨r1, (List.flatten [[vq1], [c1]]).toArray, 95⟩]) 1 (by kernel_rfl) rfl (by kernel_rfl) (by kernel_rfl) rfl (writeAt_seg 0 ([vq1]) rfl (by simp) (Rd.cells h_vq1) rfl (by kernel_rfl) (fun u hu => by simp only [List.mem_singleton] at hu; subst hu; exact h_vq1.oneCell) rfl) rfl ?_
  refine nx_list ?_
  refine nx_then ?_
  refine wc_seq ?_
  refine wc_region ?_
  refine wl_yl (d := 7) (v := .agg (List.flatten [[vq1], [c1]]).toArray) (by kernel_rfl) (yl_load (b := r1) (off := 0) 1 rfl (by kernel_rfl) rfl (readAt_all (by rw [show (List.flatten [[vq1], [c1]]).length = 2 from by simp]; kernel_rfl))) ?_
  refine wl_store (b := r2) (off := 0) (v := .agg (List.flatten [[vq1], [c1]]).toArray) (c' := (List.flatten [[vq1], [c1]]).toArray) (L' := [⟨r2, (List.flatten [[vq1], [c1]]).toArray, 95⟩, ⟨r1, (List.flatten [[vq1], [c1]]).toArray, 95⟩]) 0 (by kernel_rfl) rfl (by kernel_rfl) (by kernel_rfl) rfl (writeAt_all (by rw [show (List.flatten [[vq1], [c1]]).length = 2 from by simp]; kernel_rfl) (by rw [show (List.flatten [[vq1], [c1]]).length = 2 from by simp]; kernel_rfl) (oc_cons (fun u hu => by simp only [List.mem_singleton] at hu; subst hu; exact h_vq1.oneCell) (oc_cons (fun u hu => by simp only [List.mem_singleton] at hu; subst hu; exact h_c1.oneCell) oc_nil))) rfl ?_
  refine nx_list ?_
  refine nx_then ?_
  refine nx_ret ?_
  refine ret_cell (v := .agg (List.flatten [[vq1], [c1]]).toArray) (b := r2) (off := 0) 0 rfl (by kernel_rfl) rfl (readAt_all (by rw [show (List.flatten [[vq1], [c1]]).length = 2 from by simp]; kernel_rfl)) ?_
  intro w' hw'
  refine ⟨_, rfl, ?_, hw'.below hbel hbel.size (ge_cons hr2 (ge_cons hr1 (ge_nil _)))⟩
  rw [show (List.flatten [[vq1], [c1]] : List Value) = (vq1) :: ((c1) :: ([])) from by simp]
  exact RdL.mk (h_vq1.stays (hw'.staysN (L0 := [⟨r2, #[.slice none 0 0, .bool false], 95⟩, ⟨r1, (List.flatten [[c0], [c1]]).toArray, 95⟩]) rfl)) (RdL.mk (h_c1.bare rfl) (RdL.none))

theorem copyOrder_all (ds : List D) (hfit : FitL sh by_ ds (sh 7)) : CopyS Try.prog 47 ds := copyOrder_step ds hfit

theorem copyIndex_step (ds : List D) (hfit : FitL sh by_ ds shIndex) : CopyS Try.prog 35 ds := by
  intro w S cs hrdS
  have hrd := hrdS.im
  have hbel := Below.refl w.heap.size w
  obtain ⟨d0, e0, rfl, hf0, hft0⟩ := FitL.cons (k := .str) (ks := [.int] ++ [.sl 7] ++ [.bool] ++ [.bool] ++ [.bool] ++ shPred) hfit
  obtain ⟨n0, rfl, _⟩ := Fit.str hf0
  obtain ⟨d1, e1, rfl, hf1, hft1⟩ := FitL.cons (k := .int) (ks := [.sl 7] ++ [.bool] ++ [.bool] ++ [.bool] ++ shPred) hft0
  obtain ⟨n1, rfl, _⟩ := Fit.int hf1
  obtain ⟨d2, e2, rfl, hf2, hft2⟩ := FitL.cons (k := .sl 7) (ks := [.bool] ++ [.bool] ++ [.bool] ++ shPred) hft1
  obtain ⟨rows2, rfl, b_rows2, fR_rows2⟩ := Fit.sl hf2
  have b_rows2 : rows2.length * 32 ≤ 140737488355328 := b_rows2
  obtain ⟨d3, e3, rfl, hf3, hft3⟩ := FitL.cons (k := .bool) (ks := [.bool] ++ [.bool] ++ shPred) hft2
  obtain ⟨n3, rfl⟩ := Fit.bool hf3
  obtain ⟨d4, e4, rfl, hf4, hft4⟩ := FitL.cons (k := .bool) (ks := [.bool] ++ shPred) hft3
  obtain ⟨n4, rfl⟩ := Fit.bool hf4
  obtain ⟨d5, e5, rfl, hf5, hft5⟩ := FitL.cons (k := .bool) (ks := shPred) hft4
  obtain ⟨n5, rfl⟩ := Fit.bool hf5
  obtain ⟨d6, e6, rfl, hf6, hft6⟩ := FitL.split (ks := shPred) (ks' := []) hft5
  obtain rfl := FitL.nil hft6
  obtain ⟨c0, z0, rfl, h_c0, hrd0⟩ := RdL.cons hrd
  obtain ⟨c1, z1, rfl, h_c1, hrd1⟩ := RdL.cons hrd0
  obtain ⟨c2, z2, rfl, h_c2, hrd2⟩ := RdL.cons hrd1
  obtain ⟨c3, z3, rfl, h_c3, hrd3⟩ := RdL.cons hrd2
  obtain ⟨c4, z4, rfl, h_c4, hrd4⟩ := RdL.cons hrd3
  obtain ⟨c5, z5, rfl, h_c5, hrd5⟩ := RdL.cons hrd4
  obtain ⟨c6, z6, rfl, h_c6, hrd6⟩ := RdL.split hrd5
  have l_c6 : c6.length = 25 := h_c6.length.symm.trans hf6.length
  obtain rfl := RdL.nil hrd6
  rw [show c0 :: (c1 :: (c2 :: (c3 :: (c4 :: (c5 :: (c6 ++ ([]))))))) = List.flatten [[c0], [c1], [c2], [c3], [c4], [c5], c6] from by simp]
  refine Sx.enter (l := [.agg (List.flatten [[c0], [c1], [c2], [c3], [c4], [c5], c6]).toArray]) Try.func35 rfl (n := 12) rfl (by simp) ?_
  refine wc_eq (S := SH w []) (SH.refl _) ?_
  refine wc_seq ?_
  refine wc_region ?_
  refine wl_new (d := 1) (List.flatten [[c0], [c1], [c2], [c3], [c4], [c5], c6]).toArray 49 (fun r => .pointer (some ⟨r, 0, none⟩)) (by kernel_rfl) (fun r => by kernel_rfl) ?_
  intro r1 hr1
  have h_c2 := h_c2.stays (im_more (c := (List.flatten [[c0], [c1], [c2], [c3], [c4], [c5], c6]).toArray) (t := 49) hr1)
  have h_c6 := h_c6.stays (im_more (c := (List.flatten [[c0], [c1], [c2], [c3], [c4], [c5], c6]).toArray) (t := 49) hr1)
  refine wl_new (d := 2) zc49 49 (fun r => .pointer (some ⟨r, 0, none⟩)) (by kernel_rfl) (fun r => by kernel_rfl) ?_
  intro r2 hr2
  have h_c2 := h_c2.stays (im_more (c := zc49) (t := 49) hr2)
  have h_c6 := h_c6.stays (im_more (c := zc49) (t := 49) hr2)
  refine nx_list ?_
  refine nx_then ?_
  refine wc_seq ?_
  refine wc_region ?_
  refine wl_go 1 [(3, .pointer (some ⟨r1, 2, none⟩))] (by kernel_rfl) ?_
  refine wl_yl (d := 4) (v := c2) (by kernel_rfl) (yl_load (b := r1) (off := 2) 1 rfl (by kernel_rfl) rfl (readAt_seg1 2 rfl (by simp [l_c6]) (by kernel_rfl))) ?_
  refine wl_callB (X := Value) (d := 5) (fun x => x) (fun wa y wz => Rd (fun k => wa.heap.size ≤ k) wz (.sl rows2) y ∧ Below wa.heap.size wa wz) (by kernel_rfl) (by kernel_rfl) (fun w1 h1 => (copyAll_7 rows2 fR_rows2 b_rows2 (fun r hr => copyOrder_all r (fR_rows2.mem hr))) w1 _ c2 (h_c2.stays (h1.staysC (L0 := (⟨r2, zc49, 49⟩ :: (⟨r1, (List.flatten [[c0], [c1], [c2], [c3], [c4], [c5], c6]).toArray, 49⟩ :: []))) rfl))) ?_
  rintro wq1 vq1 wq2 h1 ⟨h_vq1, hb⟩
  have h_vq1 := h_vq1.stays (stays_newN h1 (Nat.le_trans hbel.size h1.size))
  have hT := (h1.tr hb).cong (L0 := (⟨r2, zc49, 49⟩ :: (⟨r1, (List.flatten [[c0], [c1], [c2], [c3], [c4], [c5], c6]).toArray, 49⟩ :: []))) rfl
  have h_c2 := h_c2.stays hT.stays
  have h_c6 := h_c6.stays hT.stays
  have hbel := h1.belowCall hbel (ge_cons hr2 (ge_cons hr1 (ge_nil _))) hb
  refine wl_eq (S := SH wq2 [⟨r2, zc49, 49⟩, ⟨r1, (List.flatten [[c0], [c1], [c2], [c3], [c4], [c5], c6]).toArray, 49⟩]) (h1.after hb) ?_
  refine wl_go 1 [(6, .pointer (some ⟨r1, 2, none⟩))] (by kernel_rfl) ?_
  refine wl_store (b := r1) (off := 2) (v := vq1) (c' := (List.flatten [[c0], [c1], [vq1], [c3], [c4], [c5], c6]).toArray) (L' := [⟨r2, zc49, 49⟩, ⟨r1, (List.flatten [[c0], [c1], [vq1], [c3], [c4], [c5], c6]).toArray, 49⟩]) 1 (by kernel_rfl) rfl (by kernel_rfl) (by kernel_rfl) rfl (writeAt_seg 2 ([vq1]) rfl (by simp [l_c6]) (Rd.cells h_vq1) rfl (by kernel_rfl) (fun u hu => by simp only [List.mem_singleton] at hu; subst hu; exact h_vq1.oneCell) rfl) rfl ?_
  refine nx_list ?_
  refine nx_then ?_
  refine wc_seq ?_
  refine wc_region ?_
  refine wl_go 1 [(7, .pointer (some ⟨r1, 6, none⟩))] (by kernel_rfl) ?_
  refine wl_yl (d := 8) (v := .agg (c6).toArray) (by kernel_rfl) (yl_load (b := r1) (off := 6) 1 rfl (by kernel_rfl) rfl (readAt_seg 6 rfl (by simp [l_c6]) (by rw [l_c6]; kernel_rfl))) ?_
  refine wl_callB (X := List Value) (d := 9) (fun x => .agg x.toArray) (fun wa y wz => RdL (fun k => wa.heap.size ≤ k) wz d6 y ∧ Below wa.heap.size wa wz) (by kernel_rfl) (by kernel_rfl) (fun w1 h1 => (copyPred_all d6 hf6) w1 _ c6 (h_c6.stays (h1.staysC (L0 := [⟨r2, zc49, 49⟩, ⟨r1, (List.flatten [[c0], [c1], [c2], [c3], [c4], [c5], c6]).toArray, 49⟩]) rfl))) ?_
  rintro wq3 mq2 wq4 h1 ⟨h_mq2, hb⟩
  have h_mq2 := h_mq2.stays (stays_newN h1 (Nat.le_trans hbel.size h1.size))
  have l_mq2 : mq2.length = 25 := h_mq2.length.symm.trans (h_c6.length.trans l_c6)
  have hT := (h1.tr hb).cong (L0 := [⟨r2, zc49, 49⟩, ⟨r1, (List.flatten [[c0], [c1], [c2], [c3], [c4], [c5], c6]).toArray, 49⟩]) rfl
  have h_c2 := h_c2.stays hT.stays
  have h_c6 := h_c6.stays hT.stays
  have h_vq1 := h_vq1.stays hT.staysN
  have hbel := h1.belowCall hbel (ge_cons hr2 (ge_cons hr1 (ge_nil _))) hb
  refine wl_eq (S := SH wq4 [⟨r2, zc49, 49⟩, ⟨r1, (List.flatten [[c0], [c1], [vq1], [c3], [c4], [c5], c6]).toArray, 49⟩]) (h1.after hb) ?_
  refine wl_go 1 [(10, .pointer (some ⟨r1, 6, none⟩))] (by kernel_rfl) ?_
  refine wl_store (b := r1) (off := 6) (v := .agg (mq2).toArray) (c' := (List.flatten [[c0], [c1], [vq1], [c3], [c4], [c5], mq2]).toArray) (L' := [⟨r2, zc49, 49⟩, ⟨r1, (List.flatten [[c0], [c1], [vq1], [c3], [c4], [c5], mq2]).toArray, 49⟩]) 1 (by kernel_rfl) rfl (by kernel_rfl) (by kernel_rfl) rfl (writeAt_seg 6 (mq2) rfl (by simp [l_c6]) rfl (by rw [l_mq2, l_c6]) (by rw [l_mq2]; kernel_rfl) (RdL.oneCell h_mq2) rfl) rfl ?_
  refine nx_list ?_
  refine nx_then ?_
  refine wc_seq ?_
  refine wc_region ?_
  refine wl_yl (d := 11) (v := .agg (List.flatten [[c0], [c1], [vq1], [c3], [c4], [c5], mq2]).toArray) (by kernel_rfl) (yl_load (b := r1) (off := 0) 1 rfl (by kernel_rfl) rfl (readAt_all (by rw [show (List.flatten [[c0], [c1], [vq1], [c3], [c4], [c5], mq2]).length = 31 from by simp [l_mq2]]; kernel_rfl))) ?_
  refine wl_store (b := r2) (off := 0) (v := .agg (List.flatten [[c0], [c1], [vq1], [c3], [c4], [c5], mq2]).toArray) (c' := (List.flatten [[c0], [c1], [vq1], [c3], [c4], [c5], mq2]).toArray) (L' := [⟨r2, (List.flatten [[c0], [c1], [vq1], [c3], [c4], [c5], mq2]).toArray, 49⟩, ⟨r1, (List.flatten [[c0], [c1], [vq1], [c3], [c4], [c5], mq2]).toArray, 49⟩]) 0 (by kernel_rfl) rfl (by kernel_rfl) (by kernel_rfl) rfl (writeAt_all (by rw [show (List.flatten [[c0], [c1], [vq1], [c3], [c4], [c5], mq2]).length = 31 from by simp [l_mq2]]; kernel_rfl) (by rw [show (List.flatten [[c0], [c1], [vq1], [c3], [c4], [c5], mq2]).length = 31 from by simp [l_mq2]]; kernel_rfl) (oc_cons (fun u hu => by simp only [List.mem_singleton] at hu; subst hu; exact h_c0.oneCell) (oc_cons (fun u hu => by simp only [List.mem_singleton] at hu; subst hu; exact h_c1.oneCell) (oc_cons (fun u hu => by simp only [List.mem_singleton] at hu; subst hu; exact h_vq1.oneCell) (oc_cons (fun u hu => by simp only [List.mem_singleton] at hu; subst hu; exact h_c3.oneCell) (oc_cons (fun u hu => by simp only [List.mem_singleton] at hu; subst hu; exact h_c4.oneCell) (oc_cons (fun u hu => by simp only [List.mem_singleton] at hu; subst hu; exact h_c5.oneCell) (oc_cons (RdL.oneCell h_mq2) oc_nil)))))))) rfl ?_
  refine nx_list ?_
  refine nx_then ?_
  refine nx_ret ?_
  refine ret_cell (v := .agg (List.flatten [[c0], [c1], [vq1], [c3], [c4], [c5], mq2]).toArray) (b := r2) (off := 0) 0 rfl (by kernel_rfl) rfl (readAt_all (by rw [show (List.flatten [[c0], [c1], [vq1], [c3], [c4], [c5], mq2]).length = 31 from by simp [l_mq2]]; kernel_rfl)) ?_
  intro w' hw'
  refine ⟨_, rfl, ?_, hw'.below hbel hbel.size (ge_cons hr2 (ge_cons hr1 (ge_nil _)))⟩
  rw [show (List.flatten [[c0], [c1], [vq1], [c3], [c4], [c5], mq2] : List Value) = (c0) :: ((c1) :: ((vq1) :: ((c3) :: ((c4) :: ((c5) :: (mq2 ++ ([]))))))) from by simp]
  exact RdL.mk (h_c0.bare rfl) (RdL.mk (h_c1.bare rfl) (RdL.mk (h_vq1.stays (hw'.staysN (L0 := [⟨r2, zc49, 49⟩, ⟨r1, (List.flatten [[c0], [c1], [vq1], [c3], [c4], [c5], c6]).toArray, 49⟩]) rfl)) (RdL.mk (h_c3.bare rfl) (RdL.mk (h_c4.bare rfl) (RdL.mk (h_c5.bare rfl) (RdL.append (h_mq2.stays (hw'.staysN (L0 := [⟨r2, zc49, 49⟩, ⟨r1, (List.flatten [[c0], [c1], [vq1], [c3], [c4], [c5], c6]).toArray, 49⟩]) rfl)) (RdL.none)))))))

theorem copyIndex_all (ds : List D) (hfit : FitL sh by_ ds shIndex) : CopyS Try.prog 35 ds := copyIndex_step ds hfit

theorem copyProp_step (ds : List D) (hfit : FitL sh by_ ds (sh 10)) (ih : ∀ (r : List D), szL r < szL ds → FitL sh by_ r shSchema → CopyS Try.prog 45 r) : CopyS Try.prog 62 ds := by
  intro w S cs hrdS
  have hrd := hrdS.im
  have hbel := Below.refl w.heap.size w
  obtain ⟨d0, e0, rfl, hf0, hft0⟩ := FitL.cons (k := .str) (ks := shSchema) hfit
  obtain ⟨n0, rfl, _⟩ := Fit.str hf0
  obtain ⟨d1, e1, rfl, hf1, hft1⟩ := FitL.split (ks := shSchema) (ks' := []) hft0
  obtain rfl := FitL.nil hft1
  obtain ⟨c0, z0, rfl, h_c0, hrd0⟩ := RdL.cons hrd
  obtain ⟨c1, z1, rfl, h_c1, hrd1⟩ := RdL.split hrd0
  have l_c1 : c1.length = 21 := h_c1.length.symm.trans hf1.length
  obtain rfl := RdL.nil hrd1
  rw [show c0 :: (c1 ++ ([])) = List.flatten [[c0], c1] from by simp]
  refine Sx.enter (l := [.agg (List.flatten [[c0], c1]).toArray]) Try.func62 rfl (n := 9) rfl (by simp) ?_
  refine wc_eq (S := SH w []) (SH.refl _) ?_
  refine wc_seq ?_
  refine wc_region ?_
  refine wl_new (d := 1) (List.flatten [[c0], c1]).toArray 105 (fun r => .pointer (some ⟨r, 0, none⟩)) (by kernel_rfl) (fun r => by kernel_rfl) ?_
  intro r1 hr1
  have h_c1 := h_c1.stays (im_more (c := (List.flatten [[c0], c1]).toArray) (t := 105) hr1)
  refine wl_new (d := 2) zc105 105 (fun r => .pointer (some ⟨r, 0, none⟩)) (by kernel_rfl) (fun r => by kernel_rfl) ?_
  intro r2 hr2
  have h_c1 := h_c1.stays (im_more (c := zc105) (t := 105) hr2)
  refine nx_list ?_
  refine nx_then ?_
  refine wc_seq ?_
  refine wc_draw 6 (SH w [⟨r2, zc105, 105⟩, ⟨r1, (List.flatten [[c0], c1]).toArray, 105⟩]) rfl (by decide) (fun w h => SH.drew h) ?_
  refine wd_go [0] [(3, .pointer (some ⟨r1, 0, none⟩))] #[true, false, false, false, false, false, false] (f := 5) rfl (by kernel_rfl) (fun w h => h) ?_
  refine wd_yl 1 (d := 4) (v := c0) (f := 4) rfl (by kernel_rfl) (by kernel_rfl) (fun w h => h) (yl_load (b := r1) (off := 0) 1 rfl (by kernel_rfl) rfl (readAt_seg1 0 rfl (by simp [l_c1]) (by kernel_rfl))) ?_
  refine wd_go [2] [(5, .pointer (some ⟨r1, 1, none⟩))] #[true, true, true, false, false, false, false] (f := 3) rfl (by kernel_rfl) (fun w h => h) ?_
  refine wd_yl 3 (d := 6) (v := .agg (c1).toArray) (f := 2) rfl (by kernel_rfl) (by kernel_rfl) (fun w h => h) (yl_load (b := r1) (off := 1) 1 rfl (by kernel_rfl) rfl (readAt_seg 1 rfl (by simp [l_c1]) (by rw [l_c1]; kernel_rfl))) ?_
  refine wd_callB 4 (X := List Value) (d := 7) (fu := 1) (fun x => .agg x.toArray) (fun wa y wz => RdL (fun k => wa.heap.size ≤ k) wz d1 y ∧ Below wa.heap.size wa wz) rfl (by decide) (by kernel_rfl) (by kernel_rfl) (by kernel_rfl) (fun w1 h1 => (ih d1 (by simp only [szL, szL_append, D.sz]; omega) hf1) w1 _ c1 (h_c1.stays (h1.staysC (L0 := (⟨r2, zc105, 105⟩ :: (⟨r1, (List.flatten [[c0], c1]).toArray, 105⟩ :: []))) rfl))) ?_
  rintro wq1 mq1 wq2 h1 ⟨h_mq1, hb⟩
  refine ⟨h1.keep hb, ?_⟩
  have hsubq2 : ∀ q, SH wq2 [⟨r2, zc105, 105⟩, ⟨r1, (List.flatten [[c0], c1]).toArray, 105⟩] q → SH w [⟨r2, zc105, 105⟩, ⟨r1, (List.flatten [[c0], c1]).toArray, 105⟩] q := fun q h => (h1.keep hb).trans h
  have h_mq1 := h_mq1.stays (stays_newN h1 (Nat.le_trans hbel.size h1.size))
  have l_mq1 : mq1.length = 21 := h_mq1.length.symm.trans (h_c1.length.trans l_c1)
  have hT := (h1.tr hb).cong (L0 := (⟨r2, zc105, 105⟩ :: (⟨r1, (List.flatten [[c0], c1]).toArray, 105⟩ :: []))) rfl
  have h_c1 := h_c1.stays hT.stays
  have hbel := h1.belowCall hbel (ge_cons hr2 (ge_cons hr1 (ge_nil _))) hb
  refine wd_eq (T := SH wq2 [⟨r2, zc105, 105⟩, ⟨r1, (List.flatten [[c0], c1]).toArray, 105⟩]) (h1.after hb) ?_
  refine wd_yl 5 (d := 8) (v := .agg (List.flatten [[c0], mq1]).toArray) (f := 0) rfl (by kernel_rfl) (by kernel_rfl) (hsubq2) (yl_build (c := (List.flatten [[c0], mq1]).toArray) zv105 [(0, 1), (1, 21)] [(0, c0), (1, .agg (mq1).toArray)] rfl (by kernel_rfl) (by kernel_rfl) (by kernel_rfl) ((fill_seg (pre := []) (mid := [.string ByteArray.empty]) (post := [.int .i64 0, .bool false, .int .i64 0, .int .i64 0, .string ByteArray.empty, .slice none 0 0, .slice none 0 0, .bool false, .int .i64 0, .int .i64 0, .string ByteArray.empty, .slice none 0 0, .slice none 0 0, .slice none 0 0, .int .i64 0, .int .i64 0, .slice none 0 0, .slice none 0 0, .bool false, .slice none 0 0, .bool false]) [c0] rfl (Rd.cells h_c0) rfl rfl rfl).trans ((fill_seg (pre := ([c0])) (mid := [.int .i64 0, .bool false, .int .i64 0, .int .i64 0, .string ByteArray.empty, .slice none 0 0, .slice none 0 0, .bool false, .int .i64 0, .int .i64 0, .string ByteArray.empty, .slice none 0 0, .slice none 0 0, .slice none 0 0, .int .i64 0, .int .i64 0, .slice none 0 0, .slice none 0 0, .bool false, .slice none 0 0, .bool false]) (post := []) mq1 rfl rfl l_mq1 rfl rfl).trans (congrArg some (by simp))))) ?_
  refine wd_done (by kernel_rfl) ?_
  refine wl_store (b := r2) (off := 0) (v := .agg (List.flatten [[c0], mq1]).toArray) (c' := (List.flatten [[c0], mq1]).toArray) (L' := [⟨r2, (List.flatten [[c0], mq1]).toArray, 105⟩, ⟨r1, (List.flatten [[c0], c1]).toArray, 105⟩]) 0 (by kernel_rfl) rfl (by kernel_rfl) (by kernel_rfl) rfl (writeAt_all (by rw [show (List.flatten [[c0], mq1]).length = 22 from by simp [l_mq1]]; kernel_rfl) (by rw [show (List.flatten [[c0], mq1]).length = 22 from by simp [l_mq1]]; kernel_rfl) (oc_cons (fun u hu => by simp only [List.mem_singleton] at hu; subst hu; exact h_c0.oneCell) (oc_cons (RdL.oneCell h_mq1) oc_nil))) rfl ?_
  refine nx_list ?_
  refine nx_on ?_
  refine nx_then ?_
  refine nx_ret ?_
  refine ret_cell (v := .agg (List.flatten [[c0], mq1]).toArray) (b := r2) (off := 0) 0 rfl (by kernel_rfl) rfl (readAt_all (by rw [show (List.flatten [[c0], mq1]).length = 22 from by simp [l_mq1]]; kernel_rfl)) ?_
  intro w' hw'
  refine ⟨_, rfl, ?_, hw'.below hbel hbel.size (ge_cons hr2 (ge_cons hr1 (ge_nil _)))⟩
  rw [show (List.flatten [[c0], mq1] : List Value) = (c0) :: (mq1 ++ ([])) from by simp]
  exact RdL.mk (h_c0.bare rfl) (RdL.append (h_mq1.stays (hw'.staysN (L0 := [⟨r2, zc105, 105⟩, ⟨r1, (List.flatten [[c0], c1]).toArray, 105⟩]) rfl)) (RdL.none))

theorem copySchema_step (ds : List D) (hfit : FitL sh by_ ds shSchema) (ih : ∀ (r : List D), szL r < szL ds → FitL sh by_ r shSchema → CopyS Try.prog 45 r) : CopyS Try.prog 45 ds := by
  intro w S cs hrdS
  have hrd := hrdS.im
  have hbel := Below.refl w.heap.size w
  obtain ⟨d0, e0, rfl, hf0, hft0⟩ := FitL.cons (k := .int) (ks := [.bool] ++ shV ++ [.bool] ++ shV ++ [.sl 0] ++ [.int] ++ [.int] ++ [.sl 2] ++ [.sl 10] ++ [.bool] ++ [.sl 9] ++ [.bool]) hfit
  obtain ⟨n0, rfl, _⟩ := Fit.int hf0
  obtain ⟨d1, e1, rfl, hf1, hft1⟩ := FitL.cons (k := .bool) (ks := shV ++ [.bool] ++ shV ++ [.sl 0] ++ [.int] ++ [.int] ++ [.sl 2] ++ [.sl 10] ++ [.bool] ++ [.sl 9] ++ [.bool]) hft0
  obtain ⟨n1, rfl⟩ := Fit.bool hf1
  obtain ⟨d2, e2, rfl, hf2, hft2⟩ := FitL.split (ks := shV) (ks' := [.bool] ++ shV ++ [.sl 0] ++ [.int] ++ [.int] ++ [.sl 2] ++ [.sl 10] ++ [.bool] ++ [.sl 9] ++ [.bool]) hft1
  obtain ⟨d3, e3, rfl, hf3, hft3⟩ := FitL.cons (k := .bool) (ks := shV ++ [.sl 0] ++ [.int] ++ [.int] ++ [.sl 2] ++ [.sl 10] ++ [.bool] ++ [.sl 9] ++ [.bool]) hft2
  obtain ⟨n3, rfl⟩ := Fit.bool hf3
  obtain ⟨d4, e4, rfl, hf4, hft4⟩ := FitL.split (ks := shV) (ks' := [.sl 0] ++ [.int] ++ [.int] ++ [.sl 2] ++ [.sl 10] ++ [.bool] ++ [.sl 9] ++ [.bool]) hft3
  obtain ⟨d5, e5, rfl, hf5, hft5⟩ := FitL.cons (k := .sl 0) (ks := [.int] ++ [.int] ++ [.sl 2] ++ [.sl 10] ++ [.bool] ++ [.sl 9] ++ [.bool]) hft4
  obtain ⟨rows5, rfl, b_rows5, fR_rows5⟩ := Fit.sl hf5
  have b_rows5 : rows5.length * 80 ≤ 140737488355328 := b_rows5
  obtain ⟨d6, e6, rfl, hf6, hft6⟩ := FitL.cons (k := .int) (ks := [.int] ++ [.sl 2] ++ [.sl 10] ++ [.bool] ++ [.sl 9] ++ [.bool]) hft5
  obtain ⟨n6, rfl, _⟩ := Fit.int hf6
  obtain ⟨d7, e7, rfl, hf7, hft7⟩ := FitL.cons (k := .int) (ks := [.sl 2] ++ [.sl 10] ++ [.bool] ++ [.sl 9] ++ [.bool]) hft6
  obtain ⟨n7, rfl, _⟩ := Fit.int hf7
  obtain ⟨d8, e8, rfl, hf8, hft8⟩ := FitL.cons (k := .sl 2) (ks := [.sl 10] ++ [.bool] ++ [.sl 9] ++ [.bool]) hft7
  obtain ⟨rows8, rfl, b_rows8, fR_rows8⟩ := Fit.sl hf8
  have b_rows8 : rows8.length * 16 ≤ 140737488355328 := b_rows8
  obtain ⟨d9, e9, rfl, hf9, hft9⟩ := FitL.cons (k := .sl 10) (ks := [.bool] ++ [.sl 9] ++ [.bool]) hft8
  obtain ⟨rows9, rfl, b_rows9, fR_rows9⟩ := Fit.sl hf9
  have b_rows9 : rows9.length * 328 ≤ 140737488355328 := b_rows9
  obtain ⟨d10, e10, rfl, hf10, hft10⟩ := FitL.cons (k := .bool) (ks := [.sl 9] ++ [.bool]) hft9
  obtain ⟨n10, rfl⟩ := Fit.bool hf10
  obtain ⟨d11, e11, rfl, hf11, hft11⟩ := FitL.cons (k := .sl 9) (ks := [.bool]) hft10
  obtain ⟨rows11, rfl, b_rows11, fR_rows11⟩ := Fit.sl hf11
  have b_rows11 : rows11.length * 312 ≤ 140737488355328 := b_rows11
  obtain ⟨d12, e12, rfl, hf12, hft12⟩ := FitL.cons (k := .bool) (ks := []) hft11
  obtain ⟨n12, rfl⟩ := Fit.bool hf12
  obtain rfl := FitL.nil hft12
  obtain ⟨c0, z0, rfl, h_c0, hrd0⟩ := RdL.cons hrd
  obtain ⟨c1, z1, rfl, h_c1, hrd1⟩ := RdL.cons hrd0
  obtain ⟨c2, z2, rfl, h_c2, hrd2⟩ := RdL.split hrd1
  have l_c2 : c2.length = 5 := h_c2.length.symm.trans hf2.length
  obtain ⟨c3, z3, rfl, h_c3, hrd3⟩ := RdL.cons hrd2
  obtain ⟨c4, z4, rfl, h_c4, hrd4⟩ := RdL.split hrd3
  have l_c4 : c4.length = 5 := h_c4.length.symm.trans hf4.length
  obtain ⟨c5, z5, rfl, h_c5, hrd5⟩ := RdL.cons hrd4
  obtain ⟨c6, z6, rfl, h_c6, hrd6⟩ := RdL.cons hrd5
  obtain ⟨c7, z7, rfl, h_c7, hrd7⟩ := RdL.cons hrd6
  obtain ⟨c8, z8, rfl, h_c8, hrd8⟩ := RdL.cons hrd7
  obtain ⟨c9, z9, rfl, h_c9, hrd9⟩ := RdL.cons hrd8
  obtain ⟨c10, z10, rfl, h_c10, hrd10⟩ := RdL.cons hrd9
  obtain ⟨c11, z11, rfl, h_c11, hrd11⟩ := RdL.cons hrd10
  obtain ⟨c12, z12, rfl, h_c12, hrd12⟩ := RdL.cons hrd11
  obtain rfl := RdL.nil hrd12
  rw [show c0 :: (c1 :: (c2 ++ (c3 :: (c4 ++ (c5 :: (c6 :: (c7 :: (c8 :: (c9 :: (c10 :: (c11 :: (c12 :: ([]))))))))))))) = List.flatten [[c0], [c1], c2, [c3], c4, [c5], [c6], [c7], [c8], [c9], [c10], [c11], [c12]] from by simp]
  refine Sx.enter (l := [.agg (List.flatten [[c0], [c1], c2, [c3], c4, [c5], [c6], [c7], [c8], [c9], [c10], [c11], [c12]]).toArray]) Try.func45 rfl (n := 28) rfl (by simp) ?_
  refine wc_eq (S := SH w []) (SH.refl _) ?_
  refine wc_seq ?_
  refine wc_region ?_
  refine wl_new (d := 1) (List.flatten [[c0], [c1], c2, [c3], c4, [c5], [c6], [c7], [c8], [c9], [c10], [c11], [c12]]).toArray 35 (fun r => .pointer (some ⟨r, 0, none⟩)) (by kernel_rfl) (fun r => by kernel_rfl) ?_
  intro r1 hr1
  have h_c2 := h_c2.stays (im_more (c := (List.flatten [[c0], [c1], c2, [c3], c4, [c5], [c6], [c7], [c8], [c9], [c10], [c11], [c12]]).toArray) (t := 35) hr1)
  have h_c4 := h_c4.stays (im_more (c := (List.flatten [[c0], [c1], c2, [c3], c4, [c5], [c6], [c7], [c8], [c9], [c10], [c11], [c12]]).toArray) (t := 35) hr1)
  have h_c5 := h_c5.stays (im_more (c := (List.flatten [[c0], [c1], c2, [c3], c4, [c5], [c6], [c7], [c8], [c9], [c10], [c11], [c12]]).toArray) (t := 35) hr1)
  have h_c8 := h_c8.stays (im_more (c := (List.flatten [[c0], [c1], c2, [c3], c4, [c5], [c6], [c7], [c8], [c9], [c10], [c11], [c12]]).toArray) (t := 35) hr1)
  have h_c9 := h_c9.stays (im_more (c := (List.flatten [[c0], [c1], c2, [c3], c4, [c5], [c6], [c7], [c8], [c9], [c10], [c11], [c12]]).toArray) (t := 35) hr1)
  have h_c11 := h_c11.stays (im_more (c := (List.flatten [[c0], [c1], c2, [c3], c4, [c5], [c6], [c7], [c8], [c9], [c10], [c11], [c12]]).toArray) (t := 35) hr1)
  refine wl_new (d := 2) zc35 35 (fun r => .pointer (some ⟨r, 0, none⟩)) (by kernel_rfl) (fun r => by kernel_rfl) ?_
  intro r2 hr2
  have h_c2 := h_c2.stays (im_more (c := zc35) (t := 35) hr2)
  have h_c4 := h_c4.stays (im_more (c := zc35) (t := 35) hr2)
  have h_c5 := h_c5.stays (im_more (c := zc35) (t := 35) hr2)
  have h_c8 := h_c8.stays (im_more (c := zc35) (t := 35) hr2)
  have h_c9 := h_c9.stays (im_more (c := zc35) (t := 35) hr2)
  have h_c11 := h_c11.stays (im_more (c := zc35) (t := 35) hr2)
  refine nx_list ?_
  refine nx_then ?_
  refine wc_seq ?_
  refine wc_region ?_
  refine wl_go 1 [(3, .pointer (some ⟨r1, 2, none⟩))] (by kernel_rfl) ?_
  refine wl_yl (d := 4) (v := .agg (c2).toArray) (by kernel_rfl) (yl_load (b := r1) (off := 2) 1 rfl (by kernel_rfl) rfl (readAt_seg 2 rfl (by simp [l_c2, l_c4]) (by rw [l_c2]; kernel_rfl))) ?_
  refine wl_callB (X := List Value) (d := 5) (fun x => .agg x.toArray) (fun wa y wz => RdL (fun k => wa.heap.size ≤ k) wz d2 y ∧ Below wa.heap.size wa wz) (by kernel_rfl) (by kernel_rfl) (fun w1 h1 => (copyValue_all d2 hf2) w1 _ c2 (h_c2.stays (h1.staysC (L0 := (⟨r2, zc35, 35⟩ :: (⟨r1, (List.flatten [[c0], [c1], c2, [c3], c4, [c5], [c6], [c7], [c8], [c9], [c10], [c11], [c12]]).toArray, 35⟩ :: []))) rfl))) ?_
  rintro wq1 mq1 wq2 h1 ⟨h_mq1, hb⟩
  have h_mq1 := h_mq1.stays (stays_newN h1 (Nat.le_trans hbel.size h1.size))
  have l_mq1 : mq1.length = 5 := h_mq1.length.symm.trans (h_c2.length.trans l_c2)
  have hT := (h1.tr hb).cong (L0 := (⟨r2, zc35, 35⟩ :: (⟨r1, (List.flatten [[c0], [c1], c2, [c3], c4, [c5], [c6], [c7], [c8], [c9], [c10], [c11], [c12]]).toArray, 35⟩ :: []))) rfl
  have h_c2 := h_c2.stays hT.stays
  have h_c4 := h_c4.stays hT.stays
  have h_c5 := h_c5.stays hT.stays
  have h_c8 := h_c8.stays hT.stays
  have h_c9 := h_c9.stays hT.stays
  have h_c11 := h_c11.stays hT.stays
  have hbel := h1.belowCall hbel (ge_cons hr2 (ge_cons hr1 (ge_nil _))) hb
  refine wl_eq (S := SH wq2 [⟨r2, zc35, 35⟩, ⟨r1, (List.flatten [[c0], [c1], c2, [c3], c4, [c5], [c6], [c7], [c8], [c9], [c10], [c11], [c12]]).toArray, 35⟩]) (h1.after hb) ?_
  refine wl_go 1 [(6, .pointer (some ⟨r1, 2, none⟩))] (by kernel_rfl) ?_
  refine wl_store (b := r1) (off := 2) (v := .agg (mq1).toArray) (c' := (List.flatten [[c0], [c1], mq1, [c3], c4, [c5], [c6], [c7], [c8], [c9], [c10], [c11], [c12]]).toArray) (L' := [⟨r2, zc35, 35⟩, ⟨r1, (List.flatten [[c0], [c1], mq1, [c3], c4, [c5], [c6], [c7], [c8], [c9], [c10], [c11], [c12]]).toArray, 35⟩]) 1 (by kernel_rfl) rfl (by kernel_rfl) (by kernel_rfl) rfl (writeAt_seg 2 (mq1) rfl (by simp [l_c2, l_c4]) rfl (by rw [l_mq1, l_c2]) (by rw [l_mq1]; kernel_rfl) (RdL.oneCell h_mq1) rfl) rfl ?_
  refine nx_list ?_
  refine nx_then ?_
  refine wc_seq ?_
  refine wc_region ?_
  refine wl_go 1 [(7, .pointer (some ⟨r1, 8, none⟩))] (by kernel_rfl) ?_
  refine wl_yl (d := 8) (v := .agg (c4).toArray) (by kernel_rfl) (yl_load (b := r1) (off := 8) 1 rfl (by kernel_rfl) rfl (readAt_seg 4 rfl (by simp [l_c4, l_mq1]) (by rw [l_c4]; kernel_rfl))) ?_
  refine wl_callB (X := List Value) (d := 9) (fun x => .agg x.toArray) (fun wa y wz => RdL (fun k => wa.heap.size ≤ k) wz d4 y ∧ Below wa.heap.size wa wz) (by kernel_rfl) (by kernel_rfl) (fun w1 h1 => (copyValue_all d4 hf4) w1 _ c4 (h_c4.stays (h1.staysC (L0 := [⟨r2, zc35, 35⟩, ⟨r1, (List.flatten [[c0], [c1], c2, [c3], c4, [c5], [c6], [c7], [c8], [c9], [c10], [c11], [c12]]).toArray, 35⟩]) rfl))) ?_
  rintro wq3 mq2 wq4 h1 ⟨h_mq2, hb⟩
  have h_mq2 := h_mq2.stays (stays_newN h1 (Nat.le_trans hbel.size h1.size))
  have l_mq2 : mq2.length = 5 := h_mq2.length.symm.trans (h_c4.length.trans l_c4)
  have hT := (h1.tr hb).cong (L0 := [⟨r2, zc35, 35⟩, ⟨r1, (List.flatten [[c0], [c1], c2, [c3], c4, [c5], [c6], [c7], [c8], [c9], [c10], [c11], [c12]]).toArray, 35⟩]) rfl
  have h_c2 := h_c2.stays hT.stays
  have h_c4 := h_c4.stays hT.stays
  have h_c5 := h_c5.stays hT.stays
  have h_c8 := h_c8.stays hT.stays
  have h_c9 := h_c9.stays hT.stays
  have h_c11 := h_c11.stays hT.stays
  have h_mq1 := h_mq1.stays hT.staysN
  have hbel := h1.belowCall hbel (ge_cons hr2 (ge_cons hr1 (ge_nil _))) hb
  refine wl_eq (S := SH wq4 [⟨r2, zc35, 35⟩, ⟨r1, (List.flatten [[c0], [c1], mq1, [c3], c4, [c5], [c6], [c7], [c8], [c9], [c10], [c11], [c12]]).toArray, 35⟩]) (h1.after hb) ?_
  refine wl_go 1 [(10, .pointer (some ⟨r1, 8, none⟩))] (by kernel_rfl) ?_
  refine wl_store (b := r1) (off := 8) (v := .agg (mq2).toArray) (c' := (List.flatten [[c0], [c1], mq1, [c3], mq2, [c5], [c6], [c7], [c8], [c9], [c10], [c11], [c12]]).toArray) (L' := [⟨r2, zc35, 35⟩, ⟨r1, (List.flatten [[c0], [c1], mq1, [c3], mq2, [c5], [c6], [c7], [c8], [c9], [c10], [c11], [c12]]).toArray, 35⟩]) 1 (by kernel_rfl) rfl (by kernel_rfl) (by kernel_rfl) rfl (writeAt_seg 4 (mq2) rfl (by simp [l_c4, l_mq1]) rfl (by rw [l_mq2, l_c4]) (by rw [l_mq2]; kernel_rfl) (RdL.oneCell h_mq2) rfl) rfl ?_
  refine nx_list ?_
  refine nx_then ?_
  refine wc_seq ?_
  refine wc_region ?_
  refine wl_go 1 [(11, .pointer (some ⟨r1, 13, none⟩))] (by kernel_rfl) ?_
  refine wl_yl (d := 12) (v := c5) (by kernel_rfl) (yl_load (b := r1) (off := 13) 1 rfl (by kernel_rfl) rfl (readAt_seg1 5 rfl (by simp [l_mq1, l_mq2]) (by kernel_rfl))) ?_
  refine wl_callB (X := Value) (d := 13) (fun x => x) (fun wa y wz => Rd (fun k => wa.heap.size ≤ k) wz (.sl rows5) y ∧ Below wa.heap.size wa wz) (by kernel_rfl) (by kernel_rfl) (fun w1 h1 => (copyAll_0 rows5 fR_rows5 b_rows5 (fun r hr => copyValue_all r (fR_rows5.mem hr))) w1 _ c5 (h_c5.stays (h1.staysC (L0 := [⟨r2, zc35, 35⟩, ⟨r1, (List.flatten [[c0], [c1], mq1, [c3], c4, [c5], [c6], [c7], [c8], [c9], [c10], [c11], [c12]]).toArray, 35⟩]) rfl))) ?_
  rintro wq5 vq3 wq6 h1 ⟨h_vq3, hb⟩
  have h_vq3 := h_vq3.stays (stays_newN h1 (Nat.le_trans hbel.size h1.size))
  have hT := (h1.tr hb).cong (L0 := [⟨r2, zc35, 35⟩, ⟨r1, (List.flatten [[c0], [c1], mq1, [c3], c4, [c5], [c6], [c7], [c8], [c9], [c10], [c11], [c12]]).toArray, 35⟩]) rfl
  have h_c2 := h_c2.stays hT.stays
  have h_c4 := h_c4.stays hT.stays
  have h_c5 := h_c5.stays hT.stays
  have h_c8 := h_c8.stays hT.stays
  have h_c9 := h_c9.stays hT.stays
  have h_c11 := h_c11.stays hT.stays
  have h_mq1 := h_mq1.stays hT.staysN
  have h_mq2 := h_mq2.stays hT.staysN
  have hbel := h1.belowCall hbel (ge_cons hr2 (ge_cons hr1 (ge_nil _))) hb
  refine wl_eq (S := SH wq6 [⟨r2, zc35, 35⟩, ⟨r1, (List.flatten [[c0], [c1], mq1, [c3], mq2, [c5], [c6], [c7], [c8], [c9], [c10], [c11], [c12]]).toArray, 35⟩]) (h1.after hb) ?_
  refine wl_go 1 [(14, .pointer (some ⟨r1, 13, none⟩))] (by kernel_rfl) ?_
  refine wl_store (b := r1) (off := 13) (v := vq3) (c' := (List.flatten [[c0], [c1], mq1, [c3], mq2, [vq3], [c6], [c7], [c8], [c9], [c10], [c11], [c12]]).toArray) (L' := [⟨r2, zc35, 35⟩, ⟨r1, (List.flatten [[c0], [c1], mq1, [c3], mq2, [vq3], [c6], [c7], [c8], [c9], [c10], [c11], [c12]]).toArray, 35⟩]) 1 (by kernel_rfl) rfl (by kernel_rfl) (by kernel_rfl) rfl (writeAt_seg 5 ([vq3]) rfl (by simp [l_mq1, l_mq2]) (Rd.cells h_vq3) rfl (by kernel_rfl) (fun u hu => by simp only [List.mem_singleton] at hu; subst hu; exact h_vq3.oneCell) rfl) rfl ?_
  refine nx_list ?_
  refine nx_then ?_
  refine wc_seq ?_
  refine wc_region ?_
  refine wl_go 1 [(15, .pointer (some ⟨r1, 16, none⟩))] (by kernel_rfl) ?_
  refine wl_yl (d := 16) (v := c8) (by kernel_rfl) (yl_load (b := r1) (off := 16) 1 rfl (by kernel_rfl) rfl (readAt_seg1 8 rfl (by simp [l_mq1, l_mq2]) (by kernel_rfl))) ?_
  refine wl_callB (X := Value) (d := 17) (fun x => x) (fun wa y wz => Rd (fun k => wa.heap.size ≤ k) wz (.sl rows8) y ∧ Below wa.heap.size wa wz) (by kernel_rfl) (by kernel_rfl) (fun w1 h1 => (copyStrings_ok rows8 fR_rows8 b_rows8) w1 _ c8 (h_c8.stays (h1.staysC (L0 := [⟨r2, zc35, 35⟩, ⟨r1, (List.flatten [[c0], [c1], mq1, [c3], mq2, [c5], [c6], [c7], [c8], [c9], [c10], [c11], [c12]]).toArray, 35⟩]) rfl))) ?_
  rintro wq7 vq4 wq8 h1 ⟨h_vq4, hb⟩
  have h_vq4 := h_vq4.stays (stays_newN h1 (Nat.le_trans hbel.size h1.size))
  have hT := (h1.tr hb).cong (L0 := [⟨r2, zc35, 35⟩, ⟨r1, (List.flatten [[c0], [c1], mq1, [c3], mq2, [c5], [c6], [c7], [c8], [c9], [c10], [c11], [c12]]).toArray, 35⟩]) rfl
  have h_c2 := h_c2.stays hT.stays
  have h_c4 := h_c4.stays hT.stays
  have h_c5 := h_c5.stays hT.stays
  have h_c8 := h_c8.stays hT.stays
  have h_c9 := h_c9.stays hT.stays
  have h_c11 := h_c11.stays hT.stays
  have h_mq1 := h_mq1.stays hT.staysN
  have h_mq2 := h_mq2.stays hT.staysN
  have h_vq3 := h_vq3.stays hT.staysN
  have hbel := h1.belowCall hbel (ge_cons hr2 (ge_cons hr1 (ge_nil _))) hb
  refine wl_eq (S := SH wq8 [⟨r2, zc35, 35⟩, ⟨r1, (List.flatten [[c0], [c1], mq1, [c3], mq2, [vq3], [c6], [c7], [c8], [c9], [c10], [c11], [c12]]).toArray, 35⟩]) (h1.after hb) ?_
  refine wl_go 1 [(18, .pointer (some ⟨r1, 16, none⟩))] (by kernel_rfl) ?_
  refine wl_store (b := r1) (off := 16) (v := vq4) (c' := (List.flatten [[c0], [c1], mq1, [c3], mq2, [vq3], [c6], [c7], [vq4], [c9], [c10], [c11], [c12]]).toArray) (L' := [⟨r2, zc35, 35⟩, ⟨r1, (List.flatten [[c0], [c1], mq1, [c3], mq2, [vq3], [c6], [c7], [vq4], [c9], [c10], [c11], [c12]]).toArray, 35⟩]) 1 (by kernel_rfl) rfl (by kernel_rfl) (by kernel_rfl) rfl (writeAt_seg 8 ([vq4]) rfl (by simp [l_mq1, l_mq2]) (Rd.cells h_vq4) rfl (by kernel_rfl) (fun u hu => by simp only [List.mem_singleton] at hu; subst hu; exact h_vq4.oneCell) rfl) rfl ?_
  refine nx_list ?_
  refine nx_then ?_
  refine wc_seq ?_
  refine wc_region ?_
  refine wl_go 1 [(19, .pointer (some ⟨r1, 17, none⟩))] (by kernel_rfl) ?_
  refine wl_yl (d := 20) (v := c9) (by kernel_rfl) (yl_load (b := r1) (off := 17) 1 rfl (by kernel_rfl) rfl (readAt_seg1 9 rfl (by simp [l_mq1, l_mq2]) (by kernel_rfl))) ?_
  refine wl_callB (X := Value) (d := 21) (fun x => x) (fun wa y wz => Rd (fun k => wa.heap.size ≤ k) wz (.sl rows9) y ∧ Below wa.heap.size wa wz) (by kernel_rfl) (by kernel_rfl) (fun w1 h1 => (copyAll_10 rows9 fR_rows9 b_rows9 (fun r hr => copyProp_step r (fR_rows9.mem hr) (fun q hq hfq => ih q (by have := szR_mem hr; simp only [szL, szL_append, D.sz]; omega) hfq))) w1 _ c9 (h_c9.stays (h1.staysC (L0 := [⟨r2, zc35, 35⟩, ⟨r1, (List.flatten [[c0], [c1], mq1, [c3], mq2, [vq3], [c6], [c7], [c8], [c9], [c10], [c11], [c12]]).toArray, 35⟩]) rfl))) ?_
  rintro wq9 vq5 wq10 h1 ⟨h_vq5, hb⟩
  have h_vq5 := h_vq5.stays (stays_newN h1 (Nat.le_trans hbel.size h1.size))
  have hT := (h1.tr hb).cong (L0 := [⟨r2, zc35, 35⟩, ⟨r1, (List.flatten [[c0], [c1], mq1, [c3], mq2, [vq3], [c6], [c7], [c8], [c9], [c10], [c11], [c12]]).toArray, 35⟩]) rfl
  have h_c2 := h_c2.stays hT.stays
  have h_c4 := h_c4.stays hT.stays
  have h_c5 := h_c5.stays hT.stays
  have h_c8 := h_c8.stays hT.stays
  have h_c9 := h_c9.stays hT.stays
  have h_c11 := h_c11.stays hT.stays
  have h_mq1 := h_mq1.stays hT.staysN
  have h_mq2 := h_mq2.stays hT.staysN
  have h_vq3 := h_vq3.stays hT.staysN
  have h_vq4 := h_vq4.stays hT.staysN
  have hbel := h1.belowCall hbel (ge_cons hr2 (ge_cons hr1 (ge_nil _))) hb
  refine wl_eq (S := SH wq10 [⟨r2, zc35, 35⟩, ⟨r1, (List.flatten [[c0], [c1], mq1, [c3], mq2, [vq3], [c6], [c7], [vq4], [c9], [c10], [c11], [c12]]).toArray, 35⟩]) (h1.after hb) ?_
  refine wl_go 1 [(22, .pointer (some ⟨r1, 17, none⟩))] (by kernel_rfl) ?_
  refine wl_store (b := r1) (off := 17) (v := vq5) (c' := (List.flatten [[c0], [c1], mq1, [c3], mq2, [vq3], [c6], [c7], [vq4], [vq5], [c10], [c11], [c12]]).toArray) (L' := [⟨r2, zc35, 35⟩, ⟨r1, (List.flatten [[c0], [c1], mq1, [c3], mq2, [vq3], [c6], [c7], [vq4], [vq5], [c10], [c11], [c12]]).toArray, 35⟩]) 1 (by kernel_rfl) rfl (by kernel_rfl) (by kernel_rfl) rfl (writeAt_seg 9 ([vq5]) rfl (by simp [l_mq1, l_mq2]) (Rd.cells h_vq5) rfl (by kernel_rfl) (fun u hu => by simp only [List.mem_singleton] at hu; subst hu; exact h_vq5.oneCell) rfl) rfl ?_
  refine nx_list ?_
  refine nx_then ?_
  refine wc_seq ?_
  refine wc_region ?_
  refine wl_go 1 [(23, .pointer (some ⟨r1, 19, none⟩))] (by kernel_rfl) ?_
  refine wl_yl (d := 24) (v := c11) (by kernel_rfl) (yl_load (b := r1) (off := 19) 1 rfl (by kernel_rfl) rfl (readAt_seg1 11 rfl (by simp [l_mq1, l_mq2]) (by kernel_rfl))) ?_
  refine wl_callB (X := Value) (d := 25) (fun x => x) (fun wa y wz => Rd (fun k => wa.heap.size ≤ k) wz (.sl rows11) y ∧ Below wa.heap.size wa wz) (by kernel_rfl) (by kernel_rfl) (fun w1 h1 => (copyAll_9 rows11 fR_rows11 b_rows11 (fun r hr => ih r (by have := szR_mem hr; simp only [szL, szL_append, D.sz]; omega) (fR_rows11.mem hr))) w1 _ c11 (h_c11.stays (h1.staysC (L0 := [⟨r2, zc35, 35⟩, ⟨r1, (List.flatten [[c0], [c1], mq1, [c3], mq2, [vq3], [c6], [c7], [vq4], [c9], [c10], [c11], [c12]]).toArray, 35⟩]) rfl))) ?_
  rintro wq11 vq6 wq12 h1 ⟨h_vq6, hb⟩
  have h_vq6 := h_vq6.stays (stays_newN h1 (Nat.le_trans hbel.size h1.size))
  have hT := (h1.tr hb).cong (L0 := [⟨r2, zc35, 35⟩, ⟨r1, (List.flatten [[c0], [c1], mq1, [c3], mq2, [vq3], [c6], [c7], [vq4], [c9], [c10], [c11], [c12]]).toArray, 35⟩]) rfl
  have h_c2 := h_c2.stays hT.stays
  have h_c4 := h_c4.stays hT.stays
  have h_c5 := h_c5.stays hT.stays
  have h_c8 := h_c8.stays hT.stays
  have h_c9 := h_c9.stays hT.stays
  have h_c11 := h_c11.stays hT.stays
  have h_mq1 := h_mq1.stays hT.staysN
  have h_mq2 := h_mq2.stays hT.staysN
  have h_vq3 := h_vq3.stays hT.staysN
  have h_vq4 := h_vq4.stays hT.staysN
  have h_vq5 := h_vq5.stays hT.staysN
  have hbel := h1.belowCall hbel (ge_cons hr2 (ge_cons hr1 (ge_nil _))) hb
  refine wl_eq (S := SH wq12 [⟨r2, zc35, 35⟩, ⟨r1, (List.flatten [[c0], [c1], mq1, [c3], mq2, [vq3], [c6], [c7], [vq4], [vq5], [c10], [c11], [c12]]).toArray, 35⟩]) (h1.after hb) ?_
  refine wl_go 1 [(26, .pointer (some ⟨r1, 19, none⟩))] (by kernel_rfl) ?_
  refine wl_store (b := r1) (off := 19) (v := vq6) (c' := (List.flatten [[c0], [c1], mq1, [c3], mq2, [vq3], [c6], [c7], [vq4], [vq5], [c10], [vq6], [c12]]).toArray) (L' := [⟨r2, zc35, 35⟩, ⟨r1, (List.flatten [[c0], [c1], mq1, [c3], mq2, [vq3], [c6], [c7], [vq4], [vq5], [c10], [vq6], [c12]]).toArray, 35⟩]) 1 (by kernel_rfl) rfl (by kernel_rfl) (by kernel_rfl) rfl (writeAt_seg 11 ([vq6]) rfl (by simp [l_mq1, l_mq2]) (Rd.cells h_vq6) rfl (by kernel_rfl) (fun u hu => by simp only [List.mem_singleton] at hu; subst hu; exact h_vq6.oneCell) rfl) rfl ?_
  refine nx_list ?_
  refine nx_then ?_
  refine wc_seq ?_
  refine wc_region ?_
  refine wl_yl (d := 27) (v := .agg (List.flatten [[c0], [c1], mq1, [c3], mq2, [vq3], [c6], [c7], [vq4], [vq5], [c10], [vq6], [c12]]).toArray) (by kernel_rfl) (yl_load (b := r1) (off := 0) 1 rfl (by kernel_rfl) rfl (readAt_all (by rw [show (List.flatten [[c0], [c1], mq1, [c3], mq2, [vq3], [c6], [c7], [vq4], [vq5], [c10], [vq6], [c12]]).length = 21 from by simp [l_mq1, l_mq2]]; kernel_rfl))) ?_
  refine wl_store (b := r2) (off := 0) (v := .agg (List.flatten [[c0], [c1], mq1, [c3], mq2, [vq3], [c6], [c7], [vq4], [vq5], [c10], [vq6], [c12]]).toArray) (c' := (List.flatten [[c0], [c1], mq1, [c3], mq2, [vq3], [c6], [c7], [vq4], [vq5], [c10], [vq6], [c12]]).toArray) (L' := [⟨r2, (List.flatten [[c0], [c1], mq1, [c3], mq2, [vq3], [c6], [c7], [vq4], [vq5], [c10], [vq6], [c12]]).toArray, 35⟩, ⟨r1, (List.flatten [[c0], [c1], mq1, [c3], mq2, [vq3], [c6], [c7], [vq4], [vq5], [c10], [vq6], [c12]]).toArray, 35⟩]) 0 (by kernel_rfl) rfl (by kernel_rfl) (by kernel_rfl) rfl (writeAt_all (by rw [show (List.flatten [[c0], [c1], mq1, [c3], mq2, [vq3], [c6], [c7], [vq4], [vq5], [c10], [vq6], [c12]]).length = 21 from by simp [l_mq1, l_mq2]]; kernel_rfl) (by rw [show (List.flatten [[c0], [c1], mq1, [c3], mq2, [vq3], [c6], [c7], [vq4], [vq5], [c10], [vq6], [c12]]).length = 21 from by simp [l_mq1, l_mq2]]; kernel_rfl) (oc_cons (fun u hu => by simp only [List.mem_singleton] at hu; subst hu; exact h_c0.oneCell) (oc_cons (fun u hu => by simp only [List.mem_singleton] at hu; subst hu; exact h_c1.oneCell) (oc_cons (RdL.oneCell h_mq1) (oc_cons (fun u hu => by simp only [List.mem_singleton] at hu; subst hu; exact h_c3.oneCell) (oc_cons (RdL.oneCell h_mq2) (oc_cons (fun u hu => by simp only [List.mem_singleton] at hu; subst hu; exact h_vq3.oneCell) (oc_cons (fun u hu => by simp only [List.mem_singleton] at hu; subst hu; exact h_c6.oneCell) (oc_cons (fun u hu => by simp only [List.mem_singleton] at hu; subst hu; exact h_c7.oneCell) (oc_cons (fun u hu => by simp only [List.mem_singleton] at hu; subst hu; exact h_vq4.oneCell) (oc_cons (fun u hu => by simp only [List.mem_singleton] at hu; subst hu; exact h_vq5.oneCell) (oc_cons (fun u hu => by simp only [List.mem_singleton] at hu; subst hu; exact h_c10.oneCell) (oc_cons (fun u hu => by simp only [List.mem_singleton] at hu; subst hu; exact h_vq6.oneCell) (oc_cons (fun u hu => by simp only [List.mem_singleton] at hu; subst hu; exact h_c12.oneCell) oc_nil)))))))))))))) rfl ?_
  refine nx_list ?_
  refine nx_then ?_
  refine nx_ret ?_
  refine ret_cell (v := .agg (List.flatten [[c0], [c1], mq1, [c3], mq2, [vq3], [c6], [c7], [vq4], [vq5], [c10], [vq6], [c12]]).toArray) (b := r2) (off := 0) 0 rfl (by kernel_rfl) rfl (readAt_all (by rw [show (List.flatten [[c0], [c1], mq1, [c3], mq2, [vq3], [c6], [c7], [vq4], [vq5], [c10], [vq6], [c12]]).length = 21 from by simp [l_mq1, l_mq2]]; kernel_rfl)) ?_
  intro w' hw'
  refine ⟨_, rfl, ?_, hw'.below hbel hbel.size (ge_cons hr2 (ge_cons hr1 (ge_nil _)))⟩
  rw [show (List.flatten [[c0], [c1], mq1, [c3], mq2, [vq3], [c6], [c7], [vq4], [vq5], [c10], [vq6], [c12]] : List Value) = (c0) :: ((c1) :: (mq1 ++ ((c3) :: (mq2 ++ ((vq3) :: ((c6) :: ((c7) :: ((vq4) :: ((vq5) :: ((c10) :: ((vq6) :: ((c12) :: ([]))))))))))))) from by simp]
  exact RdL.mk (h_c0.bare rfl) (RdL.mk (h_c1.bare rfl) (RdL.append (h_mq1.stays (hw'.staysN (L0 := [⟨r2, zc35, 35⟩, ⟨r1, (List.flatten [[c0], [c1], mq1, [c3], mq2, [vq3], [c6], [c7], [vq4], [vq5], [c10], [c11], [c12]]).toArray, 35⟩]) rfl)) (RdL.mk (h_c3.bare rfl) (RdL.append (h_mq2.stays (hw'.staysN (L0 := [⟨r2, zc35, 35⟩, ⟨r1, (List.flatten [[c0], [c1], mq1, [c3], mq2, [vq3], [c6], [c7], [vq4], [vq5], [c10], [c11], [c12]]).toArray, 35⟩]) rfl)) (RdL.mk (h_vq3.stays (hw'.staysN (L0 := [⟨r2, zc35, 35⟩, ⟨r1, (List.flatten [[c0], [c1], mq1, [c3], mq2, [vq3], [c6], [c7], [vq4], [vq5], [c10], [c11], [c12]]).toArray, 35⟩]) rfl)) (RdL.mk (h_c6.bare rfl) (RdL.mk (h_c7.bare rfl) (RdL.mk (h_vq4.stays (hw'.staysN (L0 := [⟨r2, zc35, 35⟩, ⟨r1, (List.flatten [[c0], [c1], mq1, [c3], mq2, [vq3], [c6], [c7], [vq4], [vq5], [c10], [c11], [c12]]).toArray, 35⟩]) rfl)) (RdL.mk (h_vq5.stays (hw'.staysN (L0 := [⟨r2, zc35, 35⟩, ⟨r1, (List.flatten [[c0], [c1], mq1, [c3], mq2, [vq3], [c6], [c7], [vq4], [vq5], [c10], [c11], [c12]]).toArray, 35⟩]) rfl)) (RdL.mk (h_c10.bare rfl) (RdL.mk (h_vq6.stays (hw'.staysN (L0 := [⟨r2, zc35, 35⟩, ⟨r1, (List.flatten [[c0], [c1], mq1, [c3], mq2, [vq3], [c6], [c7], [vq4], [vq5], [c10], [c11], [c12]]).toArray, 35⟩]) rfl)) (RdL.mk (h_c12.bare rfl) (RdL.none)))))))))))))

theorem copySchema_all (ds : List D) (hfit : FitL sh by_ ds shSchema) : CopyS Try.prog 45 ds := by
  have key : ∀ (m : Nat) (ds : List D), szL ds < m → FitL sh by_ ds shSchema → CopyS Try.prog 45 ds := by
    intro m
    induction m with
    | zero => intro ds h; omega
    | succ m ih => intro ds h hf; exact copySchema_step ds hf (fun r hr hfr => ih r (by omega) hfr)
  exact key _ ds (Nat.lt_succ_self _) hfit

theorem copySpace_step (ds : List D) (hfit : FitL sh by_ ds shSpace) : CopyS Try.prog 34 ds := by
  intro w S cs hrdS
  have hrd := hrdS.im
  have hbel := Below.refl w.heap.size w
  obtain ⟨d0, e0, rfl, hf0, hft0⟩ := FitL.cons (k := .str) (ks := [.sl 8] ++ shSchema ++ [.int] ++ [.int]) hfit
  obtain ⟨n0, rfl, _⟩ := Fit.str hf0
  obtain ⟨d1, e1, rfl, hf1, hft1⟩ := FitL.cons (k := .sl 8) (ks := shSchema ++ [.int] ++ [.int]) hft0
  obtain ⟨rows1, rfl, b_rows1, fR_rows1⟩ := Fit.sl hf1
  have b_rows1 : rows1.length * 456 ≤ 140737488355328 := b_rows1
  obtain ⟨d2, e2, rfl, hf2, hft2⟩ := FitL.split (ks := shSchema) (ks' := [.int] ++ [.int]) hft1
  obtain ⟨d3, e3, rfl, hf3, hft3⟩ := FitL.cons (k := .int) (ks := [.int]) hft2
  obtain ⟨n3, rfl, _⟩ := Fit.int hf3
  obtain ⟨d4, e4, rfl, hf4, hft4⟩ := FitL.cons (k := .int) (ks := []) hft3
  obtain ⟨n4, rfl, _⟩ := Fit.int hf4
  obtain rfl := FitL.nil hft4
  obtain ⟨c0, z0, rfl, h_c0, hrd0⟩ := RdL.cons hrd
  obtain ⟨c1, z1, rfl, h_c1, hrd1⟩ := RdL.cons hrd0
  obtain ⟨c2, z2, rfl, h_c2, hrd2⟩ := RdL.split hrd1
  have l_c2 : c2.length = 21 := h_c2.length.symm.trans hf2.length
  obtain ⟨c3, z3, rfl, h_c3, hrd3⟩ := RdL.cons hrd2
  obtain ⟨c4, z4, rfl, h_c4, hrd4⟩ := RdL.cons hrd3
  obtain rfl := RdL.nil hrd4
  rw [show c0 :: (c1 :: (c2 ++ (c3 :: (c4 :: ([]))))) = List.flatten [[c0], [c1], c2, [c3], [c4]] from by simp]
  refine Sx.enter (l := [.agg (List.flatten [[c0], [c1], c2, [c3], [c4]]).toArray]) Try.func34 rfl (n := 12) rfl (by simp) ?_
  refine wc_eq (S := SH w []) (SH.refl _) ?_
  refine wc_seq ?_
  refine wc_region ?_
  refine wl_new (d := 1) (List.flatten [[c0], [c1], c2, [c3], [c4]]).toArray 37 (fun r => .pointer (some ⟨r, 0, none⟩)) (by kernel_rfl) (fun r => by kernel_rfl) ?_
  intro r1 hr1
  have h_c1 := h_c1.stays (im_more (c := (List.flatten [[c0], [c1], c2, [c3], [c4]]).toArray) (t := 37) hr1)
  have h_c2 := h_c2.stays (im_more (c := (List.flatten [[c0], [c1], c2, [c3], [c4]]).toArray) (t := 37) hr1)
  refine wl_new (d := 2) zc37 37 (fun r => .pointer (some ⟨r, 0, none⟩)) (by kernel_rfl) (fun r => by kernel_rfl) ?_
  intro r2 hr2
  have h_c1 := h_c1.stays (im_more (c := zc37) (t := 37) hr2)
  have h_c2 := h_c2.stays (im_more (c := zc37) (t := 37) hr2)
  refine nx_list ?_
  refine nx_then ?_
  refine wc_seq ?_
  refine wc_region ?_
  refine wl_go 1 [(3, .pointer (some ⟨r1, 1, none⟩))] (by kernel_rfl) ?_
  refine wl_yl (d := 4) (v := c1) (by kernel_rfl) (yl_load (b := r1) (off := 1) 1 rfl (by kernel_rfl) rfl (readAt_seg1 1 rfl (by simp [l_c2]) (by kernel_rfl))) ?_
  refine wl_callB (X := Value) (d := 5) (fun x => x) (fun wa y wz => Rd (fun k => wa.heap.size ≤ k) wz (.sl rows1) y ∧ Below wa.heap.size wa wz) (by kernel_rfl) (by kernel_rfl) (fun w1 h1 => (copyAll_8 rows1 fR_rows1 b_rows1 (fun r hr => copyIndex_all r (fR_rows1.mem hr))) w1 _ c1 (h_c1.stays (h1.staysC (L0 := (⟨r2, zc37, 37⟩ :: (⟨r1, (List.flatten [[c0], [c1], c2, [c3], [c4]]).toArray, 37⟩ :: []))) rfl))) ?_
  rintro wq1 vq1 wq2 h1 ⟨h_vq1, hb⟩
  have h_vq1 := h_vq1.stays (stays_newN h1 (Nat.le_trans hbel.size h1.size))
  have hT := (h1.tr hb).cong (L0 := (⟨r2, zc37, 37⟩ :: (⟨r1, (List.flatten [[c0], [c1], c2, [c3], [c4]]).toArray, 37⟩ :: []))) rfl
  have h_c1 := h_c1.stays hT.stays
  have h_c2 := h_c2.stays hT.stays
  have hbel := h1.belowCall hbel (ge_cons hr2 (ge_cons hr1 (ge_nil _))) hb
  refine wl_eq (S := SH wq2 [⟨r2, zc37, 37⟩, ⟨r1, (List.flatten [[c0], [c1], c2, [c3], [c4]]).toArray, 37⟩]) (h1.after hb) ?_
  refine wl_go 1 [(6, .pointer (some ⟨r1, 1, none⟩))] (by kernel_rfl) ?_
  refine wl_store (b := r1) (off := 1) (v := vq1) (c' := (List.flatten [[c0], [vq1], c2, [c3], [c4]]).toArray) (L' := [⟨r2, zc37, 37⟩, ⟨r1, (List.flatten [[c0], [vq1], c2, [c3], [c4]]).toArray, 37⟩]) 1 (by kernel_rfl) rfl (by kernel_rfl) (by kernel_rfl) rfl (writeAt_seg 1 ([vq1]) rfl (by simp [l_c2]) (Rd.cells h_vq1) rfl (by kernel_rfl) (fun u hu => by simp only [List.mem_singleton] at hu; subst hu; exact h_vq1.oneCell) rfl) rfl ?_
  refine nx_list ?_
  refine nx_then ?_
  refine wc_seq ?_
  refine wc_region ?_
  refine wl_go 1 [(7, .pointer (some ⟨r1, 2, none⟩))] (by kernel_rfl) ?_
  refine wl_yl (d := 8) (v := .agg (c2).toArray) (by kernel_rfl) (yl_load (b := r1) (off := 2) 1 rfl (by kernel_rfl) rfl (readAt_seg 2 rfl (by simp [l_c2]) (by rw [l_c2]; kernel_rfl))) ?_
  refine wl_callB (X := List Value) (d := 9) (fun x => .agg x.toArray) (fun wa y wz => RdL (fun k => wa.heap.size ≤ k) wz d2 y ∧ Below wa.heap.size wa wz) (by kernel_rfl) (by kernel_rfl) (fun w1 h1 => (copySchema_all d2 hf2) w1 _ c2 (h_c2.stays (h1.staysC (L0 := [⟨r2, zc37, 37⟩, ⟨r1, (List.flatten [[c0], [c1], c2, [c3], [c4]]).toArray, 37⟩]) rfl))) ?_
  rintro wq3 mq2 wq4 h1 ⟨h_mq2, hb⟩
  have h_mq2 := h_mq2.stays (stays_newN h1 (Nat.le_trans hbel.size h1.size))
  have l_mq2 : mq2.length = 21 := h_mq2.length.symm.trans (h_c2.length.trans l_c2)
  have hT := (h1.tr hb).cong (L0 := [⟨r2, zc37, 37⟩, ⟨r1, (List.flatten [[c0], [c1], c2, [c3], [c4]]).toArray, 37⟩]) rfl
  have h_c1 := h_c1.stays hT.stays
  have h_c2 := h_c2.stays hT.stays
  have h_vq1 := h_vq1.stays hT.staysN
  have hbel := h1.belowCall hbel (ge_cons hr2 (ge_cons hr1 (ge_nil _))) hb
  refine wl_eq (S := SH wq4 [⟨r2, zc37, 37⟩, ⟨r1, (List.flatten [[c0], [vq1], c2, [c3], [c4]]).toArray, 37⟩]) (h1.after hb) ?_
  refine wl_go 1 [(10, .pointer (some ⟨r1, 2, none⟩))] (by kernel_rfl) ?_
  refine wl_store (b := r1) (off := 2) (v := .agg (mq2).toArray) (c' := (List.flatten [[c0], [vq1], mq2, [c3], [c4]]).toArray) (L' := [⟨r2, zc37, 37⟩, ⟨r1, (List.flatten [[c0], [vq1], mq2, [c3], [c4]]).toArray, 37⟩]) 1 (by kernel_rfl) rfl (by kernel_rfl) (by kernel_rfl) rfl (writeAt_seg 2 (mq2) rfl (by simp [l_c2]) rfl (by rw [l_mq2, l_c2]) (by rw [l_mq2]; kernel_rfl) (RdL.oneCell h_mq2) rfl) rfl ?_
  refine nx_list ?_
  refine nx_then ?_
  refine wc_seq ?_
  refine wc_region ?_
  refine wl_yl (d := 11) (v := .agg (List.flatten [[c0], [vq1], mq2, [c3], [c4]]).toArray) (by kernel_rfl) (yl_load (b := r1) (off := 0) 1 rfl (by kernel_rfl) rfl (readAt_all (by rw [show (List.flatten [[c0], [vq1], mq2, [c3], [c4]]).length = 25 from by simp [l_mq2]]; kernel_rfl))) ?_
  refine wl_store (b := r2) (off := 0) (v := .agg (List.flatten [[c0], [vq1], mq2, [c3], [c4]]).toArray) (c' := (List.flatten [[c0], [vq1], mq2, [c3], [c4]]).toArray) (L' := [⟨r2, (List.flatten [[c0], [vq1], mq2, [c3], [c4]]).toArray, 37⟩, ⟨r1, (List.flatten [[c0], [vq1], mq2, [c3], [c4]]).toArray, 37⟩]) 0 (by kernel_rfl) rfl (by kernel_rfl) (by kernel_rfl) rfl (writeAt_all (by rw [show (List.flatten [[c0], [vq1], mq2, [c3], [c4]]).length = 25 from by simp [l_mq2]]; kernel_rfl) (by rw [show (List.flatten [[c0], [vq1], mq2, [c3], [c4]]).length = 25 from by simp [l_mq2]]; kernel_rfl) (oc_cons (fun u hu => by simp only [List.mem_singleton] at hu; subst hu; exact h_c0.oneCell) (oc_cons (fun u hu => by simp only [List.mem_singleton] at hu; subst hu; exact h_vq1.oneCell) (oc_cons (RdL.oneCell h_mq2) (oc_cons (fun u hu => by simp only [List.mem_singleton] at hu; subst hu; exact h_c3.oneCell) (oc_cons (fun u hu => by simp only [List.mem_singleton] at hu; subst hu; exact h_c4.oneCell) oc_nil)))))) rfl ?_
  refine nx_list ?_
  refine nx_then ?_
  refine nx_ret ?_
  refine ret_cell (v := .agg (List.flatten [[c0], [vq1], mq2, [c3], [c4]]).toArray) (b := r2) (off := 0) 0 rfl (by kernel_rfl) rfl (readAt_all (by rw [show (List.flatten [[c0], [vq1], mq2, [c3], [c4]]).length = 25 from by simp [l_mq2]]; kernel_rfl)) ?_
  intro w' hw'
  refine ⟨_, rfl, ?_, hw'.below hbel hbel.size (ge_cons hr2 (ge_cons hr1 (ge_nil _)))⟩
  rw [show (List.flatten [[c0], [vq1], mq2, [c3], [c4]] : List Value) = (c0) :: ((vq1) :: (mq2 ++ ((c3) :: ((c4) :: ([]))))) from by simp]
  exact RdL.mk (h_c0.bare rfl) (RdL.mk (h_vq1.stays (hw'.staysN (L0 := [⟨r2, zc37, 37⟩, ⟨r1, (List.flatten [[c0], [vq1], c2, [c3], [c4]]).toArray, 37⟩]) rfl)) (RdL.append (h_mq2.stays (hw'.staysN (L0 := [⟨r2, zc37, 37⟩, ⟨r1, (List.flatten [[c0], [vq1], c2, [c3], [c4]]).toArray, 37⟩]) rfl)) (RdL.mk (h_c3.bare rfl) (RdL.mk (h_c4.bare rfl) (RdL.none)))))

theorem copySpace_all (ds : List D) (hfit : FitL sh by_ ds shSpace) : CopyS Try.prog 34 ds := copySpace_step ds hfit

theorem copyWrite_step (ds : List D) (hfit : FitL sh by_ ds shWrite) (ih : ∀ (r : List D), szL r < szL ds → FitL sh by_ r shWrite → CopyS Try.prog 28 r) : CopyS Try.prog 28 ds := by
  intro w S cs hrdS
  have hrd := hrdS.im
  have hbel := Below.refl w.heap.size w
  obtain ⟨d0, e0, rfl, hf0, hft0⟩ := FitL.cons (k := .int) (ks := [.str] ++ shV ++ shV ++ shV ++ shSpace ++ shIndex ++ [.str] ++ [.int] ++ [.sl 12] ++ [.sl 3] ++ [.bool]) hfit
  obtain ⟨n0, rfl, _⟩ := Fit.int hf0
  obtain ⟨d1, e1, rfl, hf1, hft1⟩ := FitL.cons (k := .str) (ks := shV ++ shV ++ shV ++ shSpace ++ shIndex ++ [.str] ++ [.int] ++ [.sl 12] ++ [.sl 3] ++ [.bool]) hft0
  obtain ⟨n1, rfl, _⟩ := Fit.str hf1
  obtain ⟨d2, e2, rfl, hf2, hft2⟩ := FitL.split (ks := shV) (ks' := shV ++ shV ++ shSpace ++ shIndex ++ [.str] ++ [.int] ++ [.sl 12] ++ [.sl 3] ++ [.bool]) hft1
  obtain ⟨d3, e3, rfl, hf3, hft3⟩ := FitL.split (ks := shV) (ks' := shV ++ shSpace ++ shIndex ++ [.str] ++ [.int] ++ [.sl 12] ++ [.sl 3] ++ [.bool]) hft2
  obtain ⟨d4, e4, rfl, hf4, hft4⟩ := FitL.split (ks := shV) (ks' := shSpace ++ shIndex ++ [.str] ++ [.int] ++ [.sl 12] ++ [.sl 3] ++ [.bool]) hft3
  obtain ⟨d5, e5, rfl, hf5, hft5⟩ := FitL.split (ks := shSpace) (ks' := shIndex ++ [.str] ++ [.int] ++ [.sl 12] ++ [.sl 3] ++ [.bool]) hft4
  obtain ⟨d6, e6, rfl, hf6, hft6⟩ := FitL.split (ks := shIndex) (ks' := [.str] ++ [.int] ++ [.sl 12] ++ [.sl 3] ++ [.bool]) hft5
  obtain ⟨d7, e7, rfl, hf7, hft7⟩ := FitL.cons (k := .str) (ks := [.int] ++ [.sl 12] ++ [.sl 3] ++ [.bool]) hft6
  obtain ⟨n7, rfl, _⟩ := Fit.str hf7
  obtain ⟨d8, e8, rfl, hf8, hft8⟩ := FitL.cons (k := .int) (ks := [.sl 12] ++ [.sl 3] ++ [.bool]) hft7
  obtain ⟨n8, rfl, _⟩ := Fit.int hf8
  obtain ⟨d9, e9, rfl, hf9, hft9⟩ := FitL.cons (k := .sl 12) (ks := [.sl 3] ++ [.bool]) hft8
  obtain ⟨rows9, rfl, b_rows9, fR_rows9⟩ := Fit.sl hf9
  have b_rows9 : rows9.length * 1168 ≤ 140737488355328 := b_rows9
  obtain ⟨d10, e10, rfl, hf10, hft10⟩ := FitL.cons (k := .sl 3) (ks := [.bool]) hft9
  obtain ⟨rows10, rfl, b_rows10, fR_rows10⟩ := Fit.sl hf10
  have b_rows10 : rows10.length * 8 ≤ 140737488355328 := b_rows10
  obtain ⟨d11, e11, rfl, hf11, hft11⟩ := FitL.cons (k := .bool) (ks := []) hft10
  obtain ⟨n11, rfl⟩ := Fit.bool hf11
  obtain rfl := FitL.nil hft11
  obtain ⟨c0, z0, rfl, h_c0, hrd0⟩ := RdL.cons hrd
  obtain ⟨c1, z1, rfl, h_c1, hrd1⟩ := RdL.cons hrd0
  obtain ⟨c2, z2, rfl, h_c2, hrd2⟩ := RdL.split hrd1
  have l_c2 : c2.length = 5 := h_c2.length.symm.trans hf2.length
  obtain ⟨c3, z3, rfl, h_c3, hrd3⟩ := RdL.split hrd2
  have l_c3 : c3.length = 5 := h_c3.length.symm.trans hf3.length
  obtain ⟨c4, z4, rfl, h_c4, hrd4⟩ := RdL.split hrd3
  have l_c4 : c4.length = 5 := h_c4.length.symm.trans hf4.length
  obtain ⟨c5, z5, rfl, h_c5, hrd5⟩ := RdL.split hrd4
  have l_c5 : c5.length = 25 := h_c5.length.symm.trans hf5.length
  obtain ⟨c6, z6, rfl, h_c6, hrd6⟩ := RdL.split hrd5
  have l_c6 : c6.length = 31 := h_c6.length.symm.trans hf6.length
  obtain ⟨c7, z7, rfl, h_c7, hrd7⟩ := RdL.cons hrd6
  obtain ⟨c8, z8, rfl, h_c8, hrd8⟩ := RdL.cons hrd7
  obtain ⟨c9, z9, rfl, h_c9, hrd9⟩ := RdL.cons hrd8
  obtain ⟨c10, z10, rfl, h_c10, hrd10⟩ := RdL.cons hrd9
  obtain ⟨c11, z11, rfl, h_c11, hrd11⟩ := RdL.cons hrd10
  obtain rfl := RdL.nil hrd11
  rw [show c0 :: (c1 :: (c2 ++ (c3 ++ (c4 ++ (c5 ++ (c6 ++ (c7 :: (c8 :: (c9 :: (c10 :: (c11 :: ([])))))))))))) = List.flatten [[c0], [c1], c2, c3, c4, c5, c6, [c7], [c8], [c9], [c10], [c11]] from by simp]
  refine Sx.enter (l := [.agg (List.flatten [[c0], [c1], c2, c3, c4, c5, c6, [c7], [c8], [c9], [c10], [c11]]).toArray]) Try.func28 rfl (n := 32) rfl (by simp) ?_
  refine wc_eq (S := SH w []) (SH.refl _) ?_
  refine wc_seq ?_
  refine wc_region ?_
  refine wl_new (d := 1) (List.flatten [[c0], [c1], c2, c3, c4, c5, c6, [c7], [c8], [c9], [c10], [c11]]).toArray 53 (fun r => .pointer (some ⟨r, 0, none⟩)) (by kernel_rfl) (fun r => by kernel_rfl) ?_
  intro r1 hr1
  have h_c2 := h_c2.stays (im_more (c := (List.flatten [[c0], [c1], c2, c3, c4, c5, c6, [c7], [c8], [c9], [c10], [c11]]).toArray) (t := 53) hr1)
  have h_c3 := h_c3.stays (im_more (c := (List.flatten [[c0], [c1], c2, c3, c4, c5, c6, [c7], [c8], [c9], [c10], [c11]]).toArray) (t := 53) hr1)
  have h_c4 := h_c4.stays (im_more (c := (List.flatten [[c0], [c1], c2, c3, c4, c5, c6, [c7], [c8], [c9], [c10], [c11]]).toArray) (t := 53) hr1)
  have h_c5 := h_c5.stays (im_more (c := (List.flatten [[c0], [c1], c2, c3, c4, c5, c6, [c7], [c8], [c9], [c10], [c11]]).toArray) (t := 53) hr1)
  have h_c6 := h_c6.stays (im_more (c := (List.flatten [[c0], [c1], c2, c3, c4, c5, c6, [c7], [c8], [c9], [c10], [c11]]).toArray) (t := 53) hr1)
  have h_c9 := h_c9.stays (im_more (c := (List.flatten [[c0], [c1], c2, c3, c4, c5, c6, [c7], [c8], [c9], [c10], [c11]]).toArray) (t := 53) hr1)
  have h_c10 := h_c10.stays (im_more (c := (List.flatten [[c0], [c1], c2, c3, c4, c5, c6, [c7], [c8], [c9], [c10], [c11]]).toArray) (t := 53) hr1)
  refine wl_new (d := 2) zc53 53 (fun r => .pointer (some ⟨r, 0, none⟩)) (by kernel_rfl) (fun r => by kernel_rfl) ?_
  intro r2 hr2
  have h_c2 := h_c2.stays (im_more (c := zc53) (t := 53) hr2)
  have h_c3 := h_c3.stays (im_more (c := zc53) (t := 53) hr2)
  have h_c4 := h_c4.stays (im_more (c := zc53) (t := 53) hr2)
  have h_c5 := h_c5.stays (im_more (c := zc53) (t := 53) hr2)
  have h_c6 := h_c6.stays (im_more (c := zc53) (t := 53) hr2)
  have h_c9 := h_c9.stays (im_more (c := zc53) (t := 53) hr2)
  have h_c10 := h_c10.stays (im_more (c := zc53) (t := 53) hr2)
  refine nx_list ?_
  refine nx_then ?_
  refine wc_seq ?_
  refine wc_region ?_
  refine wl_go 1 [(3, .pointer (some ⟨r1, 2, none⟩))] (by kernel_rfl) ?_
  refine wl_yl (d := 4) (v := .agg (c2).toArray) (by kernel_rfl) (yl_load (b := r1) (off := 2) 1 rfl (by kernel_rfl) rfl (readAt_seg 2 rfl (by simp [l_c2, l_c3, l_c4, l_c5, l_c6]) (by rw [l_c2]; kernel_rfl))) ?_
  refine wl_callB (X := List Value) (d := 5) (fun x => .agg x.toArray) (fun wa y wz => RdL (fun k => wa.heap.size ≤ k) wz d2 y ∧ Below wa.heap.size wa wz) (by kernel_rfl) (by kernel_rfl) (fun w1 h1 => (copyValue_all d2 hf2) w1 _ c2 (h_c2.stays (h1.staysC (L0 := (⟨r2, zc53, 53⟩ :: (⟨r1, (List.flatten [[c0], [c1], c2, c3, c4, c5, c6, [c7], [c8], [c9], [c10], [c11]]).toArray, 53⟩ :: []))) rfl))) ?_
  rintro wq1 mq1 wq2 h1 ⟨h_mq1, hb⟩
  have h_mq1 := h_mq1.stays (stays_newN h1 (Nat.le_trans hbel.size h1.size))
  have l_mq1 : mq1.length = 5 := h_mq1.length.symm.trans (h_c2.length.trans l_c2)
  have hT := (h1.tr hb).cong (L0 := (⟨r2, zc53, 53⟩ :: (⟨r1, (List.flatten [[c0], [c1], c2, c3, c4, c5, c6, [c7], [c8], [c9], [c10], [c11]]).toArray, 53⟩ :: []))) rfl
  have h_c2 := h_c2.stays hT.stays
  have h_c3 := h_c3.stays hT.stays
  have h_c4 := h_c4.stays hT.stays
  have h_c5 := h_c5.stays hT.stays
  have h_c6 := h_c6.stays hT.stays
  have h_c9 := h_c9.stays hT.stays
  have h_c10 := h_c10.stays hT.stays
  have hbel := h1.belowCall hbel (ge_cons hr2 (ge_cons hr1 (ge_nil _))) hb
  refine wl_eq (S := SH wq2 [⟨r2, zc53, 53⟩, ⟨r1, (List.flatten [[c0], [c1], c2, c3, c4, c5, c6, [c7], [c8], [c9], [c10], [c11]]).toArray, 53⟩]) (h1.after hb) ?_
  refine wl_go 1 [(6, .pointer (some ⟨r1, 2, none⟩))] (by kernel_rfl) ?_
  refine wl_store (b := r1) (off := 2) (v := .agg (mq1).toArray) (c' := (List.flatten [[c0], [c1], mq1, c3, c4, c5, c6, [c7], [c8], [c9], [c10], [c11]]).toArray) (L' := [⟨r2, zc53, 53⟩, ⟨r1, (List.flatten [[c0], [c1], mq1, c3, c4, c5, c6, [c7], [c8], [c9], [c10], [c11]]).toArray, 53⟩]) 1 (by kernel_rfl) rfl (by kernel_rfl) (by kernel_rfl) rfl (writeAt_seg 2 (mq1) rfl (by simp [l_c2, l_c3, l_c4, l_c5, l_c6]) rfl (by rw [l_mq1, l_c2]) (by rw [l_mq1]; kernel_rfl) (RdL.oneCell h_mq1) rfl) rfl ?_
  refine nx_list ?_
  refine nx_then ?_
  refine wc_seq ?_
  refine wc_region ?_
  refine wl_go 1 [(7, .pointer (some ⟨r1, 7, none⟩))] (by kernel_rfl) ?_
  refine wl_yl (d := 8) (v := .agg (c3).toArray) (by kernel_rfl) (yl_load (b := r1) (off := 7) 1 rfl (by kernel_rfl) rfl (readAt_seg 3 rfl (by simp [l_c3, l_c4, l_c5, l_c6, l_mq1]) (by rw [l_c3]; kernel_rfl))) ?_
  refine wl_callB (X := List Value) (d := 9) (fun x => .agg x.toArray) (fun wa y wz => RdL (fun k => wa.heap.size ≤ k) wz d3 y ∧ Below wa.heap.size wa wz) (by kernel_rfl) (by kernel_rfl) (fun w1 h1 => (copyValue_all d3 hf3) w1 _ c3 (h_c3.stays (h1.staysC (L0 := [⟨r2, zc53, 53⟩, ⟨r1, (List.flatten [[c0], [c1], c2, c3, c4, c5, c6, [c7], [c8], [c9], [c10], [c11]]).toArray, 53⟩]) rfl))) ?_
  rintro wq3 mq2 wq4 h1 ⟨h_mq2, hb⟩
  have h_mq2 := h_mq2.stays (stays_newN h1 (Nat.le_trans hbel.size h1.size))
  have l_mq2 : mq2.length = 5 := h_mq2.length.symm.trans (h_c3.length.trans l_c3)
  have hT := (h1.tr hb).cong (L0 := [⟨r2, zc53, 53⟩, ⟨r1, (List.flatten [[c0], [c1], c2, c3, c4, c5, c6, [c7], [c8], [c9], [c10], [c11]]).toArray, 53⟩]) rfl
  have h_c2 := h_c2.stays hT.stays
  have h_c3 := h_c3.stays hT.stays
  have h_c4 := h_c4.stays hT.stays
  have h_c5 := h_c5.stays hT.stays
  have h_c6 := h_c6.stays hT.stays
  have h_c9 := h_c9.stays hT.stays
  have h_c10 := h_c10.stays hT.stays
  have h_mq1 := h_mq1.stays hT.staysN
  have hbel := h1.belowCall hbel (ge_cons hr2 (ge_cons hr1 (ge_nil _))) hb
  refine wl_eq (S := SH wq4 [⟨r2, zc53, 53⟩, ⟨r1, (List.flatten [[c0], [c1], mq1, c3, c4, c5, c6, [c7], [c8], [c9], [c10], [c11]]).toArray, 53⟩]) (h1.after hb) ?_
  refine wl_go 1 [(10, .pointer (some ⟨r1, 7, none⟩))] (by kernel_rfl) ?_
  refine wl_store (b := r1) (off := 7) (v := .agg (mq2).toArray) (c' := (List.flatten [[c0], [c1], mq1, mq2, c4, c5, c6, [c7], [c8], [c9], [c10], [c11]]).toArray) (L' := [⟨r2, zc53, 53⟩, ⟨r1, (List.flatten [[c0], [c1], mq1, mq2, c4, c5, c6, [c7], [c8], [c9], [c10], [c11]]).toArray, 53⟩]) 1 (by kernel_rfl) rfl (by kernel_rfl) (by kernel_rfl) rfl (writeAt_seg 3 (mq2) rfl (by simp [l_c3, l_c4, l_c5, l_c6, l_mq1]) rfl (by rw [l_mq2, l_c3]) (by rw [l_mq2]; kernel_rfl) (RdL.oneCell h_mq2) rfl) rfl ?_
  refine nx_list ?_
  refine nx_then ?_
  refine wc_seq ?_
  refine wc_region ?_
  refine wl_go 1 [(11, .pointer (some ⟨r1, 12, none⟩))] (by kernel_rfl) ?_
  refine wl_yl (d := 12) (v := .agg (c4).toArray) (by kernel_rfl) (yl_load (b := r1) (off := 12) 1 rfl (by kernel_rfl) rfl (readAt_seg 4 rfl (by simp [l_c4, l_c5, l_c6, l_mq1, l_mq2]) (by rw [l_c4]; kernel_rfl))) ?_
  refine wl_callB (X := List Value) (d := 13) (fun x => .agg x.toArray) (fun wa y wz => RdL (fun k => wa.heap.size ≤ k) wz d4 y ∧ Below wa.heap.size wa wz) (by kernel_rfl) (by kernel_rfl) (fun w1 h1 => (copyValue_all d4 hf4) w1 _ c4 (h_c4.stays (h1.staysC (L0 := [⟨r2, zc53, 53⟩, ⟨r1, (List.flatten [[c0], [c1], mq1, c3, c4, c5, c6, [c7], [c8], [c9], [c10], [c11]]).toArray, 53⟩]) rfl))) ?_
  rintro wq5 mq3 wq6 h1 ⟨h_mq3, hb⟩
  have h_mq3 := h_mq3.stays (stays_newN h1 (Nat.le_trans hbel.size h1.size))
  have l_mq3 : mq3.length = 5 := h_mq3.length.symm.trans (h_c4.length.trans l_c4)
  have hT := (h1.tr hb).cong (L0 := [⟨r2, zc53, 53⟩, ⟨r1, (List.flatten [[c0], [c1], mq1, c3, c4, c5, c6, [c7], [c8], [c9], [c10], [c11]]).toArray, 53⟩]) rfl
  have h_c2 := h_c2.stays hT.stays
  have h_c3 := h_c3.stays hT.stays
  have h_c4 := h_c4.stays hT.stays
  have h_c5 := h_c5.stays hT.stays
  have h_c6 := h_c6.stays hT.stays
  have h_c9 := h_c9.stays hT.stays
  have h_c10 := h_c10.stays hT.stays
  have h_mq1 := h_mq1.stays hT.staysN
  have h_mq2 := h_mq2.stays hT.staysN
  have hbel := h1.belowCall hbel (ge_cons hr2 (ge_cons hr1 (ge_nil _))) hb
  refine wl_eq (S := SH wq6 [⟨r2, zc53, 53⟩, ⟨r1, (List.flatten [[c0], [c1], mq1, mq2, c4, c5, c6, [c7], [c8], [c9], [c10], [c11]]).toArray, 53⟩]) (h1.after hb) ?_
  refine wl_go 1 [(14, .pointer (some ⟨r1, 12, none⟩))] (by kernel_rfl) ?_
  refine wl_store (b := r1) (off := 12) (v := .agg (mq3).toArray) (c' := (List.flatten [[c0], [c1], mq1, mq2, mq3, c5, c6, [c7], [c8], [c9], [c10], [c11]]).toArray) (L' := [⟨r2, zc53, 53⟩, ⟨r1, (List.flatten [[c0], [c1], mq1, mq2, mq3, c5, c6, [c7], [c8], [c9], [c10], [c11]]).toArray, 53⟩]) 1 (by kernel_rfl) rfl (by kernel_rfl) (by kernel_rfl) rfl (writeAt_seg 4 (mq3) rfl (by simp [l_c4, l_c5, l_c6, l_mq1, l_mq2]) rfl (by rw [l_mq3, l_c4]) (by rw [l_mq3]; kernel_rfl) (RdL.oneCell h_mq3) rfl) rfl ?_
  refine nx_list ?_
  refine nx_then ?_
  refine wc_seq ?_
  refine wc_region ?_
  refine wl_go 1 [(15, .pointer (some ⟨r1, 17, none⟩))] (by kernel_rfl) ?_
  refine wl_yl (d := 16) (v := .agg (c5).toArray) (by kernel_rfl) (yl_load (b := r1) (off := 17) 1 rfl (by kernel_rfl) rfl (readAt_seg 5 rfl (by simp [l_c5, l_c6, l_mq1, l_mq2, l_mq3]) (by rw [l_c5]; kernel_rfl))) ?_
  refine wl_callB (X := List Value) (d := 17) (fun x => .agg x.toArray) (fun wa y wz => RdL (fun k => wa.heap.size ≤ k) wz d5 y ∧ Below wa.heap.size wa wz) (by kernel_rfl) (by kernel_rfl) (fun w1 h1 => (copySpace_all d5 hf5) w1 _ c5 (h_c5.stays (h1.staysC (L0 := [⟨r2, zc53, 53⟩, ⟨r1, (List.flatten [[c0], [c1], mq1, mq2, c4, c5, c6, [c7], [c8], [c9], [c10], [c11]]).toArray, 53⟩]) rfl))) ?_
  rintro wq7 mq4 wq8 h1 ⟨h_mq4, hb⟩
  have h_mq4 := h_mq4.stays (stays_newN h1 (Nat.le_trans hbel.size h1.size))
  have l_mq4 : mq4.length = 25 := h_mq4.length.symm.trans (h_c5.length.trans l_c5)
  have hT := (h1.tr hb).cong (L0 := [⟨r2, zc53, 53⟩, ⟨r1, (List.flatten [[c0], [c1], mq1, mq2, c4, c5, c6, [c7], [c8], [c9], [c10], [c11]]).toArray, 53⟩]) rfl
  have h_c2 := h_c2.stays hT.stays
  have h_c3 := h_c3.stays hT.stays
  have h_c4 := h_c4.stays hT.stays
  have h_c5 := h_c5.stays hT.stays
  have h_c6 := h_c6.stays hT.stays
  have h_c9 := h_c9.stays hT.stays
  have h_c10 := h_c10.stays hT.stays
  have h_mq1 := h_mq1.stays hT.staysN
  have h_mq2 := h_mq2.stays hT.staysN
  have h_mq3 := h_mq3.stays hT.staysN
  have hbel := h1.belowCall hbel (ge_cons hr2 (ge_cons hr1 (ge_nil _))) hb
  refine wl_eq (S := SH wq8 [⟨r2, zc53, 53⟩, ⟨r1, (List.flatten [[c0], [c1], mq1, mq2, mq3, c5, c6, [c7], [c8], [c9], [c10], [c11]]).toArray, 53⟩]) (h1.after hb) ?_
  refine wl_go 1 [(18, .pointer (some ⟨r1, 17, none⟩))] (by kernel_rfl) ?_
  refine wl_store (b := r1) (off := 17) (v := .agg (mq4).toArray) (c' := (List.flatten [[c0], [c1], mq1, mq2, mq3, mq4, c6, [c7], [c8], [c9], [c10], [c11]]).toArray) (L' := [⟨r2, zc53, 53⟩, ⟨r1, (List.flatten [[c0], [c1], mq1, mq2, mq3, mq4, c6, [c7], [c8], [c9], [c10], [c11]]).toArray, 53⟩]) 1 (by kernel_rfl) rfl (by kernel_rfl) (by kernel_rfl) rfl (writeAt_seg 5 (mq4) rfl (by simp [l_c5, l_c6, l_mq1, l_mq2, l_mq3]) rfl (by rw [l_mq4, l_c5]) (by rw [l_mq4]; kernel_rfl) (RdL.oneCell h_mq4) rfl) rfl ?_
  refine nx_list ?_
  refine nx_then ?_
  refine wc_seq ?_
  refine wc_region ?_
  refine wl_go 1 [(19, .pointer (some ⟨r1, 42, none⟩))] (by kernel_rfl) ?_
  refine wl_yl (d := 20) (v := .agg (c6).toArray) (by kernel_rfl) (yl_load (b := r1) (off := 42) 1 rfl (by kernel_rfl) rfl (readAt_seg 6 rfl (by simp [l_c6, l_mq1, l_mq2, l_mq3, l_mq4]) (by rw [l_c6]; kernel_rfl))) ?_
  refine wl_callB (X := List Value) (d := 21) (fun x => .agg x.toArray) (fun wa y wz => RdL (fun k => wa.heap.size ≤ k) wz d6 y ∧ Below wa.heap.size wa wz) (by kernel_rfl) (by kernel_rfl) (fun w1 h1 => (copyIndex_all d6 hf6) w1 _ c6 (h_c6.stays (h1.staysC (L0 := [⟨r2, zc53, 53⟩, ⟨r1, (List.flatten [[c0], [c1], mq1, mq2, mq3, c5, c6, [c7], [c8], [c9], [c10], [c11]]).toArray, 53⟩]) rfl))) ?_
  rintro wq9 mq5 wq10 h1 ⟨h_mq5, hb⟩
  have h_mq5 := h_mq5.stays (stays_newN h1 (Nat.le_trans hbel.size h1.size))
  have l_mq5 : mq5.length = 31 := h_mq5.length.symm.trans (h_c6.length.trans l_c6)
  have hT := (h1.tr hb).cong (L0 := [⟨r2, zc53, 53⟩, ⟨r1, (List.flatten [[c0], [c1], mq1, mq2, mq3, c5, c6, [c7], [c8], [c9], [c10], [c11]]).toArray, 53⟩]) rfl
  have h_c2 := h_c2.stays hT.stays
  have h_c3 := h_c3.stays hT.stays
  have h_c4 := h_c4.stays hT.stays
  have h_c5 := h_c5.stays hT.stays
  have h_c6 := h_c6.stays hT.stays
  have h_c9 := h_c9.stays hT.stays
  have h_c10 := h_c10.stays hT.stays
  have h_mq1 := h_mq1.stays hT.staysN
  have h_mq2 := h_mq2.stays hT.staysN
  have h_mq3 := h_mq3.stays hT.staysN
  have h_mq4 := h_mq4.stays hT.staysN
  have hbel := h1.belowCall hbel (ge_cons hr2 (ge_cons hr1 (ge_nil _))) hb
  refine wl_eq (S := SH wq10 [⟨r2, zc53, 53⟩, ⟨r1, (List.flatten [[c0], [c1], mq1, mq2, mq3, mq4, c6, [c7], [c8], [c9], [c10], [c11]]).toArray, 53⟩]) (h1.after hb) ?_
  refine wl_go 1 [(22, .pointer (some ⟨r1, 42, none⟩))] (by kernel_rfl) ?_
  refine wl_store (b := r1) (off := 42) (v := .agg (mq5).toArray) (c' := (List.flatten [[c0], [c1], mq1, mq2, mq3, mq4, mq5, [c7], [c8], [c9], [c10], [c11]]).toArray) (L' := [⟨r2, zc53, 53⟩, ⟨r1, (List.flatten [[c0], [c1], mq1, mq2, mq3, mq4, mq5, [c7], [c8], [c9], [c10], [c11]]).toArray, 53⟩]) 1 (by kernel_rfl) rfl (by kernel_rfl) (by kernel_rfl) rfl (writeAt_seg 6 (mq5) rfl (by simp [l_c6, l_mq1, l_mq2, l_mq3, l_mq4]) rfl (by rw [l_mq5, l_c6]) (by rw [l_mq5]; kernel_rfl) (RdL.oneCell h_mq5) rfl) rfl ?_
  refine nx_list ?_
  refine nx_then ?_
  refine wc_seq ?_
  refine wc_region ?_
  refine wl_go 1 [(23, .pointer (some ⟨r1, 75, none⟩))] (by kernel_rfl) ?_
  refine wl_yl (d := 24) (v := c9) (by kernel_rfl) (yl_load (b := r1) (off := 75) 1 rfl (by kernel_rfl) rfl (readAt_seg1 9 rfl (by simp [l_mq1, l_mq2, l_mq3, l_mq4, l_mq5]) (by kernel_rfl))) ?_
  refine wl_callB (X := Value) (d := 25) (fun x => x) (fun wa y wz => Rd (fun k => wa.heap.size ≤ k) wz (.sl rows9) y ∧ Below wa.heap.size wa wz) (by kernel_rfl) (by kernel_rfl) (fun w1 h1 => (copyAll_12 rows9 fR_rows9 b_rows9 (fun r hr => ih r (by have := szR_mem hr; simp only [szL, szL_append, D.sz]; omega) (fR_rows9.mem hr))) w1 _ c9 (h_c9.stays (h1.staysC (L0 := [⟨r2, zc53, 53⟩, ⟨r1, (List.flatten [[c0], [c1], mq1, mq2, mq3, mq4, c6, [c7], [c8], [c9], [c10], [c11]]).toArray, 53⟩]) rfl))) ?_
  rintro wq11 vq6 wq12 h1 ⟨h_vq6, hb⟩
  have h_vq6 := h_vq6.stays (stays_newN h1 (Nat.le_trans hbel.size h1.size))
  have hT := (h1.tr hb).cong (L0 := [⟨r2, zc53, 53⟩, ⟨r1, (List.flatten [[c0], [c1], mq1, mq2, mq3, mq4, c6, [c7], [c8], [c9], [c10], [c11]]).toArray, 53⟩]) rfl
  have h_c2 := h_c2.stays hT.stays
  have h_c3 := h_c3.stays hT.stays
  have h_c4 := h_c4.stays hT.stays
  have h_c5 := h_c5.stays hT.stays
  have h_c6 := h_c6.stays hT.stays
  have h_c9 := h_c9.stays hT.stays
  have h_c10 := h_c10.stays hT.stays
  have h_mq1 := h_mq1.stays hT.staysN
  have h_mq2 := h_mq2.stays hT.staysN
  have h_mq3 := h_mq3.stays hT.staysN
  have h_mq4 := h_mq4.stays hT.staysN
  have h_mq5 := h_mq5.stays hT.staysN
  have hbel := h1.belowCall hbel (ge_cons hr2 (ge_cons hr1 (ge_nil _))) hb
  refine wl_eq (S := SH wq12 [⟨r2, zc53, 53⟩, ⟨r1, (List.flatten [[c0], [c1], mq1, mq2, mq3, mq4, mq5, [c7], [c8], [c9], [c10], [c11]]).toArray, 53⟩]) (h1.after hb) ?_
  refine wl_go 1 [(26, .pointer (some ⟨r1, 75, none⟩))] (by kernel_rfl) ?_
  refine wl_store (b := r1) (off := 75) (v := vq6) (c' := (List.flatten [[c0], [c1], mq1, mq2, mq3, mq4, mq5, [c7], [c8], [vq6], [c10], [c11]]).toArray) (L' := [⟨r2, zc53, 53⟩, ⟨r1, (List.flatten [[c0], [c1], mq1, mq2, mq3, mq4, mq5, [c7], [c8], [vq6], [c10], [c11]]).toArray, 53⟩]) 1 (by kernel_rfl) rfl (by kernel_rfl) (by kernel_rfl) rfl (writeAt_seg 9 ([vq6]) rfl (by simp [l_mq1, l_mq2, l_mq3, l_mq4, l_mq5]) (Rd.cells h_vq6) rfl (by kernel_rfl) (fun u hu => by simp only [List.mem_singleton] at hu; subst hu; exact h_vq6.oneCell) rfl) rfl ?_
  refine nx_list ?_
  refine nx_then ?_
  refine wc_seq ?_
  refine wc_region ?_
  refine wl_go 1 [(27, .pointer (some ⟨r1, 76, none⟩))] (by kernel_rfl) ?_
  refine wl_yl (d := 28) (v := c10) (by kernel_rfl) (yl_load (b := r1) (off := 76) 1 rfl (by kernel_rfl) rfl (readAt_seg1 10 rfl (by simp [l_mq1, l_mq2, l_mq3, l_mq4, l_mq5]) (by kernel_rfl))) ?_
  refine wl_callB (X := Value) (d := 29) (fun x => x) (fun wa y wz => Rd (fun k => wa.heap.size ≤ k) wz (.sl rows10) y ∧ Below wa.heap.size wa wz) (by kernel_rfl) (by kernel_rfl) (fun w1 h1 => (copyInts_ok rows10 fR_rows10 b_rows10) w1 _ c10 (h_c10.stays (h1.staysC (L0 := [⟨r2, zc53, 53⟩, ⟨r1, (List.flatten [[c0], [c1], mq1, mq2, mq3, mq4, mq5, [c7], [c8], [c9], [c10], [c11]]).toArray, 53⟩]) rfl))) ?_
  rintro wq13 vq7 wq14 h1 ⟨h_vq7, hb⟩
  have h_vq7 := h_vq7.stays (stays_newN h1 (Nat.le_trans hbel.size h1.size))
  have hT := (h1.tr hb).cong (L0 := [⟨r2, zc53, 53⟩, ⟨r1, (List.flatten [[c0], [c1], mq1, mq2, mq3, mq4, mq5, [c7], [c8], [c9], [c10], [c11]]).toArray, 53⟩]) rfl
  have h_c2 := h_c2.stays hT.stays
  have h_c3 := h_c3.stays hT.stays
  have h_c4 := h_c4.stays hT.stays
  have h_c5 := h_c5.stays hT.stays
  have h_c6 := h_c6.stays hT.stays
  have h_c9 := h_c9.stays hT.stays
  have h_c10 := h_c10.stays hT.stays
  have h_mq1 := h_mq1.stays hT.staysN
  have h_mq2 := h_mq2.stays hT.staysN
  have h_mq3 := h_mq3.stays hT.staysN
  have h_mq4 := h_mq4.stays hT.staysN
  have h_mq5 := h_mq5.stays hT.staysN
  have h_vq6 := h_vq6.stays hT.staysN
  have hbel := h1.belowCall hbel (ge_cons hr2 (ge_cons hr1 (ge_nil _))) hb
  refine wl_eq (S := SH wq14 [⟨r2, zc53, 53⟩, ⟨r1, (List.flatten [[c0], [c1], mq1, mq2, mq3, mq4, mq5, [c7], [c8], [vq6], [c10], [c11]]).toArray, 53⟩]) (h1.after hb) ?_
  refine wl_go 1 [(30, .pointer (some ⟨r1, 76, none⟩))] (by kernel_rfl) ?_
  refine wl_store (b := r1) (off := 76) (v := vq7) (c' := (List.flatten [[c0], [c1], mq1, mq2, mq3, mq4, mq5, [c7], [c8], [vq6], [vq7], [c11]]).toArray) (L' := [⟨r2, zc53, 53⟩, ⟨r1, (List.flatten [[c0], [c1], mq1, mq2, mq3, mq4, mq5, [c7], [c8], [vq6], [vq7], [c11]]).toArray, 53⟩]) 1 (by kernel_rfl) rfl (by kernel_rfl) (by kernel_rfl) rfl (writeAt_seg 10 ([vq7]) rfl (by simp [l_mq1, l_mq2, l_mq3, l_mq4, l_mq5]) (Rd.cells h_vq7) rfl (by kernel_rfl) (fun u hu => by simp only [List.mem_singleton] at hu; subst hu; exact h_vq7.oneCell) rfl) rfl ?_
  refine nx_list ?_
  refine nx_then ?_
  refine wc_seq ?_
  refine wc_region ?_
  refine wl_yl (d := 31) (v := .agg (List.flatten [[c0], [c1], mq1, mq2, mq3, mq4, mq5, [c7], [c8], [vq6], [vq7], [c11]]).toArray) (by kernel_rfl) (yl_load (b := r1) (off := 0) 1 rfl (by kernel_rfl) rfl (readAt_all (by rw [show (List.flatten [[c0], [c1], mq1, mq2, mq3, mq4, mq5, [c7], [c8], [vq6], [vq7], [c11]]).length = 78 from by simp [l_mq1, l_mq2, l_mq3, l_mq4, l_mq5]]; kernel_rfl))) ?_
  refine wl_store (b := r2) (off := 0) (v := .agg (List.flatten [[c0], [c1], mq1, mq2, mq3, mq4, mq5, [c7], [c8], [vq6], [vq7], [c11]]).toArray) (c' := (List.flatten [[c0], [c1], mq1, mq2, mq3, mq4, mq5, [c7], [c8], [vq6], [vq7], [c11]]).toArray) (L' := [⟨r2, (List.flatten [[c0], [c1], mq1, mq2, mq3, mq4, mq5, [c7], [c8], [vq6], [vq7], [c11]]).toArray, 53⟩, ⟨r1, (List.flatten [[c0], [c1], mq1, mq2, mq3, mq4, mq5, [c7], [c8], [vq6], [vq7], [c11]]).toArray, 53⟩]) 0 (by kernel_rfl) rfl (by kernel_rfl) (by kernel_rfl) rfl (writeAt_all (by rw [show (List.flatten [[c0], [c1], mq1, mq2, mq3, mq4, mq5, [c7], [c8], [vq6], [vq7], [c11]]).length = 78 from by simp [l_mq1, l_mq2, l_mq3, l_mq4, l_mq5]]; kernel_rfl) (by rw [show (List.flatten [[c0], [c1], mq1, mq2, mq3, mq4, mq5, [c7], [c8], [vq6], [vq7], [c11]]).length = 78 from by simp [l_mq1, l_mq2, l_mq3, l_mq4, l_mq5]]; kernel_rfl) (oc_cons (fun u hu => by simp only [List.mem_singleton] at hu; subst hu; exact h_c0.oneCell) (oc_cons (fun u hu => by simp only [List.mem_singleton] at hu; subst hu; exact h_c1.oneCell) (oc_cons (RdL.oneCell h_mq1) (oc_cons (RdL.oneCell h_mq2) (oc_cons (RdL.oneCell h_mq3) (oc_cons (RdL.oneCell h_mq4) (oc_cons (RdL.oneCell h_mq5) (oc_cons (fun u hu => by simp only [List.mem_singleton] at hu; subst hu; exact h_c7.oneCell) (oc_cons (fun u hu => by simp only [List.mem_singleton] at hu; subst hu; exact h_c8.oneCell) (oc_cons (fun u hu => by simp only [List.mem_singleton] at hu; subst hu; exact h_vq6.oneCell) (oc_cons (fun u hu => by simp only [List.mem_singleton] at hu; subst hu; exact h_vq7.oneCell) (oc_cons (fun u hu => by simp only [List.mem_singleton] at hu; subst hu; exact h_c11.oneCell) oc_nil))))))))))))) rfl ?_
  refine nx_list ?_
  refine nx_then ?_
  refine nx_ret ?_
  refine ret_cell (v := .agg (List.flatten [[c0], [c1], mq1, mq2, mq3, mq4, mq5, [c7], [c8], [vq6], [vq7], [c11]]).toArray) (b := r2) (off := 0) 0 rfl (by kernel_rfl) rfl (readAt_all (by rw [show (List.flatten [[c0], [c1], mq1, mq2, mq3, mq4, mq5, [c7], [c8], [vq6], [vq7], [c11]]).length = 78 from by simp [l_mq1, l_mq2, l_mq3, l_mq4, l_mq5]]; kernel_rfl)) ?_
  intro w' hw'
  refine ⟨_, rfl, ?_, hw'.below hbel hbel.size (ge_cons hr2 (ge_cons hr1 (ge_nil _)))⟩
  rw [show (List.flatten [[c0], [c1], mq1, mq2, mq3, mq4, mq5, [c7], [c8], [vq6], [vq7], [c11]] : List Value) = (c0) :: ((c1) :: (mq1 ++ (mq2 ++ (mq3 ++ (mq4 ++ (mq5 ++ ((c7) :: ((c8) :: ((vq6) :: ((vq7) :: ((c11) :: ([])))))))))))) from by simp]
  exact RdL.mk (h_c0.bare rfl) (RdL.mk (h_c1.bare rfl) (RdL.append (h_mq1.stays (hw'.staysN (L0 := [⟨r2, zc53, 53⟩, ⟨r1, (List.flatten [[c0], [c1], mq1, mq2, mq3, mq4, mq5, [c7], [c8], [vq6], [c10], [c11]]).toArray, 53⟩]) rfl)) (RdL.append (h_mq2.stays (hw'.staysN (L0 := [⟨r2, zc53, 53⟩, ⟨r1, (List.flatten [[c0], [c1], mq1, mq2, mq3, mq4, mq5, [c7], [c8], [vq6], [c10], [c11]]).toArray, 53⟩]) rfl)) (RdL.append (h_mq3.stays (hw'.staysN (L0 := [⟨r2, zc53, 53⟩, ⟨r1, (List.flatten [[c0], [c1], mq1, mq2, mq3, mq4, mq5, [c7], [c8], [vq6], [c10], [c11]]).toArray, 53⟩]) rfl)) (RdL.append (h_mq4.stays (hw'.staysN (L0 := [⟨r2, zc53, 53⟩, ⟨r1, (List.flatten [[c0], [c1], mq1, mq2, mq3, mq4, mq5, [c7], [c8], [vq6], [c10], [c11]]).toArray, 53⟩]) rfl)) (RdL.append (h_mq5.stays (hw'.staysN (L0 := [⟨r2, zc53, 53⟩, ⟨r1, (List.flatten [[c0], [c1], mq1, mq2, mq3, mq4, mq5, [c7], [c8], [vq6], [c10], [c11]]).toArray, 53⟩]) rfl)) (RdL.mk (h_c7.bare rfl) (RdL.mk (h_c8.bare rfl) (RdL.mk (h_vq6.stays (hw'.staysN (L0 := [⟨r2, zc53, 53⟩, ⟨r1, (List.flatten [[c0], [c1], mq1, mq2, mq3, mq4, mq5, [c7], [c8], [vq6], [c10], [c11]]).toArray, 53⟩]) rfl)) (RdL.mk (h_vq7.stays (hw'.staysN (L0 := [⟨r2, zc53, 53⟩, ⟨r1, (List.flatten [[c0], [c1], mq1, mq2, mq3, mq4, mq5, [c7], [c8], [vq6], [c10], [c11]]).toArray, 53⟩]) rfl)) (RdL.mk (h_c11.bare rfl) (RdL.none))))))))))))

theorem copyWrite_all (ds : List D) (hfit : FitL sh by_ ds shWrite) : CopyS Try.prog 28 ds := by
  have key : ∀ (m : Nat) (ds : List D), szL ds < m → FitL sh by_ ds shWrite → CopyS Try.prog 28 ds := by
    intro m
    induction m with
    | zero => intro ds h; omega
    | succ m ih => intro ds h hf; exact copyWrite_step ds hf (fun r hr hfr => ih r (by omega) hfr)
  exact key _ ds (Nat.lt_succ_self _) hfit

theorem copyEntry_step (ds : List D) (hfit : FitL sh by_ ds (sh 13)) : CopyS Try.prog 22 ds := by
  intro w S cs hrdS
  have hrd := hrdS.im
  have hbel := Below.refl w.heap.size w
  obtain ⟨d0, e0, rfl, hf0, hft0⟩ := FitL.cons (k := .int) (ks := [.int] ++ [.str] ++ [.int] ++ shWrite) hfit
  obtain ⟨n0, rfl, _⟩ := Fit.int hf0
  obtain ⟨d1, e1, rfl, hf1, hft1⟩ := FitL.cons (k := .int) (ks := [.str] ++ [.int] ++ shWrite) hft0
  obtain ⟨n1, rfl, _⟩ := Fit.int hf1
  obtain ⟨d2, e2, rfl, hf2, hft2⟩ := FitL.cons (k := .str) (ks := [.int] ++ shWrite) hft1
  obtain ⟨n2, rfl, _⟩ := Fit.str hf2
  obtain ⟨d3, e3, rfl, hf3, hft3⟩ := FitL.cons (k := .int) (ks := shWrite) hft2
  obtain ⟨n3, rfl, _⟩ := Fit.int hf3
  obtain ⟨d4, e4, rfl, hf4, hft4⟩ := FitL.split (ks := shWrite) (ks' := []) hft3
  obtain rfl := FitL.nil hft4
  obtain ⟨c0, z0, rfl, h_c0, hrd0⟩ := RdL.cons hrd
  obtain ⟨c1, z1, rfl, h_c1, hrd1⟩ := RdL.cons hrd0
  obtain ⟨c2, z2, rfl, h_c2, hrd2⟩ := RdL.cons hrd1
  obtain ⟨c3, z3, rfl, h_c3, hrd3⟩ := RdL.cons hrd2
  obtain ⟨c4, z4, rfl, h_c4, hrd4⟩ := RdL.split hrd3
  have l_c4 : c4.length = 78 := h_c4.length.symm.trans hf4.length
  obtain rfl := RdL.nil hrd4
  rw [show c0 :: (c1 :: (c2 :: (c3 :: (c4 ++ ([]))))) = List.flatten [[c0], [c1], [c2], [c3], c4] from by simp]
  refine Sx.enter (l := [.agg (List.flatten [[c0], [c1], [c2], [c3], c4]).toArray]) Try.func22 rfl (n := 8) rfl (by simp) ?_
  refine wc_eq (S := SH w []) (SH.refl _) ?_
  refine wc_seq ?_
  refine wc_region ?_
  refine wl_new (d := 1) (List.flatten [[c0], [c1], [c2], [c3], c4]).toArray 55 (fun r => .pointer (some ⟨r, 0, none⟩)) (by kernel_rfl) (fun r => by kernel_rfl) ?_
  intro r1 hr1
  have h_c4 := h_c4.stays (im_more (c := (List.flatten [[c0], [c1], [c2], [c3], c4]).toArray) (t := 55) hr1)
  refine wl_new (d := 2) zc55 55 (fun r => .pointer (some ⟨r, 0, none⟩)) (by kernel_rfl) (fun r => by kernel_rfl) ?_
  intro r2 hr2
  have h_c4 := h_c4.stays (im_more (c := zc55) (t := 55) hr2)
  refine nx_list ?_
  refine nx_then ?_
  refine wc_seq ?_
  refine wc_region ?_
  refine wl_go 1 [(3, .pointer (some ⟨r1, 4, none⟩))] (by kernel_rfl) ?_
  refine wl_yl (d := 4) (v := .agg (c4).toArray) (by kernel_rfl) (yl_load (b := r1) (off := 4) 1 rfl (by kernel_rfl) rfl (readAt_seg 4 rfl (by simp [l_c4]) (by rw [l_c4]; kernel_rfl))) ?_
  refine wl_callB (X := List Value) (d := 5) (fun x => .agg x.toArray) (fun wa y wz => RdL (fun k => wa.heap.size ≤ k) wz d4 y ∧ Below wa.heap.size wa wz) (by kernel_rfl) (by kernel_rfl) (fun w1 h1 => (copyWrite_all d4 hf4) w1 _ c4 (h_c4.stays (h1.staysC (L0 := (⟨r2, zc55, 55⟩ :: (⟨r1, (List.flatten [[c0], [c1], [c2], [c3], c4]).toArray, 55⟩ :: []))) rfl))) ?_
  rintro wq1 mq1 wq2 h1 ⟨h_mq1, hb⟩
  have h_mq1 := h_mq1.stays (stays_newN h1 (Nat.le_trans hbel.size h1.size))
  have l_mq1 : mq1.length = 78 := h_mq1.length.symm.trans (h_c4.length.trans l_c4)
  have hT := (h1.tr hb).cong (L0 := (⟨r2, zc55, 55⟩ :: (⟨r1, (List.flatten [[c0], [c1], [c2], [c3], c4]).toArray, 55⟩ :: []))) rfl
  have h_c4 := h_c4.stays hT.stays
  have hbel := h1.belowCall hbel (ge_cons hr2 (ge_cons hr1 (ge_nil _))) hb
  refine wl_eq (S := SH wq2 [⟨r2, zc55, 55⟩, ⟨r1, (List.flatten [[c0], [c1], [c2], [c3], c4]).toArray, 55⟩]) (h1.after hb) ?_
  refine wl_go 1 [(6, .pointer (some ⟨r1, 4, none⟩))] (by kernel_rfl) ?_
  refine wl_store (b := r1) (off := 4) (v := .agg (mq1).toArray) (c' := (List.flatten [[c0], [c1], [c2], [c3], mq1]).toArray) (L' := [⟨r2, zc55, 55⟩, ⟨r1, (List.flatten [[c0], [c1], [c2], [c3], mq1]).toArray, 55⟩]) 1 (by kernel_rfl) rfl (by kernel_rfl) (by kernel_rfl) rfl (writeAt_seg 4 (mq1) rfl (by simp [l_c4]) rfl (by rw [l_mq1, l_c4]) (by rw [l_mq1]; kernel_rfl) (RdL.oneCell h_mq1) rfl) rfl ?_
  refine nx_list ?_
  refine nx_then ?_
  refine wc_seq ?_
  refine wc_region ?_
  refine wl_yl (d := 7) (v := .agg (List.flatten [[c0], [c1], [c2], [c3], mq1]).toArray) (by kernel_rfl) (yl_load (b := r1) (off := 0) 1 rfl (by kernel_rfl) rfl (readAt_all (by rw [show (List.flatten [[c0], [c1], [c2], [c3], mq1]).length = 82 from by simp [l_mq1]]; kernel_rfl))) ?_
  refine wl_store (b := r2) (off := 0) (v := .agg (List.flatten [[c0], [c1], [c2], [c3], mq1]).toArray) (c' := (List.flatten [[c0], [c1], [c2], [c3], mq1]).toArray) (L' := [⟨r2, (List.flatten [[c0], [c1], [c2], [c3], mq1]).toArray, 55⟩, ⟨r1, (List.flatten [[c0], [c1], [c2], [c3], mq1]).toArray, 55⟩]) 0 (by kernel_rfl) rfl (by kernel_rfl) (by kernel_rfl) rfl (writeAt_all (by rw [show (List.flatten [[c0], [c1], [c2], [c3], mq1]).length = 82 from by simp [l_mq1]]; kernel_rfl) (by rw [show (List.flatten [[c0], [c1], [c2], [c3], mq1]).length = 82 from by simp [l_mq1]]; kernel_rfl) (oc_cons (fun u hu => by simp only [List.mem_singleton] at hu; subst hu; exact h_c0.oneCell) (oc_cons (fun u hu => by simp only [List.mem_singleton] at hu; subst hu; exact h_c1.oneCell) (oc_cons (fun u hu => by simp only [List.mem_singleton] at hu; subst hu; exact h_c2.oneCell) (oc_cons (fun u hu => by simp only [List.mem_singleton] at hu; subst hu; exact h_c3.oneCell) (oc_cons (RdL.oneCell h_mq1) oc_nil)))))) rfl ?_
  refine nx_list ?_
  refine nx_then ?_
  refine nx_ret ?_
  refine ret_cell (v := .agg (List.flatten [[c0], [c1], [c2], [c3], mq1]).toArray) (b := r2) (off := 0) 0 rfl (by kernel_rfl) rfl (readAt_all (by rw [show (List.flatten [[c0], [c1], [c2], [c3], mq1]).length = 82 from by simp [l_mq1]]; kernel_rfl)) ?_
  intro w' hw'
  refine ⟨_, rfl, ?_, hw'.below hbel hbel.size (ge_cons hr2 (ge_cons hr1 (ge_nil _)))⟩
  rw [show (List.flatten [[c0], [c1], [c2], [c3], mq1] : List Value) = (c0) :: ((c1) :: ((c2) :: ((c3) :: (mq1 ++ ([]))))) from by simp]
  exact RdL.mk (h_c0.bare rfl) (RdL.mk (h_c1.bare rfl) (RdL.mk (h_c2.bare rfl) (RdL.mk (h_c3.bare rfl) (RdL.append (h_mq1.stays (hw'.staysN (L0 := [⟨r2, zc55, 55⟩, ⟨r1, (List.flatten [[c0], [c1], [c2], [c3], c4]).toArray, 55⟩]) rfl)) (RdL.none)))))

theorem copyEntry_all (ds : List D) (hfit : FitL sh by_ ds (sh 13)) : CopyS Try.prog 22 ds := copyEntry_step ds hfit

theorem copyEntries_ok (rows : List (List D)) (fR : FitR sh by_ rows (sh 13)) (hb : rows.length * 1208 ≤ 140737488355328) : CopyA Try.prog 21 22 rows := copyAll_13 rows fR hb (fun r hr => copyEntry_all r (fR.mem hr))

end Go.Proofs.Ythedokpgogopiaa
