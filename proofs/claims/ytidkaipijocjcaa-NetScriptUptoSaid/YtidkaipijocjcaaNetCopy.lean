/- Contracts of functions, printed by a program of this repository (gen). -/
import Derived.Test.YtidkaipijocjcaaClones
import Derived.Test.YtidkaipijocjcaaApi
namespace Go.Proofs.Ytidkaipijocjcaa
open Go.RowKit Go.Sx
set_option linter.unusedVariables false
set_option linter.unusedSimpArgs false

def zc47 : Array Value := #[.int .i64 0, .slice none 0 0, .int .i64 0, .int .i64 0, .string ByteArray.empty, .slice none 0 0, .slice none 0 0, .slice none 0 0, .int .i64 0, .int .i64 0, .int .i64 0, .slice none 0 0, .int .i64 0, .int .i64 0, .slice none 0 0, .string ByteArray.empty, .slice none 0 0, .int .i64 0, .int .i64 0, .string ByteArray.empty, .slice none 0 0, .slice none 0 0, .int .i64 0, .slice none 0 0, .slice none 0 0]
def zc49 : Array Value := #[.string ByteArray.empty, .int .i64 0, .slice none 0 0, .bool false, .bool false, .bool false, .int .i64 0, .slice none 0 0, .int .i64 0, .int .i64 0, .string ByteArray.empty, .slice none 0 0, .slice none 0 0, .slice none 0 0, .int .i64 0, .int .i64 0, .int .i64 0, .slice none 0 0, .int .i64 0, .int .i64 0, .slice none 0 0, .string ByteArray.empty, .slice none 0 0, .int .i64 0, .int .i64 0, .string ByteArray.empty, .slice none 0 0, .slice none 0 0, .int .i64 0, .slice none 0 0, .slice none 0 0]
def zc35 : Array Value := #[.int .i64 0, .bool false, .int .i64 0, .int .i64 0, .string ByteArray.empty, .slice none 0 0, .slice none 0 0, .bool false, .int .i64 0, .int .i64 0, .string ByteArray.empty, .slice none 0 0, .slice none 0 0, .slice none 0 0, .int .i64 0, .int .i64 0, .slice none 0 0, .slice none 0 0, .bool false, .slice none 0 0, .bool false]
def zc37 : Array Value := #[.string ByteArray.empty, .slice none 0 0, .int .i64 0, .bool false, .int .i64 0, .int .i64 0, .string ByteArray.empty, .slice none 0 0, .slice none 0 0, .bool false, .int .i64 0, .int .i64 0, .string ByteArray.empty, .slice none 0 0, .slice none 0 0, .slice none 0 0, .int .i64 0, .int .i64 0, .slice none 0 0, .slice none 0 0, .bool false, .slice none 0 0, .bool false, .int .i64 0, .int .i64 0]
def zc53 : Array Value := #[.int .i64 0, .string ByteArray.empty, .int .i64 0, .int .i64 0, .string ByteArray.empty, .slice none 0 0, .slice none 0 0, .int .i64 0, .int .i64 0, .string ByteArray.empty, .slice none 0 0, .slice none 0 0, .int .i64 0, .int .i64 0, .string ByteArray.empty, .slice none 0 0, .slice none 0 0, .string ByteArray.empty, .slice none 0 0, .int .i64 0, .bool false, .int .i64 0, .int .i64 0, .string ByteArray.empty, .slice none 0 0, .slice none 0 0, .bool false, .int .i64 0, .int .i64 0, .string ByteArray.empty, .slice none 0 0, .slice none 0 0, .slice none 0 0, .int .i64 0, .int .i64 0, .slice none 0 0, .slice none 0 0, .bool false, .slice none 0 0, .bool false, .int .i64 0, .int .i64 0, .string ByteArray.empty, .int .i64 0, .slice none 0 0, .bool false, .bool false, .bool false, .int .i64 0, .slice none 0 0, .int .i64 0, .int .i64 0, .string ByteArray.empty, .slice none 0 0, .slice none 0 0, .slice none 0 0, .int .i64 0, .int .i64 0, .int .i64 0, .slice none 0 0, .int .i64 0, .int .i64 0, .slice none 0 0, .string ByteArray.empty, .slice none 0 0, .int .i64 0, .int .i64 0, .string ByteArray.empty, .slice none 0 0, .slice none 0 0, .int .i64 0, .slice none 0 0, .slice none 0 0, .string ByteArray.empty, .int .i64 0, .slice none 0 0, .slice none 0 0, .bool false]

theorem cloneV_48 (rows : List (List D)) (fR : FitR sh by_ rows (sh 3)) (hby : rows.length * by_ 3 ≤ 140737488355328) : CopyV Try.prog 48 rows := fun w S v hr =>
  (clone_48 rows S v w hr (fR.length) hby).mono fun e w' ⟨v', R, rv, he, hc⟩ => ⟨v', he, hc.rd (es := 0) (bareR_of_fit fR (by simp [sh])), hc.1⟩

theorem cloneV_55 (rows : List (List D)) (fR : FitR sh by_ rows (sh 2)) (hby : rows.length * by_ 2 ≤ 140737488355328) : CopyV Try.prog 55 rows := fun w S v hr =>
  (clone_55 rows S v w hr (fR.length) hby).mono fun e w' ⟨v', R, rv, he, hc⟩ => ⟨v', he, hc.rd (es := 0) (bareR_of_fit fR (by simp [sh])), hc.1⟩

theorem cloneV_61 (rows : List (List D)) (fR : FitR sh by_ rows (sh 4)) (hby : rows.length * by_ 4 ≤ 140737488355328) : CopyV Try.prog 61 rows := fun w S v hr =>
  (clone_61 rows S v w hr (fR.length) hby).mono fun e w' ⟨v', R, rv, he, hc⟩ => ⟨v', he, hc.rd (es := 0) (bareR_of_fit fR (by simp [sh])), hc.1⟩

theorem copyValues_ok (rows : List (List D)) (fR_rows : FitR sh by_ rows (sh 0)) (b_rows : rows.length * 80 ≤ 140737488355328) (ih : ∀ (r : List D), szL r < szR rows → FitL sh by_ r shV → CopyS Try.prog 44 r) : CopyV Try.prog 50 rows := by
  intro w S v hr
  have h_v := hr.im
  have hbel := Below.refl w.heap.size w
  refine Sx.enter (l := [v]) Try.func50 rfl (n := 21) rfl (by simp) ?_
  refine wc_eq (S := SH w []) (SH.refl _) ?_
  refine wc_seq ?_
  refine wc_region ?_
  refine wl_go 1 [(2, .slice none 0 0)] (by kernel_rfl) ?_
  refine nx_list ?_
  refine nx_then ?_
  refine wc_seq ?_
  refine wc_region ?_
  refine wl_go 1 [(4, v)] (by kernel_rfl) ?_
  have hesq1 : ∀ r ∈ rows, r.length = 5 := fR_rows.length
  refine wl_callB (X := Value × List Blk × List (List Value)) (d := 5) (fun x => x.1) (fun wa y wz => Cl 29 (Im w []) wa rows y.1 wz y.2.1 y.2.2) (by kernel_rfl) (by kernel_rfl) (fun w1 h1 => (clone_58 rows _ v w1 (h_v.stays (h1.staysC (L0 := []) rfl)) hesq1 b_rows).mono (fun e w' ⟨v', R, rv, he, hc⟩ => ⟨(v', R, rv), he, hc⟩)) ?_
  rintro wq1 ⟨v1, Rq1, rvq1⟩ wq2 hsq1 hclq1
  obtain ⟨aq1, capq1, rfl⟩ : ∃ a cap, v1 = .slice a rows.length cap := by obtain ⟨_, _, ⟨a, cap, h, _⟩, _⟩ := hclq1; exact ⟨a, cap, h⟩
  refine wl_eq (S := SH wq2 (([] : List Blk) ++ Rq1)) (Cp.startSH hsq1 hclq1) ?_
  refine wl_go 1 [(0, .slice aq1 rows.length capq1)] (by kernel_rfl) ?_
  refine nx_list ?_
  refine nx_then ?_
  refine wc_seq ?_
  refine wc_seq ?_
  refine wc_region ?_
  refine wl_go 3 [(8, .int .i64 0), (7, .int .i64 (rows.length : Int)), (6, .slice aq1 rows.length capq1)] (by kernel_rfl) ?_
  refine nx_list ?_
  refine nx_then ?_
  refine wc_block ?_
  refine wc_loop (σ := Cp 29 5 w w [] rows aq1 []) (fun x => [(0, .slice aq1 rows.length capq1), (7, .int .i64 (rows.length : Int)), (8, .int .i64 (x.i : Int))]) (fun x => SH x.wb (([] : List Blk) ++ x.R)) (fun x => rows.length - x.i) (fun w3 h3 => ⟨(Cp.start hbel (ge_nil _) hsq1 hclq1 hesq1 [] rfl).cast rfl, h3, (subEnv_cons (by kernel_rfl) (subEnv_cons (by kernel_rfl) (subEnv_cons (by kernel_rfl) (subEnv_nil _))))⟩) (fun x => ?_)
  refine wc_seq ?_
  refine wc_region ?_
  refine wl_go 1 [(9, .bool (decide ((x.i : Int) < (rows.length : Int))))] (by kernel_rfl) ?_
  refine nx_list ?_
  refine nx_then ?_
  refine wc_seq ?_
  refine wc_cond (decide ((x.i : Int) < (rows.length : Int))) (by kernel_rfl) (by kernel_rfl) (fun hcq1 => ?_) (fun hcq1 => ?_)
  · skip
    have hlt : x.i < rows.length := by simpa using hcq1
    have hrl : rows.length ≤ 140737488355328 := by have := b_rows; omega
    obtain ⟨g, sp, r, v, rfl, hxR, hrow, hval, hrd⟩ := x.row hlt
    have hfr := fR_rows.get x.i r hrow
    obtain ⟨u1, dq, rfl, hu1, hfq⟩ := FitL.split (ks := ([]) ++ (shV)) (ks' := []) hfr
    obtain ⟨dp, dm, rfl, hfp, hfm⟩ := FitL.split (ks := []) (ks' := shV) hu1
    obtain ⟨uv, q, rfl, huv, h_q⟩ := RdL.split hrd
    obtain ⟨p, m, rfl, h_p, h_m⟩ := RdL.split huv
    have l_p : p.length = 0 := h_p.length.symm.trans hfp.length
    have l_m : m.length = 5 := h_m.length.symm.trans hfm.length
    have hbp := bare_of_fit hfp (by simp)
    have hbq := bare_of_fit hfq (by simp)
    have hszm : szL dm < szR rows := by have := szR_get hrow; rw [szL_append, szL_append] at this; omega
    rw [hxR]
    refine nx_skip ?_
    refine nx_then ?_
    refine wc_seq ?_
    refine wc_block ?_
    refine wc_seq ?_
    refine wc_region ?_
    refine wl_go 2 [(3, .int .i64 (x.i : Int)), (10, .int .i64 (x.i : Int))] (by kernel_rfl) ?_
    refine nx_list ?_
    refine nx_then ?_
    refine wc_region ?_
    refine wl_go 4 [(14, .int .i64 (x.i : Int)), (13, .slice (some ⟨g, 0, none⟩) rows.length capq1), (12, .int .i64 (x.i : Int)), (11, .slice (some ⟨g, 0, none⟩) rows.length capq1)] (by kernel_rfl) ?_
    refine wl_yl (d := 15) (v := .pointer (some ⟨g, 0 + x.i * 5, none⟩)) (by kernel_rfl) (yl_index (E := 29) (b := g) (off := 0) (len := rows.length) (cap := capq1) (k := x.i) (es := 5) rfl (by kernel_rfl) (by kernel_rfl) (by kernel_rfl) (by omega)) ?_
    refine wl_yl (d := 16) (v := .agg (m).toArray) (by kernel_rfl) (yl_load (b := g) (off := 0 + x.i * 5) 0 rfl (by kernel_rfl) rfl (readAt_row x.hlen hval (by simp [l_p]) (by rw [l_m]; kernel_rfl))) ?_
    refine wl_callB (X := List Value) (d := 17) (fun x => .agg x.toArray) (fun wa y wz => RdL (fun k => wa.heap.size ≤ k) wz dm y ∧ Below wa.heap.size wa wz) (by kernel_rfl) (by kernel_rfl) (fun w1 h1 => ih dm hszm hfm w1 _ m ((show RdL (Im x.wb [⟨g, ((x.rv.flatten ++ sp).toArray), 29⟩]) x.wb dm m from by rw [← hxR]; exact h_m).stays h1.stays)) ?_
    rintro wq3 mq2 wq4 hin ⟨hmin, hbin⟩
    have h_mq2 := hmin
    have l_mq2 : mq2.length = 5 := hmin.length.symm.trans hfm.length
    have hin' := hin
    rw [← hxR] at hin
    refine wl_eq (S := SH wq4 [⟨g, ((x.rv.flatten ++ sp).toArray), 29⟩]) (hin'.after hbin) ?_
    refine wl_yl (d := 18) (v := .pointer (some ⟨g, 0 + x.i * 5, none⟩)) (by kernel_rfl) (yl_index (E := 29) (b := g) (off := 0) (len := rows.length) (cap := capq1) (k := x.i) (es := 5) rfl (by kernel_rfl) (by kernel_rfl) (by kernel_rfl) (by omega)) ?_
    refine wl_store (b := g) (off := 0 + x.i * 5) (v := .agg (mq2).toArray) (c' := ((x.rv.set x.i (p ++ mq2 ++ q)).flatten ++ sp).toArray) (L' := [⟨g, (((x.rv.set x.i (p ++ mq2 ++ q)).flatten ++ sp).toArray), 29⟩]) 0 (by kernel_rfl) rfl (by kernel_rfl) (by kernel_rfl) rfl (writeAt_row mq2 x.hlen hval (by simp [l_p]) rfl (by rw [l_mq2, l_m]) (by rw [l_mq2]; kernel_rfl) (RdL.oneCell h_mq2)) rfl ?_
    refine nx_list ?_
    refine nx_block ?_
    refine nx_then ?_
    refine wc_region ?_
    refine wl_yl (d := 19) (v := .int .i64 ((x.i : Int) + 1)) (by kernel_rfl) (yl_int (t := (x.i : Int) + 1) (r := (x.i : Int) + 1) (by kernel_rfl) (i64w (by omega) (by omega))) ?_
    refine wl_go 1 [(8, .int .i64 ((x.i : Int) + 1))] (by kernel_rfl) ?_
    refine nx_list ?_
    refine nx_round (y := x.next (m' := mq2) hlt hrow hval hxR h_p h_q hbp hbq (by rw [l_m, l_mq2]) hin hbin hmin) (show rows.length - (x.i + 1) < rows.length - x.i by omega) (subEnv_cons (by kernel_rfl) (subEnv_cons (by kernel_rfl) (subEnv_cons (by kernel_rfl) (subEnv_nil _)))) (fun w h => h)
  · skip
    have hge : rows.length ≤ x.i := by simpa using hcq1
    refine wc_open (fun wq5 h9 => ?_)
    have h_sq3 := x.done hge h9 capq1
    have hT := (x.htr.trans h9.trDrop)
    have h_v := h_v.stays hT.stays
    have hbel := h9.below x.hbel x.hbel.size x.hL
    refine wc_eq (S := SH wq5 []) h9.drop ?_
    refine nx_exit ?_
    refine nx_then_exit ?_
    refine nx_then_exit ?_
    refine nx_block_here ?_
    refine nx_then ?_
    refine wc_seq ?_
    refine wc_region ?_
    refine wl_go 2 [(2, .slice aq1 rows.length capq1), (20, .slice aq1 rows.length capq1)] (by kernel_rfl) ?_
    refine nx_list ?_
    refine nx_then ?_
    refine nx_ret ?_
    refine ret_tmp (v := .slice aq1 rows.length capq1) rfl (by kernel_rfl) ?_
    intro w' hw'
    exact ⟨_, rfl, h_sq3.stays (hw'.staysN rfl), hw'.below hbel hbel.size (ge_nil _)⟩

theorem copyValue_step (ds : List D) (hfit : FitL sh by_ ds shV) (ih : ∀ (r : List D), szL r < szL ds → FitL sh by_ r shV → CopyS Try.prog 44 r) : CopyS Try.prog 44 ds := by
  intro w S cs hrdS
  have hrd := hrdS.im
  have hbel := Below.refl w.heap.size w
  obtain ⟨d0, e0, rfl, hf0, hft0⟩ := FitL.cons (k := .int) (ks := [.int] ++ [.str] ++ [.sl 0] ++ [.sl 1]) hfit
  obtain ⟨n0, rfl, _⟩ := Fit.int hf0
  obtain ⟨d1, e1, rfl, hf1, hft1⟩ := FitL.cons (k := .int) (ks := [.str] ++ [.sl 0] ++ [.sl 1]) hft0
  obtain ⟨n1, rfl, _⟩ := Fit.int hf1
  obtain ⟨d2, e2, rfl, hf2, hft2⟩ := FitL.cons (k := .str) (ks := [.sl 0] ++ [.sl 1]) hft1
  obtain ⟨n2, rfl, _⟩ := Fit.str hf2
  obtain ⟨d3, e3, rfl, hf3, hft3⟩ := FitL.cons (k := .sl 0) (ks := [.sl 1]) hft2
  obtain ⟨rows3, rfl, b_rows3, fR_rows3⟩ := Fit.sl hf3
  have b_rows3 : rows3.length * 80 ≤ 140737488355328 := b_rows3
  obtain ⟨d4, e4, rfl, hf4, hft4⟩ := FitL.cons (k := .sl 1) (ks := []) hft3
  obtain ⟨rows4, rfl, b_rows4, fR_rows4⟩ := Fit.sl hf4
  have b_rows4 : rows4.length * 96 ≤ 140737488355328 := b_rows4
  obtain rfl := FitL.nil hft4
  obtain ⟨c0, z0, rfl, h_c0, hrd0⟩ := RdL.cons hrd
  obtain ⟨c1, z1, rfl, h_c1, hrd1⟩ := RdL.cons hrd0
  obtain ⟨c2, z2, rfl, h_c2, hrd2⟩ := RdL.cons hrd1
  obtain ⟨c3, z3, rfl, h_c3, hrd3⟩ := RdL.cons hrd2
  obtain ⟨c4, z4, rfl, h_c4, hrd4⟩ := RdL.cons hrd3
  obtain rfl := RdL.nil hrd4
  rw [show c0 :: (c1 :: (c2 :: (c3 :: (c4 :: ([]))))) = List.flatten [[c0], [c1], [c2], [c3], [c4]] from by simp]
  refine Sx.enter (l := [.agg (List.flatten [[c0], [c1], [c2], [c3], [c4]]).toArray]) Try.func44 rfl (n := 32) rfl (by simp) ?_
  refine wc_eq (S := SH w []) (SH.refl _) ?_
  refine wc_seq ?_
  refine wc_region ?_
  refine wl_new (d := 1) (List.flatten [[c0], [c1], [c2], [c3], [c4]]).toArray 29 (fun r => .pointer (some ⟨r, 0, none⟩)) (by kernel_rfl) (fun r => by kernel_rfl) ?_
  intro r1 hr1
  have h_c3 := h_c3.stays (im_more (c := (List.flatten [[c0], [c1], [c2], [c3], [c4]]).toArray) (t := 29) hr1)
  have h_c4 := h_c4.stays (im_more (c := (List.flatten [[c0], [c1], [c2], [c3], [c4]]).toArray) (t := 29) hr1)
  refine wl_new (d := 2) #[.int .i64 0, .int .i64 0, .string ByteArray.empty, .slice none 0 0, .slice none 0 0] 29 (fun r => .pointer (some ⟨r, 0, none⟩)) (by kernel_rfl) (fun r => by kernel_rfl) ?_
  intro r2 hr2
  have h_c3 := h_c3.stays (im_more (c := #[.int .i64 0, .int .i64 0, .string ByteArray.empty, .slice none 0 0, .slice none 0 0]) (t := 29) hr2)
  have h_c4 := h_c4.stays (im_more (c := #[.int .i64 0, .int .i64 0, .string ByteArray.empty, .slice none 0 0, .slice none 0 0]) (t := 29) hr2)
  refine nx_list ?_
  refine nx_then ?_
  refine wc_seq ?_
  refine wc_region ?_
  refine wl_go 1 [(4, .pointer (some ⟨r1, 3, none⟩))] (by kernel_rfl) ?_
  refine wl_yl (d := 5) (v := c3) (by kernel_rfl) (yl_load (b := r1) (off := 3) 1 rfl (by kernel_rfl) rfl (readAt_seg1 3 rfl (by simp) (by kernel_rfl))) ?_
  refine wl_callB (X := Value) (d := 6) (fun x => x) (fun wa y wz => Rd (fun k => wa.heap.size ≤ k) wz (.sl rows3) y ∧ Below wa.heap.size wa wz) (by kernel_rfl) (by kernel_rfl) (fun w1 h1 => (copyValues_ok rows3 fR_rows3 b_rows3 (fun r hr hf => ih r (by simp only [szL, szL_append, D.sz]; omega) hf)) w1 _ c3 (h_c3.stays (h1.staysC (L0 := (⟨r2, #[.int .i64 0, .int .i64 0, .string ByteArray.empty, .slice none 0 0, .slice none 0 0], 29⟩ :: (⟨r1, (List.flatten [[c0], [c1], [c2], [c3], [c4]]).toArray, 29⟩ :: []))) rfl))) ?_
  rintro wq1 vq1 wq2 h1 ⟨h_vq1, hb⟩
  have h_vq1 := h_vq1.stays (stays_newN h1 (Nat.le_trans hbel.size h1.size))
  have hT := (h1.tr hb).cong (L0 := (⟨r2, #[.int .i64 0, .int .i64 0, .string ByteArray.empty, .slice none 0 0, .slice none 0 0], 29⟩ :: (⟨r1, (List.flatten [[c0], [c1], [c2], [c3], [c4]]).toArray, 29⟩ :: []))) rfl
  have h_c3 := h_c3.stays hT.stays
  have h_c4 := h_c4.stays hT.stays
  have hbel := h1.belowCall hbel (ge_cons hr2 (ge_cons hr1 (ge_nil _))) hb
  refine wl_eq (S := SH wq2 [⟨r2, #[.int .i64 0, .int .i64 0, .string ByteArray.empty, .slice none 0 0, .slice none 0 0], 29⟩, ⟨r1, (List.flatten [[c0], [c1], [c2], [c3], [c4]]).toArray, 29⟩]) (h1.after hb) ?_
  refine wl_go 1 [(7, .pointer (some ⟨r1, 3, none⟩))] (by kernel_rfl) ?_
  refine wl_store (b := r1) (off := 3) (v := vq1) (c' := (List.flatten [[c0], [c1], [c2], [vq1], [c4]]).toArray) (L' := [⟨r2, #[.int .i64 0, .int .i64 0, .string ByteArray.empty, .slice none 0 0, .slice none 0 0], 29⟩, ⟨r1, (List.flatten [[c0], [c1], [c2], [vq1], [c4]]).toArray, 29⟩]) 1 (by kernel_rfl) rfl (by kernel_rfl) (by kernel_rfl) rfl (writeAt_seg 3 ([vq1]) rfl (by simp) (Rd.cells h_vq1) rfl (by kernel_rfl) (fun u hu => by simp only [List.mem_singleton] at hu; subst hu; exact h_vq1.oneCell) rfl) rfl ?_
  refine nx_list ?_
  refine nx_then ?_
  refine wc_seq ?_
  refine wc_region ?_
  refine wl_go 1 [(8, .pointer (some ⟨r1, 4, none⟩))] (by kernel_rfl) ?_
  refine wl_yl (d := 9) (v := c4) (by kernel_rfl) (yl_load (b := r1) (off := 4) 1 rfl (by kernel_rfl) rfl (readAt_seg1 4 rfl (by simp) (by kernel_rfl))) ?_
  have hesq2 : ∀ r ∈ rows4, r.length = 6 := fR_rows4.length
  refine wl_callB (X := Value × List Blk × List (List Value)) (d := 10) (fun x => x.1) (fun wa y wz => Cl 121 (Im wq2 [⟨r2, #[.int .i64 0, .int .i64 0, .string ByteArray.empty, .slice none 0 0, .slice none 0 0], 29⟩, ⟨r1, (List.flatten [[c0], [c1], [c2], [vq1], [c4]]).toArray, 29⟩]) wa rows4 y.1 wz y.2.1 y.2.2) (by kernel_rfl) (by kernel_rfl) (fun w1 h1 => (clone_51 rows4 _ c4 w1 (h_c4.stays (h1.staysC (L0 := [⟨r2, #[.int .i64 0, .int .i64 0, .string ByteArray.empty, .slice none 0 0, .slice none 0 0], 29⟩, ⟨r1, (List.flatten [[c0], [c1], [c2], [c3], [c4]]).toArray, 29⟩]) rfl)) hesq2 b_rows4).mono (fun e w' ⟨v', R, rv, he, hc⟩ => ⟨(v', R, rv), he, hc⟩)) ?_
  rintro wq3 ⟨v1, Rq2, rvq2⟩ wq4 hsq2 hclq2
  obtain ⟨aq2, capq2, rfl⟩ : ∃ a cap, v1 = .slice a rows4.length cap := by obtain ⟨_, _, ⟨a, cap, h, _⟩, _⟩ := hclq2; exact ⟨a, cap, h⟩
  refine wl_eq (S := SH wq4 (([⟨r2, #[.int .i64 0, .int .i64 0, .string ByteArray.empty, .slice none 0 0, .slice none 0 0], 29⟩, ⟨r1, (List.flatten [[c0], [c1], [c2], [vq1], [c4]]).toArray, 29⟩] : List Blk) ++ Rq2)) (Cp.startSH hsq2 hclq2) ?_
  refine wl_go 1 [(11, .pointer (some ⟨r1, 4, none⟩))] (by kernel_rfl) ?_
  refine wl_store (b := r1) (off := 4) (v := .slice aq2 rows4.length capq2) (c' := (List.flatten [[c0], [c1], [c2], [vq1], [.slice aq2 rows4.length capq2]]).toArray) (L' := (([⟨r2, #[.int .i64 0, .int .i64 0, .string ByteArray.empty, .slice none 0 0, .slice none 0 0], 29⟩, ⟨r1, (List.flatten [[c0], [c1], [c2], [vq1], [.slice aq2 rows4.length capq2]]).toArray, 29⟩] : List Blk) ++ Rq2)) 1 (by kernel_rfl) rfl (by kernel_rfl) (by kernel_rfl) rfl (writeAt_seg 4 ([.slice aq2 rows4.length capq2]) rfl (by simp) rfl rfl (by kernel_rfl) (fun u hu => by simp only [List.mem_singleton] at hu; subst hu; rfl) rfl) rfl ?_
  refine nx_list ?_
  refine nx_then ?_
  refine wc_seq ?_
  refine wc_seq ?_
  refine wc_region ?_
  refine wl_go 1 [(12, .pointer (some ⟨r1, 4, none⟩))] (by kernel_rfl) ?_
  refine wl_yl (d := 13) (v := .slice aq2 rows4.length capq2) (by kernel_rfl) (yl_load (b := r1) (off := 4) 1 rfl (by kernel_rfl) rfl (readAt_seg1 4 rfl (by simp) (by kernel_rfl))) ?_
  refine wl_go 2 [(15, .int .i64 0), (14, .int .i64 (rows4.length : Int))] (by kernel_rfl) ?_
  refine nx_list ?_
  refine nx_then ?_
  refine wc_block ?_
  refine wc_loop (σ := Cp 121 6 w wq2 [⟨r2, #[.int .i64 0, .int .i64 0, .string ByteArray.empty, .slice none 0 0, .slice none 0 0], 29⟩, ⟨r1, (List.flatten [[c0], [c1], [c2], [c3], [c4]]).toArray, 29⟩] rows4 aq2 [⟨r2, #[.int .i64 0, .int .i64 0, .string ByteArray.empty, .slice none 0 0, .slice none 0 0], 29⟩, ⟨r1, (List.flatten [[c0], [c1], [c2], [vq1], [.slice aq2 rows4.length capq2]]).toArray, 29⟩]) (fun x => [(1, .pointer (some ⟨r1, 0, none⟩)), (2, .pointer (some ⟨r2, 0, none⟩)), (14, .int .i64 (rows4.length : Int)), (15, .int .i64 (x.i : Int))]) (fun x => SH x.wb (([⟨r2, #[.int .i64 0, .int .i64 0, .string ByteArray.empty, .slice none 0 0, .slice none 0 0], 29⟩, ⟨r1, (List.flatten [[c0], [c1], [c2], [vq1], [.slice aq2 rows4.length capq2]]).toArray, 29⟩] : List Blk) ++ x.R)) (fun x => rows4.length - x.i) (fun w3 h3 => ⟨(Cp.start hbel (ge_cons hr2 (ge_cons hr1 (ge_nil _))) hsq2 hclq2 hesq2 [⟨r2, #[.int .i64 0, .int .i64 0, .string ByteArray.empty, .slice none 0 0, .slice none 0 0], 29⟩, ⟨r1, (List.flatten [[c0], [c1], [c2], [c3], [c4]]).toArray, 29⟩] rfl).cast rfl, h3, (subEnv_cons (by kernel_rfl) (subEnv_cons (by kernel_rfl) (subEnv_cons (by kernel_rfl) (subEnv_cons (by kernel_rfl) (subEnv_nil _)))))⟩) (fun x => ?_)
  refine wc_seq ?_
  refine wc_region ?_
  refine wl_go 1 [(16, .bool (decide ((x.i : Int) < (rows4.length : Int))))] (by kernel_rfl) ?_
  refine nx_list ?_
  refine nx_then ?_
  refine wc_seq ?_
  refine wc_cond (decide ((x.i : Int) < (rows4.length : Int))) (by kernel_rfl) (by kernel_rfl) (fun hcq2 => ?_) (fun hcq2 => ?_)
  · skip
    have hlt : x.i < rows4.length := by simpa using hcq2
    have hrl : rows4.length ≤ 140737488355328 := by have := b_rows4; omega
    obtain ⟨g, sp, r, v, rfl, hxR, hrow, hval, hrd⟩ := x.row hlt
    have hfr := fR_rows4.get x.i r hrow
    obtain ⟨u1, dq, rfl, hu1, hfq⟩ := FitL.split (ks := ([.str]) ++ (shV)) (ks' := []) hfr
    obtain ⟨dp, dm, rfl, hfp, hfm⟩ := FitL.split (ks := [.str]) (ks' := shV) hu1
    obtain ⟨uv, q, rfl, huv, h_q⟩ := RdL.split hrd
    obtain ⟨p, m, rfl, h_p, h_m⟩ := RdL.split huv
    have l_p : p.length = 1 := h_p.length.symm.trans hfp.length
    have l_m : m.length = 5 := h_m.length.symm.trans hfm.length
    have hbp := bare_of_fit hfp (by simp)
    have hbq := bare_of_fit hfq (by simp)
    have hszm : szL dm < szR rows4 := by have := szR_get hrow; rw [szL_append, szL_append] at this; omega
    rw [hxR]
    refine nx_skip ?_
    refine nx_then ?_
    refine wc_seq ?_
    refine wc_block ?_
    refine wc_seq ?_
    refine wc_region ?_
    refine wl_go 2 [(3, .int .i64 (x.i : Int)), (17, .int .i64 (x.i : Int))] (by kernel_rfl) ?_
    refine nx_list ?_
    refine nx_then ?_
    refine wc_draw 12 (SH x.wb [⟨r2, #[.int .i64 0, .int .i64 0, .string ByteArray.empty, .slice none 0 0, .slice none 0 0], 29⟩, ⟨r1, (List.flatten [[c0], [c1], [c2], [vq1], [.slice (some ⟨g, 0, none⟩) rows4.length capq2]]).toArray, 29⟩, ⟨g, ((x.rv.flatten ++ sp).toArray), 121⟩]) rfl (by decide) (fun w h => SH.drew h) ?_
    refine wd_go [0] [(18, .pointer (some ⟨r1, 4, none⟩))] #[true, false, false, false, false, false, false, false, false, false, false, false, false] (f := 11) rfl (by kernel_rfl) (fun w h => h) ?_
    refine wd_yl 1 (d := 19) (v := .slice (some ⟨g, 0, none⟩) rows4.length capq2) (f := 10) rfl (by kernel_rfl) (by kernel_rfl) (fun w h => h) (yl_load (b := r1) (off := 4) 1 rfl (by kernel_rfl) rfl (readAt_seg1 4 rfl (by simp) (by kernel_rfl))) ?_
    refine wd_go [2, 3] [(21, .pointer (some ⟨r1, 4, none⟩)), (20, .int .i64 (x.i : Int))] #[true, true, true, true, false, false, false, false, false, false, false, false, false] (f := 8) rfl (by kernel_rfl) (fun w h => h) ?_
    refine wd_yl 4 (d := 22) (v := .slice (some ⟨g, 0, none⟩) rows4.length capq2) (f := 7) rfl (by kernel_rfl) (by kernel_rfl) (fun w h => h) (yl_load (b := r1) (off := 4) 1 rfl (by kernel_rfl) rfl (readAt_seg1 4 rfl (by simp) (by kernel_rfl))) ?_
    refine wd_go [5] [(23, .int .i64 (x.i : Int))] #[true, true, true, true, true, true, false, false, false, false, false, false, false] (f := 6) rfl (by kernel_rfl) (fun w h => h) ?_
    refine wd_yl 6 (d := 24) (v := .pointer (some ⟨g, 0 + x.i * 6, none⟩)) (f := 5) rfl (by kernel_rfl) (by kernel_rfl) (fun w h => h) (yl_index (E := 121) (b := g) (off := 0) (len := rows4.length) (cap := capq2) (k := x.i) (es := 6) rfl (by kernel_rfl) (by kernel_rfl) (by kernel_rfl) (by omega)) ?_
    refine wd_go [7] [(25, .pointer (some ⟨g, 0 + x.i * 6 + 1, none⟩))] #[true, true, true, true, true, true, true, true, false, false, false, false, false] (f := 4) rfl (by kernel_rfl) (fun w h => h) ?_
    refine wd_yl 8 (d := 26) (v := .agg (m).toArray) (f := 3) rfl (by kernel_rfl) (by kernel_rfl) (fun w h => h) (yl_load (b := g) (off := 0 + x.i * 6 + 1) 2 rfl (by kernel_rfl) rfl (readAt_row x.hlen hval (by simp [l_p]) (by rw [l_m]; kernel_rfl))) ?_
    refine wd_callB 9 (X := List Value) (d := 27) (fu := 2) (fun x => .agg x.toArray) (fun wa y wz => RdL (fun k => wa.heap.size ≤ k) wz dm y ∧ Below wa.heap.size wa wz) rfl (by decide) (by kernel_rfl) (by kernel_rfl) (by kernel_rfl) (fun w1 h1 => ih dm (by simp only [szL, szL_append, D.sz]; omega) hfm w1 _ m ((show RdL (Im x.wb [⟨r2, #[.int .i64 0, .int .i64 0, .string ByteArray.empty, .slice none 0 0, .slice none 0 0], 29⟩, ⟨r1, (List.flatten [[c0], [c1], [c2], [vq1], [.slice (some ⟨g, 0, none⟩) rows4.length capq2]]).toArray, 29⟩, ⟨g, ((x.rv.flatten ++ sp).toArray), 121⟩]) x.wb dm m from by rw [← hxR]; exact h_m).stays h1.stays)) ?_
    rintro wq5 mq3 wq6 hin ⟨hmin, hbin⟩
    have h_mq3 := hmin
    have l_mq3 : mq3.length = 5 := hmin.length.symm.trans hfm.length
    have hin' := hin
    rw [← hxR] at hin
    refine ⟨hin'.keep hbin, ?_⟩
    refine wd_eq (T := SH wq6 [⟨r2, #[.int .i64 0, .int .i64 0, .string ByteArray.empty, .slice none 0 0, .slice none 0 0], 29⟩, ⟨r1, (List.flatten [[c0], [c1], [c2], [vq1], [.slice (some ⟨g, 0, none⟩) rows4.length capq2]]).toArray, 29⟩, ⟨g, ((x.rv.flatten ++ sp).toArray), 121⟩]) (hin'.after hbin) ?_
    refine wd_yl 10 (d := 28) (v := .pointer (some ⟨g, 0 + x.i * 6, none⟩)) (f := 1) rfl (by kernel_rfl) (by kernel_rfl) (fun w h => (hin'.keep hbin).trans h) (yl_index (E := 121) (b := g) (off := 0) (len := rows4.length) (cap := capq2) (k := x.i) (es := 6) rfl (by kernel_rfl) (by kernel_rfl) (by kernel_rfl) (by omega)) ?_
    refine wd_go [11] [(29, .pointer (some ⟨g, 0 + x.i * 6 + 1, none⟩))] #[true, true, true, true, true, true, true, true, true, true, true, true, false] (f := 0) rfl (by kernel_rfl) (fun w h => (hin'.keep hbin).trans h) ?_
    refine wd_done (by kernel_rfl) ?_
    refine wl_store (b := g) (off := 0 + x.i * 6 + 1) (v := .agg (mq3).toArray) (c' := ((x.rv.set x.i (p ++ mq3 ++ q)).flatten ++ sp).toArray) (L' := [⟨r2, #[.int .i64 0, .int .i64 0, .string ByteArray.empty, .slice none 0 0, .slice none 0 0], 29⟩, ⟨r1, (List.flatten [[c0], [c1], [c2], [vq1], [.slice (some ⟨g, 0, none⟩) rows4.length capq2]]).toArray, 29⟩, ⟨g, (((x.rv.set x.i (p ++ mq3 ++ q)).flatten ++ sp).toArray), 121⟩]) 2 (by kernel_rfl) rfl (by kernel_rfl) (by kernel_rfl) rfl (writeAt_row mq3 x.hlen hval (by simp [l_p]) rfl (by rw [l_mq3, l_m]) (by rw [l_mq3]; kernel_rfl) (RdL.oneCell h_mq3)) rfl ?_
    refine nx_list ?_
    refine nx_on ?_
    refine nx_block ?_
    refine nx_then ?_
    refine wc_region ?_
    refine wl_yl (d := 30) (v := .int .i64 ((x.i : Int) + 1)) (by kernel_rfl) (yl_int (t := (x.i : Int) + 1) (r := (x.i : Int) + 1) (by kernel_rfl) (i64w (by omega) (by omega))) ?_
    refine wl_go 1 [(15, .int .i64 ((x.i : Int) + 1))] (by kernel_rfl) ?_
    refine nx_list ?_
    refine nx_round (y := x.next (m' := mq3) hlt hrow hval hxR h_p h_q hbp hbq (by rw [l_m, l_mq3]) hin hbin hmin) (show rows4.length - (x.i + 1) < rows4.length - x.i by omega) (subEnv_cons (by kernel_rfl) (subEnv_cons (by kernel_rfl) (subEnv_cons (by kernel_rfl) (subEnv_cons (by kernel_rfl) (subEnv_nil _))))) (fun w h => h)
  · skip
    have hge : rows4.length ≤ x.i := by simpa using hcq2
    refine wc_open (fun wq7 h9 => ?_)
    have h_sq4 := x.done hge h9 capq2
    have hT := (x.htr.trans h9.trDrop)
    have h_c3 := h_c3.stays hT.stays
    have h_c4 := h_c4.stays hT.stays
    have h_vq1 := h_vq1.stays hT.staysN
    have hbel := h9.below x.hbel x.hbel.size x.hL
    refine wc_eq (S := SH wq7 [⟨r2, #[.int .i64 0, .int .i64 0, .string ByteArray.empty, .slice none 0 0, .slice none 0 0], 29⟩, ⟨r1, (List.flatten [[c0], [c1], [c2], [vq1], [.slice aq2 rows4.length capq2]]).toArray, 29⟩]) h9.drop ?_
    refine nx_exit ?_
    refine nx_then_exit ?_
    refine nx_then_exit ?_
    refine nx_block_here ?_
    refine nx_then ?_
    refine wc_seq ?_
    refine wc_region ?_
    refine wl_yl (d := 31) (v := .agg (List.flatten [[c0], [c1], [c2], [vq1], [.slice aq2 rows4.length capq2]]).toArray) (by kernel_rfl) (yl_load (b := r1) (off := 0) 1 rfl (by kernel_rfl) rfl (readAt_all (by rw [show (List.flatten [[c0], [c1], [c2], [vq1], [.slice aq2 rows4.length capq2]]).length = 5 from by simp]; kernel_rfl))) ?_
    refine wl_store (b := r2) (off := 0) (v := .agg (List.flatten [[c0], [c1], [c2], [vq1], [.slice aq2 rows4.length capq2]]).toArray) (c' := (List.flatten [[c0], [c1], [c2], [vq1], [.slice aq2 rows4.length capq2]]).toArray) (L' := [⟨r2, (List.flatten [[c0], [c1], [c2], [vq1], [.slice aq2 rows4.length capq2]]).toArray, 29⟩, ⟨r1, (List.flatten [[c0], [c1], [c2], [vq1], [.slice aq2 rows4.length capq2]]).toArray, 29⟩]) 0 (by kernel_rfl) rfl (by kernel_rfl) (by kernel_rfl) rfl (writeAt_all (by rw [show (List.flatten [[c0], [c1], [c2], [vq1], [.slice aq2 rows4.length capq2]]).length = 5 from by simp]; kernel_rfl) (by rw [show (List.flatten [[c0], [c1], [c2], [vq1], [.slice aq2 rows4.length capq2]]).length = 5 from by simp]; kernel_rfl) (oc_cons (fun u hu => by simp only [List.mem_singleton] at hu; subst hu; exact h_c0.oneCell) (oc_cons (fun u hu => by simp only [List.mem_singleton] at hu; subst hu; exact h_c1.oneCell) (oc_cons (fun u hu => by simp only [List.mem_singleton] at hu; subst hu; exact h_c2.oneCell) (oc_cons (fun u hu => by simp only [List.mem_singleton] at hu; subst hu; exact h_vq1.oneCell) (oc_cons (fun u hu => by simp only [List.mem_singleton] at hu; subst hu; rfl) oc_nil)))))) rfl ?_
    refine nx_list ?_
    refine nx_then ?_
    refine nx_ret ?_
    refine ret_cell (v := .agg (List.flatten [[c0], [c1], [c2], [vq1], [.slice aq2 rows4.length capq2]]).toArray) (b := r2) (off := 0) 0 rfl (by kernel_rfl) rfl (readAt_all (by rw [show (List.flatten [[c0], [c1], [c2], [vq1], [.slice aq2 rows4.length capq2]]).length = 5 from by simp]; kernel_rfl)) ?_
    intro w' hw'
    refine ⟨_, rfl, ?_, hw'.below hbel hbel.size (ge_cons hr2 (ge_cons hr1 (ge_nil _)))⟩
    rw [show (List.flatten [[c0], [c1], [c2], [vq1], [.slice aq2 rows4.length capq2]] : List Value) = (c0) :: ((c1) :: ((c2) :: ((vq1) :: ((.slice aq2 rows4.length capq2) :: ([]))))) from by simp]
    exact RdL.mk (h_c0.bare rfl) (RdL.mk (h_c1.bare rfl) (RdL.mk (h_c2.bare rfl) (RdL.mk (h_vq1.stays (hw'.staysN (L0 := [⟨r2, #[.int .i64 0, .int .i64 0, .string ByteArray.empty, .slice none 0 0, .slice none 0 0], 29⟩, ⟨r1, (List.flatten [[c0], [c1], [c2], [vq1], [.slice aq2 rows4.length capq2]]).toArray, 29⟩]) rfl)) (RdL.mk (h_sq4.stays (hw'.staysN (L0 := [⟨r2, #[.int .i64 0, .int .i64 0, .string ByteArray.empty, .slice none 0 0, .slice none 0 0], 29⟩, ⟨r1, (List.flatten [[c0], [c1], [c2], [vq1], [.slice aq2 rows4.length capq2]]).toArray, 29⟩]) rfl)) (RdL.none)))))

theorem copyValue_all (ds : List D) (hfit : FitL sh by_ ds shV) : CopyS Try.prog 44 ds := by
  have key : ∀ (m : Nat) (ds : List D), szL ds < m → FitL sh by_ ds shV → CopyS Try.prog 44 ds := by
    intro m
    induction m with
    | zero => intro ds h; omega
    | succ m ih => intro ds h hf; exact copyValue_step ds hf (fun r hr hfr => ih r (by omega) hfr)
  exact key _ ds (Nat.lt_succ_self _) hfit

theorem copyValues_all (rows : List (List D)) (fR : FitR sh by_ rows (sh 0)) (hb : rows.length * 80 ≤ 140737488355328) : CopyV Try.prog 50 rows := copyValues_ok rows fR hb (fun r _ hf => copyValue_all r hf)

theorem copyExpr_step (ds : List D) (hfit : FitL sh by_ ds shExpr) (ih : ∀ (r : List D), szL r < szL ds → FitL sh by_ r shExpr → CopyS Try.prog 62 r) : CopyS Try.prog 62 ds := by
  intro w S cs hrdS
  have hrd := hrdS.im
  have hbel := Below.refl w.heap.size w
  obtain ⟨d0, e0, rfl, hf0, hft0⟩ := FitL.cons (k := .int) (ks := [.sl 2] ++ [.str] ++ [.sl 2] ++ shV ++ [.int] ++ [.sl 5]) hfit
  obtain ⟨n0, rfl, _⟩ := Fit.int hf0
  obtain ⟨d1, e1, rfl, hf1, hft1⟩ := FitL.cons (k := .sl 2) (ks := [.str] ++ [.sl 2] ++ shV ++ [.int] ++ [.sl 5]) hft0
  obtain ⟨rows1, rfl, b_rows1, fR_rows1⟩ := Fit.sl hf1
  have b_rows1 : rows1.length * 16 ≤ 140737488355328 := b_rows1
  obtain ⟨d2, e2, rfl, hf2, hft2⟩ := FitL.cons (k := .str) (ks := [.sl 2] ++ shV ++ [.int] ++ [.sl 5]) hft1
  obtain ⟨n2, rfl, _⟩ := Fit.str hf2
  obtain ⟨d3, e3, rfl, hf3, hft3⟩ := FitL.cons (k := .sl 2) (ks := shV ++ [.int] ++ [.sl 5]) hft2
  obtain ⟨rows3, rfl, b_rows3, fR_rows3⟩ := Fit.sl hf3
  have b_rows3 : rows3.length * 16 ≤ 140737488355328 := b_rows3
  obtain ⟨d4, e4, rfl, hf4, hft4⟩ := FitL.split (ks := shV) (ks' := [.int] ++ [.sl 5]) hft3
  obtain ⟨d5, e5, rfl, hf5, hft5⟩ := FitL.cons (k := .int) (ks := [.sl 5]) hft4
  obtain ⟨n5, rfl, _⟩ := Fit.int hf5
  obtain ⟨d6, e6, rfl, hf6, hft6⟩ := FitL.cons (k := .sl 5) (ks := []) hft5
  obtain ⟨rows6, rfl, b_rows6, fR_rows6⟩ := Fit.sl hf6
  have b_rows6 : rows6.length * 184 ≤ 140737488355328 := b_rows6
  obtain rfl := FitL.nil hft6
  obtain ⟨c0, z0, rfl, h_c0, hrd0⟩ := RdL.cons hrd
  obtain ⟨c1, z1, rfl, h_c1, hrd1⟩ := RdL.cons hrd0
  obtain ⟨c2, z2, rfl, h_c2, hrd2⟩ := RdL.cons hrd1
  obtain ⟨c3, z3, rfl, h_c3, hrd3⟩ := RdL.cons hrd2
  obtain ⟨c4, z4, rfl, h_c4, hrd4⟩ := RdL.split hrd3
  have l_c4 : c4.length = 5 := h_c4.length.symm.trans hf4.length
  obtain ⟨c5, z5, rfl, h_c5, hrd5⟩ := RdL.cons hrd4
  obtain ⟨c6, z6, rfl, h_c6, hrd6⟩ := RdL.cons hrd5
  obtain rfl := RdL.nil hrd6
  rw [show c0 :: (c1 :: (c2 :: (c3 :: (c4 ++ (c5 :: (c6 :: ([]))))))) = List.flatten [[c0], [c1], [c2], [c3], c4, [c5], [c6]] from by simp]
  refine Sx.enter (l := [.agg (List.flatten [[c0], [c1], [c2], [c3], c4, [c5], [c6]]).toArray]) Try.func62 rfl (n := 38) rfl (by simp) ?_
  refine wc_eq (S := SH w []) (SH.refl _) ?_
  refine wc_seq ?_
  refine wc_region ?_
  refine wl_new (d := 1) (List.flatten [[c0], [c1], [c2], [c3], c4, [c5], [c6]]).toArray 44 (fun r => .pointer (some ⟨r, 0, none⟩)) (by kernel_rfl) (fun r => by kernel_rfl) ?_
  intro r1 hr1
  have h_c1 := h_c1.stays (im_more (c := (List.flatten [[c0], [c1], [c2], [c3], c4, [c5], [c6]]).toArray) (t := 44) hr1)
  have h_c3 := h_c3.stays (im_more (c := (List.flatten [[c0], [c1], [c2], [c3], c4, [c5], [c6]]).toArray) (t := 44) hr1)
  have h_c4 := h_c4.stays (im_more (c := (List.flatten [[c0], [c1], [c2], [c3], c4, [c5], [c6]]).toArray) (t := 44) hr1)
  have h_c6 := h_c6.stays (im_more (c := (List.flatten [[c0], [c1], [c2], [c3], c4, [c5], [c6]]).toArray) (t := 44) hr1)
  refine wl_new (d := 2) #[.int .i64 0, .slice none 0 0, .string ByteArray.empty, .slice none 0 0, .int .i64 0, .int .i64 0, .string ByteArray.empty, .slice none 0 0, .slice none 0 0, .int .i64 0, .slice none 0 0] 44 (fun r => .pointer (some ⟨r, 0, none⟩)) (by kernel_rfl) (fun r => by kernel_rfl) ?_
  intro r2 hr2
  have h_c1 := h_c1.stays (im_more (c := #[.int .i64 0, .slice none 0 0, .string ByteArray.empty, .slice none 0 0, .int .i64 0, .int .i64 0, .string ByteArray.empty, .slice none 0 0, .slice none 0 0, .int .i64 0, .slice none 0 0]) (t := 44) hr2)
  have h_c3 := h_c3.stays (im_more (c := #[.int .i64 0, .slice none 0 0, .string ByteArray.empty, .slice none 0 0, .int .i64 0, .int .i64 0, .string ByteArray.empty, .slice none 0 0, .slice none 0 0, .int .i64 0, .slice none 0 0]) (t := 44) hr2)
  have h_c4 := h_c4.stays (im_more (c := #[.int .i64 0, .slice none 0 0, .string ByteArray.empty, .slice none 0 0, .int .i64 0, .int .i64 0, .string ByteArray.empty, .slice none 0 0, .slice none 0 0, .int .i64 0, .slice none 0 0]) (t := 44) hr2)
  have h_c6 := h_c6.stays (im_more (c := #[.int .i64 0, .slice none 0 0, .string ByteArray.empty, .slice none 0 0, .int .i64 0, .int .i64 0, .string ByteArray.empty, .slice none 0 0, .slice none 0 0, .int .i64 0, .slice none 0 0]) (t := 44) hr2)
  refine nx_list ?_
  refine nx_then ?_
  refine wc_seq ?_
  refine wc_region ?_
  refine wl_go 1 [(4, .pointer (some ⟨r1, 1, none⟩))] (by kernel_rfl) ?_
  refine wl_yl (d := 5) (v := c1) (by kernel_rfl) (yl_load (b := r1) (off := 1) 1 rfl (by kernel_rfl) rfl (readAt_seg1 1 rfl (by simp [l_c4]) (by kernel_rfl))) ?_
  refine wl_callB (X := Value) (d := 6) (fun x => x) (fun wa y wz => Rd (fun k => wa.heap.size ≤ k) wz (.sl rows1) y ∧ Below wa.heap.size wa wz) (by kernel_rfl) (by kernel_rfl) (fun w1 h1 => (cloneV_55 rows1 fR_rows1 b_rows1) w1 _ c1 (h_c1.stays (h1.staysC (L0 := (⟨r2, #[.int .i64 0, .slice none 0 0, .string ByteArray.empty, .slice none 0 0, .int .i64 0, .int .i64 0, .string ByteArray.empty, .slice none 0 0, .slice none 0 0, .int .i64 0, .slice none 0 0], 44⟩ :: (⟨r1, (List.flatten [[c0], [c1], [c2], [c3], c4, [c5], [c6]]).toArray, 44⟩ :: []))) rfl))) ?_
  rintro wq1 vq1 wq2 h1 ⟨h_vq1, hb⟩
  have h_vq1 := h_vq1.stays (stays_newN h1 (Nat.le_trans hbel.size h1.size))
  have hT := (h1.tr hb).cong (L0 := (⟨r2, #[.int .i64 0, .slice none 0 0, .string ByteArray.empty, .slice none 0 0, .int .i64 0, .int .i64 0, .string ByteArray.empty, .slice none 0 0, .slice none 0 0, .int .i64 0, .slice none 0 0], 44⟩ :: (⟨r1, (List.flatten [[c0], [c1], [c2], [c3], c4, [c5], [c6]]).toArray, 44⟩ :: []))) rfl
  have h_c1 := h_c1.stays hT.stays
  have h_c3 := h_c3.stays hT.stays
  have h_c4 := h_c4.stays hT.stays
  have h_c6 := h_c6.stays hT.stays
  have hbel := h1.belowCall hbel (ge_cons hr2 (ge_cons hr1 (ge_nil _))) hb
  refine wl_eq (S := SH wq2 [⟨r2, #[.int .i64 0, .slice none 0 0, .string ByteArray.empty, .slice none 0 0, .int .i64 0, .int .i64 0, .string ByteArray.empty, .slice none 0 0, .slice none 0 0, .int .i64 0, .slice none 0 0], 44⟩, ⟨r1, (List.flatten [[c0], [c1], [c2], [c3], c4, [c5], [c6]]).toArray, 44⟩]) (h1.after hb) ?_
  refine wl_go 1 [(7, .pointer (some ⟨r1, 1, none⟩))] (by kernel_rfl) ?_
  refine wl_store (b := r1) (off := 1) (v := vq1) (c' := (List.flatten [[c0], [vq1], [c2], [c3], c4, [c5], [c6]]).toArray) (L' := [⟨r2, #[.int .i64 0, .slice none 0 0, .string ByteArray.empty, .slice none 0 0, .int .i64 0, .int .i64 0, .string ByteArray.empty, .slice none 0 0, .slice none 0 0, .int .i64 0, .slice none 0 0], 44⟩, ⟨r1, (List.flatten [[c0], [vq1], [c2], [c3], c4, [c5], [c6]]).toArray, 44⟩]) 1 (by kernel_rfl) rfl (by kernel_rfl) (by kernel_rfl) rfl (writeAt_seg 1 ([vq1]) rfl (by simp [l_c4]) (Rd.cells h_vq1) rfl (by kernel_rfl) (fun u hu => by simp only [List.mem_singleton] at hu; subst hu; exact h_vq1.oneCell) rfl) rfl ?_
  refine nx_list ?_
  refine nx_then ?_
  refine wc_seq ?_
  refine wc_region ?_
  refine wl_go 1 [(8, .pointer (some ⟨r1, 3, none⟩))] (by kernel_rfl) ?_
  refine wl_yl (d := 9) (v := c3) (by kernel_rfl) (yl_load (b := r1) (off := 3) 1 rfl (by kernel_rfl) rfl (readAt_seg1 3 rfl (by simp [l_c4]) (by kernel_rfl))) ?_
  refine wl_callB (X := Value) (d := 10) (fun x => x) (fun wa y wz => Rd (fun k => wa.heap.size ≤ k) wz (.sl rows3) y ∧ Below wa.heap.size wa wz) (by kernel_rfl) (by kernel_rfl) (fun w1 h1 => (cloneV_55 rows3 fR_rows3 b_rows3) w1 _ c3 (h_c3.stays (h1.staysC (L0 := [⟨r2, #[.int .i64 0, .slice none 0 0, .string ByteArray.empty, .slice none 0 0, .int .i64 0, .int .i64 0, .string ByteArray.empty, .slice none 0 0, .slice none 0 0, .int .i64 0, .slice none 0 0], 44⟩, ⟨r1, (List.flatten [[c0], [c1], [c2], [c3], c4, [c5], [c6]]).toArray, 44⟩]) rfl))) ?_
  rintro wq3 vq2 wq4 h1 ⟨h_vq2, hb⟩
  have h_vq2 := h_vq2.stays (stays_newN h1 (Nat.le_trans hbel.size h1.size))
  have hT := (h1.tr hb).cong (L0 := [⟨r2, #[.int .i64 0, .slice none 0 0, .string ByteArray.empty, .slice none 0 0, .int .i64 0, .int .i64 0, .string ByteArray.empty, .slice none 0 0, .slice none 0 0, .int .i64 0, .slice none 0 0], 44⟩, ⟨r1, (List.flatten [[c0], [c1], [c2], [c3], c4, [c5], [c6]]).toArray, 44⟩]) rfl
  have h_c1 := h_c1.stays hT.stays
  have h_c3 := h_c3.stays hT.stays
  have h_c4 := h_c4.stays hT.stays
  have h_c6 := h_c6.stays hT.stays
  have h_vq1 := h_vq1.stays hT.staysN
  have hbel := h1.belowCall hbel (ge_cons hr2 (ge_cons hr1 (ge_nil _))) hb
  refine wl_eq (S := SH wq4 [⟨r2, #[.int .i64 0, .slice none 0 0, .string ByteArray.empty, .slice none 0 0, .int .i64 0, .int .i64 0, .string ByteArray.empty, .slice none 0 0, .slice none 0 0, .int .i64 0, .slice none 0 0], 44⟩, ⟨r1, (List.flatten [[c0], [vq1], [c2], [c3], c4, [c5], [c6]]).toArray, 44⟩]) (h1.after hb) ?_
  refine wl_go 1 [(11, .pointer (some ⟨r1, 3, none⟩))] (by kernel_rfl) ?_
  refine wl_store (b := r1) (off := 3) (v := vq2) (c' := (List.flatten [[c0], [vq1], [c2], [vq2], c4, [c5], [c6]]).toArray) (L' := [⟨r2, #[.int .i64 0, .slice none 0 0, .string ByteArray.empty, .slice none 0 0, .int .i64 0, .int .i64 0, .string ByteArray.empty, .slice none 0 0, .slice none 0 0, .int .i64 0, .slice none 0 0], 44⟩, ⟨r1, (List.flatten [[c0], [vq1], [c2], [vq2], c4, [c5], [c6]]).toArray, 44⟩]) 1 (by kernel_rfl) rfl (by kernel_rfl) (by kernel_rfl) rfl (writeAt_seg 3 ([vq2]) rfl (by simp [l_c4]) (Rd.cells h_vq2) rfl (by kernel_rfl) (fun u hu => by simp only [List.mem_singleton] at hu; subst hu; exact h_vq2.oneCell) rfl) rfl ?_
  refine nx_list ?_
  refine nx_then ?_
  refine wc_seq ?_
  refine wc_region ?_
  refine wl_go 1 [(12, .pointer (some ⟨r1, 4, none⟩))] (by kernel_rfl) ?_
  refine wl_yl (d := 13) (v := .agg (c4).toArray) (by kernel_rfl) (yl_load (b := r1) (off := 4) 1 rfl (by kernel_rfl) rfl (readAt_seg 4 rfl (by simp [l_c4]) (by rw [l_c4]; kernel_rfl))) ?_
  refine wl_callB (X := List Value) (d := 14) (fun x => .agg x.toArray) (fun wa y wz => RdL (fun k => wa.heap.size ≤ k) wz d4 y ∧ Below wa.heap.size wa wz) (by kernel_rfl) (by kernel_rfl) (fun w1 h1 => (copyValue_all d4 hf4) w1 _ c4 (h_c4.stays (h1.staysC (L0 := [⟨r2, #[.int .i64 0, .slice none 0 0, .string ByteArray.empty, .slice none 0 0, .int .i64 0, .int .i64 0, .string ByteArray.empty, .slice none 0 0, .slice none 0 0, .int .i64 0, .slice none 0 0], 44⟩, ⟨r1, (List.flatten [[c0], [vq1], [c2], [c3], c4, [c5], [c6]]).toArray, 44⟩]) rfl))) ?_
  rintro wq5 mq3 wq6 h1 ⟨h_mq3, hb⟩
  have h_mq3 := h_mq3.stays (stays_newN h1 (Nat.le_trans hbel.size h1.size))
  have l_mq3 : mq3.length = 5 := h_mq3.length.symm.trans (h_c4.length.trans l_c4)
  have hT := (h1.tr hb).cong (L0 := [⟨r2, #[.int .i64 0, .slice none 0 0, .string ByteArray.empty, .slice none 0 0, .int .i64 0, .int .i64 0, .string ByteArray.empty, .slice none 0 0, .slice none 0 0, .int .i64 0, .slice none 0 0], 44⟩, ⟨r1, (List.flatten [[c0], [vq1], [c2], [c3], c4, [c5], [c6]]).toArray, 44⟩]) rfl
  have h_c1 := h_c1.stays hT.stays
  have h_c3 := h_c3.stays hT.stays
  have h_c4 := h_c4.stays hT.stays
  have h_c6 := h_c6.stays hT.stays
  have h_vq1 := h_vq1.stays hT.staysN
  have h_vq2 := h_vq2.stays hT.staysN
  have hbel := h1.belowCall hbel (ge_cons hr2 (ge_cons hr1 (ge_nil _))) hb
  refine wl_eq (S := SH wq6 [⟨r2, #[.int .i64 0, .slice none 0 0, .string ByteArray.empty, .slice none 0 0, .int .i64 0, .int .i64 0, .string ByteArray.empty, .slice none 0 0, .slice none 0 0, .int .i64 0, .slice none 0 0], 44⟩, ⟨r1, (List.flatten [[c0], [vq1], [c2], [vq2], c4, [c5], [c6]]).toArray, 44⟩]) (h1.after hb) ?_
  refine wl_go 1 [(15, .pointer (some ⟨r1, 4, none⟩))] (by kernel_rfl) ?_
  refine wl_store (b := r1) (off := 4) (v := .agg (mq3).toArray) (c' := (List.flatten [[c0], [vq1], [c2], [vq2], mq3, [c5], [c6]]).toArray) (L' := [⟨r2, #[.int .i64 0, .slice none 0 0, .string ByteArray.empty, .slice none 0 0, .int .i64 0, .int .i64 0, .string ByteArray.empty, .slice none 0 0, .slice none 0 0, .int .i64 0, .slice none 0 0], 44⟩, ⟨r1, (List.flatten [[c0], [vq1], [c2], [vq2], mq3, [c5], [c6]]).toArray, 44⟩]) 1 (by kernel_rfl) rfl (by kernel_rfl) (by kernel_rfl) rfl (writeAt_seg 4 (mq3) rfl (by simp [l_c4]) rfl (by rw [l_mq3, l_c4]) (by rw [l_mq3]; kernel_rfl) (RdL.oneCell h_mq3) rfl) rfl ?_
  refine nx_list ?_
  refine nx_then ?_
  refine wc_seq ?_
  refine wc_region ?_
  refine wl_go 1 [(16, .pointer (some ⟨r1, 10, none⟩))] (by kernel_rfl) ?_
  refine wl_yl (d := 17) (v := c6) (by kernel_rfl) (yl_load (b := r1) (off := 10) 1 rfl (by kernel_rfl) rfl (readAt_seg1 6 rfl (by simp [l_mq3]) (by kernel_rfl))) ?_
  have hesq4 : ∀ r ∈ rows6, r.length = 11 := fR_rows6.length
  refine wl_callB (X := Value × List Blk × List (List Value)) (d := 18) (fun x => x.1) (fun wa y wz => Cl 44 (Im wq6 [⟨r2, #[.int .i64 0, .slice none 0 0, .string ByteArray.empty, .slice none 0 0, .int .i64 0, .int .i64 0, .string ByteArray.empty, .slice none 0 0, .slice none 0 0, .int .i64 0, .slice none 0 0], 44⟩, ⟨r1, (List.flatten [[c0], [vq1], [c2], [vq2], mq3, [c5], [c6]]).toArray, 44⟩]) wa rows6 y.1 wz y.2.1 y.2.2) (by kernel_rfl) (by kernel_rfl) (fun w1 h1 => (clone_67 rows6 _ c6 w1 (h_c6.stays (h1.staysC (L0 := [⟨r2, #[.int .i64 0, .slice none 0 0, .string ByteArray.empty, .slice none 0 0, .int .i64 0, .int .i64 0, .string ByteArray.empty, .slice none 0 0, .slice none 0 0, .int .i64 0, .slice none 0 0], 44⟩, ⟨r1, (List.flatten [[c0], [vq1], [c2], [vq2], c4, [c5], [c6]]).toArray, 44⟩]) rfl)) hesq4 b_rows6).mono (fun e w' ⟨v', R, rv, he, hc⟩ => ⟨(v', R, rv), he, hc⟩)) ?_
  rintro wq7 ⟨v1, Rq4, rvq4⟩ wq8 hsq4 hclq4
  obtain ⟨aq4, capq4, rfl⟩ : ∃ a cap, v1 = .slice a rows6.length cap := by obtain ⟨_, _, ⟨a, cap, h, _⟩, _⟩ := hclq4; exact ⟨a, cap, h⟩
  refine wl_eq (S := SH wq8 (([⟨r2, #[.int .i64 0, .slice none 0 0, .string ByteArray.empty, .slice none 0 0, .int .i64 0, .int .i64 0, .string ByteArray.empty, .slice none 0 0, .slice none 0 0, .int .i64 0, .slice none 0 0], 44⟩, ⟨r1, (List.flatten [[c0], [vq1], [c2], [vq2], mq3, [c5], [c6]]).toArray, 44⟩] : List Blk) ++ Rq4)) (Cp.startSH hsq4 hclq4) ?_
  refine wl_go 1 [(19, .pointer (some ⟨r1, 10, none⟩))] (by kernel_rfl) ?_
  refine wl_store (b := r1) (off := 10) (v := .slice aq4 rows6.length capq4) (c' := (List.flatten [[c0], [vq1], [c2], [vq2], mq3, [c5], [.slice aq4 rows6.length capq4]]).toArray) (L' := (([⟨r2, #[.int .i64 0, .slice none 0 0, .string ByteArray.empty, .slice none 0 0, .int .i64 0, .int .i64 0, .string ByteArray.empty, .slice none 0 0, .slice none 0 0, .int .i64 0, .slice none 0 0], 44⟩, ⟨r1, (List.flatten [[c0], [vq1], [c2], [vq2], mq3, [c5], [.slice aq4 rows6.length capq4]]).toArray, 44⟩] : List Blk) ++ Rq4)) 1 (by kernel_rfl) rfl (by kernel_rfl) (by kernel_rfl) rfl (writeAt_seg 6 ([.slice aq4 rows6.length capq4]) rfl (by simp [l_mq3]) rfl rfl (by kernel_rfl) (fun u hu => by simp only [List.mem_singleton] at hu; subst hu; rfl) rfl) rfl ?_
  refine nx_list ?_
  refine nx_then ?_
  refine wc_seq ?_
  refine wc_seq ?_
  refine wc_region ?_
  refine wl_go 1 [(20, .pointer (some ⟨r1, 10, none⟩))] (by kernel_rfl) ?_
  refine wl_yl (d := 21) (v := .slice aq4 rows6.length capq4) (by kernel_rfl) (yl_load (b := r1) (off := 10) 1 rfl (by kernel_rfl) rfl (readAt_seg1 6 rfl (by simp [l_mq3]) (by kernel_rfl))) ?_
  refine wl_go 2 [(23, .int .i64 0), (22, .int .i64 (rows6.length : Int))] (by kernel_rfl) ?_
  refine nx_list ?_
  refine nx_then ?_
  refine wc_block ?_
  refine wc_loop (σ := Cp 44 11 w wq6 [⟨r2, #[.int .i64 0, .slice none 0 0, .string ByteArray.empty, .slice none 0 0, .int .i64 0, .int .i64 0, .string ByteArray.empty, .slice none 0 0, .slice none 0 0, .int .i64 0, .slice none 0 0], 44⟩, ⟨r1, (List.flatten [[c0], [vq1], [c2], [vq2], c4, [c5], [c6]]).toArray, 44⟩] rows6 aq4 [⟨r2, #[.int .i64 0, .slice none 0 0, .string ByteArray.empty, .slice none 0 0, .int .i64 0, .int .i64 0, .string ByteArray.empty, .slice none 0 0, .slice none 0 0, .int .i64 0, .slice none 0 0], 44⟩, ⟨r1, (List.flatten [[c0], [vq1], [c2], [vq2], mq3, [c5], [.slice aq4 rows6.length capq4]]).toArray, 44⟩]) (fun x => [(1, .pointer (some ⟨r1, 0, none⟩)), (2, .pointer (some ⟨r2, 0, none⟩)), (22, .int .i64 (rows6.length : Int)), (23, .int .i64 (x.i : Int))]) (fun x => SH x.wb (([⟨r2, #[.int .i64 0, .slice none 0 0, .string ByteArray.empty, .slice none 0 0, .int .i64 0, .int .i64 0, .string ByteArray.empty, .slice none 0 0, .slice none 0 0, .int .i64 0, .slice none 0 0], 44⟩, ⟨r1, (List.flatten [[c0], [vq1], [c2], [vq2], mq3, [c5], [.slice aq4 rows6.length capq4]]).toArray, 44⟩] : List Blk) ++ x.R)) (fun x => rows6.length - x.i) (fun w3 h3 => ⟨(Cp.start hbel (ge_cons hr2 (ge_cons hr1 (ge_nil _))) hsq4 hclq4 hesq4 [⟨r2, #[.int .i64 0, .slice none 0 0, .string ByteArray.empty, .slice none 0 0, .int .i64 0, .int .i64 0, .string ByteArray.empty, .slice none 0 0, .slice none 0 0, .int .i64 0, .slice none 0 0], 44⟩, ⟨r1, (List.flatten [[c0], [vq1], [c2], [vq2], c4, [c5], [c6]]).toArray, 44⟩] rfl).cast rfl, h3, (subEnv_cons (by kernel_rfl) (subEnv_cons (by kernel_rfl) (subEnv_cons (by kernel_rfl) (subEnv_cons (by kernel_rfl) (subEnv_nil _)))))⟩) (fun x => ?_)
  refine wc_seq ?_
  refine wc_region ?_
  refine wl_go 1 [(24, .bool (decide ((x.i : Int) < (rows6.length : Int))))] (by kernel_rfl) ?_
  refine nx_list ?_
  refine nx_then ?_
  refine wc_seq ?_
  refine wc_cond (decide ((x.i : Int) < (rows6.length : Int))) (by kernel_rfl) (by kernel_rfl) (fun hcq4 => ?_) (fun hcq4 => ?_)
  · skip
    have hlt : x.i < rows6.length := by simpa using hcq4
    have hrl : rows6.length ≤ 140737488355328 := by have := b_rows6; omega
    obtain ⟨g, sp, r, v, rfl, hxR, hrow, hval, hrd⟩ := x.row hlt
    have hfr := fR_rows6.get x.i r hrow
    obtain ⟨u1, dq, rfl, hu1, hfq⟩ := FitL.split (ks := ([]) ++ (shExpr)) (ks' := []) hfr
    obtain ⟨dp, dm, rfl, hfp, hfm⟩ := FitL.split (ks := []) (ks' := shExpr) hu1
    obtain ⟨uv, q, rfl, huv, h_q⟩ := RdL.split hrd
    obtain ⟨p, m, rfl, h_p, h_m⟩ := RdL.split huv
    have l_p : p.length = 0 := h_p.length.symm.trans hfp.length
    have l_m : m.length = 11 := h_m.length.symm.trans hfm.length
    have hbp := bare_of_fit hfp (by simp)
    have hbq := bare_of_fit hfq (by simp)
    have hszm : szL dm < szR rows6 := by have := szR_get hrow; rw [szL_append, szL_append] at this; omega
    rw [hxR]
    refine nx_skip ?_
    refine nx_then ?_
    refine wc_seq ?_
    refine wc_block ?_
    refine wc_seq ?_
    refine wc_region ?_
    refine wl_go 2 [(3, .int .i64 (x.i : Int)), (25, .int .i64 (x.i : Int))] (by kernel_rfl) ?_
    refine nx_list ?_
    refine nx_then ?_
    refine wc_draw 10 (SH x.wb [⟨r2, #[.int .i64 0, .slice none 0 0, .string ByteArray.empty, .slice none 0 0, .int .i64 0, .int .i64 0, .string ByteArray.empty, .slice none 0 0, .slice none 0 0, .int .i64 0, .slice none 0 0], 44⟩, ⟨r1, (List.flatten [[c0], [vq1], [c2], [vq2], mq3, [c5], [.slice (some ⟨g, 0, none⟩) rows6.length capq4]]).toArray, 44⟩, ⟨g, ((x.rv.flatten ++ sp).toArray), 44⟩]) rfl (by decide) (fun w h => SH.drew h) ?_
    refine wd_go [0] [(26, .pointer (some ⟨r1, 10, none⟩))] #[true, false, false, false, false, false, false, false, false, false, false] (f := 9) rfl (by kernel_rfl) (fun w h => h) ?_
    refine wd_yl 1 (d := 27) (v := .slice (some ⟨g, 0, none⟩) rows6.length capq4) (f := 8) rfl (by kernel_rfl) (by kernel_rfl) (fun w h => h) (yl_load (b := r1) (off := 10) 1 rfl (by kernel_rfl) rfl (readAt_seg1 6 rfl (by simp [l_mq3]) (by kernel_rfl))) ?_
    refine wd_go [2, 3] [(29, .pointer (some ⟨r1, 10, none⟩)), (28, .int .i64 (x.i : Int))] #[true, true, true, true, false, false, false, false, false, false, false] (f := 6) rfl (by kernel_rfl) (fun w h => h) ?_
    refine wd_yl 4 (d := 30) (v := .slice (some ⟨g, 0, none⟩) rows6.length capq4) (f := 5) rfl (by kernel_rfl) (by kernel_rfl) (fun w h => h) (yl_load (b := r1) (off := 10) 1 rfl (by kernel_rfl) rfl (readAt_seg1 6 rfl (by simp [l_mq3]) (by kernel_rfl))) ?_
    refine wd_go [5] [(31, .int .i64 (x.i : Int))] #[true, true, true, true, true, true, false, false, false, false, false] (f := 4) rfl (by kernel_rfl) (fun w h => h) ?_
    refine wd_yl 6 (d := 32) (v := .pointer (some ⟨g, 0 + x.i * 11, none⟩)) (f := 3) rfl (by kernel_rfl) (by kernel_rfl) (fun w h => h) (yl_index (E := 44) (b := g) (off := 0) (len := rows6.length) (cap := capq4) (k := x.i) (es := 11) rfl (by kernel_rfl) (by kernel_rfl) (by kernel_rfl) (by omega)) ?_
    refine wd_yl 7 (d := 33) (v := .agg (m).toArray) (f := 2) rfl (by kernel_rfl) (by kernel_rfl) (fun w h => h) (yl_load (b := g) (off := 0 + x.i * 11) 2 rfl (by kernel_rfl) rfl (readAt_row x.hlen hval (by simp [l_p]) (by rw [l_m]; kernel_rfl))) ?_
    refine wd_callB 8 (X := List Value) (d := 34) (fu := 1) (fun x => .agg x.toArray) (fun wa y wz => RdL (fun k => wa.heap.size ≤ k) wz dm y ∧ Below wa.heap.size wa wz) rfl (by decide) (by kernel_rfl) (by kernel_rfl) (by kernel_rfl) (fun w1 h1 => ih dm (by simp only [szL, szL_append, D.sz]; omega) hfm w1 _ m ((show RdL (Im x.wb [⟨r2, #[.int .i64 0, .slice none 0 0, .string ByteArray.empty, .slice none 0 0, .int .i64 0, .int .i64 0, .string ByteArray.empty, .slice none 0 0, .slice none 0 0, .int .i64 0, .slice none 0 0], 44⟩, ⟨r1, (List.flatten [[c0], [vq1], [c2], [vq2], mq3, [c5], [.slice (some ⟨g, 0, none⟩) rows6.length capq4]]).toArray, 44⟩, ⟨g, ((x.rv.flatten ++ sp).toArray), 44⟩]) x.wb dm m from by rw [← hxR]; exact h_m).stays h1.stays)) ?_
    rintro wq9 mq5 wq10 hin ⟨hmin, hbin⟩
    have h_mq5 := hmin
    have l_mq5 : mq5.length = 11 := hmin.length.symm.trans hfm.length
    have hin' := hin
    rw [← hxR] at hin
    refine ⟨hin'.keep hbin, ?_⟩
    refine wd_eq (T := SH wq10 [⟨r2, #[.int .i64 0, .slice none 0 0, .string ByteArray.empty, .slice none 0 0, .int .i64 0, .int .i64 0, .string ByteArray.empty, .slice none 0 0, .slice none 0 0, .int .i64 0, .slice none 0 0], 44⟩, ⟨r1, (List.flatten [[c0], [vq1], [c2], [vq2], mq3, [c5], [.slice (some ⟨g, 0, none⟩) rows6.length capq4]]).toArray, 44⟩, ⟨g, ((x.rv.flatten ++ sp).toArray), 44⟩]) (hin'.after hbin) ?_
    refine wd_yl 9 (d := 35) (v := .pointer (some ⟨g, 0 + x.i * 11, none⟩)) (f := 0) rfl (by kernel_rfl) (by kernel_rfl) (fun w h => (hin'.keep hbin).trans h) (yl_index (E := 44) (b := g) (off := 0) (len := rows6.length) (cap := capq4) (k := x.i) (es := 11) rfl (by kernel_rfl) (by kernel_rfl) (by kernel_rfl) (by omega)) ?_
    refine wd_done (by kernel_rfl) ?_
    refine wl_store (b := g) (off := 0 + x.i * 11) (v := .agg (mq5).toArray) (c' := ((x.rv.set x.i (p ++ mq5 ++ q)).flatten ++ sp).toArray) (L' := [⟨r2, #[.int .i64 0, .slice none 0 0, .string ByteArray.empty, .slice none 0 0, .int .i64 0, .int .i64 0, .string ByteArray.empty, .slice none 0 0, .slice none 0 0, .int .i64 0, .slice none 0 0], 44⟩, ⟨r1, (List.flatten [[c0], [vq1], [c2], [vq2], mq3, [c5], [.slice (some ⟨g, 0, none⟩) rows6.length capq4]]).toArray, 44⟩, ⟨g, (((x.rv.set x.i (p ++ mq5 ++ q)).flatten ++ sp).toArray), 44⟩]) 2 (by kernel_rfl) rfl (by kernel_rfl) (by kernel_rfl) rfl (writeAt_row mq5 x.hlen hval (by simp [l_p]) rfl (by rw [l_mq5, l_m]) (by rw [l_mq5]; kernel_rfl) (RdL.oneCell h_mq5)) rfl ?_
    refine nx_list ?_
    refine nx_on ?_
    refine nx_block ?_
    refine nx_then ?_
    refine wc_region ?_
    refine wl_yl (d := 36) (v := .int .i64 ((x.i : Int) + 1)) (by kernel_rfl) (yl_int (t := (x.i : Int) + 1) (r := (x.i : Int) + 1) (by kernel_rfl) (i64w (by omega) (by omega))) ?_
    refine wl_go 1 [(23, .int .i64 ((x.i : Int) + 1))] (by kernel_rfl) ?_
    refine nx_list ?_
    refine nx_round (y := x.next (m' := mq5) hlt hrow hval hxR h_p h_q hbp hbq (by rw [l_m, l_mq5]) hin hbin hmin) (show rows6.length - (x.i + 1) < rows6.length - x.i by omega) (subEnv_cons (by kernel_rfl) (subEnv_cons (by kernel_rfl) (subEnv_cons (by kernel_rfl) (subEnv_cons (by kernel_rfl) (subEnv_nil _))))) (fun w h => h)
  · skip
    have hge : rows6.length ≤ x.i := by simpa using hcq4
    refine wc_open (fun wq11 h9 => ?_)
    have h_sq6 := x.done hge h9 capq4
    have hT := (x.htr.trans h9.trDrop)
    have h_c1 := h_c1.stays hT.stays
    have h_c3 := h_c3.stays hT.stays
    have h_c4 := h_c4.stays hT.stays
    have h_c6 := h_c6.stays hT.stays
    have h_vq1 := h_vq1.stays hT.staysN
    have h_vq2 := h_vq2.stays hT.staysN
    have h_mq3 := h_mq3.stays hT.staysN
    have hbel := h9.below x.hbel x.hbel.size x.hL
    refine wc_eq (S := SH wq11 [⟨r2, #[.int .i64 0, .slice none 0 0, .string ByteArray.empty, .slice none 0 0, .int .i64 0, .int .i64 0, .string ByteArray.empty, .slice none 0 0, .slice none 0 0, .int .i64 0, .slice none 0 0], 44⟩, ⟨r1, (List.flatten [[c0], [vq1], [c2], [vq2], mq3, [c5], [.slice aq4 rows6.length capq4]]).toArray, 44⟩]) h9.drop ?_
    refine nx_exit ?_
    refine nx_then_exit ?_
    refine nx_then_exit ?_
    refine nx_block_here ?_
    refine nx_then ?_
    refine wc_seq ?_
    refine wc_region ?_
    refine wl_yl (d := 37) (v := .agg (List.flatten [[c0], [vq1], [c2], [vq2], mq3, [c5], [.slice aq4 rows6.length capq4]]).toArray) (by kernel_rfl) (yl_load (b := r1) (off := 0) 1 rfl (by kernel_rfl) rfl (readAt_all (by rw [show (List.flatten [[c0], [vq1], [c2], [vq2], mq3, [c5], [.slice aq4 rows6.length capq4]]).length = 11 from by simp [l_mq3]]; kernel_rfl))) ?_
    refine wl_store (b := r2) (off := 0) (v := .agg (List.flatten [[c0], [vq1], [c2], [vq2], mq3, [c5], [.slice aq4 rows6.length capq4]]).toArray) (c' := (List.flatten [[c0], [vq1], [c2], [vq2], mq3, [c5], [.slice aq4 rows6.length capq4]]).toArray) (L' := [⟨r2, (List.flatten [[c0], [vq1], [c2], [vq2], mq3, [c5], [.slice aq4 rows6.length capq4]]).toArray, 44⟩, ⟨r1, (List.flatten [[c0], [vq1], [c2], [vq2], mq3, [c5], [.slice aq4 rows6.length capq4]]).toArray, 44⟩]) 0 (by kernel_rfl) rfl (by kernel_rfl) (by kernel_rfl) rfl (writeAt_all (by rw [show (List.flatten [[c0], [vq1], [c2], [vq2], mq3, [c5], [.slice aq4 rows6.length capq4]]).length = 11 from by simp [l_mq3]]; kernel_rfl) (by rw [show (List.flatten [[c0], [vq1], [c2], [vq2], mq3, [c5], [.slice aq4 rows6.length capq4]]).length = 11 from by simp [l_mq3]]; kernel_rfl) (oc_cons (fun u hu => by simp only [List.mem_singleton] at hu; subst hu; exact h_c0.oneCell) (oc_cons (fun u hu => by simp only [List.mem_singleton] at hu; subst hu; exact h_vq1.oneCell) (oc_cons (fun u hu => by simp only [List.mem_singleton] at hu; subst hu; exact h_c2.oneCell) (oc_cons (fun u hu => by simp only [List.mem_singleton] at hu; subst hu; exact h_vq2.oneCell) (oc_cons (RdL.oneCell h_mq3) (oc_cons (fun u hu => by simp only [List.mem_singleton] at hu; subst hu; exact h_c5.oneCell) (oc_cons (fun u hu => by simp only [List.mem_singleton] at hu; subst hu; rfl) oc_nil)))))))) rfl ?_
    refine nx_list ?_
    refine nx_then ?_
    refine nx_ret ?_
    refine ret_cell (v := .agg (List.flatten [[c0], [vq1], [c2], [vq2], mq3, [c5], [.slice aq4 rows6.length capq4]]).toArray) (b := r2) (off := 0) 0 rfl (by kernel_rfl) rfl (readAt_all (by rw [show (List.flatten [[c0], [vq1], [c2], [vq2], mq3, [c5], [.slice aq4 rows6.length capq4]]).length = 11 from by simp [l_mq3]]; kernel_rfl)) ?_
    intro w' hw'
    refine ⟨_, rfl, ?_, hw'.below hbel hbel.size (ge_cons hr2 (ge_cons hr1 (ge_nil _)))⟩
    rw [show (List.flatten [[c0], [vq1], [c2], [vq2], mq3, [c5], [.slice aq4 rows6.length capq4]] : List Value) = (c0) :: ((vq1) :: ((c2) :: ((vq2) :: (mq3 ++ ((c5) :: ((.slice aq4 rows6.length capq4) :: ([]))))))) from by simp]
    exact RdL.mk (h_c0.bare rfl) (RdL.mk (h_vq1.stays (hw'.staysN (L0 := [⟨r2, #[.int .i64 0, .slice none 0 0, .string ByteArray.empty, .slice none 0 0, .int .i64 0, .int .i64 0, .string ByteArray.empty, .slice none 0 0, .slice none 0 0, .int .i64 0, .slice none 0 0], 44⟩, ⟨r1, (List.flatten [[c0], [vq1], [c2], [vq2], mq3, [c5], [.slice aq4 rows6.length capq4]]).toArray, 44⟩]) rfl)) (RdL.mk (h_c2.bare rfl) (RdL.mk (h_vq2.stays (hw'.staysN (L0 := [⟨r2, #[.int .i64 0, .slice none 0 0, .string ByteArray.empty, .slice none 0 0, .int .i64 0, .int .i64 0, .string ByteArray.empty, .slice none 0 0, .slice none 0 0, .int .i64 0, .slice none 0 0], 44⟩, ⟨r1, (List.flatten [[c0], [vq1], [c2], [vq2], mq3, [c5], [.slice aq4 rows6.length capq4]]).toArray, 44⟩]) rfl)) (RdL.append (h_mq3.stays (hw'.staysN (L0 := [⟨r2, #[.int .i64 0, .slice none 0 0, .string ByteArray.empty, .slice none 0 0, .int .i64 0, .int .i64 0, .string ByteArray.empty, .slice none 0 0, .slice none 0 0, .int .i64 0, .slice none 0 0], 44⟩, ⟨r1, (List.flatten [[c0], [vq1], [c2], [vq2], mq3, [c5], [.slice aq4 rows6.length capq4]]).toArray, 44⟩]) rfl)) (RdL.mk (h_c5.bare rfl) (RdL.mk (h_sq6.stays (hw'.staysN (L0 := [⟨r2, #[.int .i64 0, .slice none 0 0, .string ByteArray.empty, .slice none 0 0, .int .i64 0, .int .i64 0, .string ByteArray.empty, .slice none 0 0, .slice none 0 0, .int .i64 0, .slice none 0 0], 44⟩, ⟨r1, (List.flatten [[c0], [vq1], [c2], [vq2], mq3, [c5], [.slice aq4 rows6.length capq4]]).toArray, 44⟩]) rfl)) (RdL.none)))))))

theorem copyExpr_all (ds : List D) (hfit : FitL sh by_ ds shExpr) : CopyS Try.prog 62 ds := by
  have key : ∀ (m : Nat) (ds : List D), szL ds < m → FitL sh by_ ds shExpr → CopyS Try.prog 62 ds := by
    intro m
    induction m with
    | zero => intro ds h; omega
    | succ m ih => intro ds h hf; exact copyExpr_step ds hf (fun r hr hfr => ih r (by omega) hfr)
  exact key _ ds (Nat.lt_succ_self _) hfit

theorem copyPred_step (ds : List D) (hfit : FitL sh by_ ds shPred) (ih : ∀ (r : List D), szL r < szL ds → FitL sh by_ r shPred → CopyS Try.prog 56 r) : CopyS Try.prog 56 ds := by
  intro w S cs hrdS
  have hrd := hrdS.im
  have hbel := Below.refl w.heap.size w
  obtain ⟨d0, e0, rfl, hf0, hft0⟩ := FitL.cons (k := .int) (ks := [.sl 2] ++ shV ++ [.sl 0] ++ [.int] ++ [.int] ++ [.int] ++ [.sl 4] ++ [.int] ++ shExpr ++ [.sl 6]) hfit
  obtain ⟨n0, rfl, _⟩ := Fit.int hf0
  obtain ⟨d1, e1, rfl, hf1, hft1⟩ := FitL.cons (k := .sl 2) (ks := shV ++ [.sl 0] ++ [.int] ++ [.int] ++ [.int] ++ [.sl 4] ++ [.int] ++ shExpr ++ [.sl 6]) hft0
  obtain ⟨rows1, rfl, b_rows1, fR_rows1⟩ := Fit.sl hf1
  have b_rows1 : rows1.length * 16 ≤ 140737488355328 := b_rows1
  obtain ⟨d2, e2, rfl, hf2, hft2⟩ := FitL.split (ks := shV) (ks' := [.sl 0] ++ [.int] ++ [.int] ++ [.int] ++ [.sl 4] ++ [.int] ++ shExpr ++ [.sl 6]) hft1
  obtain ⟨d3, e3, rfl, hf3, hft3⟩ := FitL.cons (k := .sl 0) (ks := [.int] ++ [.int] ++ [.int] ++ [.sl 4] ++ [.int] ++ shExpr ++ [.sl 6]) hft2
  obtain ⟨rows3, rfl, b_rows3, fR_rows3⟩ := Fit.sl hf3
  have b_rows3 : rows3.length * 80 ≤ 140737488355328 := b_rows3
  obtain ⟨d4, e4, rfl, hf4, hft4⟩ := FitL.cons (k := .int) (ks := [.int] ++ [.int] ++ [.sl 4] ++ [.int] ++ shExpr ++ [.sl 6]) hft3
  obtain ⟨n4, rfl, _⟩ := Fit.int hf4
  obtain ⟨d5, e5, rfl, hf5, hft5⟩ := FitL.cons (k := .int) (ks := [.int] ++ [.sl 4] ++ [.int] ++ shExpr ++ [.sl 6]) hft4
  obtain ⟨n5, rfl, _⟩ := Fit.int hf5
  obtain ⟨d6, e6, rfl, hf6, hft6⟩ := FitL.cons (k := .int) (ks := [.sl 4] ++ [.int] ++ shExpr ++ [.sl 6]) hft5
  obtain ⟨n6, rfl, _⟩ := Fit.int hf6
  obtain ⟨d7, e7, rfl, hf7, hft7⟩ := FitL.cons (k := .sl 4) (ks := [.int] ++ shExpr ++ [.sl 6]) hft6
  obtain ⟨rows7, rfl, b_rows7, fR_rows7⟩ := Fit.sl hf7
  have b_rows7 : rows7.length * 16 ≤ 140737488355328 := b_rows7
  obtain ⟨d8, e8, rfl, hf8, hft8⟩ := FitL.cons (k := .int) (ks := shExpr ++ [.sl 6]) hft7
  obtain ⟨n8, rfl, _⟩ := Fit.int hf8
  obtain ⟨d9, e9, rfl, hf9, hft9⟩ := FitL.split (ks := shExpr) (ks' := [.sl 6]) hft8
  obtain ⟨d10, e10, rfl, hf10, hft10⟩ := FitL.cons (k := .sl 6) (ks := []) hft9
  obtain ⟨rows10, rfl, b_rows10, fR_rows10⟩ := Fit.sl hf10
  have b_rows10 : rows10.length * 400 ≤ 140737488355328 := b_rows10
  obtain rfl := FitL.nil hft10
  obtain ⟨c0, z0, rfl, h_c0, hrd0⟩ := RdL.cons hrd
  obtain ⟨c1, z1, rfl, h_c1, hrd1⟩ := RdL.cons hrd0
  obtain ⟨c2, z2, rfl, h_c2, hrd2⟩ := RdL.split hrd1
  have l_c2 : c2.length = 5 := h_c2.length.symm.trans hf2.length
  obtain ⟨c3, z3, rfl, h_c3, hrd3⟩ := RdL.cons hrd2
  obtain ⟨c4, z4, rfl, h_c4, hrd4⟩ := RdL.cons hrd3
  obtain ⟨c5, z5, rfl, h_c5, hrd5⟩ := RdL.cons hrd4
  obtain ⟨c6, z6, rfl, h_c6, hrd6⟩ := RdL.cons hrd5
  obtain ⟨c7, z7, rfl, h_c7, hrd7⟩ := RdL.cons hrd6
  obtain ⟨c8, z8, rfl, h_c8, hrd8⟩ := RdL.cons hrd7
  obtain ⟨c9, z9, rfl, h_c9, hrd9⟩ := RdL.split hrd8
  have l_c9 : c9.length = 11 := h_c9.length.symm.trans hf9.length
  obtain ⟨c10, z10, rfl, h_c10, hrd10⟩ := RdL.cons hrd9
  obtain rfl := RdL.nil hrd10
  rw [show c0 :: (c1 :: (c2 ++ (c3 :: (c4 :: (c5 :: (c6 :: (c7 :: (c8 :: (c9 ++ (c10 :: ([]))))))))))) = List.flatten [[c0], [c1], c2, [c3], [c4], [c5], [c6], [c7], [c8], c9, [c10]] from by simp]
  refine Sx.enter (l := [.agg (List.flatten [[c0], [c1], c2, [c3], [c4], [c5], [c6], [c7], [c8], c9, [c10]]).toArray]) Try.func56 rfl (n := 48) rfl (by simp) ?_
  refine wc_eq (S := SH w []) (SH.refl _) ?_
  refine wc_seq ?_
  refine wc_region ?_
  refine wl_new (d := 1) (List.flatten [[c0], [c1], c2, [c3], [c4], [c5], [c6], [c7], [c8], c9, [c10]]).toArray 47 (fun r => .pointer (some ⟨r, 0, none⟩)) (by kernel_rfl) (fun r => by kernel_rfl) ?_
  intro r1 hr1
  have h_c1 := h_c1.stays (im_more (c := (List.flatten [[c0], [c1], c2, [c3], [c4], [c5], [c6], [c7], [c8], c9, [c10]]).toArray) (t := 47) hr1)
  have h_c2 := h_c2.stays (im_more (c := (List.flatten [[c0], [c1], c2, [c3], [c4], [c5], [c6], [c7], [c8], c9, [c10]]).toArray) (t := 47) hr1)
  have h_c3 := h_c3.stays (im_more (c := (List.flatten [[c0], [c1], c2, [c3], [c4], [c5], [c6], [c7], [c8], c9, [c10]]).toArray) (t := 47) hr1)
  have h_c7 := h_c7.stays (im_more (c := (List.flatten [[c0], [c1], c2, [c3], [c4], [c5], [c6], [c7], [c8], c9, [c10]]).toArray) (t := 47) hr1)
  have h_c9 := h_c9.stays (im_more (c := (List.flatten [[c0], [c1], c2, [c3], [c4], [c5], [c6], [c7], [c8], c9, [c10]]).toArray) (t := 47) hr1)
  have h_c10 := h_c10.stays (im_more (c := (List.flatten [[c0], [c1], c2, [c3], [c4], [c5], [c6], [c7], [c8], c9, [c10]]).toArray) (t := 47) hr1)
  refine wl_new (d := 2) zc47 47 (fun r => .pointer (some ⟨r, 0, none⟩)) (by kernel_rfl) (fun r => by kernel_rfl) ?_
  intro r2 hr2
  have h_c1 := h_c1.stays (im_more (c := zc47) (t := 47) hr2)
  have h_c2 := h_c2.stays (im_more (c := zc47) (t := 47) hr2)
  have h_c3 := h_c3.stays (im_more (c := zc47) (t := 47) hr2)
  have h_c7 := h_c7.stays (im_more (c := zc47) (t := 47) hr2)
  have h_c9 := h_c9.stays (im_more (c := zc47) (t := 47) hr2)
  have h_c10 := h_c10.stays (im_more (c := zc47) (t := 47) hr2)
  refine nx_list ?_
  refine nx_then ?_
  refine wc_seq ?_
  refine wc_region ?_
  refine wl_go 1 [(4, .pointer (some ⟨r1, 1, none⟩))] (by kernel_rfl) ?_
  refine wl_yl (d := 5) (v := c1) (by kernel_rfl) (yl_load (b := r1) (off := 1) 1 rfl (by kernel_rfl) rfl (readAt_seg1 1 rfl (by simp [l_c2, l_c9]) (by kernel_rfl))) ?_
  refine wl_callB (X := Value) (d := 6) (fun x => x) (fun wa y wz => Rd (fun k => wa.heap.size ≤ k) wz (.sl rows1) y ∧ Below wa.heap.size wa wz) (by kernel_rfl) (by kernel_rfl) (fun w1 h1 => (cloneV_55 rows1 fR_rows1 b_rows1) w1 _ c1 (h_c1.stays (h1.staysC (L0 := (⟨r2, zc47, 47⟩ :: (⟨r1, (List.flatten [[c0], [c1], c2, [c3], [c4], [c5], [c6], [c7], [c8], c9, [c10]]).toArray, 47⟩ :: []))) rfl))) ?_
  rintro wq1 vq1 wq2 h1 ⟨h_vq1, hb⟩
  have h_vq1 := h_vq1.stays (stays_newN h1 (Nat.le_trans hbel.size h1.size))
  have hT := (h1.tr hb).cong (L0 := (⟨r2, zc47, 47⟩ :: (⟨r1, (List.flatten [[c0], [c1], c2, [c3], [c4], [c5], [c6], [c7], [c8], c9, [c10]]).toArray, 47⟩ :: []))) rfl
  have h_c1 := h_c1.stays hT.stays
  have h_c2 := h_c2.stays hT.stays
  have h_c3 := h_c3.stays hT.stays
  have h_c7 := h_c7.stays hT.stays
  have h_c9 := h_c9.stays hT.stays
  have h_c10 := h_c10.stays hT.stays
  have hbel := h1.belowCall hbel (ge_cons hr2 (ge_cons hr1 (ge_nil _))) hb
  refine wl_eq (S := SH wq2 [⟨r2, zc47, 47⟩, ⟨r1, (List.flatten [[c0], [c1], c2, [c3], [c4], [c5], [c6], [c7], [c8], c9, [c10]]).toArray, 47⟩]) (h1.after hb) ?_
  refine wl_go 1 [(7, .pointer (some ⟨r1, 1, none⟩))] (by kernel_rfl) ?_
  refine wl_store (b := r1) (off := 1) (v := vq1) (c' := (List.flatten [[c0], [vq1], c2, [c3], [c4], [c5], [c6], [c7], [c8], c9, [c10]]).toArray) (L' := [⟨r2, zc47, 47⟩, ⟨r1, (List.flatten [[c0], [vq1], c2, [c3], [c4], [c5], [c6], [c7], [c8], c9, [c10]]).toArray, 47⟩]) 1 (by kernel_rfl) rfl (by kernel_rfl) (by kernel_rfl) rfl (writeAt_seg 1 ([vq1]) rfl (by simp [l_c2, l_c9]) (Rd.cells h_vq1) rfl (by kernel_rfl) (fun u hu => by simp only [List.mem_singleton] at hu; subst hu; exact h_vq1.oneCell) rfl) rfl ?_
  refine nx_list ?_
  refine nx_then ?_
  refine wc_seq ?_
  refine wc_region ?_
  refine wl_go 1 [(8, .pointer (some ⟨r1, 2, none⟩))] (by kernel_rfl) ?_
  refine wl_yl (d := 9) (v := .agg (c2).toArray) (by kernel_rfl) (yl_load (b := r1) (off := 2) 1 rfl (by kernel_rfl) rfl (readAt_seg 2 rfl (by simp [l_c2, l_c9]) (by rw [l_c2]; kernel_rfl))) ?_
  refine wl_callB (X := List Value) (d := 10) (fun x => .agg x.toArray) (fun wa y wz => RdL (fun k => wa.heap.size ≤ k) wz d2 y ∧ Below wa.heap.size wa wz) (by kernel_rfl) (by kernel_rfl) (fun w1 h1 => (copyValue_all d2 hf2) w1 _ c2 (h_c2.stays (h1.staysC (L0 := [⟨r2, zc47, 47⟩, ⟨r1, (List.flatten [[c0], [c1], c2, [c3], [c4], [c5], [c6], [c7], [c8], c9, [c10]]).toArray, 47⟩]) rfl))) ?_
  rintro wq3 mq2 wq4 h1 ⟨h_mq2, hb⟩
  have h_mq2 := h_mq2.stays (stays_newN h1 (Nat.le_trans hbel.size h1.size))
  have l_mq2 : mq2.length = 5 := h_mq2.length.symm.trans (h_c2.length.trans l_c2)
  have hT := (h1.tr hb).cong (L0 := [⟨r2, zc47, 47⟩, ⟨r1, (List.flatten [[c0], [c1], c2, [c3], [c4], [c5], [c6], [c7], [c8], c9, [c10]]).toArray, 47⟩]) rfl
  have h_c1 := h_c1.stays hT.stays
  have h_c2 := h_c2.stays hT.stays
  have h_c3 := h_c3.stays hT.stays
  have h_c7 := h_c7.stays hT.stays
  have h_c9 := h_c9.stays hT.stays
  have h_c10 := h_c10.stays hT.stays
  have h_vq1 := h_vq1.stays hT.staysN
  have hbel := h1.belowCall hbel (ge_cons hr2 (ge_cons hr1 (ge_nil _))) hb
  refine wl_eq (S := SH wq4 [⟨r2, zc47, 47⟩, ⟨r1, (List.flatten [[c0], [vq1], c2, [c3], [c4], [c5], [c6], [c7], [c8], c9, [c10]]).toArray, 47⟩]) (h1.after hb) ?_
  refine wl_go 1 [(11, .pointer (some ⟨r1, 2, none⟩))] (by kernel_rfl) ?_
  refine wl_store (b := r1) (off := 2) (v := .agg (mq2).toArray) (c' := (List.flatten [[c0], [vq1], mq2, [c3], [c4], [c5], [c6], [c7], [c8], c9, [c10]]).toArray) (L' := [⟨r2, zc47, 47⟩, ⟨r1, (List.flatten [[c0], [vq1], mq2, [c3], [c4], [c5], [c6], [c7], [c8], c9, [c10]]).toArray, 47⟩]) 1 (by kernel_rfl) rfl (by kernel_rfl) (by kernel_rfl) rfl (writeAt_seg 2 (mq2) rfl (by simp [l_c2, l_c9]) rfl (by rw [l_mq2, l_c2]) (by rw [l_mq2]; kernel_rfl) (RdL.oneCell h_mq2) rfl) rfl ?_
  refine nx_list ?_
  refine nx_then ?_
  refine wc_seq ?_
  refine wc_region ?_
  refine wl_go 1 [(12, .pointer (some ⟨r1, 7, none⟩))] (by kernel_rfl) ?_
  refine wl_yl (d := 13) (v := c3) (by kernel_rfl) (yl_load (b := r1) (off := 7) 1 rfl (by kernel_rfl) rfl (readAt_seg1 3 rfl (by simp [l_c9, l_mq2]) (by kernel_rfl))) ?_
  refine wl_callB (X := Value) (d := 14) (fun x => x) (fun wa y wz => Rd (fun k => wa.heap.size ≤ k) wz (.sl rows3) y ∧ Below wa.heap.size wa wz) (by kernel_rfl) (by kernel_rfl) (fun w1 h1 => (copyValues_all rows3 fR_rows3 b_rows3) w1 _ c3 (h_c3.stays (h1.staysC (L0 := [⟨r2, zc47, 47⟩, ⟨r1, (List.flatten [[c0], [vq1], c2, [c3], [c4], [c5], [c6], [c7], [c8], c9, [c10]]).toArray, 47⟩]) rfl))) ?_
  rintro wq5 vq3 wq6 h1 ⟨h_vq3, hb⟩
  have h_vq3 := h_vq3.stays (stays_newN h1 (Nat.le_trans hbel.size h1.size))
  have hT := (h1.tr hb).cong (L0 := [⟨r2, zc47, 47⟩, ⟨r1, (List.flatten [[c0], [vq1], c2, [c3], [c4], [c5], [c6], [c7], [c8], c9, [c10]]).toArray, 47⟩]) rfl
  have h_c1 := h_c1.stays hT.stays
  have h_c2 := h_c2.stays hT.stays
  have h_c3 := h_c3.stays hT.stays
  have h_c7 := h_c7.stays hT.stays
  have h_c9 := h_c9.stays hT.stays
  have h_c10 := h_c10.stays hT.stays
  have h_vq1 := h_vq1.stays hT.staysN
  have h_mq2 := h_mq2.stays hT.staysN
  have hbel := h1.belowCall hbel (ge_cons hr2 (ge_cons hr1 (ge_nil _))) hb
  refine wl_eq (S := SH wq6 [⟨r2, zc47, 47⟩, ⟨r1, (List.flatten [[c0], [vq1], mq2, [c3], [c4], [c5], [c6], [c7], [c8], c9, [c10]]).toArray, 47⟩]) (h1.after hb) ?_
  refine wl_go 1 [(15, .pointer (some ⟨r1, 7, none⟩))] (by kernel_rfl) ?_
  refine wl_store (b := r1) (off := 7) (v := vq3) (c' := (List.flatten [[c0], [vq1], mq2, [vq3], [c4], [c5], [c6], [c7], [c8], c9, [c10]]).toArray) (L' := [⟨r2, zc47, 47⟩, ⟨r1, (List.flatten [[c0], [vq1], mq2, [vq3], [c4], [c5], [c6], [c7], [c8], c9, [c10]]).toArray, 47⟩]) 1 (by kernel_rfl) rfl (by kernel_rfl) (by kernel_rfl) rfl (writeAt_seg 3 ([vq3]) rfl (by simp [l_c9, l_mq2]) (Rd.cells h_vq3) rfl (by kernel_rfl) (fun u hu => by simp only [List.mem_singleton] at hu; subst hu; exact h_vq3.oneCell) rfl) rfl ?_
  refine nx_list ?_
  refine nx_then ?_
  refine wc_seq ?_
  refine wc_region ?_
  refine wl_go 2 [(17, .pointer (some ⟨r1, 11, none⟩)), (16, .pointer (some ⟨r1, 10, none⟩))] (by kernel_rfl) ?_
  refine wl_yl (d := 18) (v := c7) (by kernel_rfl) (yl_load (b := r1) (off := 11) 1 rfl (by kernel_rfl) rfl (readAt_seg1 7 rfl (by simp [l_c9, l_mq2]) (by kernel_rfl))) ?_
  refine wl_callB (X := Value) (d := 19) (fun x => x) (fun wa y wz => Rd (fun k => wa.heap.size ≤ k) wz (.sl rows7) y ∧ Below wa.heap.size wa wz) (by kernel_rfl) (by kernel_rfl) (fun w1 h1 => (cloneV_61 rows7 fR_rows7 b_rows7) w1 _ c7 (h_c7.stays (h1.staysC (L0 := [⟨r2, zc47, 47⟩, ⟨r1, (List.flatten [[c0], [vq1], mq2, [c3], [c4], [c5], [c6], [c7], [c8], c9, [c10]]).toArray, 47⟩]) rfl))) ?_
  rintro wq7 vq4 wq8 h1 ⟨h_vq4, hb⟩
  have h_vq4 := h_vq4.stays (stays_newN h1 (Nat.le_trans hbel.size h1.size))
  have hT := (h1.tr hb).cong (L0 := [⟨r2, zc47, 47⟩, ⟨r1, (List.flatten [[c0], [vq1], mq2, [c3], [c4], [c5], [c6], [c7], [c8], c9, [c10]]).toArray, 47⟩]) rfl
  have h_c1 := h_c1.stays hT.stays
  have h_c2 := h_c2.stays hT.stays
  have h_c3 := h_c3.stays hT.stays
  have h_c7 := h_c7.stays hT.stays
  have h_c9 := h_c9.stays hT.stays
  have h_c10 := h_c10.stays hT.stays
  have h_vq1 := h_vq1.stays hT.staysN
  have h_mq2 := h_mq2.stays hT.staysN
  have h_vq3 := h_vq3.stays hT.staysN
  have hbel := h1.belowCall hbel (ge_cons hr2 (ge_cons hr1 (ge_nil _))) hb
  refine wl_eq (S := SH wq8 [⟨r2, zc47, 47⟩, ⟨r1, (List.flatten [[c0], [vq1], mq2, [vq3], [c4], [c5], [c6], [c7], [c8], c9, [c10]]).toArray, 47⟩]) (h1.after hb) ?_
  refine wl_go 2 [(21, .pointer (some ⟨r1, 11, none⟩)), (20, .pointer (some ⟨r1, 10, none⟩))] (by kernel_rfl) ?_
  refine wl_store (b := r1) (off := 11) (v := vq4) (c' := (List.flatten [[c0], [vq1], mq2, [vq3], [c4], [c5], [c6], [vq4], [c8], c9, [c10]]).toArray) (L' := [⟨r2, zc47, 47⟩, ⟨r1, (List.flatten [[c0], [vq1], mq2, [vq3], [c4], [c5], [c6], [vq4], [c8], c9, [c10]]).toArray, 47⟩]) 1 (by kernel_rfl) rfl (by kernel_rfl) (by kernel_rfl) rfl (writeAt_seg 7 ([vq4]) rfl (by simp [l_c9, l_mq2]) (Rd.cells h_vq4) rfl (by kernel_rfl) (fun u hu => by simp only [List.mem_singleton] at hu; subst hu; exact h_vq4.oneCell) rfl) rfl ?_
  refine nx_list ?_
  refine nx_then ?_
  refine wc_seq ?_
  refine wc_region ?_
  refine wl_go 1 [(22, .pointer (some ⟨r1, 13, none⟩))] (by kernel_rfl) ?_
  refine wl_yl (d := 23) (v := .agg (c9).toArray) (by kernel_rfl) (yl_load (b := r1) (off := 13) 1 rfl (by kernel_rfl) rfl (readAt_seg 9 rfl (by simp [l_c9, l_mq2]) (by rw [l_c9]; kernel_rfl))) ?_
  refine wl_callB (X := List Value) (d := 24) (fun x => .agg x.toArray) (fun wa y wz => RdL (fun k => wa.heap.size ≤ k) wz d9 y ∧ Below wa.heap.size wa wz) (by kernel_rfl) (by kernel_rfl) (fun w1 h1 => (copyExpr_all d9 hf9) w1 _ c9 (h_c9.stays (h1.staysC (L0 := [⟨r2, zc47, 47⟩, ⟨r1, (List.flatten [[c0], [vq1], mq2, [vq3], [c4], [c5], [c6], [c7], [c8], c9, [c10]]).toArray, 47⟩]) rfl))) ?_
  rintro wq9 mq5 wq10 h1 ⟨h_mq5, hb⟩
  have h_mq5 := h_mq5.stays (stays_newN h1 (Nat.le_trans hbel.size h1.size))
  have l_mq5 : mq5.length = 11 := h_mq5.length.symm.trans (h_c9.length.trans l_c9)
  have hT := (h1.tr hb).cong (L0 := [⟨r2, zc47, 47⟩, ⟨r1, (List.flatten [[c0], [vq1], mq2, [vq3], [c4], [c5], [c6], [c7], [c8], c9, [c10]]).toArray, 47⟩]) rfl
  have h_c1 := h_c1.stays hT.stays
  have h_c2 := h_c2.stays hT.stays
  have h_c3 := h_c3.stays hT.stays
  have h_c7 := h_c7.stays hT.stays
  have h_c9 := h_c9.stays hT.stays
  have h_c10 := h_c10.stays hT.stays
  have h_vq1 := h_vq1.stays hT.staysN
  have h_mq2 := h_mq2.stays hT.staysN
  have h_vq3 := h_vq3.stays hT.staysN
  have h_vq4 := h_vq4.stays hT.staysN
  have hbel := h1.belowCall hbel (ge_cons hr2 (ge_cons hr1 (ge_nil _))) hb
  refine wl_eq (S := SH wq10 [⟨r2, zc47, 47⟩, ⟨r1, (List.flatten [[c0], [vq1], mq2, [vq3], [c4], [c5], [c6], [vq4], [c8], c9, [c10]]).toArray, 47⟩]) (h1.after hb) ?_
  refine wl_go 1 [(25, .pointer (some ⟨r1, 13, none⟩))] (by kernel_rfl) ?_
  refine wl_store (b := r1) (off := 13) (v := .agg (mq5).toArray) (c' := (List.flatten [[c0], [vq1], mq2, [vq3], [c4], [c5], [c6], [vq4], [c8], mq5, [c10]]).toArray) (L' := [⟨r2, zc47, 47⟩, ⟨r1, (List.flatten [[c0], [vq1], mq2, [vq3], [c4], [c5], [c6], [vq4], [c8], mq5, [c10]]).toArray, 47⟩]) 1 (by kernel_rfl) rfl (by kernel_rfl) (by kernel_rfl) rfl (writeAt_seg 9 (mq5) rfl (by simp [l_c9, l_mq2]) rfl (by rw [l_mq5, l_c9]) (by rw [l_mq5]; kernel_rfl) (RdL.oneCell h_mq5) rfl) rfl ?_
  refine nx_list ?_
  refine nx_then ?_
  refine wc_seq ?_
  refine wc_region ?_
  refine wl_go 1 [(26, .pointer (some ⟨r1, 24, none⟩))] (by kernel_rfl) ?_
  refine wl_yl (d := 27) (v := c10) (by kernel_rfl) (yl_load (b := r1) (off := 24) 1 rfl (by kernel_rfl) rfl (readAt_seg1 10 rfl (by simp [l_mq2, l_mq5]) (by kernel_rfl))) ?_
  have hesq6 : ∀ r ∈ rows10, r.length = 25 := fR_rows10.length
  refine wl_callB (X := Value × List Blk × List (List Value)) (d := 28) (fun x => x.1) (fun wa y wz => Cl 47 (Im wq10 [⟨r2, zc47, 47⟩, ⟨r1, (List.flatten [[c0], [vq1], mq2, [vq3], [c4], [c5], [c6], [vq4], [c8], mq5, [c10]]).toArray, 47⟩]) wa rows10 y.1 wz y.2.1 y.2.2) (by kernel_rfl) (by kernel_rfl) (fun w1 h1 => (clone_63 rows10 _ c10 w1 (h_c10.stays (h1.staysC (L0 := [⟨r2, zc47, 47⟩, ⟨r1, (List.flatten [[c0], [vq1], mq2, [vq3], [c4], [c5], [c6], [vq4], [c8], c9, [c10]]).toArray, 47⟩]) rfl)) hesq6 b_rows10).mono (fun e w' ⟨v', R, rv, he, hc⟩ => ⟨(v', R, rv), he, hc⟩)) ?_
  rintro wq11 ⟨v1, Rq6, rvq6⟩ wq12 hsq6 hclq6
  obtain ⟨aq6, capq6, rfl⟩ : ∃ a cap, v1 = .slice a rows10.length cap := by obtain ⟨_, _, ⟨a, cap, h, _⟩, _⟩ := hclq6; exact ⟨a, cap, h⟩
  refine wl_eq (S := SH wq12 (([⟨r2, zc47, 47⟩, ⟨r1, (List.flatten [[c0], [vq1], mq2, [vq3], [c4], [c5], [c6], [vq4], [c8], mq5, [c10]]).toArray, 47⟩] : List Blk) ++ Rq6)) (Cp.startSH hsq6 hclq6) ?_
  refine wl_go 1 [(29, .pointer (some ⟨r1, 24, none⟩))] (by kernel_rfl) ?_
  refine wl_store (b := r1) (off := 24) (v := .slice aq6 rows10.length capq6) (c' := (List.flatten [[c0], [vq1], mq2, [vq3], [c4], [c5], [c6], [vq4], [c8], mq5, [.slice aq6 rows10.length capq6]]).toArray) (L' := (([⟨r2, zc47, 47⟩, ⟨r1, (List.flatten [[c0], [vq1], mq2, [vq3], [c4], [c5], [c6], [vq4], [c8], mq5, [.slice aq6 rows10.length capq6]]).toArray, 47⟩] : List Blk) ++ Rq6)) 1 (by kernel_rfl) rfl (by kernel_rfl) (by kernel_rfl) rfl (writeAt_seg 10 ([.slice aq6 rows10.length capq6]) rfl (by simp [l_mq2, l_mq5]) rfl rfl (by kernel_rfl) (fun u hu => by simp only [List.mem_singleton] at hu; subst hu; rfl) rfl) rfl ?_
  refine nx_list ?_
  refine nx_then ?_
  refine wc_seq ?_
  refine wc_seq ?_
  refine wc_region ?_
  refine wl_go 1 [(30, .pointer (some ⟨r1, 24, none⟩))] (by kernel_rfl) ?_
  refine wl_yl (d := 31) (v := .slice aq6 rows10.length capq6) (by kernel_rfl) (yl_load (b := r1) (off := 24) 1 rfl (by kernel_rfl) rfl (readAt_seg1 10 rfl (by simp [l_mq2, l_mq5]) (by kernel_rfl))) ?_
  refine wl_go 2 [(33, .int .i64 0), (32, .int .i64 (rows10.length : Int))] (by kernel_rfl) ?_
  refine nx_list ?_
  refine nx_then ?_
  refine wc_block ?_
  refine wc_loop (σ := Cp 47 25 w wq10 [⟨r2, zc47, 47⟩, ⟨r1, (List.flatten [[c0], [vq1], mq2, [vq3], [c4], [c5], [c6], [vq4], [c8], c9, [c10]]).toArray, 47⟩] rows10 aq6 [⟨r2, zc47, 47⟩, ⟨r1, (List.flatten [[c0], [vq1], mq2, [vq3], [c4], [c5], [c6], [vq4], [c8], mq5, [.slice aq6 rows10.length capq6]]).toArray, 47⟩]) (fun x => [(1, .pointer (some ⟨r1, 0, none⟩)), (2, .pointer (some ⟨r2, 0, none⟩)), (32, .int .i64 (rows10.length : Int)), (33, .int .i64 (x.i : Int))]) (fun x => SH x.wb (([⟨r2, zc47, 47⟩, ⟨r1, (List.flatten [[c0], [vq1], mq2, [vq3], [c4], [c5], [c6], [vq4], [c8], mq5, [.slice aq6 rows10.length capq6]]).toArray, 47⟩] : List Blk) ++ x.R)) (fun x => rows10.length - x.i) (fun w3 h3 => ⟨(Cp.start hbel (ge_cons hr2 (ge_cons hr1 (ge_nil _))) hsq6 hclq6 hesq6 [⟨r2, zc47, 47⟩, ⟨r1, (List.flatten [[c0], [vq1], mq2, [vq3], [c4], [c5], [c6], [vq4], [c8], c9, [c10]]).toArray, 47⟩] rfl).cast rfl, h3, (subEnv_cons (by kernel_rfl) (subEnv_cons (by kernel_rfl) (subEnv_cons (by kernel_rfl) (subEnv_cons (by kernel_rfl) (subEnv_nil _)))))⟩) (fun x => ?_)
  refine wc_seq ?_
  refine wc_region ?_
  refine wl_go 1 [(34, .bool (decide ((x.i : Int) < (rows10.length : Int))))] (by kernel_rfl) ?_
  refine nx_list ?_
  refine nx_then ?_
  refine wc_seq ?_
  refine wc_cond (decide ((x.i : Int) < (rows10.length : Int))) (by kernel_rfl) (by kernel_rfl) (fun hcq6 => ?_) (fun hcq6 => ?_)
  · skip
    have hlt : x.i < rows10.length := by simpa using hcq6
    have hrl : rows10.length ≤ 140737488355328 := by have := b_rows10; omega
    obtain ⟨g, sp, r, v, rfl, hxR, hrow, hval, hrd⟩ := x.row hlt
    have hfr := fR_rows10.get x.i r hrow
    obtain ⟨u1, dq, rfl, hu1, hfq⟩ := FitL.split (ks := ([]) ++ (shPred)) (ks' := []) hfr
    obtain ⟨dp, dm, rfl, hfp, hfm⟩ := FitL.split (ks := []) (ks' := shPred) hu1
    obtain ⟨uv, q, rfl, huv, h_q⟩ := RdL.split hrd
    obtain ⟨p, m, rfl, h_p, h_m⟩ := RdL.split huv
    have l_p : p.length = 0 := h_p.length.symm.trans hfp.length
    have l_m : m.length = 25 := h_m.length.symm.trans hfm.length
    have hbp := bare_of_fit hfp (by simp)
    have hbq := bare_of_fit hfq (by simp)
    have hszm : szL dm < szR rows10 := by have := szR_get hrow; rw [szL_append, szL_append] at this; omega
    rw [hxR]
    refine nx_skip ?_
    refine nx_then ?_
    refine wc_seq ?_
    refine wc_block ?_
    refine wc_seq ?_
    refine wc_region ?_
    refine wl_go 2 [(3, .int .i64 (x.i : Int)), (35, .int .i64 (x.i : Int))] (by kernel_rfl) ?_
    refine nx_list ?_
    refine nx_then ?_
    refine wc_draw 10 (SH x.wb [⟨r2, zc47, 47⟩, ⟨r1, (List.flatten [[c0], [vq1], mq2, [vq3], [c4], [c5], [c6], [vq4], [c8], mq5, [.slice (some ⟨g, 0, none⟩) rows10.length capq6]]).toArray, 47⟩, ⟨g, ((x.rv.flatten ++ sp).toArray), 47⟩]) rfl (by decide) (fun w h => SH.drew h) ?_
    refine wd_go [0] [(36, .pointer (some ⟨r1, 24, none⟩))] #[true, false, false, false, false, false, false, false, false, false, false] (f := 9) rfl (by kernel_rfl) (fun w h => h) ?_
    refine wd_yl 1 (d := 37) (v := .slice (some ⟨g, 0, none⟩) rows10.length capq6) (f := 8) rfl (by kernel_rfl) (by kernel_rfl) (fun w h => h) (yl_load (b := r1) (off := 24) 1 rfl (by kernel_rfl) rfl (readAt_seg1 10 rfl (by simp [l_mq2, l_mq5]) (by kernel_rfl))) ?_
    refine wd_go [2, 3] [(39, .pointer (some ⟨r1, 24, none⟩)), (38, .int .i64 (x.i : Int))] #[true, true, true, true, false, false, false, false, false, false, false] (f := 6) rfl (by kernel_rfl) (fun w h => h) ?_
    refine wd_yl 4 (d := 40) (v := .slice (some ⟨g, 0, none⟩) rows10.length capq6) (f := 5) rfl (by kernel_rfl) (by kernel_rfl) (fun w h => h) (yl_load (b := r1) (off := 24) 1 rfl (by kernel_rfl) rfl (readAt_seg1 10 rfl (by simp [l_mq2, l_mq5]) (by kernel_rfl))) ?_
    refine wd_go [5] [(41, .int .i64 (x.i : Int))] #[true, true, true, true, true, true, false, false, false, false, false] (f := 4) rfl (by kernel_rfl) (fun w h => h) ?_
    refine wd_yl 6 (d := 42) (v := .pointer (some ⟨g, 0 + x.i * 25, none⟩)) (f := 3) rfl (by kernel_rfl) (by kernel_rfl) (fun w h => h) (yl_index (E := 47) (b := g) (off := 0) (len := rows10.length) (cap := capq6) (k := x.i) (es := 25) rfl (by kernel_rfl) (by kernel_rfl) (by kernel_rfl) (by omega)) ?_
    refine wd_yl 7 (d := 43) (v := .agg (m).toArray) (f := 2) rfl (by kernel_rfl) (by kernel_rfl) (fun w h => h) (yl_load (b := g) (off := 0 + x.i * 25) 2 rfl (by kernel_rfl) rfl (readAt_row x.hlen hval (by simp [l_p]) (by rw [l_m]; kernel_rfl))) ?_
    refine wd_callB 8 (X := List Value) (d := 44) (fu := 1) (fun x => .agg x.toArray) (fun wa y wz => RdL (fun k => wa.heap.size ≤ k) wz dm y ∧ Below wa.heap.size wa wz) rfl (by decide) (by kernel_rfl) (by kernel_rfl) (by kernel_rfl) (fun w1 h1 => ih dm (by simp only [szL, szL_append, D.sz]; omega) hfm w1 _ m ((show RdL (Im x.wb [⟨r2, zc47, 47⟩, ⟨r1, (List.flatten [[c0], [vq1], mq2, [vq3], [c4], [c5], [c6], [vq4], [c8], mq5, [.slice (some ⟨g, 0, none⟩) rows10.length capq6]]).toArray, 47⟩, ⟨g, ((x.rv.flatten ++ sp).toArray), 47⟩]) x.wb dm m from by rw [← hxR]; exact h_m).stays h1.stays)) ?_
    rintro wq13 mq7 wq14 hin ⟨hmin, hbin⟩
    have h_mq7 := hmin
    have l_mq7 : mq7.length = 25 := hmin.length.symm.trans hfm.length
    have hin' := hin
    rw [← hxR] at hin
    refine ⟨hin'.keep hbin, ?_⟩
    refine wd_eq (T := SH wq14 [⟨r2, zc47, 47⟩, ⟨r1, (List.flatten [[c0], [vq1], mq2, [vq3], [c4], [c5], [c6], [vq4], [c8], mq5, [.slice (some ⟨g, 0, none⟩) rows10.length capq6]]).toArray, 47⟩, ⟨g, ((x.rv.flatten ++ sp).toArray), 47⟩]) (hin'.after hbin) ?_
    refine wd_yl 9 (d := 45) (v := .pointer (some ⟨g, 0 + x.i * 25, none⟩)) (f := 0) rfl (by kernel_rfl) (by kernel_rfl) (fun w h => (hin'.keep hbin).trans h) (yl_index (E := 47) (b := g) (off := 0) (len := rows10.length) (cap := capq6) (k := x.i) (es := 25) rfl (by kernel_rfl) (by kernel_rfl) (by kernel_rfl) (by omega)) ?_
    refine wd_done (by kernel_rfl) ?_
    refine wl_store (b := g) (off := 0 + x.i * 25) (v := .agg (mq7).toArray) (c' := ((x.rv.set x.i (p ++ mq7 ++ q)).flatten ++ sp).toArray) (L' := [⟨r2, zc47, 47⟩, ⟨r1, (List.flatten [[c0], [vq1], mq2, [vq3], [c4], [c5], [c6], [vq4], [c8], mq5, [.slice (some ⟨g, 0, none⟩) rows10.length capq6]]).toArray, 47⟩, ⟨g, (((x.rv.set x.i (p ++ mq7 ++ q)).flatten ++ sp).toArray), 47⟩]) 2 (by kernel_rfl) rfl (by kernel_rfl) (by kernel_rfl) rfl (writeAt_row mq7 x.hlen hval (by simp [l_p]) rfl (by rw [l_mq7, l_m]) (by rw [l_mq7]; kernel_rfl) (RdL.oneCell h_mq7)) rfl ?_
    refine nx_list ?_
    refine nx_on ?_
    refine nx_block ?_
    refine nx_then ?_
    refine wc_region ?_
    refine wl_yl (d := 46) (v := .int .i64 ((x.i : Int) + 1)) (by kernel_rfl) (yl_int (t := (x.i : Int) + 1) (r := (x.i : Int) + 1) (by kernel_rfl) (i64w (by omega) (by omega))) ?_
    refine wl_go 1 [(33, .int .i64 ((x.i : Int) + 1))] (by kernel_rfl) ?_
    refine nx_list ?_
    refine nx_round (y := x.next (m' := mq7) hlt hrow hval hxR h_p h_q hbp hbq (by rw [l_m, l_mq7]) hin hbin hmin) (show rows10.length - (x.i + 1) < rows10.length - x.i by omega) (subEnv_cons (by kernel_rfl) (subEnv_cons (by kernel_rfl) (subEnv_cons (by kernel_rfl) (subEnv_cons (by kernel_rfl) (subEnv_nil _))))) (fun w h => h)
  · skip
    have hge : rows10.length ≤ x.i := by simpa using hcq6
    refine wc_open (fun wq15 h9 => ?_)
    have h_sq8 := x.done hge h9 capq6
    have hT := (x.htr.trans h9.trDrop)
    have h_c1 := h_c1.stays hT.stays
    have h_c2 := h_c2.stays hT.stays
    have h_c3 := h_c3.stays hT.stays
    have h_c7 := h_c7.stays hT.stays
    have h_c9 := h_c9.stays hT.stays
    have h_c10 := h_c10.stays hT.stays
    have h_vq1 := h_vq1.stays hT.staysN
    have h_mq2 := h_mq2.stays hT.staysN
    have h_vq3 := h_vq3.stays hT.staysN
    have h_vq4 := h_vq4.stays hT.staysN
    have h_mq5 := h_mq5.stays hT.staysN
    have hbel := h9.below x.hbel x.hbel.size x.hL
    refine wc_eq (S := SH wq15 [⟨r2, zc47, 47⟩, ⟨r1, (List.flatten [[c0], [vq1], mq2, [vq3], [c4], [c5], [c6], [vq4], [c8], mq5, [.slice aq6 rows10.length capq6]]).toArray, 47⟩]) h9.drop ?_
    refine nx_exit ?_
    refine nx_then_exit ?_
    refine nx_then_exit ?_
    refine nx_block_here ?_
    refine nx_then ?_
    refine wc_seq ?_
    refine wc_region ?_
    refine wl_yl (d := 47) (v := .agg (List.flatten [[c0], [vq1], mq2, [vq3], [c4], [c5], [c6], [vq4], [c8], mq5, [.slice aq6 rows10.length capq6]]).toArray) (by kernel_rfl) (yl_load (b := r1) (off := 0) 1 rfl (by kernel_rfl) rfl (readAt_all (by rw [show (List.flatten [[c0], [vq1], mq2, [vq3], [c4], [c5], [c6], [vq4], [c8], mq5, [.slice aq6 rows10.length capq6]]).length = 25 from by simp [l_mq2, l_mq5]]; kernel_rfl))) ?_
    refine wl_store (b := r2) (off := 0) (v := .agg (List.flatten [[c0], [vq1], mq2, [vq3], [c4], [c5], [c6], [vq4], [c8], mq5, [.slice aq6 rows10.length capq6]]).toArray) (c' := (List.flatten [[c0], [vq1], mq2, [vq3], [c4], [c5], [c6], [vq4], [c8], mq5, [.slice aq6 rows10.length capq6]]).toArray) (L' := [⟨r2, (List.flatten [[c0], [vq1], mq2, [vq3], [c4], [c5], [c6], [vq4], [c8], mq5, [.slice aq6 rows10.length capq6]]).toArray, 47⟩, ⟨r1, (List.flatten [[c0], [vq1], mq2, [vq3], [c4], [c5], [c6], [vq4], [c8], mq5, [.slice aq6 rows10.length capq6]]).toArray, 47⟩]) 0 (by kernel_rfl) rfl (by kernel_rfl) (by kernel_rfl) rfl (writeAt_all (by rw [show (List.flatten [[c0], [vq1], mq2, [vq3], [c4], [c5], [c6], [vq4], [c8], mq5, [.slice aq6 rows10.length capq6]]).length = 25 from by simp [l_mq2, l_mq5]]; kernel_rfl) (by rw [show (List.flatten [[c0], [vq1], mq2, [vq3], [c4], [c5], [c6], [vq4], [c8], mq5, [.slice aq6 rows10.length capq6]]).length = 25 from by simp [l_mq2, l_mq5]]; kernel_rfl) (oc_cons (fun u hu => by simp only [List.mem_singleton] at hu; subst hu; exact h_c0.oneCell) (oc_cons (fun u hu => by simp only [List.mem_singleton] at hu; subst hu; exact h_vq1.oneCell) (oc_cons (RdL.oneCell h_mq2) (oc_cons (fun u hu => by simp only [List.mem_singleton] at hu; subst hu; exact h_vq3.oneCell) (oc_cons (fun u hu => by simp only [List.mem_singleton] at hu; subst hu; exact h_c4.oneCell) (oc_cons (fun u hu => by simp only [List.mem_singleton] at hu; subst hu; exact h_c5.oneCell) (oc_cons (fun u hu => by simp only [List.mem_singleton] at hu; subst hu; exact h_c6.oneCell) (oc_cons (fun u hu => by simp only [List.mem_singleton] at hu; subst hu; exact h_vq4.oneCell) (oc_cons (fun u hu => by simp only [List.mem_singleton] at hu; subst hu; exact h_c8.oneCell) (oc_cons (RdL.oneCell h_mq5) (oc_cons (fun u hu => by simp only [List.mem_singleton] at hu; subst hu; rfl) oc_nil)))))))))))) rfl ?_
    refine nx_list ?_
    refine nx_then ?_
    refine nx_ret ?_
    refine ret_cell (v := .agg (List.flatten [[c0], [vq1], mq2, [vq3], [c4], [c5], [c6], [vq4], [c8], mq5, [.slice aq6 rows10.length capq6]]).toArray) (b := r2) (off := 0) 0 rfl (by kernel_rfl) rfl (readAt_all (by rw [show (List.flatten [[c0], [vq1], mq2, [vq3], [c4], [c5], [c6], [vq4], [c8], mq5, [.slice aq6 rows10.length capq6]]).length = 25 from by simp [l_mq2, l_mq5]]; kernel_rfl)) ?_
    intro w' hw'
    refine ⟨_, rfl, ?_, hw'.below hbel hbel.size (ge_cons hr2 (ge_cons hr1 (ge_nil _)))⟩
    rw [show (List.flatten [[c0], [vq1], mq2, [vq3], [c4], [c5], [c6], [vq4], [c8], mq5, [.slice aq6 rows10.length capq6]] : List Value) = (c0) :: ((vq1) :: (mq2 ++ ((vq3) :: ((c4) :: ((c5) :: ((c6) :: ((vq4) :: ((c8) :: (mq5 ++ ((.slice aq6 rows10.length capq6) :: ([]))))))))))) from by simp]
    exact RdL.mk (h_c0.bare rfl) (RdL.mk (h_vq1.stays (hw'.staysN (L0 := [⟨r2, zc47, 47⟩, ⟨r1, (List.flatten [[c0], [vq1], mq2, [vq3], [c4], [c5], [c6], [vq4], [c8], mq5, [.slice aq6 rows10.length capq6]]).toArray, 47⟩]) rfl)) (RdL.append (h_mq2.stays (hw'.staysN (L0 := [⟨r2, zc47, 47⟩, ⟨r1, (List.flatten [[c0], [vq1], mq2, [vq3], [c4], [c5], [c6], [vq4], [c8], mq5, [.slice aq6 rows10.length capq6]]).toArray, 47⟩]) rfl)) (RdL.mk (h_vq3.stays (hw'.staysN (L0 := [⟨r2, zc47, 47⟩, ⟨r1, (List.flatten [[c0], [vq1], mq2, [vq3], [c4], [c5], [c6], [vq4], [c8], mq5, [.slice aq6 rows10.length capq6]]).toArray, 47⟩]) rfl)) (RdL.mk (h_c4.bare rfl) (RdL.mk (h_c5.bare rfl) (RdL.mk (h_c6.bare rfl) (RdL.mk (h_vq4.stays (hw'.staysN (L0 := [⟨r2, zc47, 47⟩, ⟨r1, (List.flatten [[c0], [vq1], mq2, [vq3], [c4], [c5], [c6], [vq4], [c8], mq5, [.slice aq6 rows10.length capq6]]).toArray, 47⟩]) rfl)) (RdL.mk (h_c8.bare rfl) (RdL.append (h_mq5.stays (hw'.staysN (L0 := [⟨r2, zc47, 47⟩, ⟨r1, (List.flatten [[c0], [vq1], mq2, [vq3], [c4], [c5], [c6], [vq4], [c8], mq5, [.slice aq6 rows10.length capq6]]).toArray, 47⟩]) rfl)) (RdL.mk (h_sq8.stays (hw'.staysN (L0 := [⟨r2, zc47, 47⟩, ⟨r1, (List.flatten [[c0], [vq1], mq2, [vq3], [c4], [c5], [c6], [vq4], [c8], mq5, [.slice aq6 rows10.length capq6]]).toArray, 47⟩]) rfl)) (RdL.none)))))))))))

theorem copyPred_all (ds : List D) (hfit : FitL sh by_ ds shPred) : CopyS Try.prog 56 ds := by
  have key : ∀ (m : Nat) (ds : List D), szL ds < m → FitL sh by_ ds shPred → CopyS Try.prog 56 ds := by
    intro m
    induction m with
    | zero => intro ds h; omega
    | succ m ih => intro ds h hf; exact copyPred_step ds hf (fun r hr hfr => ih r (by omega) hfr)
  exact key _ ds (Nat.lt_succ_self _) hfit

theorem copyIndex_step (ds : List D) (hfit : FitL sh by_ ds shIndex) : CopyS Try.prog 46 ds := by
  intro w S cs hrdS
  have hrd := hrdS.im
  have hbel := Below.refl w.heap.size w
  obtain ⟨d0, e0, rfl, hf0, hft0⟩ := FitL.cons (k := .str) (ks := [.int] ++ [.sl 7] ++ [.bool] ++ [.bool] ++ [.bool] ++ shPred) hfit
  obtain ⟨n0, rfl, _⟩ := Fit.str hf0
  obtain ⟨d1, e1, rfl, hf1, hft1⟩ := FitL.cons (k := .int) (ks := [.sl 7] ++ [.bool] ++ [.bool] ++ [.bool] ++ shPred) hft0
  obtain ⟨n1, rfl, _⟩ := Fit.int hf1
  obtain ⟨d2, e2, rfl, hf2, hft2⟩ := FitL.cons (k := .sl 7) (ks := [.bool] ++ [.bool] ++ [.bool] ++ shPred) hft1
  obtain ⟨rows2, rfl, b_rows2, fR_rows2⟩ := Fit.sl hf2
  have b_rows2 : rows2.length * 32 ≤ 140737488355328 := b_rows2
  obtain ⟨d3, e3, rfl, hf3, hft3⟩ := FitL.cons (k := .bool) (ks := [.bool] ++ [.bool] ++ shPred) hft2
  obtain ⟨n3, rfl⟩ := Fit.bool hf3
  obtain ⟨d4, e4, rfl, hf4, hft4⟩ := FitL.cons (k := .bool) (ks := [.bool] ++ shPred) hft3
  obtain ⟨n4, rfl⟩ := Fit.bool hf4
  obtain ⟨d5, e5, rfl, hf5, hft5⟩ := FitL.cons (k := .bool) (ks := shPred) hft4
  obtain ⟨n5, rfl⟩ := Fit.bool hf5
  obtain ⟨d6, e6, rfl, hf6, hft6⟩ := FitL.split (ks := shPred) (ks' := []) hft5
  obtain rfl := FitL.nil hft6
  obtain ⟨c0, z0, rfl, h_c0, hrd0⟩ := RdL.cons hrd
  obtain ⟨c1, z1, rfl, h_c1, hrd1⟩ := RdL.cons hrd0
  obtain ⟨c2, z2, rfl, h_c2, hrd2⟩ := RdL.cons hrd1
  obtain ⟨c3, z3, rfl, h_c3, hrd3⟩ := RdL.cons hrd2
  obtain ⟨c4, z4, rfl, h_c4, hrd4⟩ := RdL.cons hrd3
  obtain ⟨c5, z5, rfl, h_c5, hrd5⟩ := RdL.cons hrd4
  obtain ⟨c6, z6, rfl, h_c6, hrd6⟩ := RdL.split hrd5
  have l_c6 : c6.length = 25 := h_c6.length.symm.trans hf6.length
  obtain rfl := RdL.nil hrd6
  rw [show c0 :: (c1 :: (c2 :: (c3 :: (c4 :: (c5 :: (c6 ++ ([]))))))) = List.flatten [[c0], [c1], [c2], [c3], [c4], [c5], c6] from by simp]
  refine Sx.enter (l := [.agg (List.flatten [[c0], [c1], [c2], [c3], [c4], [c5], c6]).toArray]) Try.func46 rfl (n := 32) rfl (by simp) ?_
  refine wc_eq (S := SH w []) (SH.refl _) ?_
  refine wc_seq ?_
  refine wc_region ?_
  refine wl_new (d := 1) (List.flatten [[c0], [c1], [c2], [c3], [c4], [c5], c6]).toArray 49 (fun r => .pointer (some ⟨r, 0, none⟩)) (by kernel_rfl) (fun r => by kernel_rfl) ?_
  intro r1 hr1
  have h_c2 := h_c2.stays (im_more (c := (List.flatten [[c0], [c1], [c2], [c3], [c4], [c5], c6]).toArray) (t := 49) hr1)
  have h_c6 := h_c6.stays (im_more (c := (List.flatten [[c0], [c1], [c2], [c3], [c4], [c5], c6]).toArray) (t := 49) hr1)
  refine wl_new (d := 2) zc49 49 (fun r => .pointer (some ⟨r, 0, none⟩)) (by kernel_rfl) (fun r => by kernel_rfl) ?_
  intro r2 hr2
  have h_c2 := h_c2.stays (im_more (c := zc49) (t := 49) hr2)
  have h_c6 := h_c6.stays (im_more (c := zc49) (t := 49) hr2)
  refine nx_list ?_
  refine nx_then ?_
  refine wc_seq ?_
  refine wc_region ?_
  refine wl_go 1 [(4, .pointer (some ⟨r1, 2, none⟩))] (by kernel_rfl) ?_
  refine wl_yl (d := 5) (v := c2) (by kernel_rfl) (yl_load (b := r1) (off := 2) 1 rfl (by kernel_rfl) rfl (readAt_seg1 2 rfl (by simp [l_c6]) (by kernel_rfl))) ?_
  have hesq1 : ∀ r ∈ rows2, r.length = 2 := fR_rows2.length
  refine wl_callB (X := Value × List Blk × List (List Value)) (d := 6) (fun x => x.1) (fun wa y wz => Cl 126 (Im w [⟨r2, zc49, 49⟩, ⟨r1, (List.flatten [[c0], [c1], [c2], [c3], [c4], [c5], c6]).toArray, 49⟩]) wa rows2 y.1 wz y.2.1 y.2.2) (by kernel_rfl) (by kernel_rfl) (fun w1 h1 => (clone_54 rows2 _ c2 w1 (h_c2.stays (h1.staysC (L0 := (⟨r2, zc49, 49⟩ :: (⟨r1, (List.flatten [[c0], [c1], [c2], [c3], [c4], [c5], c6]).toArray, 49⟩ :: []))) rfl)) hesq1 b_rows2).mono (fun e w' ⟨v', R, rv, he, hc⟩ => ⟨(v', R, rv), he, hc⟩)) ?_
  rintro wq1 ⟨v1, Rq1, rvq1⟩ wq2 hsq1 hclq1
  obtain ⟨aq1, capq1, rfl⟩ : ∃ a cap, v1 = .slice a rows2.length cap := by obtain ⟨_, _, ⟨a, cap, h, _⟩, _⟩ := hclq1; exact ⟨a, cap, h⟩
  refine wl_eq (S := SH wq2 (([⟨r2, zc49, 49⟩, ⟨r1, (List.flatten [[c0], [c1], [c2], [c3], [c4], [c5], c6]).toArray, 49⟩] : List Blk) ++ Rq1)) (Cp.startSH hsq1 hclq1) ?_
  refine wl_go 1 [(7, .pointer (some ⟨r1, 2, none⟩))] (by kernel_rfl) ?_
  refine wl_store (b := r1) (off := 2) (v := .slice aq1 rows2.length capq1) (c' := (List.flatten [[c0], [c1], [.slice aq1 rows2.length capq1], [c3], [c4], [c5], c6]).toArray) (L' := (([⟨r2, zc49, 49⟩, ⟨r1, (List.flatten [[c0], [c1], [.slice aq1 rows2.length capq1], [c3], [c4], [c5], c6]).toArray, 49⟩] : List Blk) ++ Rq1)) 1 (by kernel_rfl) rfl (by kernel_rfl) (by kernel_rfl) rfl (writeAt_seg 2 ([.slice aq1 rows2.length capq1]) rfl (by simp [l_c6]) rfl rfl (by kernel_rfl) (fun u hu => by simp only [List.mem_singleton] at hu; subst hu; rfl) rfl) rfl ?_
  refine nx_list ?_
  refine nx_then ?_
  refine wc_seq ?_
  refine wc_seq ?_
  refine wc_region ?_
  refine wl_go 1 [(8, .pointer (some ⟨r1, 2, none⟩))] (by kernel_rfl) ?_
  refine wl_yl (d := 9) (v := .slice aq1 rows2.length capq1) (by kernel_rfl) (yl_load (b := r1) (off := 2) 1 rfl (by kernel_rfl) rfl (readAt_seg1 2 rfl (by simp [l_c6]) (by kernel_rfl))) ?_
  refine wl_go 2 [(11, .int .i64 0), (10, .int .i64 (rows2.length : Int))] (by kernel_rfl) ?_
  refine nx_list ?_
  refine nx_then ?_
  refine wc_block ?_
  refine wc_loop (σ := Cp 126 2 w w (⟨r2, zc49, 49⟩ :: (⟨r1, (List.flatten [[c0], [c1], [c2], [c3], [c4], [c5], c6]).toArray, 49⟩ :: [])) rows2 aq1 [⟨r2, zc49, 49⟩, ⟨r1, (List.flatten [[c0], [c1], [.slice aq1 rows2.length capq1], [c3], [c4], [c5], c6]).toArray, 49⟩]) (fun x => [(1, .pointer (some ⟨r1, 0, none⟩)), (2, .pointer (some ⟨r2, 0, none⟩)), (10, .int .i64 (rows2.length : Int)), (11, .int .i64 (x.i : Int))]) (fun x => SH x.wb (([⟨r2, zc49, 49⟩, ⟨r1, (List.flatten [[c0], [c1], [.slice aq1 rows2.length capq1], [c3], [c4], [c5], c6]).toArray, 49⟩] : List Blk) ++ x.R)) (fun x => rows2.length - x.i) (fun w3 h3 => ⟨(Cp.start hbel (ge_cons hr2 (ge_cons hr1 (ge_nil _))) hsq1 hclq1 hesq1 (⟨r2, zc49, 49⟩ :: (⟨r1, (List.flatten [[c0], [c1], [c2], [c3], [c4], [c5], c6]).toArray, 49⟩ :: [])) rfl).cast rfl, h3, (subEnv_cons (by kernel_rfl) (subEnv_cons (by kernel_rfl) (subEnv_cons (by kernel_rfl) (subEnv_cons (by kernel_rfl) (subEnv_nil _)))))⟩) (fun x => ?_)
  refine wc_seq ?_
  refine wc_region ?_
  refine wl_go 1 [(12, .bool (decide ((x.i : Int) < (rows2.length : Int))))] (by kernel_rfl) ?_
  refine nx_list ?_
  refine nx_then ?_
  refine wc_seq ?_
  refine wc_cond (decide ((x.i : Int) < (rows2.length : Int))) (by kernel_rfl) (by kernel_rfl) (fun hcq1 => ?_) (fun hcq1 => ?_)
  · skip
    have hlt : x.i < rows2.length := by simpa using hcq1
    have hrl : rows2.length ≤ 140737488355328 := by have := b_rows2; omega
    obtain ⟨g, sp, r, v, rfl, hxR, hrow, hval, hrd⟩ := x.row hlt
    have hfr := fR_rows2.get x.i r hrow
    obtain ⟨u1, dq, rfl, hu1, hfq⟩ := FitL.split (ks := ([]) ++ ([.sl 2])) (ks' := [.bool]) hfr
    obtain ⟨dp, dm, rfl, hfp, hfm⟩ := FitL.split (ks := []) (ks' := [.sl 2]) hu1
    obtain ⟨uv, q, rfl, huv, h_q⟩ := RdL.split hrd
    obtain ⟨p, m, rfl, h_p, h_m⟩ := RdL.split huv
    have l_p : p.length = 0 := h_p.length.symm.trans hfp.length
    have l_m : m.length = 1 := h_m.length.symm.trans hfm.length
    have hbp := bare_of_fit hfp (by simp)
    have hbq := bare_of_fit hfq (by simp)
    have hszm : szL dm < szR rows2 := by have := szR_get hrow; rw [szL_append, szL_append] at this; omega
    obtain ⟨dm0, dm1, rfl, hfm0, hfm1⟩ := FitL.cons hfm
    obtain rfl := FitL.nil hfm1
    obtain ⟨rowsm, rfl, b_rowsm, fR_rowsm⟩ := Fit.sl hfm0
    obtain ⟨m0, m1, rfl, h_m0, hm1⟩ := RdL.cons h_m
    obtain rfl := RdL.nil hm1
    rw [hxR]
    refine nx_skip ?_
    refine nx_then ?_
    refine wc_seq ?_
    refine wc_block ?_
    refine wc_seq ?_
    refine wc_region ?_
    refine wl_go 2 [(3, .int .i64 (x.i : Int)), (13, .int .i64 (x.i : Int))] (by kernel_rfl) ?_
    refine nx_list ?_
    refine nx_then ?_
    refine wc_draw 12 (SH x.wb [⟨r2, zc49, 49⟩, ⟨r1, (List.flatten [[c0], [c1], [.slice (some ⟨g, 0, none⟩) rows2.length capq1], [c3], [c4], [c5], c6]).toArray, 49⟩, ⟨g, ((x.rv.flatten ++ sp).toArray), 126⟩]) rfl (by decide) (fun w h => SH.drew h) ?_
    refine wd_go [0] [(14, .pointer (some ⟨r1, 2, none⟩))] #[true, false, false, false, false, false, false, false, false, false, false, false, false] (f := 11) rfl (by kernel_rfl) (fun w h => h) ?_
    refine wd_yl 1 (d := 15) (v := .slice (some ⟨g, 0, none⟩) rows2.length capq1) (f := 10) rfl (by kernel_rfl) (by kernel_rfl) (fun w h => h) (yl_load (b := r1) (off := 2) 1 rfl (by kernel_rfl) rfl (readAt_seg1 2 rfl (by simp [l_c6]) (by kernel_rfl))) ?_
    refine wd_go [2, 3] [(17, .pointer (some ⟨r1, 2, none⟩)), (16, .int .i64 (x.i : Int))] #[true, true, true, true, false, false, false, false, false, false, false, false, false] (f := 8) rfl (by kernel_rfl) (fun w h => h) ?_
    refine wd_yl 4 (d := 18) (v := .slice (some ⟨g, 0, none⟩) rows2.length capq1) (f := 7) rfl (by kernel_rfl) (by kernel_rfl) (fun w h => h) (yl_load (b := r1) (off := 2) 1 rfl (by kernel_rfl) rfl (readAt_seg1 2 rfl (by simp [l_c6]) (by kernel_rfl))) ?_
    refine wd_go [5] [(19, .int .i64 (x.i : Int))] #[true, true, true, true, true, true, false, false, false, false, false, false, false] (f := 6) rfl (by kernel_rfl) (fun w h => h) ?_
    refine wd_yl 6 (d := 20) (v := .pointer (some ⟨g, 0 + x.i * 2, none⟩)) (f := 5) rfl (by kernel_rfl) (by kernel_rfl) (fun w h => h) (yl_index (E := 126) (b := g) (off := 0) (len := rows2.length) (cap := capq1) (k := x.i) (es := 2) rfl (by kernel_rfl) (by kernel_rfl) (by kernel_rfl) (by omega)) ?_
    refine wd_go [7] [(21, .pointer (some ⟨g, 0 + x.i * 2, none⟩))] #[true, true, true, true, true, true, true, true, false, false, false, false, false] (f := 4) rfl (by kernel_rfl) (fun w h => h) ?_
    refine wd_yl 8 (d := 22) (v := m0) (f := 3) rfl (by kernel_rfl) (by kernel_rfl) (fun w h => h) (yl_load (b := g) (off := 0 + x.i * 2) 2 rfl (by kernel_rfl) rfl (readAt_row1 x.hlen hval (by simp [l_p]) (by kernel_rfl))) ?_
    refine wd_callB 9 (X := Value) (d := 23) (fu := 2) (fun x => x) (fun wa y wz => Rd (fun k => wa.heap.size ≤ k) wz (.sl rowsm) y ∧ Below wa.heap.size wa wz) rfl (by decide) (by kernel_rfl) (by kernel_rfl) (by kernel_rfl) (fun w1 h1 => cloneV_55 rowsm fR_rowsm b_rowsm w1 _ m0 ((show Rd (Im x.wb [⟨r2, zc49, 49⟩, ⟨r1, (List.flatten [[c0], [c1], [.slice (some ⟨g, 0, none⟩) rows2.length capq1], [c3], [c4], [c5], c6]).toArray, 49⟩, ⟨g, ((x.rv.flatten ++ sp).toArray), 126⟩]) x.wb (.sl rowsm) m0 from by rw [← hxR]; exact h_m0).stays h1.stays)) ?_
    rintro wq3 mq2 wq4 hin ⟨hmin, hbin⟩
    have h_mq2 := hmin
    have hmin : RdL (fun k => wq3.heap.size ≤ k) wq4 [.sl rowsm] [mq2] := RdL.mk hmin RdL.none
    have hin' := hin
    rw [← hxR] at hin
    refine ⟨hin'.keep hbin, ?_⟩
    refine wd_eq (T := SH wq4 [⟨r2, zc49, 49⟩, ⟨r1, (List.flatten [[c0], [c1], [.slice (some ⟨g, 0, none⟩) rows2.length capq1], [c3], [c4], [c5], c6]).toArray, 49⟩, ⟨g, ((x.rv.flatten ++ sp).toArray), 126⟩]) (hin'.after hbin) ?_
    refine wd_yl 10 (d := 24) (v := .pointer (some ⟨g, 0 + x.i * 2, none⟩)) (f := 1) rfl (by kernel_rfl) (by kernel_rfl) (fun w h => (hin'.keep hbin).trans h) (yl_index (E := 126) (b := g) (off := 0) (len := rows2.length) (cap := capq1) (k := x.i) (es := 2) rfl (by kernel_rfl) (by kernel_rfl) (by kernel_rfl) (by omega)) ?_
    refine wd_go [11] [(25, .pointer (some ⟨g, 0 + x.i * 2, none⟩))] #[true, true, true, true, true, true, true, true, true, true, true, true, false] (f := 0) rfl (by kernel_rfl) (fun w h => (hin'.keep hbin).trans h) ?_
    refine wd_done (by kernel_rfl) ?_
    refine wl_store (b := g) (off := 0 + x.i * 2) (v := mq2) (c' := ((x.rv.set x.i (p ++ [mq2] ++ q)).flatten ++ sp).toArray) (L' := [⟨r2, zc49, 49⟩, ⟨r1, (List.flatten [[c0], [c1], [.slice (some ⟨g, 0, none⟩) rows2.length capq1], [c3], [c4], [c5], c6]).toArray, 49⟩, ⟨g, (((x.rv.set x.i (p ++ [mq2] ++ q)).flatten ++ sp).toArray), 126⟩]) 2 (by kernel_rfl) rfl (by kernel_rfl) (by kernel_rfl) rfl (writeAt_row [mq2] x.hlen hval (by simp [l_p]) (Rd.cells h_mq2) rfl (by kernel_rfl) (fun u hu => by simp only [List.mem_singleton] at hu; subst hu; exact h_mq2.oneCell)) rfl ?_
    refine nx_list ?_
    refine nx_on ?_
    refine nx_block ?_
    refine nx_then ?_
    refine wc_region ?_
    refine wl_yl (d := 26) (v := .int .i64 ((x.i : Int) + 1)) (by kernel_rfl) (yl_int (t := (x.i : Int) + 1) (r := (x.i : Int) + 1) (by kernel_rfl) (i64w (by omega) (by omega))) ?_
    refine wl_go 1 [(11, .int .i64 ((x.i : Int) + 1))] (by kernel_rfl) ?_
    refine nx_list ?_
    refine nx_round (y := x.next (m' := [mq2]) hlt hrow hval hxR h_p h_q hbp hbq rfl hin hbin hmin) (show rows2.length - (x.i + 1) < rows2.length - x.i by omega) (subEnv_cons (by kernel_rfl) (subEnv_cons (by kernel_rfl) (subEnv_cons (by kernel_rfl) (subEnv_cons (by kernel_rfl) (subEnv_nil _))))) (fun w h => h)
  · skip
    have hge : rows2.length ≤ x.i := by simpa using hcq1
    refine wc_open (fun wq5 h9 => ?_)
    have h_sq3 := x.done hge h9 capq1
    have hT := (x.htr.trans h9.trDrop)
    have h_c2 := h_c2.stays hT.stays
    have h_c6 := h_c6.stays hT.stays
    have hbel := h9.below x.hbel x.hbel.size x.hL
    refine wc_eq (S := SH wq5 [⟨r2, zc49, 49⟩, ⟨r1, (List.flatten [[c0], [c1], [.slice aq1 rows2.length capq1], [c3], [c4], [c5], c6]).toArray, 49⟩]) h9.drop ?_
    refine nx_exit ?_
    refine nx_then_exit ?_
    refine nx_then_exit ?_
    refine nx_block_here ?_
    refine nx_then ?_
    refine wc_seq ?_
    refine wc_region ?_
    refine wl_go 1 [(27, .pointer (some ⟨r1, 6, none⟩))] (by kernel_rfl) ?_
    refine wl_yl (d := 28) (v := .agg (c6).toArray) (by kernel_rfl) (yl_load (b := r1) (off := 6) 1 rfl (by kernel_rfl) rfl (readAt_seg 6 rfl (by simp [l_c6]) (by rw [l_c6]; kernel_rfl))) ?_
    refine wl_callB (X := List Value) (d := 29) (fun x => .agg x.toArray) (fun wa y wz => RdL (fun k => wa.heap.size ≤ k) wz d6 y ∧ Below wa.heap.size wa wz) (by kernel_rfl) (by kernel_rfl) (fun w1 h1 => (copyPred_all d6 hf6) w1 _ c6 (h_c6.stays (h1.staysC (L0 := [⟨r2, zc49, 49⟩, ⟨r1, (List.flatten [[c0], [c1], [.slice aq1 rows2.length capq1], [c3], [c4], [c5], c6]).toArray, 49⟩]) rfl))) ?_
    rintro wq6 mq4 wq7 h1 ⟨h_mq4, hb⟩
    have h_mq4 := h_mq4.stays (stays_newN h1 (Nat.le_trans hbel.size h1.size))
    have l_mq4 : mq4.length = 25 := h_mq4.length.symm.trans (h_c6.length.trans l_c6)
    have hT := (h1.tr hb).cong (L0 := [⟨r2, zc49, 49⟩, ⟨r1, (List.flatten [[c0], [c1], [.slice aq1 rows2.length capq1], [c3], [c4], [c5], c6]).toArray, 49⟩]) rfl
    have h_c2 := h_c2.stays hT.stays
    have h_c6 := h_c6.stays hT.stays
    have h_sq3 := h_sq3.stays hT.staysN
    have hbel := h1.belowCall hbel (ge_cons hr2 (ge_cons hr1 (ge_nil _))) hb
    refine wl_eq (S := SH wq7 [⟨r2, zc49, 49⟩, ⟨r1, (List.flatten [[c0], [c1], [.slice aq1 rows2.length capq1], [c3], [c4], [c5], c6]).toArray, 49⟩]) (h1.after hb) ?_
    refine wl_go 1 [(30, .pointer (some ⟨r1, 6, none⟩))] (by kernel_rfl) ?_
    refine wl_store (b := r1) (off := 6) (v := .agg (mq4).toArray) (c' := (List.flatten [[c0], [c1], [.slice aq1 rows2.length capq1], [c3], [c4], [c5], mq4]).toArray) (L' := [⟨r2, zc49, 49⟩, ⟨r1, (List.flatten [[c0], [c1], [.slice aq1 rows2.length capq1], [c3], [c4], [c5], mq4]).toArray, 49⟩]) 1 (by kernel_rfl) rfl (by kernel_rfl) (by kernel_rfl) rfl (writeAt_seg 6 (mq4) rfl (by simp [l_c6]) rfl (by rw [l_mq4, l_c6]) (by rw [l_mq4]; kernel_rfl) (RdL.oneCell h_mq4) rfl) rfl ?_
    refine nx_list ?_
    refine nx_then ?_
    refine wc_seq ?_
    refine wc_region ?_
    refine wl_yl (d := 31) (v := .agg (List.flatten [[c0], [c1], [.slice aq1 rows2.length capq1], [c3], [c4], [c5], mq4]).toArray) (by kernel_rfl) (yl_load (b := r1) (off := 0) 1 rfl (by kernel_rfl) rfl (readAt_all (by rw [show (List.flatten [[c0], [c1], [.slice aq1 rows2.length capq1], [c3], [c4], [c5], mq4]).length = 31 from by simp [l_mq4]]; kernel_rfl))) ?_
    refine wl_store (b := r2) (off := 0) (v := .agg (List.flatten [[c0], [c1], [.slice aq1 rows2.length capq1], [c3], [c4], [c5], mq4]).toArray) (c' := (List.flatten [[c0], [c1], [.slice aq1 rows2.length capq1], [c3], [c4], [c5], mq4]).toArray) (L' := [⟨r2, (List.flatten [[c0], [c1], [.slice aq1 rows2.length capq1], [c3], [c4], [c5], mq4]).toArray, 49⟩, ⟨r1, (List.flatten [[c0], [c1], [.slice aq1 rows2.length capq1], [c3], [c4], [c5], mq4]).toArray, 49⟩]) 0 (by kernel_rfl) rfl (by kernel_rfl) (by kernel_rfl) rfl (writeAt_all (by rw [show (List.flatten [[c0], [c1], [.slice aq1 rows2.length capq1], [c3], [c4], [c5], mq4]).length = 31 from by simp [l_mq4]]; kernel_rfl) (by rw [show (List.flatten [[c0], [c1], [.slice aq1 rows2.length capq1], [c3], [c4], [c5], mq4]).length = 31 from by simp [l_mq4]]; kernel_rfl) (oc_cons (fun u hu => by simp only [List.mem_singleton] at hu; subst hu; exact h_c0.oneCell) (oc_cons (fun u hu => by simp only [List.mem_singleton] at hu; subst hu; exact h_c1.oneCell) (oc_cons (fun u hu => by simp only [List.mem_singleton] at hu; subst hu; rfl) (oc_cons (fun u hu => by simp only [List.mem_singleton] at hu; subst hu; exact h_c3.oneCell) (oc_cons (fun u hu => by simp only [List.mem_singleton] at hu; subst hu; exact h_c4.oneCell) (oc_cons (fun u hu => by simp only [List.mem_singleton] at hu; subst hu; exact h_c5.oneCell) (oc_cons (RdL.oneCell h_mq4) oc_nil)))))))) rfl ?_
    refine nx_list ?_
    refine nx_then ?_
    refine nx_ret ?_
    refine ret_cell (v := .agg (List.flatten [[c0], [c1], [.slice aq1 rows2.length capq1], [c3], [c4], [c5], mq4]).toArray) (b := r2) (off := 0) 0 rfl (by kernel_rfl) rfl (readAt_all (by rw [show (List.flatten [[c0], [c1], [.slice aq1 rows2.length capq1], [c3], [c4], [c5], mq4]).length = 31 from by simp [l_mq4]]; kernel_rfl)) ?_
    intro w' hw'
    refine ⟨_, rfl, ?_, hw'.below hbel hbel.size (ge_cons hr2 (ge_cons hr1 (ge_nil _)))⟩
    rw [show (List.flatten [[c0], [c1], [.slice aq1 rows2.length capq1], [c3], [c4], [c5], mq4] : List Value) = (c0) :: ((c1) :: ((.slice aq1 rows2.length capq1) :: ((c3) :: ((c4) :: ((c5) :: (mq4 ++ ([]))))))) from by simp]
    exact RdL.mk (h_c0.bare rfl) (RdL.mk (h_c1.bare rfl) (RdL.mk (h_sq3.stays (hw'.staysN (L0 := [⟨r2, zc49, 49⟩, ⟨r1, (List.flatten [[c0], [c1], [.slice aq1 rows2.length capq1], [c3], [c4], [c5], c6]).toArray, 49⟩]) rfl)) (RdL.mk (h_c3.bare rfl) (RdL.mk (h_c4.bare rfl) (RdL.mk (h_c5.bare rfl) (RdL.append (h_mq4.stays (hw'.staysN (L0 := [⟨r2, zc49, 49⟩, ⟨r1, (List.flatten [[c0], [c1], [.slice aq1 rows2.length capq1], [c3], [c4], [c5], c6]).toArray, 49⟩]) rfl)) (RdL.none)))))))

theorem copyIndex_all (ds : List D) (hfit : FitL sh by_ ds shIndex) : CopyS Try.prog 46 ds := copyIndex_step ds hfit

theorem copySchema_step (ds : List D) (hfit : FitL sh by_ ds shSchema) (ih : ∀ (r : List D), szL r < szL ds → FitL sh by_ r shSchema → CopyS Try.prog 53 r) : CopyS Try.prog 53 ds := by
  intro w S cs hrdS
  have hrd := hrdS.im
  have hbel := Below.refl w.heap.size w
  obtain ⟨d0, e0, rfl, hf0, hft0⟩ := FitL.cons (k := .int) (ks := [.bool] ++ shV ++ [.bool] ++ shV ++ [.sl 0] ++ [.int] ++ [.int] ++ [.sl 2] ++ [.sl 10] ++ [.bool] ++ [.sl 9] ++ [.bool]) hfit
  obtain ⟨n0, rfl, _⟩ := Fit.int hf0
  obtain ⟨d1, e1, rfl, hf1, hft1⟩ := FitL.cons (k := .bool) (ks := shV ++ [.bool] ++ shV ++ [.sl 0] ++ [.int] ++ [.int] ++ [.sl 2] ++ [.sl 10] ++ [.bool] ++ [.sl 9] ++ [.bool]) hft0
  obtain ⟨n1, rfl⟩ := Fit.bool hf1
  obtain ⟨d2, e2, rfl, hf2, hft2⟩ := FitL.split (ks := shV) (ks' := [.bool] ++ shV ++ [.sl 0] ++ [.int] ++ [.int] ++ [.sl 2] ++ [.sl 10] ++ [.bool] ++ [.sl 9] ++ [.bool]) hft1
  obtain ⟨d3, e3, rfl, hf3, hft3⟩ := FitL.cons (k := .bool) (ks := shV ++ [.sl 0] ++ [.int] ++ [.int] ++ [.sl 2] ++ [.sl 10] ++ [.bool] ++ [.sl 9] ++ [.bool]) hft2
  obtain ⟨n3, rfl⟩ := Fit.bool hf3
  obtain ⟨d4, e4, rfl, hf4, hft4⟩ := FitL.split (ks := shV) (ks' := [.sl 0] ++ [.int] ++ [.int] ++ [.sl 2] ++ [.sl 10] ++ [.bool] ++ [.sl 9] ++ [.bool]) hft3
  obtain ⟨d5, e5, rfl, hf5, hft5⟩ := FitL.cons (k := .sl 0) (ks := [.int] ++ [.int] ++ [.sl 2] ++ [.sl 10] ++ [.bool] ++ [.sl 9] ++ [.bool]) hft4
  obtain ⟨rows5, rfl, b_rows5, fR_rows5⟩ := Fit.sl hf5
  have b_rows5 : rows5.length * 80 ≤ 140737488355328 := b_rows5
  obtain ⟨d6, e6, rfl, hf6, hft6⟩ := FitL.cons (k := .int) (ks := [.int] ++ [.sl 2] ++ [.sl 10] ++ [.bool] ++ [.sl 9] ++ [.bool]) hft5
  obtain ⟨n6, rfl, _⟩ := Fit.int hf6
  obtain ⟨d7, e7, rfl, hf7, hft7⟩ := FitL.cons (k := .int) (ks := [.sl 2] ++ [.sl 10] ++ [.bool] ++ [.sl 9] ++ [.bool]) hft6
  obtain ⟨n7, rfl, _⟩ := Fit.int hf7
  obtain ⟨d8, e8, rfl, hf8, hft8⟩ := FitL.cons (k := .sl 2) (ks := [.sl 10] ++ [.bool] ++ [.sl 9] ++ [.bool]) hft7
  obtain ⟨rows8, rfl, b_rows8, fR_rows8⟩ := Fit.sl hf8
  have b_rows8 : rows8.length * 16 ≤ 140737488355328 := b_rows8
  obtain ⟨d9, e9, rfl, hf9, hft9⟩ := FitL.cons (k := .sl 10) (ks := [.bool] ++ [.sl 9] ++ [.bool]) hft8
  obtain ⟨rows9, rfl, b_rows9, fR_rows9⟩ := Fit.sl hf9
  have b_rows9 : rows9.length * 328 ≤ 140737488355328 := b_rows9
  obtain ⟨d10, e10, rfl, hf10, hft10⟩ := FitL.cons (k := .bool) (ks := [.sl 9] ++ [.bool]) hft9
  obtain ⟨n10, rfl⟩ := Fit.bool hf10
  obtain ⟨d11, e11, rfl, hf11, hft11⟩ := FitL.cons (k := .sl 9) (ks := [.bool]) hft10
  obtain ⟨rows11, rfl, b_rows11, fR_rows11⟩ := Fit.sl hf11
  have b_rows11 : rows11.length * 312 ≤ 140737488355328 := b_rows11
  obtain ⟨d12, e12, rfl, hf12, hft12⟩ := FitL.cons (k := .bool) (ks := []) hft11
  obtain ⟨n12, rfl⟩ := Fit.bool hf12
  obtain rfl := FitL.nil hft12
  obtain ⟨c0, z0, rfl, h_c0, hrd0⟩ := RdL.cons hrd
  obtain ⟨c1, z1, rfl, h_c1, hrd1⟩ := RdL.cons hrd0
  obtain ⟨c2, z2, rfl, h_c2, hrd2⟩ := RdL.split hrd1
  have l_c2 : c2.length = 5 := h_c2.length.symm.trans hf2.length
  obtain ⟨c3, z3, rfl, h_c3, hrd3⟩ := RdL.cons hrd2
  obtain ⟨c4, z4, rfl, h_c4, hrd4⟩ := RdL.split hrd3
  have l_c4 : c4.length = 5 := h_c4.length.symm.trans hf4.length
  obtain ⟨c5, z5, rfl, h_c5, hrd5⟩ := RdL.cons hrd4
  obtain ⟨c6, z6, rfl, h_c6, hrd6⟩ := RdL.cons hrd5
  obtain ⟨c7, z7, rfl, h_c7, hrd7⟩ := RdL.cons hrd6
  obtain ⟨c8, z8, rfl, h_c8, hrd8⟩ := RdL.cons hrd7
  obtain ⟨c9, z9, rfl, h_c9, hrd9⟩ := RdL.cons hrd8
  obtain ⟨c10, z10, rfl, h_c10, hrd10⟩ := RdL.cons hrd9
  obtain ⟨c11, z11, rfl, h_c11, hrd11⟩ := RdL.cons hrd10
  obtain ⟨c12, z12, rfl, h_c12, hrd12⟩ := RdL.cons hrd11
  obtain rfl := RdL.nil hrd12
  rw [show c0 :: (c1 :: (c2 ++ (c3 :: (c4 ++ (c5 :: (c6 :: (c7 :: (c8 :: (c9 :: (c10 :: (c11 :: (c12 :: ([]))))))))))))) = List.flatten [[c0], [c1], c2, [c3], c4, [c5], [c6], [c7], [c8], [c9], [c10], [c11], [c12]] from by simp]
  refine Sx.enter (l := [.agg (List.flatten [[c0], [c1], c2, [c3], c4, [c5], [c6], [c7], [c8], [c9], [c10], [c11], [c12]]).toArray]) Try.func53 rfl (n := 66) rfl (by simp) ?_
  refine wc_eq (S := SH w []) (SH.refl _) ?_
  refine wc_seq ?_
  refine wc_region ?_
  refine wl_new (d := 1) (List.flatten [[c0], [c1], c2, [c3], c4, [c5], [c6], [c7], [c8], [c9], [c10], [c11], [c12]]).toArray 35 (fun r => .pointer (some ⟨r, 0, none⟩)) (by kernel_rfl) (fun r => by kernel_rfl) ?_
  intro r1 hr1
  have h_c2 := h_c2.stays (im_more (c := (List.flatten [[c0], [c1], c2, [c3], c4, [c5], [c6], [c7], [c8], [c9], [c10], [c11], [c12]]).toArray) (t := 35) hr1)
  have h_c4 := h_c4.stays (im_more (c := (List.flatten [[c0], [c1], c2, [c3], c4, [c5], [c6], [c7], [c8], [c9], [c10], [c11], [c12]]).toArray) (t := 35) hr1)
  have h_c5 := h_c5.stays (im_more (c := (List.flatten [[c0], [c1], c2, [c3], c4, [c5], [c6], [c7], [c8], [c9], [c10], [c11], [c12]]).toArray) (t := 35) hr1)
  have h_c8 := h_c8.stays (im_more (c := (List.flatten [[c0], [c1], c2, [c3], c4, [c5], [c6], [c7], [c8], [c9], [c10], [c11], [c12]]).toArray) (t := 35) hr1)
  have h_c9 := h_c9.stays (im_more (c := (List.flatten [[c0], [c1], c2, [c3], c4, [c5], [c6], [c7], [c8], [c9], [c10], [c11], [c12]]).toArray) (t := 35) hr1)
  have h_c11 := h_c11.stays (im_more (c := (List.flatten [[c0], [c1], c2, [c3], c4, [c5], [c6], [c7], [c8], [c9], [c10], [c11], [c12]]).toArray) (t := 35) hr1)
  refine wl_new (d := 2) zc35 35 (fun r => .pointer (some ⟨r, 0, none⟩)) (by kernel_rfl) (fun r => by kernel_rfl) ?_
  intro r2 hr2
  have h_c2 := h_c2.stays (im_more (c := zc35) (t := 35) hr2)
  have h_c4 := h_c4.stays (im_more (c := zc35) (t := 35) hr2)
  have h_c5 := h_c5.stays (im_more (c := zc35) (t := 35) hr2)
  have h_c8 := h_c8.stays (im_more (c := zc35) (t := 35) hr2)
  have h_c9 := h_c9.stays (im_more (c := zc35) (t := 35) hr2)
  have h_c11 := h_c11.stays (im_more (c := zc35) (t := 35) hr2)
  refine nx_list ?_
  refine nx_then ?_
  refine wc_seq ?_
  refine wc_region ?_
  refine wl_go 1 [(5, .pointer (some ⟨r1, 2, none⟩))] (by kernel_rfl) ?_
  refine wl_yl (d := 6) (v := .agg (c2).toArray) (by kernel_rfl) (yl_load (b := r1) (off := 2) 1 rfl (by kernel_rfl) rfl (readAt_seg 2 rfl (by simp [l_c2, l_c4]) (by rw [l_c2]; kernel_rfl))) ?_
  refine wl_callB (X := List Value) (d := 7) (fun x => .agg x.toArray) (fun wa y wz => RdL (fun k => wa.heap.size ≤ k) wz d2 y ∧ Below wa.heap.size wa wz) (by kernel_rfl) (by kernel_rfl) (fun w1 h1 => (copyValue_all d2 hf2) w1 _ c2 (h_c2.stays (h1.staysC (L0 := (⟨r2, zc35, 35⟩ :: (⟨r1, (List.flatten [[c0], [c1], c2, [c3], c4, [c5], [c6], [c7], [c8], [c9], [c10], [c11], [c12]]).toArray, 35⟩ :: []))) rfl))) ?_
  rintro wq1 mq1 wq2 h1 ⟨h_mq1, hb⟩
  have h_mq1 := h_mq1.stays (stays_newN h1 (Nat.le_trans hbel.size h1.size))
  have l_mq1 : mq1.length = 5 := h_mq1.length.symm.trans (h_c2.length.trans l_c2)
  have hT := (h1.tr hb).cong (L0 := (⟨r2, zc35, 35⟩ :: (⟨r1, (List.flatten [[c0], [c1], c2, [c3], c4, [c5], [c6], [c7], [c8], [c9], [c10], [c11], [c12]]).toArray, 35⟩ :: []))) rfl
  have h_c2 := h_c2.stays hT.stays
  have h_c4 := h_c4.stays hT.stays
  have h_c5 := h_c5.stays hT.stays
  have h_c8 := h_c8.stays hT.stays
  have h_c9 := h_c9.stays hT.stays
  have h_c11 := h_c11.stays hT.stays
  have hbel := h1.belowCall hbel (ge_cons hr2 (ge_cons hr1 (ge_nil _))) hb
  refine wl_eq (S := SH wq2 [⟨r2, zc35, 35⟩, ⟨r1, (List.flatten [[c0], [c1], c2, [c3], c4, [c5], [c6], [c7], [c8], [c9], [c10], [c11], [c12]]).toArray, 35⟩]) (h1.after hb) ?_
  refine wl_go 1 [(8, .pointer (some ⟨r1, 2, none⟩))] (by kernel_rfl) ?_
  refine wl_store (b := r1) (off := 2) (v := .agg (mq1).toArray) (c' := (List.flatten [[c0], [c1], mq1, [c3], c4, [c5], [c6], [c7], [c8], [c9], [c10], [c11], [c12]]).toArray) (L' := [⟨r2, zc35, 35⟩, ⟨r1, (List.flatten [[c0], [c1], mq1, [c3], c4, [c5], [c6], [c7], [c8], [c9], [c10], [c11], [c12]]).toArray, 35⟩]) 1 (by kernel_rfl) rfl (by kernel_rfl) (by kernel_rfl) rfl (writeAt_seg 2 (mq1) rfl (by simp [l_c2, l_c4]) rfl (by rw [l_mq1, l_c2]) (by rw [l_mq1]; kernel_rfl) (RdL.oneCell h_mq1) rfl) rfl ?_
  refine nx_list ?_
  refine nx_then ?_
  refine wc_seq ?_
  refine wc_region ?_
  refine wl_go 1 [(9, .pointer (some ⟨r1, 8, none⟩))] (by kernel_rfl) ?_
  refine wl_yl (d := 10) (v := .agg (c4).toArray) (by kernel_rfl) (yl_load (b := r1) (off := 8) 1 rfl (by kernel_rfl) rfl (readAt_seg 4 rfl (by simp [l_c4, l_mq1]) (by rw [l_c4]; kernel_rfl))) ?_
  refine wl_callB (X := List Value) (d := 11) (fun x => .agg x.toArray) (fun wa y wz => RdL (fun k => wa.heap.size ≤ k) wz d4 y ∧ Below wa.heap.size wa wz) (by kernel_rfl) (by kernel_rfl) (fun w1 h1 => (copyValue_all d4 hf4) w1 _ c4 (h_c4.stays (h1.staysC (L0 := [⟨r2, zc35, 35⟩, ⟨r1, (List.flatten [[c0], [c1], c2, [c3], c4, [c5], [c6], [c7], [c8], [c9], [c10], [c11], [c12]]).toArray, 35⟩]) rfl))) ?_
  rintro wq3 mq2 wq4 h1 ⟨h_mq2, hb⟩
  have h_mq2 := h_mq2.stays (stays_newN h1 (Nat.le_trans hbel.size h1.size))
  have l_mq2 : mq2.length = 5 := h_mq2.length.symm.trans (h_c4.length.trans l_c4)
  have hT := (h1.tr hb).cong (L0 := [⟨r2, zc35, 35⟩, ⟨r1, (List.flatten [[c0], [c1], c2, [c3], c4, [c5], [c6], [c7], [c8], [c9], [c10], [c11], [c12]]).toArray, 35⟩]) rfl
  have h_c2 := h_c2.stays hT.stays
  have h_c4 := h_c4.stays hT.stays
  have h_c5 := h_c5.stays hT.stays
  have h_c8 := h_c8.stays hT.stays
  have h_c9 := h_c9.stays hT.stays
  have h_c11 := h_c11.stays hT.stays
  have h_mq1 := h_mq1.stays hT.staysN
  have hbel := h1.belowCall hbel (ge_cons hr2 (ge_cons hr1 (ge_nil _))) hb
  refine wl_eq (S := SH wq4 [⟨r2, zc35, 35⟩, ⟨r1, (List.flatten [[c0], [c1], mq1, [c3], c4, [c5], [c6], [c7], [c8], [c9], [c10], [c11], [c12]]).toArray, 35⟩]) (h1.after hb) ?_
  refine wl_go 1 [(12, .pointer (some ⟨r1, 8, none⟩))] (by kernel_rfl) ?_
  refine wl_store (b := r1) (off := 8) (v := .agg (mq2).toArray) (c' := (List.flatten [[c0], [c1], mq1, [c3], mq2, [c5], [c6], [c7], [c8], [c9], [c10], [c11], [c12]]).toArray) (L' := [⟨r2, zc35, 35⟩, ⟨r1, (List.flatten [[c0], [c1], mq1, [c3], mq2, [c5], [c6], [c7], [c8], [c9], [c10], [c11], [c12]]).toArray, 35⟩]) 1 (by kernel_rfl) rfl (by kernel_rfl) (by kernel_rfl) rfl (writeAt_seg 4 (mq2) rfl (by simp [l_c4, l_mq1]) rfl (by rw [l_mq2, l_c4]) (by rw [l_mq2]; kernel_rfl) (RdL.oneCell h_mq2) rfl) rfl ?_
  refine nx_list ?_
  refine nx_then ?_
  refine wc_seq ?_
  refine wc_region ?_
  refine wl_go 1 [(13, .pointer (some ⟨r1, 13, none⟩))] (by kernel_rfl) ?_
  refine wl_yl (d := 14) (v := c5) (by kernel_rfl) (yl_load (b := r1) (off := 13) 1 rfl (by kernel_rfl) rfl (readAt_seg1 5 rfl (by simp [l_mq1, l_mq2]) (by kernel_rfl))) ?_
  refine wl_callB (X := Value) (d := 15) (fun x => x) (fun wa y wz => Rd (fun k => wa.heap.size ≤ k) wz (.sl rows5) y ∧ Below wa.heap.size wa wz) (by kernel_rfl) (by kernel_rfl) (fun w1 h1 => (copyValues_all rows5 fR_rows5 b_rows5) w1 _ c5 (h_c5.stays (h1.staysC (L0 := [⟨r2, zc35, 35⟩, ⟨r1, (List.flatten [[c0], [c1], mq1, [c3], c4, [c5], [c6], [c7], [c8], [c9], [c10], [c11], [c12]]).toArray, 35⟩]) rfl))) ?_
  rintro wq5 vq3 wq6 h1 ⟨h_vq3, hb⟩
  have h_vq3 := h_vq3.stays (stays_newN h1 (Nat.le_trans hbel.size h1.size))
  have hT := (h1.tr hb).cong (L0 := [⟨r2, zc35, 35⟩, ⟨r1, (List.flatten [[c0], [c1], mq1, [c3], c4, [c5], [c6], [c7], [c8], [c9], [c10], [c11], [c12]]).toArray, 35⟩]) rfl
  have h_c2 := h_c2.stays hT.stays
  have h_c4 := h_c4.stays hT.stays
  have h_c5 := h_c5.stays hT.stays
  have h_c8 := h_c8.stays hT.stays
  have h_c9 := h_c9.stays hT.stays
  have h_c11 := h_c11.stays hT.stays
  have h_mq1 := h_mq1.stays hT.staysN
  have h_mq2 := h_mq2.stays hT.staysN
  have hbel := h1.belowCall hbel (ge_cons hr2 (ge_cons hr1 (ge_nil _))) hb
  refine wl_eq (S := SH wq6 [⟨r2, zc35, 35⟩, ⟨r1, (List.flatten [[c0], [c1], mq1, [c3], mq2, [c5], [c6], [c7], [c8], [c9], [c10], [c11], [c12]]).toArray, 35⟩]) (h1.after hb) ?_
  refine wl_go 1 [(16, .pointer (some ⟨r1, 13, none⟩))] (by kernel_rfl) ?_
  refine wl_store (b := r1) (off := 13) (v := vq3) (c' := (List.flatten [[c0], [c1], mq1, [c3], mq2, [vq3], [c6], [c7], [c8], [c9], [c10], [c11], [c12]]).toArray) (L' := [⟨r2, zc35, 35⟩, ⟨r1, (List.flatten [[c0], [c1], mq1, [c3], mq2, [vq3], [c6], [c7], [c8], [c9], [c10], [c11], [c12]]).toArray, 35⟩]) 1 (by kernel_rfl) rfl (by kernel_rfl) (by kernel_rfl) rfl (writeAt_seg 5 ([vq3]) rfl (by simp [l_mq1, l_mq2]) (Rd.cells h_vq3) rfl (by kernel_rfl) (fun u hu => by simp only [List.mem_singleton] at hu; subst hu; exact h_vq3.oneCell) rfl) rfl ?_
  refine nx_list ?_
  refine nx_then ?_
  refine wc_seq ?_
  refine wc_region ?_
  refine wl_go 1 [(17, .pointer (some ⟨r1, 16, none⟩))] (by kernel_rfl) ?_
  refine wl_yl (d := 18) (v := c8) (by kernel_rfl) (yl_load (b := r1) (off := 16) 1 rfl (by kernel_rfl) rfl (readAt_seg1 8 rfl (by simp [l_mq1, l_mq2]) (by kernel_rfl))) ?_
  refine wl_callB (X := Value) (d := 19) (fun x => x) (fun wa y wz => Rd (fun k => wa.heap.size ≤ k) wz (.sl rows8) y ∧ Below wa.heap.size wa wz) (by kernel_rfl) (by kernel_rfl) (fun w1 h1 => (cloneV_55 rows8 fR_rows8 b_rows8) w1 _ c8 (h_c8.stays (h1.staysC (L0 := [⟨r2, zc35, 35⟩, ⟨r1, (List.flatten [[c0], [c1], mq1, [c3], mq2, [c5], [c6], [c7], [c8], [c9], [c10], [c11], [c12]]).toArray, 35⟩]) rfl))) ?_
  rintro wq7 vq4 wq8 h1 ⟨h_vq4, hb⟩
  have h_vq4 := h_vq4.stays (stays_newN h1 (Nat.le_trans hbel.size h1.size))
  have hT := (h1.tr hb).cong (L0 := [⟨r2, zc35, 35⟩, ⟨r1, (List.flatten [[c0], [c1], mq1, [c3], mq2, [c5], [c6], [c7], [c8], [c9], [c10], [c11], [c12]]).toArray, 35⟩]) rfl
  have h_c2 := h_c2.stays hT.stays
  have h_c4 := h_c4.stays hT.stays
  have h_c5 := h_c5.stays hT.stays
  have h_c8 := h_c8.stays hT.stays
  have h_c9 := h_c9.stays hT.stays
  have h_c11 := h_c11.stays hT.stays
  have h_mq1 := h_mq1.stays hT.staysN
  have h_mq2 := h_mq2.stays hT.staysN
  have h_vq3 := h_vq3.stays hT.staysN
  have hbel := h1.belowCall hbel (ge_cons hr2 (ge_cons hr1 (ge_nil _))) hb
  refine wl_eq (S := SH wq8 [⟨r2, zc35, 35⟩, ⟨r1, (List.flatten [[c0], [c1], mq1, [c3], mq2, [vq3], [c6], [c7], [c8], [c9], [c10], [c11], [c12]]).toArray, 35⟩]) (h1.after hb) ?_
  refine wl_go 1 [(20, .pointer (some ⟨r1, 16, none⟩))] (by kernel_rfl) ?_
  refine wl_store (b := r1) (off := 16) (v := vq4) (c' := (List.flatten [[c0], [c1], mq1, [c3], mq2, [vq3], [c6], [c7], [vq4], [c9], [c10], [c11], [c12]]).toArray) (L' := [⟨r2, zc35, 35⟩, ⟨r1, (List.flatten [[c0], [c1], mq1, [c3], mq2, [vq3], [c6], [c7], [vq4], [c9], [c10], [c11], [c12]]).toArray, 35⟩]) 1 (by kernel_rfl) rfl (by kernel_rfl) (by kernel_rfl) rfl (writeAt_seg 8 ([vq4]) rfl (by simp [l_mq1, l_mq2]) (Rd.cells h_vq4) rfl (by kernel_rfl) (fun u hu => by simp only [List.mem_singleton] at hu; subst hu; exact h_vq4.oneCell) rfl) rfl ?_
  refine nx_list ?_
  refine nx_then ?_
  refine wc_seq ?_
  refine wc_region ?_
  refine wl_go 1 [(21, .pointer (some ⟨r1, 17, none⟩))] (by kernel_rfl) ?_
  refine wl_yl (d := 22) (v := c9) (by kernel_rfl) (yl_load (b := r1) (off := 17) 1 rfl (by kernel_rfl) rfl (readAt_seg1 9 rfl (by simp [l_mq1, l_mq2]) (by kernel_rfl))) ?_
  have hesq5 : ∀ r ∈ rows9, r.length = 22 := fR_rows9.length
  refine wl_callB (X := Value × List Blk × List (List Value)) (d := 23) (fun x => x.1) (fun wa y wz => Cl 134 (Im wq8 [⟨r2, zc35, 35⟩, ⟨r1, (List.flatten [[c0], [c1], mq1, [c3], mq2, [vq3], [c6], [c7], [vq4], [c9], [c10], [c11], [c12]]).toArray, 35⟩]) wa rows9 y.1 wz y.2.1 y.2.2) (by kernel_rfl) (by kernel_rfl) (fun w1 h1 => (clone_59 rows9 _ c9 w1 (h_c9.stays (h1.staysC (L0 := [⟨r2, zc35, 35⟩, ⟨r1, (List.flatten [[c0], [c1], mq1, [c3], mq2, [vq3], [c6], [c7], [c8], [c9], [c10], [c11], [c12]]).toArray, 35⟩]) rfl)) hesq5 b_rows9).mono (fun e w' ⟨v', R, rv, he, hc⟩ => ⟨(v', R, rv), he, hc⟩)) ?_
  rintro wq9 ⟨v1, Rq5, rvq5⟩ wq10 hsq5 hclq5
  obtain ⟨aq5, capq5, rfl⟩ : ∃ a cap, v1 = .slice a rows9.length cap := by obtain ⟨_, _, ⟨a, cap, h, _⟩, _⟩ := hclq5; exact ⟨a, cap, h⟩
  refine wl_eq (S := SH wq10 (([⟨r2, zc35, 35⟩, ⟨r1, (List.flatten [[c0], [c1], mq1, [c3], mq2, [vq3], [c6], [c7], [vq4], [c9], [c10], [c11], [c12]]).toArray, 35⟩] : List Blk) ++ Rq5)) (Cp.startSH hsq5 hclq5) ?_
  refine wl_go 1 [(24, .pointer (some ⟨r1, 17, none⟩))] (by kernel_rfl) ?_
  refine wl_store (b := r1) (off := 17) (v := .slice aq5 rows9.length capq5) (c' := (List.flatten [[c0], [c1], mq1, [c3], mq2, [vq3], [c6], [c7], [vq4], [.slice aq5 rows9.length capq5], [c10], [c11], [c12]]).toArray) (L' := (([⟨r2, zc35, 35⟩, ⟨r1, (List.flatten [[c0], [c1], mq1, [c3], mq2, [vq3], [c6], [c7], [vq4], [.slice aq5 rows9.length capq5], [c10], [c11], [c12]]).toArray, 35⟩] : List Blk) ++ Rq5)) 1 (by kernel_rfl) rfl (by kernel_rfl) (by kernel_rfl) rfl (writeAt_seg 9 ([.slice aq5 rows9.length capq5]) rfl (by simp [l_mq1, l_mq2]) rfl rfl (by kernel_rfl) (fun u hu => by simp only [List.mem_singleton] at hu; subst hu; rfl) rfl) rfl ?_
  refine nx_list ?_
  refine nx_then ?_
  refine wc_seq ?_
  refine wc_seq ?_
  refine wc_region ?_
  refine wl_go 1 [(25, .pointer (some ⟨r1, 17, none⟩))] (by kernel_rfl) ?_
  refine wl_yl (d := 26) (v := .slice aq5 rows9.length capq5) (by kernel_rfl) (yl_load (b := r1) (off := 17) 1 rfl (by kernel_rfl) rfl (readAt_seg1 9 rfl (by simp [l_mq1, l_mq2]) (by kernel_rfl))) ?_
  refine wl_go 2 [(28, .int .i64 0), (27, .int .i64 (rows9.length : Int))] (by kernel_rfl) ?_
  refine nx_list ?_
  refine nx_then ?_
  refine wc_block ?_
  refine wc_loop (σ := Cp 134 22 w wq8 [⟨r2, zc35, 35⟩, ⟨r1, (List.flatten [[c0], [c1], mq1, [c3], mq2, [vq3], [c6], [c7], [c8], [c9], [c10], [c11], [c12]]).toArray, 35⟩] rows9 aq5 [⟨r2, zc35, 35⟩, ⟨r1, (List.flatten [[c0], [c1], mq1, [c3], mq2, [vq3], [c6], [c7], [vq4], [.slice aq5 rows9.length capq5], [c10], [c11], [c12]]).toArray, 35⟩]) (fun x => [(1, .pointer (some ⟨r1, 0, none⟩)), (2, .pointer (some ⟨r2, 0, none⟩)), (27, .int .i64 (rows9.length : Int)), (28, .int .i64 (x.i : Int))]) (fun x => SH x.wb (([⟨r2, zc35, 35⟩, ⟨r1, (List.flatten [[c0], [c1], mq1, [c3], mq2, [vq3], [c6], [c7], [vq4], [.slice aq5 rows9.length capq5], [c10], [c11], [c12]]).toArray, 35⟩] : List Blk) ++ x.R)) (fun x => rows9.length - x.i) (fun w3 h3 => ⟨(Cp.start hbel (ge_cons hr2 (ge_cons hr1 (ge_nil _))) hsq5 hclq5 hesq5 [⟨r2, zc35, 35⟩, ⟨r1, (List.flatten [[c0], [c1], mq1, [c3], mq2, [vq3], [c6], [c7], [c8], [c9], [c10], [c11], [c12]]).toArray, 35⟩] rfl).cast rfl, h3, (subEnv_cons (by kernel_rfl) (subEnv_cons (by kernel_rfl) (subEnv_cons (by kernel_rfl) (subEnv_cons (by kernel_rfl) (subEnv_nil _)))))⟩) (fun x => ?_)
  refine wc_seq ?_
  refine wc_region ?_
  refine wl_go 1 [(29, .bool (decide ((x.i : Int) < (rows9.length : Int))))] (by kernel_rfl) ?_
  refine nx_list ?_
  refine nx_then ?_
  refine wc_seq ?_
  refine wc_cond (decide ((x.i : Int) < (rows9.length : Int))) (by kernel_rfl) (by kernel_rfl) (fun hcq5 => ?_) (fun hcq5 => ?_)
  · skip
    have hlt : x.i < rows9.length := by simpa using hcq5
    have hrl : rows9.length ≤ 140737488355328 := by have := b_rows9; omega
    obtain ⟨g, sp, r, v, rfl, hxR, hrow, hval, hrd⟩ := x.row hlt
    have hfr := fR_rows9.get x.i r hrow
    obtain ⟨u1, dq, rfl, hu1, hfq⟩ := FitL.split (ks := ([.str]) ++ (shSchema)) (ks' := []) hfr
    obtain ⟨dp, dm, rfl, hfp, hfm⟩ := FitL.split (ks := [.str]) (ks' := shSchema) hu1
    obtain ⟨uv, q, rfl, huv, h_q⟩ := RdL.split hrd
    obtain ⟨p, m, rfl, h_p, h_m⟩ := RdL.split huv
    have l_p : p.length = 1 := h_p.length.symm.trans hfp.length
    have l_m : m.length = 21 := h_m.length.symm.trans hfm.length
    have hbp := bare_of_fit hfp (by simp)
    have hbq := bare_of_fit hfq (by simp)
    have hszm : szL dm < szR rows9 := by have := szR_get hrow; rw [szL_append, szL_append] at this; omega
    rw [hxR]
    refine nx_skip ?_
    refine nx_then ?_
    refine wc_seq ?_
    refine wc_block ?_
    refine wc_seq ?_
    refine wc_region ?_
    refine wl_go 2 [(3, .int .i64 (x.i : Int)), (30, .int .i64 (x.i : Int))] (by kernel_rfl) ?_
    refine nx_list ?_
    refine nx_then ?_
    refine wc_draw 12 (SH x.wb [⟨r2, zc35, 35⟩, ⟨r1, (List.flatten [[c0], [c1], mq1, [c3], mq2, [vq3], [c6], [c7], [vq4], [.slice (some ⟨g, 0, none⟩) rows9.length capq5], [c10], [c11], [c12]]).toArray, 35⟩, ⟨g, ((x.rv.flatten ++ sp).toArray), 134⟩]) rfl (by decide) (fun w h => SH.drew h) ?_
    refine wd_go [0] [(31, .pointer (some ⟨r1, 17, none⟩))] #[true, false, false, false, false, false, false, false, false, false, false, false, false] (f := 11) rfl (by kernel_rfl) (fun w h => h) ?_
    refine wd_yl 1 (d := 32) (v := .slice (some ⟨g, 0, none⟩) rows9.length capq5) (f := 10) rfl (by kernel_rfl) (by kernel_rfl) (fun w h => h) (yl_load (b := r1) (off := 17) 1 rfl (by kernel_rfl) rfl (readAt_seg1 9 rfl (by simp [l_mq1, l_mq2]) (by kernel_rfl))) ?_
    refine wd_go [2, 3] [(34, .pointer (some ⟨r1, 17, none⟩)), (33, .int .i64 (x.i : Int))] #[true, true, true, true, false, false, false, false, false, false, false, false, false] (f := 8) rfl (by kernel_rfl) (fun w h => h) ?_
    refine wd_yl 4 (d := 35) (v := .slice (some ⟨g, 0, none⟩) rows9.length capq5) (f := 7) rfl (by kernel_rfl) (by kernel_rfl) (fun w h => h) (yl_load (b := r1) (off := 17) 1 rfl (by kernel_rfl) rfl (readAt_seg1 9 rfl (by simp [l_mq1, l_mq2]) (by kernel_rfl))) ?_
    refine wd_go [5] [(36, .int .i64 (x.i : Int))] #[true, true, true, true, true, true, false, false, false, false, false, false, false] (f := 6) rfl (by kernel_rfl) (fun w h => h) ?_
    refine wd_yl 6 (d := 37) (v := .pointer (some ⟨g, 0 + x.i * 22, none⟩)) (f := 5) rfl (by kernel_rfl) (by kernel_rfl) (fun w h => h) (yl_index (E := 134) (b := g) (off := 0) (len := rows9.length) (cap := capq5) (k := x.i) (es := 22) rfl (by kernel_rfl) (by kernel_rfl) (by kernel_rfl) (by omega)) ?_
    refine wd_go [7] [(38, .pointer (some ⟨g, 0 + x.i * 22 + 1, none⟩))] #[true, true, true, true, true, true, true, true, false, false, false, false, false] (f := 4) rfl (by kernel_rfl) (fun w h => h) ?_
    refine wd_yl 8 (d := 39) (v := .agg (m).toArray) (f := 3) rfl (by kernel_rfl) (by kernel_rfl) (fun w h => h) (yl_load (b := g) (off := 0 + x.i * 22 + 1) 2 rfl (by kernel_rfl) rfl (readAt_row x.hlen hval (by simp [l_p]) (by rw [l_m]; kernel_rfl))) ?_
    refine wd_callB 9 (X := List Value) (d := 40) (fu := 2) (fun x => .agg x.toArray) (fun wa y wz => RdL (fun k => wa.heap.size ≤ k) wz dm y ∧ Below wa.heap.size wa wz) rfl (by decide) (by kernel_rfl) (by kernel_rfl) (by kernel_rfl) (fun w1 h1 => ih dm (by simp only [szL, szL_append, D.sz]; omega) hfm w1 _ m ((show RdL (Im x.wb [⟨r2, zc35, 35⟩, ⟨r1, (List.flatten [[c0], [c1], mq1, [c3], mq2, [vq3], [c6], [c7], [vq4], [.slice (some ⟨g, 0, none⟩) rows9.length capq5], [c10], [c11], [c12]]).toArray, 35⟩, ⟨g, ((x.rv.flatten ++ sp).toArray), 134⟩]) x.wb dm m from by rw [← hxR]; exact h_m).stays h1.stays)) ?_
    rintro wq11 mq6 wq12 hin ⟨hmin, hbin⟩
    have h_mq6 := hmin
    have l_mq6 : mq6.length = 21 := hmin.length.symm.trans hfm.length
    have hin' := hin
    rw [← hxR] at hin
    refine ⟨hin'.keep hbin, ?_⟩
    refine wd_eq (T := SH wq12 [⟨r2, zc35, 35⟩, ⟨r1, (List.flatten [[c0], [c1], mq1, [c3], mq2, [vq3], [c6], [c7], [vq4], [.slice (some ⟨g, 0, none⟩) rows9.length capq5], [c10], [c11], [c12]]).toArray, 35⟩, ⟨g, ((x.rv.flatten ++ sp).toArray), 134⟩]) (hin'.after hbin) ?_
    refine wd_yl 10 (d := 41) (v := .pointer (some ⟨g, 0 + x.i * 22, none⟩)) (f := 1) rfl (by kernel_rfl) (by kernel_rfl) (fun w h => (hin'.keep hbin).trans h) (yl_index (E := 134) (b := g) (off := 0) (len := rows9.length) (cap := capq5) (k := x.i) (es := 22) rfl (by kernel_rfl) (by kernel_rfl) (by kernel_rfl) (by omega)) ?_
    refine wd_go [11] [(42, .pointer (some ⟨g, 0 + x.i * 22 + 1, none⟩))] #[true, true, true, true, true, true, true, true, true, true, true, true, false] (f := 0) rfl (by kernel_rfl) (fun w h => (hin'.keep hbin).trans h) ?_
    refine wd_done (by kernel_rfl) ?_
    refine wl_store (b := g) (off := 0 + x.i * 22 + 1) (v := .agg (mq6).toArray) (c' := ((x.rv.set x.i (p ++ mq6 ++ q)).flatten ++ sp).toArray) (L' := [⟨r2, zc35, 35⟩, ⟨r1, (List.flatten [[c0], [c1], mq1, [c3], mq2, [vq3], [c6], [c7], [vq4], [.slice (some ⟨g, 0, none⟩) rows9.length capq5], [c10], [c11], [c12]]).toArray, 35⟩, ⟨g, (((x.rv.set x.i (p ++ mq6 ++ q)).flatten ++ sp).toArray), 134⟩]) 2 (by kernel_rfl) rfl (by kernel_rfl) (by kernel_rfl) rfl (writeAt_row mq6 x.hlen hval (by simp [l_p]) rfl (by rw [l_mq6, l_m]) (by rw [l_mq6]; kernel_rfl) (RdL.oneCell h_mq6)) rfl ?_
    refine nx_list ?_
    refine nx_on ?_
    refine nx_block ?_
    refine nx_then ?_
    refine wc_region ?_
    refine wl_yl (d := 43) (v := .int .i64 ((x.i : Int) + 1)) (by kernel_rfl) (yl_int (t := (x.i : Int) + 1) (r := (x.i : Int) + 1) (by kernel_rfl) (i64w (by omega) (by omega))) ?_
    refine wl_go 1 [(28, .int .i64 ((x.i : Int) + 1))] (by kernel_rfl) ?_
    refine nx_list ?_
    refine nx_round (y := x.next (m' := mq6) hlt hrow hval hxR h_p h_q hbp hbq (by rw [l_m, l_mq6]) hin hbin hmin) (show rows9.length - (x.i + 1) < rows9.length - x.i by omega) (subEnv_cons (by kernel_rfl) (subEnv_cons (by kernel_rfl) (subEnv_cons (by kernel_rfl) (subEnv_cons (by kernel_rfl) (subEnv_nil _))))) (fun w h => h)
  · skip
    have hge : rows9.length ≤ x.i := by simpa using hcq5
    refine wc_open (fun wq13 h9 => ?_)
    have h_sq7 := x.done hge h9 capq5
    have hT := (x.htr.trans h9.trDrop)
    have h_c2 := h_c2.stays hT.stays
    have h_c4 := h_c4.stays hT.stays
    have h_c5 := h_c5.stays hT.stays
    have h_c8 := h_c8.stays hT.stays
    have h_c9 := h_c9.stays hT.stays
    have h_c11 := h_c11.stays hT.stays
    have h_mq1 := h_mq1.stays hT.staysN
    have h_mq2 := h_mq2.stays hT.staysN
    have h_vq3 := h_vq3.stays hT.staysN
    have h_vq4 := h_vq4.stays hT.staysN
    have hbel := h9.below x.hbel x.hbel.size x.hL
    refine wc_eq (S := SH wq13 [⟨r2, zc35, 35⟩, ⟨r1, (List.flatten [[c0], [c1], mq1, [c3], mq2, [vq3], [c6], [c7], [vq4], [.slice aq5 rows9.length capq5], [c10], [c11], [c12]]).toArray, 35⟩]) h9.drop ?_
    refine nx_exit ?_
    refine nx_then_exit ?_
    refine nx_then_exit ?_
    refine nx_block_here ?_
    refine nx_then ?_
    refine wc_seq ?_
    refine wc_region ?_
    refine wl_go 1 [(44, .pointer (some ⟨r1, 19, none⟩))] (by kernel_rfl) ?_
    refine wl_yl (d := 45) (v := c11) (by kernel_rfl) (yl_load (b := r1) (off := 19) 1 rfl (by kernel_rfl) rfl (readAt_seg1 11 rfl (by simp [l_mq1, l_mq2]) (by kernel_rfl))) ?_
    have hesq8 : ∀ r ∈ rows11, r.length = 21 := fR_rows11.length
    refine wl_callB (X := Value × List Blk × List (List Value)) (d := 46) (fun x => x.1) (fun wa y wz => Cl 35 (Im wq13 [⟨r2, zc35, 35⟩, ⟨r1, (List.flatten [[c0], [c1], mq1, [c3], mq2, [vq3], [c6], [c7], [vq4], [.slice aq5 rows9.length capq5], [c10], [c11], [c12]]).toArray, 35⟩]) wa rows11 y.1 wz y.2.1 y.2.2) (by kernel_rfl) (by kernel_rfl) (fun w1 h1 => (clone_60 rows11 _ c11 w1 (h_c11.stays (h1.staysC (L0 := [⟨r2, zc35, 35⟩, ⟨r1, (List.flatten [[c0], [c1], mq1, [c3], mq2, [vq3], [c6], [c7], [vq4], [.slice aq5 rows9.length capq5], [c10], [c11], [c12]]).toArray, 35⟩]) rfl)) hesq8 b_rows11).mono (fun e w' ⟨v', R, rv, he, hc⟩ => ⟨(v', R, rv), he, hc⟩)) ?_
    rintro wq14 ⟨v1, Rq8, rvq8⟩ wq15 hsq8 hclq8
    obtain ⟨aq8, capq8, rfl⟩ : ∃ a cap, v1 = .slice a rows11.length cap := by obtain ⟨_, _, ⟨a, cap, h, _⟩, _⟩ := hclq8; exact ⟨a, cap, h⟩
    refine wl_eq (S := SH wq15 (([⟨r2, zc35, 35⟩, ⟨r1, (List.flatten [[c0], [c1], mq1, [c3], mq2, [vq3], [c6], [c7], [vq4], [.slice aq5 rows9.length capq5], [c10], [c11], [c12]]).toArray, 35⟩] : List Blk) ++ Rq8)) (Cp.startSH hsq8 hclq8) ?_
    refine wl_go 1 [(47, .pointer (some ⟨r1, 19, none⟩))] (by kernel_rfl) ?_
    refine wl_store (b := r1) (off := 19) (v := .slice aq8 rows11.length capq8) (c' := (List.flatten [[c0], [c1], mq1, [c3], mq2, [vq3], [c6], [c7], [vq4], [.slice aq5 rows9.length capq5], [c10], [.slice aq8 rows11.length capq8], [c12]]).toArray) (L' := (([⟨r2, zc35, 35⟩, ⟨r1, (List.flatten [[c0], [c1], mq1, [c3], mq2, [vq3], [c6], [c7], [vq4], [.slice aq5 rows9.length capq5], [c10], [.slice aq8 rows11.length capq8], [c12]]).toArray, 35⟩] : List Blk) ++ Rq8)) 1 (by kernel_rfl) rfl (by kernel_rfl) (by kernel_rfl) rfl (writeAt_seg 11 ([.slice aq8 rows11.length capq8]) rfl (by simp [l_mq1, l_mq2]) rfl rfl (by kernel_rfl) (fun u hu => by simp only [List.mem_singleton] at hu; subst hu; rfl) rfl) rfl ?_
    refine nx_list ?_
    refine nx_then ?_
    refine wc_seq ?_
    refine wc_seq ?_
    refine wc_region ?_
    refine wl_go 1 [(48, .pointer (some ⟨r1, 19, none⟩))] (by kernel_rfl) ?_
    refine wl_yl (d := 49) (v := .slice aq8 rows11.length capq8) (by kernel_rfl) (yl_load (b := r1) (off := 19) 1 rfl (by kernel_rfl) rfl (readAt_seg1 11 rfl (by simp [l_mq1, l_mq2]) (by kernel_rfl))) ?_
    refine wl_go 2 [(51, .int .i64 0), (50, .int .i64 (rows11.length : Int))] (by kernel_rfl) ?_
    refine nx_list ?_
    refine nx_then ?_
    refine wc_block ?_
    refine wc_loop (σ := Cp 35 21 w wq13 [⟨r2, zc35, 35⟩, ⟨r1, (List.flatten [[c0], [c1], mq1, [c3], mq2, [vq3], [c6], [c7], [vq4], [.slice aq5 rows9.length capq5], [c10], [c11], [c12]]).toArray, 35⟩] rows11 aq8 [⟨r2, zc35, 35⟩, ⟨r1, (List.flatten [[c0], [c1], mq1, [c3], mq2, [vq3], [c6], [c7], [vq4], [.slice aq5 rows9.length capq5], [c10], [.slice aq8 rows11.length capq8], [c12]]).toArray, 35⟩]) (fun x => [(1, .pointer (some ⟨r1, 0, none⟩)), (2, .pointer (some ⟨r2, 0, none⟩)), (50, .int .i64 (rows11.length : Int)), (51, .int .i64 (x.i : Int))]) (fun x => SH x.wb (([⟨r2, zc35, 35⟩, ⟨r1, (List.flatten [[c0], [c1], mq1, [c3], mq2, [vq3], [c6], [c7], [vq4], [.slice aq5 rows9.length capq5], [c10], [.slice aq8 rows11.length capq8], [c12]]).toArray, 35⟩] : List Blk) ++ x.R)) (fun x => rows11.length - x.i) (fun w3 h3 => ⟨(Cp.start hbel (ge_cons hr2 (ge_cons hr1 (ge_nil _))) hsq8 hclq8 hesq8 [⟨r2, zc35, 35⟩, ⟨r1, (List.flatten [[c0], [c1], mq1, [c3], mq2, [vq3], [c6], [c7], [vq4], [.slice aq5 rows9.length capq5], [c10], [c11], [c12]]).toArray, 35⟩] rfl).cast rfl, h3, (subEnv_cons (by kernel_rfl) (subEnv_cons (by kernel_rfl) (subEnv_cons (by kernel_rfl) (subEnv_cons (by kernel_rfl) (subEnv_nil _)))))⟩) (fun x => ?_)
    refine wc_seq ?_
    refine wc_region ?_
    refine wl_go 1 [(52, .bool (decide ((x.i : Int) < (rows11.length : Int))))] (by kernel_rfl) ?_
    refine nx_list ?_
    refine nx_then ?_
    refine wc_seq ?_
    refine wc_cond (decide ((x.i : Int) < (rows11.length : Int))) (by kernel_rfl) (by kernel_rfl) (fun hcq8 => ?_) (fun hcq8 => ?_)
    · skip
      have hlt : x.i < rows11.length := by simpa using hcq8
      have hrl : rows11.length ≤ 140737488355328 := by have := b_rows11; omega
      obtain ⟨g, sp, r, v, rfl, hxR, hrow, hval, hrd⟩ := x.row hlt
      have hfr := fR_rows11.get x.i r hrow
      obtain ⟨u1, dq, rfl, hu1, hfq⟩ := FitL.split (ks := ([]) ++ (shSchema)) (ks' := []) hfr
      obtain ⟨dp, dm, rfl, hfp, hfm⟩ := FitL.split (ks := []) (ks' := shSchema) hu1
      obtain ⟨uv, q, rfl, huv, h_q⟩ := RdL.split hrd
      obtain ⟨p, m, rfl, h_p, h_m⟩ := RdL.split huv
      have l_p : p.length = 0 := h_p.length.symm.trans hfp.length
      have l_m : m.length = 21 := h_m.length.symm.trans hfm.length
      have hbp := bare_of_fit hfp (by simp)
      have hbq := bare_of_fit hfq (by simp)
      have hszm : szL dm < szR rows11 := by have := szR_get hrow; rw [szL_append, szL_append] at this; omega
      rw [hxR]
      refine nx_skip ?_
      refine nx_then ?_
      refine wc_seq ?_
      refine wc_block ?_
      refine wc_seq ?_
      refine wc_region ?_
      refine wl_go 2 [(4, .int .i64 (x.i : Int)), (53, .int .i64 (x.i : Int))] (by kernel_rfl) ?_
      refine nx_list ?_
      refine nx_then ?_
      refine wc_draw 10 (SH x.wb [⟨r2, zc35, 35⟩, ⟨r1, (List.flatten [[c0], [c1], mq1, [c3], mq2, [vq3], [c6], [c7], [vq4], [.slice aq5 rows9.length capq5], [c10], [.slice (some ⟨g, 0, none⟩) rows11.length capq8], [c12]]).toArray, 35⟩, ⟨g, ((x.rv.flatten ++ sp).toArray), 35⟩]) rfl (by decide) (fun w h => SH.drew h) ?_
      refine wd_go [0] [(54, .pointer (some ⟨r1, 19, none⟩))] #[true, false, false, false, false, false, false, false, false, false, false] (f := 9) rfl (by kernel_rfl) (fun w h => h) ?_
      refine wd_yl 1 (d := 55) (v := .slice (some ⟨g, 0, none⟩) rows11.length capq8) (f := 8) rfl (by kernel_rfl) (by kernel_rfl) (fun w h => h) (yl_load (b := r1) (off := 19) 1 rfl (by kernel_rfl) rfl (readAt_seg1 11 rfl (by simp [l_mq1, l_mq2]) (by kernel_rfl))) ?_
      refine wd_go [2, 3] [(57, .pointer (some ⟨r1, 19, none⟩)), (56, .int .i64 (x.i : Int))] #[true, true, true, true, false, false, false, false, false, false, false] (f := 6) rfl (by kernel_rfl) (fun w h => h) ?_
      refine wd_yl 4 (d := 58) (v := .slice (some ⟨g, 0, none⟩) rows11.length capq8) (f := 5) rfl (by kernel_rfl) (by kernel_rfl) (fun w h => h) (yl_load (b := r1) (off := 19) 1 rfl (by kernel_rfl) rfl (readAt_seg1 11 rfl (by simp [l_mq1, l_mq2]) (by kernel_rfl))) ?_
      refine wd_go [5] [(59, .int .i64 (x.i : Int))] #[true, true, true, true, true, true, false, false, false, false, false] (f := 4) rfl (by kernel_rfl) (fun w h => h) ?_
      refine wd_yl 6 (d := 60) (v := .pointer (some ⟨g, 0 + x.i * 21, none⟩)) (f := 3) rfl (by kernel_rfl) (by kernel_rfl) (fun w h => h) (yl_index (E := 35) (b := g) (off := 0) (len := rows11.length) (cap := capq8) (k := x.i) (es := 21) rfl (by kernel_rfl) (by kernel_rfl) (by kernel_rfl) (by omega)) ?_
      refine wd_yl 7 (d := 61) (v := .agg (m).toArray) (f := 2) rfl (by kernel_rfl) (by kernel_rfl) (fun w h => h) (yl_load (b := g) (off := 0 + x.i * 21) 2 rfl (by kernel_rfl) rfl (readAt_row x.hlen hval (by simp [l_p]) (by rw [l_m]; kernel_rfl))) ?_
      refine wd_callB 8 (X := List Value) (d := 62) (fu := 1) (fun x => .agg x.toArray) (fun wa y wz => RdL (fun k => wa.heap.size ≤ k) wz dm y ∧ Below wa.heap.size wa wz) rfl (by decide) (by kernel_rfl) (by kernel_rfl) (by kernel_rfl) (fun w1 h1 => ih dm (by simp only [szL, szL_append, D.sz]; omega) hfm w1 _ m ((show RdL (Im x.wb [⟨r2, zc35, 35⟩, ⟨r1, (List.flatten [[c0], [c1], mq1, [c3], mq2, [vq3], [c6], [c7], [vq4], [.slice aq5 rows9.length capq5], [c10], [.slice (some ⟨g, 0, none⟩) rows11.length capq8], [c12]]).toArray, 35⟩, ⟨g, ((x.rv.flatten ++ sp).toArray), 35⟩]) x.wb dm m from by rw [← hxR]; exact h_m).stays h1.stays)) ?_
      rintro wq16 mq9 wq17 hin ⟨hmin, hbin⟩
      have h_mq9 := hmin
      have l_mq9 : mq9.length = 21 := hmin.length.symm.trans hfm.length
      have hin' := hin
      rw [← hxR] at hin
      refine ⟨hin'.keep hbin, ?_⟩
      refine wd_eq (T := SH wq17 [⟨r2, zc35, 35⟩, ⟨r1, (List.flatten [[c0], [c1], mq1, [c3], mq2, [vq3], [c6], [c7], [vq4], [.slice aq5 rows9.length capq5], [c10], [.slice (some ⟨g, 0, none⟩) rows11.length capq8], [c12]]).toArray, 35⟩, ⟨g, ((x.rv.flatten ++ sp).toArray), 35⟩]) (hin'.after hbin) ?_
      refine wd_yl 9 (d := 63) (v := .pointer (some ⟨g, 0 + x.i * 21, none⟩)) (f := 0) rfl (by kernel_rfl) (by kernel_rfl) (fun w h => (hin'.keep hbin).trans h) (yl_index (E := 35) (b := g) (off := 0) (len := rows11.length) (cap := capq8) (k := x.i) (es := 21) rfl (by kernel_rfl) (by kernel_rfl) (by kernel_rfl) (by omega)) ?_
      refine wd_done (by kernel_rfl) ?_
      refine wl_store (b := g) (off := 0 + x.i * 21) (v := .agg (mq9).toArray) (c' := ((x.rv.set x.i (p ++ mq9 ++ q)).flatten ++ sp).toArray) (L' := [⟨r2, zc35, 35⟩, ⟨r1, (List.flatten [[c0], [c1], mq1, [c3], mq2, [vq3], [c6], [c7], [vq4], [.slice aq5 rows9.length capq5], [c10], [.slice (some ⟨g, 0, none⟩) rows11.length capq8], [c12]]).toArray, 35⟩, ⟨g, (((x.rv.set x.i (p ++ mq9 ++ q)).flatten ++ sp).toArray), 35⟩]) 2 (by kernel_rfl) rfl (by kernel_rfl) (by kernel_rfl) rfl (writeAt_row mq9 x.hlen hval (by simp [l_p]) rfl (by rw [l_mq9, l_m]) (by rw [l_mq9]; kernel_rfl) (RdL.oneCell h_mq9)) rfl ?_
      refine nx_list ?_
      refine nx_on ?_
      refine nx_block ?_
      refine nx_then ?_
      refine wc_region ?_
      refine wl_yl (d := 64) (v := .int .i64 ((x.i : Int) + 1)) (by kernel_rfl) (yl_int (t := (x.i : Int) + 1) (r := (x.i : Int) + 1) (by kernel_rfl) (i64w (by omega) (by omega))) ?_
      refine wl_go 1 [(51, .int .i64 ((x.i : Int) + 1))] (by kernel_rfl) ?_
      refine nx_list ?_
      refine nx_round (y := x.next (m' := mq9) hlt hrow hval hxR h_p h_q hbp hbq (by rw [l_m, l_mq9]) hin hbin hmin) (show rows11.length - (x.i + 1) < rows11.length - x.i by omega) (subEnv_cons (by kernel_rfl) (subEnv_cons (by kernel_rfl) (subEnv_cons (by kernel_rfl) (subEnv_cons (by kernel_rfl) (subEnv_nil _))))) (fun w h => h)
    · skip
      have hge : rows11.length ≤ x.i := by simpa using hcq8
      refine wc_open (fun wq18 h9 => ?_)
      have h_sq10 := x.done hge h9 capq8
      have hT := (x.htr.trans h9.trDrop)
      have h_c2 := h_c2.stays hT.stays
      have h_c4 := h_c4.stays hT.stays
      have h_c5 := h_c5.stays hT.stays
      have h_c8 := h_c8.stays hT.stays
      have h_c9 := h_c9.stays hT.stays
      have h_c11 := h_c11.stays hT.stays
      have h_mq1 := h_mq1.stays hT.staysN
      have h_mq2 := h_mq2.stays hT.staysN
      have h_vq3 := h_vq3.stays hT.staysN
      have h_vq4 := h_vq4.stays hT.staysN
      have h_sq7 := h_sq7.stays hT.staysN
      have hbel := h9.below x.hbel x.hbel.size x.hL
      refine wc_eq (S := SH wq18 [⟨r2, zc35, 35⟩, ⟨r1, (List.flatten [[c0], [c1], mq1, [c3], mq2, [vq3], [c6], [c7], [vq4], [.slice aq5 rows9.length capq5], [c10], [.slice aq8 rows11.length capq8], [c12]]).toArray, 35⟩]) h9.drop ?_
      refine nx_exit ?_
      refine nx_then_exit ?_
      refine nx_then_exit ?_
      refine nx_block_here ?_
      refine nx_then ?_
      refine wc_seq ?_
      refine wc_region ?_
      refine wl_yl (d := 65) (v := .agg (List.flatten [[c0], [c1], mq1, [c3], mq2, [vq3], [c6], [c7], [vq4], [.slice aq5 rows9.length capq5], [c10], [.slice aq8 rows11.length capq8], [c12]]).toArray) (by kernel_rfl) (yl_load (b := r1) (off := 0) 1 rfl (by kernel_rfl) rfl (readAt_all (by rw [show (List.flatten [[c0], [c1], mq1, [c3], mq2, [vq3], [c6], [c7], [vq4], [.slice aq5 rows9.length capq5], [c10], [.slice aq8 rows11.length capq8], [c12]]).length = 21 from by simp [l_mq1, l_mq2]]; kernel_rfl))) ?_
      refine wl_store (b := r2) (off := 0) (v := .agg (List.flatten [[c0], [c1], mq1, [c3], mq2, [vq3], [c6], [c7], [vq4], [.slice aq5 rows9.length capq5], [c10], [.slice aq8 rows11.length capq8], [c12]]).toArray) (c' := (List.flatten [[c0], [c1], mq1, [c3], mq2, [vq3], [c6], [c7], [vq4], [.slice aq5 rows9.length capq5], [c10], [.slice aq8 rows11.length capq8], [c12]]).toArray) (L' := [⟨r2, (List.flatten [[c0], [c1], mq1, [c3], mq2, [vq3], [c6], [c7], [vq4], [.slice aq5 rows9.length capq5], [c10], [.slice aq8 rows11.length capq8], [c12]]).toArray, 35⟩, ⟨r1, (List.flatten [[c0], [c1], mq1, [c3], mq2, [vq3], [c6], [c7], [vq4], [.slice aq5 rows9.length capq5], [c10], [.slice aq8 rows11.length capq8], [c12]]).toArray, 35⟩]) 0 (by kernel_rfl) rfl (by kernel_rfl) (by kernel_rfl) rfl (writeAt_all (by rw [show (List.flatten [[c0], [c1], mq1, [c3], mq2, [vq3], [c6], [c7], [vq4], [.slice aq5 rows9.length capq5], [c10], [.slice aq8 rows11.length capq8], [c12]]).length = 21 from by simp [l_mq1, l_mq2]]; kernel_rfl) (by rw [show (List.flatten [[c0], [c1], mq1, [c3], mq2, [vq3], [c6], [c7], [vq4], [.slice aq5 rows9.length capq5], [c10], [.slice aq8 rows11.length capq8], [c12]]).length = 21 from by simp [l_mq1, l_mq2]]; kernel_rfl) (oc_cons (fun u hu => by simp only [List.mem_singleton] at hu; subst hu; exact h_c0.oneCell) (oc_cons (fun u hu => by simp only [List.mem_singleton] at hu; subst hu; exact h_c1.oneCell) (oc_cons (RdL.oneCell h_mq1) (oc_cons (fun u hu => by simp only [List.mem_singleton] at hu; subst hu; exact h_c3.oneCell) (oc_cons (RdL.oneCell h_mq2) (oc_cons (fun u hu => by simp only [List.mem_singleton] at hu; subst hu; exact h_vq3.oneCell) (oc_cons (fun u hu => by simp only [List.mem_singleton] at hu; subst hu; exact h_c6.oneCell) (oc_cons (fun u hu => by simp only [List.mem_singleton] at hu; subst hu; exact h_c7.oneCell) (oc_cons (fun u hu => by simp only [List.mem_singleton] at hu; subst hu; exact h_vq4.oneCell) (oc_cons (fun u hu => by simp only [List.mem_singleton] at hu; subst hu; rfl) (oc_cons (fun u hu => by simp only [List.mem_singleton] at hu; subst hu; exact h_c10.oneCell) (oc_cons (fun u hu => by simp only [List.mem_singleton] at hu; subst hu; rfl) (oc_cons (fun u hu => by simp only [List.mem_singleton] at hu; subst hu; exact h_c12.oneCell) oc_nil)))))))))))))) rfl ?_
      refine nx_list ?_
      refine nx_then ?_
      refine nx_ret ?_
      refine ret_cell (v := .agg (List.flatten [[c0], [c1], mq1, [c3], mq2, [vq3], [c6], [c7], [vq4], [.slice aq5 rows9.length capq5], [c10], [.slice aq8 rows11.length capq8], [c12]]).toArray) (b := r2) (off := 0) 0 rfl (by kernel_rfl) rfl (readAt_all (by rw [show (List.flatten [[c0], [c1], mq1, [c3], mq2, [vq3], [c6], [c7], [vq4], [.slice aq5 rows9.length capq5], [c10], [.slice aq8 rows11.length capq8], [c12]]).length = 21 from by simp [l_mq1, l_mq2]]; kernel_rfl)) ?_
      intro w' hw'
      refine ⟨_, rfl, ?_, hw'.below hbel hbel.size (ge_cons hr2 (ge_cons hr1 (ge_nil _)))⟩
      rw [show (List.flatten [[c0], [c1], mq1, [c3], mq2, [vq3], [c6], [c7], [vq4], [.slice aq5 rows9.length capq5], [c10], [.slice aq8 rows11.length capq8], [c12]] : List Value) = (c0) :: ((c1) :: (mq1 ++ ((c3) :: (mq2 ++ ((vq3) :: ((c6) :: ((c7) :: ((vq4) :: ((.slice aq5 rows9.length capq5) :: ((c10) :: ((.slice aq8 rows11.length capq8) :: ((c12) :: ([]))))))))))))) from by simp]
      exact RdL.mk (h_c0.bare rfl) (RdL.mk (h_c1.bare rfl) (RdL.append (h_mq1.stays (hw'.staysN (L0 := [⟨r2, zc35, 35⟩, ⟨r1, (List.flatten [[c0], [c1], mq1, [c3], mq2, [vq3], [c6], [c7], [vq4], [.slice aq5 rows9.length capq5], [c10], [.slice aq8 rows11.length capq8], [c12]]).toArray, 35⟩]) rfl)) (RdL.mk (h_c3.bare rfl) (RdL.append (h_mq2.stays (hw'.staysN (L0 := [⟨r2, zc35, 35⟩, ⟨r1, (List.flatten [[c0], [c1], mq1, [c3], mq2, [vq3], [c6], [c7], [vq4], [.slice aq5 rows9.length capq5], [c10], [.slice aq8 rows11.length capq8], [c12]]).toArray, 35⟩]) rfl)) (RdL.mk (h_vq3.stays (hw'.staysN (L0 := [⟨r2, zc35, 35⟩, ⟨r1, (List.flatten [[c0], [c1], mq1, [c3], mq2, [vq3], [c6], [c7], [vq4], [.slice aq5 rows9.length capq5], [c10], [.slice aq8 rows11.length capq8], [c12]]).toArray, 35⟩]) rfl)) (RdL.mk (h_c6.bare rfl) (RdL.mk (h_c7.bare rfl) (RdL.mk (h_vq4.stays (hw'.staysN (L0 := [⟨r2, zc35, 35⟩, ⟨r1, (List.flatten [[c0], [c1], mq1, [c3], mq2, [vq3], [c6], [c7], [vq4], [.slice aq5 rows9.length capq5], [c10], [.slice aq8 rows11.length capq8], [c12]]).toArray, 35⟩]) rfl)) (RdL.mk (h_sq7.stays (hw'.staysN (L0 := [⟨r2, zc35, 35⟩, ⟨r1, (List.flatten [[c0], [c1], mq1, [c3], mq2, [vq3], [c6], [c7], [vq4], [.slice aq5 rows9.length capq5], [c10], [.slice aq8 rows11.length capq8], [c12]]).toArray, 35⟩]) rfl)) (RdL.mk (h_c10.bare rfl) (RdL.mk (h_sq10.stays (hw'.staysN (L0 := [⟨r2, zc35, 35⟩, ⟨r1, (List.flatten [[c0], [c1], mq1, [c3], mq2, [vq3], [c6], [c7], [vq4], [.slice aq5 rows9.length capq5], [c10], [.slice aq8 rows11.length capq8], [c12]]).toArray, 35⟩]) rfl)) (RdL.mk (h_c12.bare rfl) (RdL.none)))))))))))))

theorem copySchema_all (ds : List D) (hfit : FitL sh by_ ds shSchema) : CopyS Try.prog 53 ds := by
  have key : ∀ (m : Nat) (ds : List D), szL ds < m → FitL sh by_ ds shSchema → CopyS Try.prog 53 ds := by
    intro m
    induction m with
    | zero => intro ds h; omega
    | succ m ih => intro ds h hf; exact copySchema_step ds hf (fun r hr hfr => ih r (by omega) hfr)
  exact key _ ds (Nat.lt_succ_self _) hfit

theorem copySpace_step (ds : List D) (hfit : FitL sh by_ ds shSpace) : CopyS Try.prog 45 ds := by
  intro w S cs hrdS
  have hrd := hrdS.im
  have hbel := Below.refl w.heap.size w
  obtain ⟨d0, e0, rfl, hf0, hft0⟩ := FitL.cons (k := .str) (ks := [.sl 8] ++ shSchema ++ [.int] ++ [.int]) hfit
  obtain ⟨n0, rfl, _⟩ := Fit.str hf0
  obtain ⟨d1, e1, rfl, hf1, hft1⟩ := FitL.cons (k := .sl 8) (ks := shSchema ++ [.int] ++ [.int]) hft0
  obtain ⟨rows1, rfl, b_rows1, fR_rows1⟩ := Fit.sl hf1
  have b_rows1 : rows1.length * 456 ≤ 140737488355328 := b_rows1
  obtain ⟨d2, e2, rfl, hf2, hft2⟩ := FitL.split (ks := shSchema) (ks' := [.int] ++ [.int]) hft1
  obtain ⟨d3, e3, rfl, hf3, hft3⟩ := FitL.cons (k := .int) (ks := [.int]) hft2
  obtain ⟨n3, rfl, _⟩ := Fit.int hf3
  obtain ⟨d4, e4, rfl, hf4, hft4⟩ := FitL.cons (k := .int) (ks := []) hft3
  obtain ⟨n4, rfl, _⟩ := Fit.int hf4
  obtain rfl := FitL.nil hft4
  obtain ⟨c0, z0, rfl, h_c0, hrd0⟩ := RdL.cons hrd
  obtain ⟨c1, z1, rfl, h_c1, hrd1⟩ := RdL.cons hrd0
  obtain ⟨c2, z2, rfl, h_c2, hrd2⟩ := RdL.split hrd1
  have l_c2 : c2.length = 21 := h_c2.length.symm.trans hf2.length
  obtain ⟨c3, z3, rfl, h_c3, hrd3⟩ := RdL.cons hrd2
  obtain ⟨c4, z4, rfl, h_c4, hrd4⟩ := RdL.cons hrd3
  obtain rfl := RdL.nil hrd4
  rw [show c0 :: (c1 :: (c2 ++ (c3 :: (c4 :: ([]))))) = List.flatten [[c0], [c1], c2, [c3], [c4]] from by simp]
  refine Sx.enter (l := [.agg (List.flatten [[c0], [c1], c2, [c3], [c4]]).toArray]) Try.func45 rfl (n := 30) rfl (by simp) ?_
  refine wc_eq (S := SH w []) (SH.refl _) ?_
  refine wc_seq ?_
  refine wc_region ?_
  refine wl_new (d := 1) (List.flatten [[c0], [c1], c2, [c3], [c4]]).toArray 37 (fun r => .pointer (some ⟨r, 0, none⟩)) (by kernel_rfl) (fun r => by kernel_rfl) ?_
  intro r1 hr1
  have h_c1 := h_c1.stays (im_more (c := (List.flatten [[c0], [c1], c2, [c3], [c4]]).toArray) (t := 37) hr1)
  have h_c2 := h_c2.stays (im_more (c := (List.flatten [[c0], [c1], c2, [c3], [c4]]).toArray) (t := 37) hr1)
  refine wl_new (d := 2) zc37 37 (fun r => .pointer (some ⟨r, 0, none⟩)) (by kernel_rfl) (fun r => by kernel_rfl) ?_
  intro r2 hr2
  have h_c1 := h_c1.stays (im_more (c := zc37) (t := 37) hr2)
  have h_c2 := h_c2.stays (im_more (c := zc37) (t := 37) hr2)
  refine nx_list ?_
  refine nx_then ?_
  refine wc_seq ?_
  refine wc_region ?_
  refine wl_go 1 [(4, .pointer (some ⟨r1, 1, none⟩))] (by kernel_rfl) ?_
  refine wl_yl (d := 5) (v := c1) (by kernel_rfl) (yl_load (b := r1) (off := 1) 1 rfl (by kernel_rfl) rfl (readAt_seg1 1 rfl (by simp [l_c2]) (by kernel_rfl))) ?_
  have hesq1 : ∀ r ∈ rows1, r.length = 31 := fR_rows1.length
  refine wl_callB (X := Value × List Blk × List (List Value)) (d := 6) (fun x => x.1) (fun wa y wz => Cl 49 (Im w [⟨r2, zc37, 37⟩, ⟨r1, (List.flatten [[c0], [c1], c2, [c3], [c4]]).toArray, 37⟩]) wa rows1 y.1 wz y.2.1 y.2.2) (by kernel_rfl) (by kernel_rfl) (fun w1 h1 => (clone_52 rows1 _ c1 w1 (h_c1.stays (h1.staysC (L0 := (⟨r2, zc37, 37⟩ :: (⟨r1, (List.flatten [[c0], [c1], c2, [c3], [c4]]).toArray, 37⟩ :: []))) rfl)) hesq1 b_rows1).mono (fun e w' ⟨v', R, rv, he, hc⟩ => ⟨(v', R, rv), he, hc⟩)) ?_
  rintro wq1 ⟨v1, Rq1, rvq1⟩ wq2 hsq1 hclq1
  obtain ⟨aq1, capq1, rfl⟩ : ∃ a cap, v1 = .slice a rows1.length cap := by obtain ⟨_, _, ⟨a, cap, h, _⟩, _⟩ := hclq1; exact ⟨a, cap, h⟩
  refine wl_eq (S := SH wq2 (([⟨r2, zc37, 37⟩, ⟨r1, (List.flatten [[c0], [c1], c2, [c3], [c4]]).toArray, 37⟩] : List Blk) ++ Rq1)) (Cp.startSH hsq1 hclq1) ?_
  refine wl_go 1 [(7, .pointer (some ⟨r1, 1, none⟩))] (by kernel_rfl) ?_
  refine wl_store (b := r1) (off := 1) (v := .slice aq1 rows1.length capq1) (c' := (List.flatten [[c0], [.slice aq1 rows1.length capq1], c2, [c3], [c4]]).toArray) (L' := (([⟨r2, zc37, 37⟩, ⟨r1, (List.flatten [[c0], [.slice aq1 rows1.length capq1], c2, [c3], [c4]]).toArray, 37⟩] : List Blk) ++ Rq1)) 1 (by kernel_rfl) rfl (by kernel_rfl) (by kernel_rfl) rfl (writeAt_seg 1 ([.slice aq1 rows1.length capq1]) rfl (by simp [l_c2]) rfl rfl (by kernel_rfl) (fun u hu => by simp only [List.mem_singleton] at hu; subst hu; rfl) rfl) rfl ?_
  refine nx_list ?_
  refine nx_then ?_
  refine wc_seq ?_
  refine wc_seq ?_
  refine wc_region ?_
  refine wl_go 1 [(8, .pointer (some ⟨r1, 1, none⟩))] (by kernel_rfl) ?_
  refine wl_yl (d := 9) (v := .slice aq1 rows1.length capq1) (by kernel_rfl) (yl_load (b := r1) (off := 1) 1 rfl (by kernel_rfl) rfl (readAt_seg1 1 rfl (by simp [l_c2]) (by kernel_rfl))) ?_
  refine wl_go 2 [(11, .int .i64 0), (10, .int .i64 (rows1.length : Int))] (by kernel_rfl) ?_
  refine nx_list ?_
  refine nx_then ?_
  refine wc_block ?_
  refine wc_loop (σ := Cp 49 31 w w (⟨r2, zc37, 37⟩ :: (⟨r1, (List.flatten [[c0], [c1], c2, [c3], [c4]]).toArray, 37⟩ :: [])) rows1 aq1 [⟨r2, zc37, 37⟩, ⟨r1, (List.flatten [[c0], [.slice aq1 rows1.length capq1], c2, [c3], [c4]]).toArray, 37⟩]) (fun x => [(1, .pointer (some ⟨r1, 0, none⟩)), (2, .pointer (some ⟨r2, 0, none⟩)), (10, .int .i64 (rows1.length : Int)), (11, .int .i64 (x.i : Int))]) (fun x => SH x.wb (([⟨r2, zc37, 37⟩, ⟨r1, (List.flatten [[c0], [.slice aq1 rows1.length capq1], c2, [c3], [c4]]).toArray, 37⟩] : List Blk) ++ x.R)) (fun x => rows1.length - x.i) (fun w3 h3 => ⟨(Cp.start hbel (ge_cons hr2 (ge_cons hr1 (ge_nil _))) hsq1 hclq1 hesq1 (⟨r2, zc37, 37⟩ :: (⟨r1, (List.flatten [[c0], [c1], c2, [c3], [c4]]).toArray, 37⟩ :: [])) rfl).cast rfl, h3, (subEnv_cons (by kernel_rfl) (subEnv_cons (by kernel_rfl) (subEnv_cons (by kernel_rfl) (subEnv_cons (by kernel_rfl) (subEnv_nil _)))))⟩) (fun x => ?_)
  refine wc_seq ?_
  refine wc_region ?_
  refine wl_go 1 [(12, .bool (decide ((x.i : Int) < (rows1.length : Int))))] (by kernel_rfl) ?_
  refine nx_list ?_
  refine nx_then ?_
  refine wc_seq ?_
  refine wc_cond (decide ((x.i : Int) < (rows1.length : Int))) (by kernel_rfl) (by kernel_rfl) (fun hcq1 => ?_) (fun hcq1 => ?_)
  · skip
    have hlt : x.i < rows1.length := by simpa using hcq1
    have hrl : rows1.length ≤ 140737488355328 := by have := b_rows1; omega
    obtain ⟨g, sp, r, v, rfl, hxR, hrow, hval, hrd⟩ := x.row hlt
    have hfr := fR_rows1.get x.i r hrow
    obtain ⟨u1, dq, rfl, hu1, hfq⟩ := FitL.split (ks := ([]) ++ (shIndex)) (ks' := []) hfr
    obtain ⟨dp, dm, rfl, hfp, hfm⟩ := FitL.split (ks := []) (ks' := shIndex) hu1
    obtain ⟨uv, q, rfl, huv, h_q⟩ := RdL.split hrd
    obtain ⟨p, m, rfl, h_p, h_m⟩ := RdL.split huv
    have l_p : p.length = 0 := h_p.length.symm.trans hfp.length
    have l_m : m.length = 31 := h_m.length.symm.trans hfm.length
    have hbp := bare_of_fit hfp (by simp)
    have hbq := bare_of_fit hfq (by simp)
    have hszm : szL dm < szR rows1 := by have := szR_get hrow; rw [szL_append, szL_append] at this; omega
    rw [hxR]
    refine nx_skip ?_
    refine nx_then ?_
    refine wc_seq ?_
    refine wc_block ?_
    refine wc_seq ?_
    refine wc_region ?_
    refine wl_go 2 [(3, .int .i64 (x.i : Int)), (13, .int .i64 (x.i : Int))] (by kernel_rfl) ?_
    refine nx_list ?_
    refine nx_then ?_
    refine wc_draw 10 (SH x.wb [⟨r2, zc37, 37⟩, ⟨r1, (List.flatten [[c0], [.slice (some ⟨g, 0, none⟩) rows1.length capq1], c2, [c3], [c4]]).toArray, 37⟩, ⟨g, ((x.rv.flatten ++ sp).toArray), 49⟩]) rfl (by decide) (fun w h => SH.drew h) ?_
    refine wd_go [0] [(14, .pointer (some ⟨r1, 1, none⟩))] #[true, false, false, false, false, false, false, false, false, false, false] (f := 9) rfl (by kernel_rfl) (fun w h => h) ?_
    refine wd_yl 1 (d := 15) (v := .slice (some ⟨g, 0, none⟩) rows1.length capq1) (f := 8) rfl (by kernel_rfl) (by kernel_rfl) (fun w h => h) (yl_load (b := r1) (off := 1) 1 rfl (by kernel_rfl) rfl (readAt_seg1 1 rfl (by simp [l_c2]) (by kernel_rfl))) ?_
    refine wd_go [2, 3] [(17, .pointer (some ⟨r1, 1, none⟩)), (16, .int .i64 (x.i : Int))] #[true, true, true, true, false, false, false, false, false, false, false] (f := 6) rfl (by kernel_rfl) (fun w h => h) ?_
    refine wd_yl 4 (d := 18) (v := .slice (some ⟨g, 0, none⟩) rows1.length capq1) (f := 5) rfl (by kernel_rfl) (by kernel_rfl) (fun w h => h) (yl_load (b := r1) (off := 1) 1 rfl (by kernel_rfl) rfl (readAt_seg1 1 rfl (by simp [l_c2]) (by kernel_rfl))) ?_
    refine wd_go [5] [(19, .int .i64 (x.i : Int))] #[true, true, true, true, true, true, false, false, false, false, false] (f := 4) rfl (by kernel_rfl) (fun w h => h) ?_
    refine wd_yl 6 (d := 20) (v := .pointer (some ⟨g, 0 + x.i * 31, none⟩)) (f := 3) rfl (by kernel_rfl) (by kernel_rfl) (fun w h => h) (yl_index (E := 49) (b := g) (off := 0) (len := rows1.length) (cap := capq1) (k := x.i) (es := 31) rfl (by kernel_rfl) (by kernel_rfl) (by kernel_rfl) (by omega)) ?_
    refine wd_yl 7 (d := 21) (v := .agg (m).toArray) (f := 2) rfl (by kernel_rfl) (by kernel_rfl) (fun w h => h) (yl_load (b := g) (off := 0 + x.i * 31) 2 rfl (by kernel_rfl) rfl (readAt_row x.hlen hval (by simp [l_p]) (by rw [l_m]; kernel_rfl))) ?_
    refine wd_callB 8 (X := List Value) (d := 22) (fu := 1) (fun x => .agg x.toArray) (fun wa y wz => RdL (fun k => wa.heap.size ≤ k) wz dm y ∧ Below wa.heap.size wa wz) rfl (by decide) (by kernel_rfl) (by kernel_rfl) (by kernel_rfl) (fun w1 h1 => copyIndex_all dm hfm w1 _ m ((show RdL (Im x.wb [⟨r2, zc37, 37⟩, ⟨r1, (List.flatten [[c0], [.slice (some ⟨g, 0, none⟩) rows1.length capq1], c2, [c3], [c4]]).toArray, 37⟩, ⟨g, ((x.rv.flatten ++ sp).toArray), 49⟩]) x.wb dm m from by rw [← hxR]; exact h_m).stays h1.stays)) ?_
    rintro wq3 mq2 wq4 hin ⟨hmin, hbin⟩
    have h_mq2 := hmin
    have l_mq2 : mq2.length = 31 := hmin.length.symm.trans hfm.length
    have hin' := hin
    rw [← hxR] at hin
    refine ⟨hin'.keep hbin, ?_⟩
    refine wd_eq (T := SH wq4 [⟨r2, zc37, 37⟩, ⟨r1, (List.flatten [[c0], [.slice (some ⟨g, 0, none⟩) rows1.length capq1], c2, [c3], [c4]]).toArray, 37⟩, ⟨g, ((x.rv.flatten ++ sp).toArray), 49⟩]) (hin'.after hbin) ?_
    refine wd_yl 9 (d := 23) (v := .pointer (some ⟨g, 0 + x.i * 31, none⟩)) (f := 0) rfl (by kernel_rfl) (by kernel_rfl) (fun w h => (hin'.keep hbin).trans h) (yl_index (E := 49) (b := g) (off := 0) (len := rows1.length) (cap := capq1) (k := x.i) (es := 31) rfl (by kernel_rfl) (by kernel_rfl) (by kernel_rfl) (by omega)) ?_
    refine wd_done (by kernel_rfl) ?_
    refine wl_store (b := g) (off := 0 + x.i * 31) (v := .agg (mq2).toArray) (c' := ((x.rv.set x.i (p ++ mq2 ++ q)).flatten ++ sp).toArray) (L' := [⟨r2, zc37, 37⟩, ⟨r1, (List.flatten [[c0], [.slice (some ⟨g, 0, none⟩) rows1.length capq1], c2, [c3], [c4]]).toArray, 37⟩, ⟨g, (((x.rv.set x.i (p ++ mq2 ++ q)).flatten ++ sp).toArray), 49⟩]) 2 (by kernel_rfl) rfl (by kernel_rfl) (by kernel_rfl) rfl (writeAt_row mq2 x.hlen hval (by simp [l_p]) rfl (by rw [l_mq2, l_m]) (by rw [l_mq2]; kernel_rfl) (RdL.oneCell h_mq2)) rfl ?_
    refine nx_list ?_
    refine nx_on ?_
    refine nx_block ?_
    refine nx_then ?_
    refine wc_region ?_
    refine wl_yl (d := 24) (v := .int .i64 ((x.i : Int) + 1)) (by kernel_rfl) (yl_int (t := (x.i : Int) + 1) (r := (x.i : Int) + 1) (by kernel_rfl) (i64w (by omega) (by omega))) ?_
    refine wl_go 1 [(11, .int .i64 ((x.i : Int) + 1))] (by kernel_rfl) ?_
    refine nx_list ?_
    refine nx_round (y := x.next (m' := mq2) hlt hrow hval hxR h_p h_q hbp hbq (by rw [l_m, l_mq2]) hin hbin hmin) (show rows1.length - (x.i + 1) < rows1.length - x.i by omega) (subEnv_cons (by kernel_rfl) (subEnv_cons (by kernel_rfl) (subEnv_cons (by kernel_rfl) (subEnv_cons (by kernel_rfl) (subEnv_nil _))))) (fun w h => h)
  · skip
    have hge : rows1.length ≤ x.i := by simpa using hcq1
    refine wc_open (fun wq5 h9 => ?_)
    have h_sq3 := x.done hge h9 capq1
    have hT := (x.htr.trans h9.trDrop)
    have h_c1 := h_c1.stays hT.stays
    have h_c2 := h_c2.stays hT.stays
    have hbel := h9.below x.hbel x.hbel.size x.hL
    refine wc_eq (S := SH wq5 [⟨r2, zc37, 37⟩, ⟨r1, (List.flatten [[c0], [.slice aq1 rows1.length capq1], c2, [c3], [c4]]).toArray, 37⟩]) h9.drop ?_
    refine nx_exit ?_
    refine nx_then_exit ?_
    refine nx_then_exit ?_
    refine nx_block_here ?_
    refine nx_then ?_
    refine wc_seq ?_
    refine wc_region ?_
    refine wl_go 1 [(25, .pointer (some ⟨r1, 2, none⟩))] (by kernel_rfl) ?_
    refine wl_yl (d := 26) (v := .agg (c2).toArray) (by kernel_rfl) (yl_load (b := r1) (off := 2) 1 rfl (by kernel_rfl) rfl (readAt_seg 2 rfl (by simp [l_c2]) (by rw [l_c2]; kernel_rfl))) ?_
    refine wl_callB (X := List Value) (d := 27) (fun x => .agg x.toArray) (fun wa y wz => RdL (fun k => wa.heap.size ≤ k) wz d2 y ∧ Below wa.heap.size wa wz) (by kernel_rfl) (by kernel_rfl) (fun w1 h1 => (copySchema_all d2 hf2) w1 _ c2 (h_c2.stays (h1.staysC (L0 := [⟨r2, zc37, 37⟩, ⟨r1, (List.flatten [[c0], [.slice aq1 rows1.length capq1], c2, [c3], [c4]]).toArray, 37⟩]) rfl))) ?_
    rintro wq6 mq4 wq7 h1 ⟨h_mq4, hb⟩
    have h_mq4 := h_mq4.stays (stays_newN h1 (Nat.le_trans hbel.size h1.size))
    have l_mq4 : mq4.length = 21 := h_mq4.length.symm.trans (h_c2.length.trans l_c2)
    have hT := (h1.tr hb).cong (L0 := [⟨r2, zc37, 37⟩, ⟨r1, (List.flatten [[c0], [.slice aq1 rows1.length capq1], c2, [c3], [c4]]).toArray, 37⟩]) rfl
    have h_c1 := h_c1.stays hT.stays
    have h_c2 := h_c2.stays hT.stays
    have h_sq3 := h_sq3.stays hT.staysN
    have hbel := h1.belowCall hbel (ge_cons hr2 (ge_cons hr1 (ge_nil _))) hb
    refine wl_eq (S := SH wq7 [⟨r2, zc37, 37⟩, ⟨r1, (List.flatten [[c0], [.slice aq1 rows1.length capq1], c2, [c3], [c4]]).toArray, 37⟩]) (h1.after hb) ?_
    refine wl_go 1 [(28, .pointer (some ⟨r1, 2, none⟩))] (by kernel_rfl) ?_
    refine wl_store (b := r1) (off := 2) (v := .agg (mq4).toArray) (c' := (List.flatten [[c0], [.slice aq1 rows1.length capq1], mq4, [c3], [c4]]).toArray) (L' := [⟨r2, zc37, 37⟩, ⟨r1, (List.flatten [[c0], [.slice aq1 rows1.length capq1], mq4, [c3], [c4]]).toArray, 37⟩]) 1 (by kernel_rfl) rfl (by kernel_rfl) (by kernel_rfl) rfl (writeAt_seg 2 (mq4) rfl (by simp [l_c2]) rfl (by rw [l_mq4, l_c2]) (by rw [l_mq4]; kernel_rfl) (RdL.oneCell h_mq4) rfl) rfl ?_
    refine nx_list ?_
    refine nx_then ?_
    refine wc_seq ?_
    refine wc_region ?_
    refine wl_yl (d := 29) (v := .agg (List.flatten [[c0], [.slice aq1 rows1.length capq1], mq4, [c3], [c4]]).toArray) (by kernel_rfl) (yl_load (b := r1) (off := 0) 1 rfl (by kernel_rfl) rfl (readAt_all (by rw [show (List.flatten [[c0], [.slice aq1 rows1.length capq1], mq4, [c3], [c4]]).length = 25 from by simp [l_mq4]]; kernel_rfl))) ?_
    refine wl_store (b := r2) (off := 0) (v := .agg (List.flatten [[c0], [.slice aq1 rows1.length capq1], mq4, [c3], [c4]]).toArray) (c' := (List.flatten [[c0], [.slice aq1 rows1.length capq1], mq4, [c3], [c4]]).toArray) (L' := [⟨r2, (List.flatten [[c0], [.slice aq1 rows1.length capq1], mq4, [c3], [c4]]).toArray, 37⟩, ⟨r1, (List.flatten [[c0], [.slice aq1 rows1.length capq1], mq4, [c3], [c4]]).toArray, 37⟩]) 0 (by kernel_rfl) rfl (by kernel_rfl) (by kernel_rfl) rfl (writeAt_all (by rw [show (List.flatten [[c0], [.slice aq1 rows1.length capq1], mq4, [c3], [c4]]).length = 25 from by simp [l_mq4]]; kernel_rfl) (by rw [show (List.flatten [[c0], [.slice aq1 rows1.length capq1], mq4, [c3], [c4]]).length = 25 from by simp [l_mq4]]; kernel_rfl) (oc_cons (fun u hu => by simp only [List.mem_singleton] at hu; subst hu; exact h_c0.oneCell) (oc_cons (fun u hu => by simp only [List.mem_singleton] at hu; subst hu; rfl) (oc_cons (RdL.oneCell h_mq4) (oc_cons (fun u hu => by simp only [List.mem_singleton] at hu; subst hu; exact h_c3.oneCell) (oc_cons (fun u hu => by simp only [List.mem_singleton] at hu; subst hu; exact h_c4.oneCell) oc_nil)))))) rfl ?_
    refine nx_list ?_
    refine nx_then ?_
    refine nx_ret ?_
    refine ret_cell (v := .agg (List.flatten [[c0], [.slice aq1 rows1.length capq1], mq4, [c3], [c4]]).toArray) (b := r2) (off := 0) 0 rfl (by kernel_rfl) rfl (readAt_all (by rw [show (List.flatten [[c0], [.slice aq1 rows1.length capq1], mq4, [c3], [c4]]).length = 25 from by simp [l_mq4]]; kernel_rfl)) ?_
    intro w' hw'
    refine ⟨_, rfl, ?_, hw'.below hbel hbel.size (ge_cons hr2 (ge_cons hr1 (ge_nil _)))⟩
    rw [show (List.flatten [[c0], [.slice aq1 rows1.length capq1], mq4, [c3], [c4]] : List Value) = (c0) :: ((.slice aq1 rows1.length capq1) :: (mq4 ++ ((c3) :: ((c4) :: ([]))))) from by simp]
    exact RdL.mk (h_c0.bare rfl) (RdL.mk (h_sq3.stays (hw'.staysN (L0 := [⟨r2, zc37, 37⟩, ⟨r1, (List.flatten [[c0], [.slice aq1 rows1.length capq1], c2, [c3], [c4]]).toArray, 37⟩]) rfl)) (RdL.append (h_mq4.stays (hw'.staysN (L0 := [⟨r2, zc37, 37⟩, ⟨r1, (List.flatten [[c0], [.slice aq1 rows1.length capq1], c2, [c3], [c4]]).toArray, 37⟩]) rfl)) (RdL.mk (h_c3.bare rfl) (RdL.mk (h_c4.bare rfl) (RdL.none)))))

theorem copySpace_all (ds : List D) (hfit : FitL sh by_ ds shSpace) : CopyS Try.prog 45 ds := copySpace_step ds hfit

theorem copyWrite_step (ds : List D) (hfit : FitL sh by_ ds shWrite) (ih : ∀ (r : List D), szL r < szL ds → FitL sh by_ r shWrite → CopyS Try.prog 41 r) : CopyS Try.prog 41 ds := by
  intro w S cs hrdS
  have hrd := hrdS.im
  have hbel := Below.refl w.heap.size w
  obtain ⟨d0, e0, rfl, hf0, hft0⟩ := FitL.cons (k := .int) (ks := [.str] ++ shV ++ shV ++ shV ++ shSpace ++ shIndex ++ [.str] ++ [.int] ++ [.sl 12] ++ [.sl 3] ++ [.bool]) hfit
  obtain ⟨n0, rfl, _⟩ := Fit.int hf0
  obtain ⟨d1, e1, rfl, hf1, hft1⟩ := FitL.cons (k := .str) (ks := shV ++ shV ++ shV ++ shSpace ++ shIndex ++ [.str] ++ [.int] ++ [.sl 12] ++ [.sl 3] ++ [.bool]) hft0
  obtain ⟨n1, rfl, _⟩ := Fit.str hf1
  obtain ⟨d2, e2, rfl, hf2, hft2⟩ := FitL.split (ks := shV) (ks' := shV ++ shV ++ shSpace ++ shIndex ++ [.str] ++ [.int] ++ [.sl 12] ++ [.sl 3] ++ [.bool]) hft1
  obtain ⟨d3, e3, rfl, hf3, hft3⟩ := FitL.split (ks := shV) (ks' := shV ++ shSpace ++ shIndex ++ [.str] ++ [.int] ++ [.sl 12] ++ [.sl 3] ++ [.bool]) hft2
  obtain ⟨d4, e4, rfl, hf4, hft4⟩ := FitL.split (ks := shV) (ks' := shSpace ++ shIndex ++ [.str] ++ [.int] ++ [.sl 12] ++ [.sl 3] ++ [.bool]) hft3
  obtain ⟨d5, e5, rfl, hf5, hft5⟩ := FitL.split (ks := shSpace) (ks' := shIndex ++ [.str] ++ [.int] ++ [.sl 12] ++ [.sl 3] ++ [.bool]) hft4
  obtain ⟨d6, e6, rfl, hf6, hft6⟩ := FitL.split (ks := shIndex) (ks' := [.str] ++ [.int] ++ [.sl 12] ++ [.sl 3] ++ [.bool]) hft5
  obtain ⟨d7, e7, rfl, hf7, hft7⟩ := FitL.cons (k := .str) (ks := [.int] ++ [.sl 12] ++ [.sl 3] ++ [.bool]) hft6
  obtain ⟨n7, rfl, _⟩ := Fit.str hf7
  obtain ⟨d8, e8, rfl, hf8, hft8⟩ := FitL.cons (k := .int) (ks := [.sl 12] ++ [.sl 3] ++ [.bool]) hft7
  obtain ⟨n8, rfl, _⟩ := Fit.int hf8
  obtain ⟨d9, e9, rfl, hf9, hft9⟩ := FitL.cons (k := .sl 12) (ks := [.sl 3] ++ [.bool]) hft8
  obtain ⟨rows9, rfl, b_rows9, fR_rows9⟩ := Fit.sl hf9
  have b_rows9 : rows9.length * 1168 ≤ 140737488355328 := b_rows9
  obtain ⟨d10, e10, rfl, hf10, hft10⟩ := FitL.cons (k := .sl 3) (ks := [.bool]) hft9
  obtain ⟨rows10, rfl, b_rows10, fR_rows10⟩ := Fit.sl hf10
  have b_rows10 : rows10.length * 8 ≤ 140737488355328 := b_rows10
  obtain ⟨d11, e11, rfl, hf11, hft11⟩ := FitL.cons (k := .bool) (ks := []) hft10
  obtain ⟨n11, rfl⟩ := Fit.bool hf11
  obtain rfl := FitL.nil hft11
  obtain ⟨c0, z0, rfl, h_c0, hrd0⟩ := RdL.cons hrd
  obtain ⟨c1, z1, rfl, h_c1, hrd1⟩ := RdL.cons hrd0
  obtain ⟨c2, z2, rfl, h_c2, hrd2⟩ := RdL.split hrd1
  have l_c2 : c2.length = 5 := h_c2.length.symm.trans hf2.length
  obtain ⟨c3, z3, rfl, h_c3, hrd3⟩ := RdL.split hrd2
  have l_c3 : c3.length = 5 := h_c3.length.symm.trans hf3.length
  obtain ⟨c4, z4, rfl, h_c4, hrd4⟩ := RdL.split hrd3
  have l_c4 : c4.length = 5 := h_c4.length.symm.trans hf4.length
  obtain ⟨c5, z5, rfl, h_c5, hrd5⟩ := RdL.split hrd4
  have l_c5 : c5.length = 25 := h_c5.length.symm.trans hf5.length
  obtain ⟨c6, z6, rfl, h_c6, hrd6⟩ := RdL.split hrd5
  have l_c6 : c6.length = 31 := h_c6.length.symm.trans hf6.length
  obtain ⟨c7, z7, rfl, h_c7, hrd7⟩ := RdL.cons hrd6
  obtain ⟨c8, z8, rfl, h_c8, hrd8⟩ := RdL.cons hrd7
  obtain ⟨c9, z9, rfl, h_c9, hrd9⟩ := RdL.cons hrd8
  obtain ⟨c10, z10, rfl, h_c10, hrd10⟩ := RdL.cons hrd9
  obtain ⟨c11, z11, rfl, h_c11, hrd11⟩ := RdL.cons hrd10
  obtain rfl := RdL.nil hrd11
  rw [show c0 :: (c1 :: (c2 ++ (c3 ++ (c4 ++ (c5 ++ (c6 ++ (c7 :: (c8 :: (c9 :: (c10 :: (c11 :: ([])))))))))))) = List.flatten [[c0], [c1], c2, c3, c4, c5, c6, [c7], [c8], [c9], [c10], [c11]] from by simp]
  refine Sx.enter (l := [.agg (List.flatten [[c0], [c1], c2, c3, c4, c5, c6, [c7], [c8], [c9], [c10], [c11]]).toArray]) Try.func41 rfl (n := 50) rfl (by simp) ?_
  refine wc_eq (S := SH w []) (SH.refl _) ?_
  refine wc_seq ?_
  refine wc_region ?_
  refine wl_new (d := 1) (List.flatten [[c0], [c1], c2, c3, c4, c5, c6, [c7], [c8], [c9], [c10], [c11]]).toArray 53 (fun r => .pointer (some ⟨r, 0, none⟩)) (by kernel_rfl) (fun r => by kernel_rfl) ?_
  intro r1 hr1
  have h_c2 := h_c2.stays (im_more (c := (List.flatten [[c0], [c1], c2, c3, c4, c5, c6, [c7], [c8], [c9], [c10], [c11]]).toArray) (t := 53) hr1)
  have h_c3 := h_c3.stays (im_more (c := (List.flatten [[c0], [c1], c2, c3, c4, c5, c6, [c7], [c8], [c9], [c10], [c11]]).toArray) (t := 53) hr1)
  have h_c4 := h_c4.stays (im_more (c := (List.flatten [[c0], [c1], c2, c3, c4, c5, c6, [c7], [c8], [c9], [c10], [c11]]).toArray) (t := 53) hr1)
  have h_c5 := h_c5.stays (im_more (c := (List.flatten [[c0], [c1], c2, c3, c4, c5, c6, [c7], [c8], [c9], [c10], [c11]]).toArray) (t := 53) hr1)
  have h_c6 := h_c6.stays (im_more (c := (List.flatten [[c0], [c1], c2, c3, c4, c5, c6, [c7], [c8], [c9], [c10], [c11]]).toArray) (t := 53) hr1)
  have h_c9 := h_c9.stays (im_more (c := (List.flatten [[c0], [c1], c2, c3, c4, c5, c6, [c7], [c8], [c9], [c10], [c11]]).toArray) (t := 53) hr1)
  have h_c10 := h_c10.stays (im_more (c := (List.flatten [[c0], [c1], c2, c3, c4, c5, c6, [c7], [c8], [c9], [c10], [c11]]).toArray) (t := 53) hr1)
  refine wl_new (d := 2) zc53 53 (fun r => .pointer (some ⟨r, 0, none⟩)) (by kernel_rfl) (fun r => by kernel_rfl) ?_
  intro r2 hr2
  have h_c2 := h_c2.stays (im_more (c := zc53) (t := 53) hr2)
  have h_c3 := h_c3.stays (im_more (c := zc53) (t := 53) hr2)
  have h_c4 := h_c4.stays (im_more (c := zc53) (t := 53) hr2)
  have h_c5 := h_c5.stays (im_more (c := zc53) (t := 53) hr2)
  have h_c6 := h_c6.stays (im_more (c := zc53) (t := 53) hr2)
  have h_c9 := h_c9.stays (im_more (c := zc53) (t := 53) hr2)
  have h_c10 := h_c10.stays (im_more (c := zc53) (t := 53) hr2)
  refine nx_list ?_
  refine nx_then ?_
  refine wc_seq ?_
  refine wc_region ?_
  refine wl_go 1 [(4, .pointer (some ⟨r1, 2, none⟩))] (by kernel_rfl) ?_
  refine wl_yl (d := 5) (v := .agg (c2).toArray) (by kernel_rfl) (yl_load (b := r1) (off := 2) 1 rfl (by kernel_rfl) rfl (readAt_seg 2 rfl (by simp [l_c2, l_c3, l_c4, l_c5, l_c6]) (by rw [l_c2]; kernel_rfl))) ?_
  refine wl_callB (X := List Value) (d := 6) (fun x => .agg x.toArray) (fun wa y wz => RdL (fun k => wa.heap.size ≤ k) wz d2 y ∧ Below wa.heap.size wa wz) (by kernel_rfl) (by kernel_rfl) (fun w1 h1 => (copyValue_all d2 hf2) w1 _ c2 (h_c2.stays (h1.staysC (L0 := (⟨r2, zc53, 53⟩ :: (⟨r1, (List.flatten [[c0], [c1], c2, c3, c4, c5, c6, [c7], [c8], [c9], [c10], [c11]]).toArray, 53⟩ :: []))) rfl))) ?_
  rintro wq1 mq1 wq2 h1 ⟨h_mq1, hb⟩
  have h_mq1 := h_mq1.stays (stays_newN h1 (Nat.le_trans hbel.size h1.size))
  have l_mq1 : mq1.length = 5 := h_mq1.length.symm.trans (h_c2.length.trans l_c2)
  have hT := (h1.tr hb).cong (L0 := (⟨r2, zc53, 53⟩ :: (⟨r1, (List.flatten [[c0], [c1], c2, c3, c4, c5, c6, [c7], [c8], [c9], [c10], [c11]]).toArray, 53⟩ :: []))) rfl
  have h_c2 := h_c2.stays hT.stays
  have h_c3 := h_c3.stays hT.stays
  have h_c4 := h_c4.stays hT.stays
  have h_c5 := h_c5.stays hT.stays
  have h_c6 := h_c6.stays hT.stays
  have h_c9 := h_c9.stays hT.stays
  have h_c10 := h_c10.stays hT.stays
  have hbel := h1.belowCall hbel (ge_cons hr2 (ge_cons hr1 (ge_nil _))) hb
  refine wl_eq (S := SH wq2 [⟨r2, zc53, 53⟩, ⟨r1, (List.flatten [[c0], [c1], c2, c3, c4, c5, c6, [c7], [c8], [c9], [c10], [c11]]).toArray, 53⟩]) (h1.after hb) ?_
  refine wl_go 1 [(7, .pointer (some ⟨r1, 2, none⟩))] (by kernel_rfl) ?_
  refine wl_store (b := r1) (off := 2) (v := .agg (mq1).toArray) (c' := (List.flatten [[c0], [c1], mq1, c3, c4, c5, c6, [c7], [c8], [c9], [c10], [c11]]).toArray) (L' := [⟨r2, zc53, 53⟩, ⟨r1, (List.flatten [[c0], [c1], mq1, c3, c4, c5, c6, [c7], [c8], [c9], [c10], [c11]]).toArray, 53⟩]) 1 (by kernel_rfl) rfl (by kernel_rfl) (by kernel_rfl) rfl (writeAt_seg 2 (mq1) rfl (by simp [l_c2, l_c3, l_c4, l_c5, l_c6]) rfl (by rw [l_mq1, l_c2]) (by rw [l_mq1]; kernel_rfl) (RdL.oneCell h_mq1) rfl) rfl ?_
  refine nx_list ?_
  refine nx_then ?_
  refine wc_seq ?_
  refine wc_region ?_
  refine wl_go 1 [(8, .pointer (some ⟨r1, 7, none⟩))] (by kernel_rfl) ?_
  refine wl_yl (d := 9) (v := .agg (c3).toArray) (by kernel_rfl) (yl_load (b := r1) (off := 7) 1 rfl (by kernel_rfl) rfl (readAt_seg 3 rfl (by simp [l_c3, l_c4, l_c5, l_c6, l_mq1]) (by rw [l_c3]; kernel_rfl))) ?_
  refine wl_callB (X := List Value) (d := 10) (fun x => .agg x.toArray) (fun wa y wz => RdL (fun k => wa.heap.size ≤ k) wz d3 y ∧ Below wa.heap.size wa wz) (by kernel_rfl) (by kernel_rfl) (fun w1 h1 => (copyValue_all d3 hf3) w1 _ c3 (h_c3.stays (h1.staysC (L0 := [⟨r2, zc53, 53⟩, ⟨r1, (List.flatten [[c0], [c1], c2, c3, c4, c5, c6, [c7], [c8], [c9], [c10], [c11]]).toArray, 53⟩]) rfl))) ?_
  rintro wq3 mq2 wq4 h1 ⟨h_mq2, hb⟩
  have h_mq2 := h_mq2.stays (stays_newN h1 (Nat.le_trans hbel.size h1.size))
  have l_mq2 : mq2.length = 5 := h_mq2.length.symm.trans (h_c3.length.trans l_c3)
  have hT := (h1.tr hb).cong (L0 := [⟨r2, zc53, 53⟩, ⟨r1, (List.flatten [[c0], [c1], c2, c3, c4, c5, c6, [c7], [c8], [c9], [c10], [c11]]).toArray, 53⟩]) rfl
  have h_c2 := h_c2.stays hT.stays
  have h_c3 := h_c3.stays hT.stays
  have h_c4 := h_c4.stays hT.stays
  have h_c5 := h_c5.stays hT.stays
  have h_c6 := h_c6.stays hT.stays
  have h_c9 := h_c9.stays hT.stays
  have h_c10 := h_c10.stays hT.stays
  have h_mq1 := h_mq1.stays hT.staysN
  have hbel := h1.belowCall hbel (ge_cons hr2 (ge_cons hr1 (ge_nil _))) hb
  refine wl_eq (S := SH wq4 [⟨r2, zc53, 53⟩, ⟨r1, (List.flatten [[c0], [c1], mq1, c3, c4, c5, c6, [c7], [c8], [c9], [c10], [c11]]).toArray, 53⟩]) (h1.after hb) ?_
  refine wl_go 1 [(11, .pointer (some ⟨r1, 7, none⟩))] (by kernel_rfl) ?_
  refine wl_store (b := r1) (off := 7) (v := .agg (mq2).toArray) (c' := (List.flatten [[c0], [c1], mq1, mq2, c4, c5, c6, [c7], [c8], [c9], [c10], [c11]]).toArray) (L' := [⟨r2, zc53, 53⟩, ⟨r1, (List.flatten [[c0], [c1], mq1, mq2, c4, c5, c6, [c7], [c8], [c9], [c10], [c11]]).toArray, 53⟩]) 1 (by kernel_rfl) rfl (by kernel_rfl) (by kernel_rfl) rfl (writeAt_seg 3 (mq2) rfl (by simp [l_c3, l_c4, l_c5, l_c6, l_mq1]) rfl (by rw [l_mq2, l_c3]) (by rw [l_mq2]; kernel_rfl) (RdL.oneCell h_mq2) rfl) rfl ?_
  refine nx_list ?_
  refine nx_then ?_
  refine wc_seq ?_
  refine wc_region ?_
  refine wl_go 1 [(12, .pointer (some ⟨r1, 12, none⟩))] (by kernel_rfl) ?_
  refine wl_yl (d := 13) (v := .agg (c4).toArray) (by kernel_rfl) (yl_load (b := r1) (off := 12) 1 rfl (by kernel_rfl) rfl (readAt_seg 4 rfl (by simp [l_c4, l_c5, l_c6, l_mq1, l_mq2]) (by rw [l_c4]; kernel_rfl))) ?_
  refine wl_callB (X := List Value) (d := 14) (fun x => .agg x.toArray) (fun wa y wz => RdL (fun k => wa.heap.size ≤ k) wz d4 y ∧ Below wa.heap.size wa wz) (by kernel_rfl) (by kernel_rfl) (fun w1 h1 => (copyValue_all d4 hf4) w1 _ c4 (h_c4.stays (h1.staysC (L0 := [⟨r2, zc53, 53⟩, ⟨r1, (List.flatten [[c0], [c1], mq1, c3, c4, c5, c6, [c7], [c8], [c9], [c10], [c11]]).toArray, 53⟩]) rfl))) ?_
  rintro wq5 mq3 wq6 h1 ⟨h_mq3, hb⟩
  have h_mq3 := h_mq3.stays (stays_newN h1 (Nat.le_trans hbel.size h1.size))
  have l_mq3 : mq3.length = 5 := h_mq3.length.symm.trans (h_c4.length.trans l_c4)
  have hT := (h1.tr hb).cong (L0 := [⟨r2, zc53, 53⟩, ⟨r1, (List.flatten [[c0], [c1], mq1, c3, c4, c5, c6, [c7], [c8], [c9], [c10], [c11]]).toArray, 53⟩]) rfl
  have h_c2 := h_c2.stays hT.stays
  have h_c3 := h_c3.stays hT.stays
  have h_c4 := h_c4.stays hT.stays
  have h_c5 := h_c5.stays hT.stays
  have h_c6 := h_c6.stays hT.stays
  have h_c9 := h_c9.stays hT.stays
  have h_c10 := h_c10.stays hT.stays
  have h_mq1 := h_mq1.stays hT.staysN
  have h_mq2 := h_mq2.stays hT.staysN
  have hbel := h1.belowCall hbel (ge_cons hr2 (ge_cons hr1 (ge_nil _))) hb
  refine wl_eq (S := SH wq6 [⟨r2, zc53, 53⟩, ⟨r1, (List.flatten [[c0], [c1], mq1, mq2, c4, c5, c6, [c7], [c8], [c9], [c10], [c11]]).toArray, 53⟩]) (h1.after hb) ?_
  refine wl_go 1 [(15, .pointer (some ⟨r1, 12, none⟩))] (by kernel_rfl) ?_
  refine wl_store (b := r1) (off := 12) (v := .agg (mq3).toArray) (c' := (List.flatten [[c0], [c1], mq1, mq2, mq3, c5, c6, [c7], [c8], [c9], [c10], [c11]]).toArray) (L' := [⟨r2, zc53, 53⟩, ⟨r1, (List.flatten [[c0], [c1], mq1, mq2, mq3, c5, c6, [c7], [c8], [c9], [c10], [c11]]).toArray, 53⟩]) 1 (by kernel_rfl) rfl (by kernel_rfl) (by kernel_rfl) rfl (writeAt_seg 4 (mq3) rfl (by simp [l_c4, l_c5, l_c6, l_mq1, l_mq2]) rfl (by rw [l_mq3, l_c4]) (by rw [l_mq3]; kernel_rfl) (RdL.oneCell h_mq3) rfl) rfl ?_
  refine nx_list ?_
  refine nx_then ?_
  refine wc_seq ?_
  refine wc_region ?_
  refine wl_go 1 [(16, .pointer (some ⟨r1, 17, none⟩))] (by kernel_rfl) ?_
  refine wl_yl (d := 17) (v := .agg (c5).toArray) (by kernel_rfl) (yl_load (b := r1) (off := 17) 1 rfl (by kernel_rfl) rfl (readAt_seg 5 rfl (by simp [l_c5, l_c6, l_mq1, l_mq2, l_mq3]) (by rw [l_c5]; kernel_rfl))) ?_
  refine wl_callB (X := List Value) (d := 18) (fun x => .agg x.toArray) (fun wa y wz => RdL (fun k => wa.heap.size ≤ k) wz d5 y ∧ Below wa.heap.size wa wz) (by kernel_rfl) (by kernel_rfl) (fun w1 h1 => (copySpace_all d5 hf5) w1 _ c5 (h_c5.stays (h1.staysC (L0 := [⟨r2, zc53, 53⟩, ⟨r1, (List.flatten [[c0], [c1], mq1, mq2, c4, c5, c6, [c7], [c8], [c9], [c10], [c11]]).toArray, 53⟩]) rfl))) ?_
  rintro wq7 mq4 wq8 h1 ⟨h_mq4, hb⟩
  have h_mq4 := h_mq4.stays (stays_newN h1 (Nat.le_trans hbel.size h1.size))
  have l_mq4 : mq4.length = 25 := h_mq4.length.symm.trans (h_c5.length.trans l_c5)
  have hT := (h1.tr hb).cong (L0 := [⟨r2, zc53, 53⟩, ⟨r1, (List.flatten [[c0], [c1], mq1, mq2, c4, c5, c6, [c7], [c8], [c9], [c10], [c11]]).toArray, 53⟩]) rfl
  have h_c2 := h_c2.stays hT.stays
  have h_c3 := h_c3.stays hT.stays
  have h_c4 := h_c4.stays hT.stays
  have h_c5 := h_c5.stays hT.stays
  have h_c6 := h_c6.stays hT.stays
  have h_c9 := h_c9.stays hT.stays
  have h_c10 := h_c10.stays hT.stays
  have h_mq1 := h_mq1.stays hT.staysN
  have h_mq2 := h_mq2.stays hT.staysN
  have h_mq3 := h_mq3.stays hT.staysN
  have hbel := h1.belowCall hbel (ge_cons hr2 (ge_cons hr1 (ge_nil _))) hb
  refine wl_eq (S := SH wq8 [⟨r2, zc53, 53⟩, ⟨r1, (List.flatten [[c0], [c1], mq1, mq2, mq3, c5, c6, [c7], [c8], [c9], [c10], [c11]]).toArray, 53⟩]) (h1.after hb) ?_
  refine wl_go 1 [(19, .pointer (some ⟨r1, 17, none⟩))] (by kernel_rfl) ?_
  refine wl_store (b := r1) (off := 17) (v := .agg (mq4).toArray) (c' := (List.flatten [[c0], [c1], mq1, mq2, mq3, mq4, c6, [c7], [c8], [c9], [c10], [c11]]).toArray) (L' := [⟨r2, zc53, 53⟩, ⟨r1, (List.flatten [[c0], [c1], mq1, mq2, mq3, mq4, c6, [c7], [c8], [c9], [c10], [c11]]).toArray, 53⟩]) 1 (by kernel_rfl) rfl (by kernel_rfl) (by kernel_rfl) rfl (writeAt_seg 5 (mq4) rfl (by simp [l_c5, l_c6, l_mq1, l_mq2, l_mq3]) rfl (by rw [l_mq4, l_c5]) (by rw [l_mq4]; kernel_rfl) (RdL.oneCell h_mq4) rfl) rfl ?_
  refine nx_list ?_
  refine nx_then ?_
  refine wc_seq ?_
  refine wc_region ?_
  refine wl_go 1 [(20, .pointer (some ⟨r1, 42, none⟩))] (by kernel_rfl) ?_
  refine wl_yl (d := 21) (v := .agg (c6).toArray) (by kernel_rfl) (yl_load (b := r1) (off := 42) 1 rfl (by kernel_rfl) rfl (readAt_seg 6 rfl (by simp [l_c6, l_mq1, l_mq2, l_mq3, l_mq4]) (by rw [l_c6]; kernel_rfl))) ?_
  refine wl_callB (X := List Value) (d := 22) (fun x => .agg x.toArray) (fun wa y wz => RdL (fun k => wa.heap.size ≤ k) wz d6 y ∧ Below wa.heap.size wa wz) (by kernel_rfl) (by kernel_rfl) (fun w1 h1 => (copyIndex_all d6 hf6) w1 _ c6 (h_c6.stays (h1.staysC (L0 := [⟨r2, zc53, 53⟩, ⟨r1, (List.flatten [[c0], [c1], mq1, mq2, mq3, c5, c6, [c7], [c8], [c9], [c10], [c11]]).toArray, 53⟩]) rfl))) ?_
  rintro wq9 mq5 wq10 h1 ⟨h_mq5, hb⟩
  have h_mq5 := h_mq5.stays (stays_newN h1 (Nat.le_trans hbel.size h1.size))
  have l_mq5 : mq5.length = 31 := h_mq5.length.symm.trans (h_c6.length.trans l_c6)
  have hT := (h1.tr hb).cong (L0 := [⟨r2, zc53, 53⟩, ⟨r1, (List.flatten [[c0], [c1], mq1, mq2, mq3, c5, c6, [c7], [c8], [c9], [c10], [c11]]).toArray, 53⟩]) rfl
  have h_c2 := h_c2.stays hT.stays
  have h_c3 := h_c3.stays hT.stays
  have h_c4 := h_c4.stays hT.stays
  have h_c5 := h_c5.stays hT.stays
  have h_c6 := h_c6.stays hT.stays
  have h_c9 := h_c9.stays hT.stays
  have h_c10 := h_c10.stays hT.stays
  have h_mq1 := h_mq1.stays hT.staysN
  have h_mq2 := h_mq2.stays hT.staysN
  have h_mq3 := h_mq3.stays hT.staysN
  have h_mq4 := h_mq4.stays hT.staysN
  have hbel := h1.belowCall hbel (ge_cons hr2 (ge_cons hr1 (ge_nil _))) hb
  refine wl_eq (S := SH wq10 [⟨r2, zc53, 53⟩, ⟨r1, (List.flatten [[c0], [c1], mq1, mq2, mq3, mq4, c6, [c7], [c8], [c9], [c10], [c11]]).toArray, 53⟩]) (h1.after hb) ?_
  refine wl_go 1 [(23, .pointer (some ⟨r1, 42, none⟩))] (by kernel_rfl) ?_
  refine wl_store (b := r1) (off := 42) (v := .agg (mq5).toArray) (c' := (List.flatten [[c0], [c1], mq1, mq2, mq3, mq4, mq5, [c7], [c8], [c9], [c10], [c11]]).toArray) (L' := [⟨r2, zc53, 53⟩, ⟨r1, (List.flatten [[c0], [c1], mq1, mq2, mq3, mq4, mq5, [c7], [c8], [c9], [c10], [c11]]).toArray, 53⟩]) 1 (by kernel_rfl) rfl (by kernel_rfl) (by kernel_rfl) rfl (writeAt_seg 6 (mq5) rfl (by simp [l_c6, l_mq1, l_mq2, l_mq3, l_mq4]) rfl (by rw [l_mq5, l_c6]) (by rw [l_mq5]; kernel_rfl) (RdL.oneCell h_mq5) rfl) rfl ?_
  refine nx_list ?_
  refine nx_then ?_
  refine wc_seq ?_
  refine wc_region ?_
  refine wl_go 1 [(24, .pointer (some ⟨r1, 75, none⟩))] (by kernel_rfl) ?_
  refine wl_yl (d := 25) (v := c9) (by kernel_rfl) (yl_load (b := r1) (off := 75) 1 rfl (by kernel_rfl) rfl (readAt_seg1 9 rfl (by simp [l_mq1, l_mq2, l_mq3, l_mq4, l_mq5]) (by kernel_rfl))) ?_
  have hesq6 : ∀ r ∈ rows9, r.length = 78 := fR_rows9.length
  refine wl_callB (X := Value × List Blk × List (List Value)) (d := 26) (fun x => x.1) (fun wa y wz => Cl 53 (Im wq10 [⟨r2, zc53, 53⟩, ⟨r1, (List.flatten [[c0], [c1], mq1, mq2, mq3, mq4, mq5, [c7], [c8], [c9], [c10], [c11]]).toArray, 53⟩]) wa rows9 y.1 wz y.2.1 y.2.2) (by kernel_rfl) (by kernel_rfl) (fun w1 h1 => (clone_47 rows9 _ c9 w1 (h_c9.stays (h1.staysC (L0 := [⟨r2, zc53, 53⟩, ⟨r1, (List.flatten [[c0], [c1], mq1, mq2, mq3, mq4, c6, [c7], [c8], [c9], [c10], [c11]]).toArray, 53⟩]) rfl)) hesq6 b_rows9).mono (fun e w' ⟨v', R, rv, he, hc⟩ => ⟨(v', R, rv), he, hc⟩)) ?_
  rintro wq11 ⟨v1, Rq6, rvq6⟩ wq12 hsq6 hclq6
  obtain ⟨aq6, capq6, rfl⟩ : ∃ a cap, v1 = .slice a rows9.length cap := by obtain ⟨_, _, ⟨a, cap, h, _⟩, _⟩ := hclq6; exact ⟨a, cap, h⟩
  refine wl_eq (S := SH wq12 (([⟨r2, zc53, 53⟩, ⟨r1, (List.flatten [[c0], [c1], mq1, mq2, mq3, mq4, mq5, [c7], [c8], [c9], [c10], [c11]]).toArray, 53⟩] : List Blk) ++ Rq6)) (Cp.startSH hsq6 hclq6) ?_
  refine wl_go 1 [(27, .pointer (some ⟨r1, 75, none⟩))] (by kernel_rfl) ?_
  refine wl_store (b := r1) (off := 75) (v := .slice aq6 rows9.length capq6) (c' := (List.flatten [[c0], [c1], mq1, mq2, mq3, mq4, mq5, [c7], [c8], [.slice aq6 rows9.length capq6], [c10], [c11]]).toArray) (L' := (([⟨r2, zc53, 53⟩, ⟨r1, (List.flatten [[c0], [c1], mq1, mq2, mq3, mq4, mq5, [c7], [c8], [.slice aq6 rows9.length capq6], [c10], [c11]]).toArray, 53⟩] : List Blk) ++ Rq6)) 1 (by kernel_rfl) rfl (by kernel_rfl) (by kernel_rfl) rfl (writeAt_seg 9 ([.slice aq6 rows9.length capq6]) rfl (by simp [l_mq1, l_mq2, l_mq3, l_mq4, l_mq5]) rfl rfl (by kernel_rfl) (fun u hu => by simp only [List.mem_singleton] at hu; subst hu; rfl) rfl) rfl ?_
  refine nx_list ?_
  refine nx_then ?_
  refine wc_seq ?_
  refine wc_seq ?_
  refine wc_region ?_
  refine wl_go 1 [(28, .pointer (some ⟨r1, 75, none⟩))] (by kernel_rfl) ?_
  refine wl_yl (d := 29) (v := .slice aq6 rows9.length capq6) (by kernel_rfl) (yl_load (b := r1) (off := 75) 1 rfl (by kernel_rfl) rfl (readAt_seg1 9 rfl (by simp [l_mq1, l_mq2, l_mq3, l_mq4, l_mq5]) (by kernel_rfl))) ?_
  refine wl_go 2 [(31, .int .i64 0), (30, .int .i64 (rows9.length : Int))] (by kernel_rfl) ?_
  refine nx_list ?_
  refine nx_then ?_
  refine wc_block ?_
  refine wc_loop (σ := Cp 53 78 w wq10 [⟨r2, zc53, 53⟩, ⟨r1, (List.flatten [[c0], [c1], mq1, mq2, mq3, mq4, c6, [c7], [c8], [c9], [c10], [c11]]).toArray, 53⟩] rows9 aq6 [⟨r2, zc53, 53⟩, ⟨r1, (List.flatten [[c0], [c1], mq1, mq2, mq3, mq4, mq5, [c7], [c8], [.slice aq6 rows9.length capq6], [c10], [c11]]).toArray, 53⟩]) (fun x => [(1, .pointer (some ⟨r1, 0, none⟩)), (2, .pointer (some ⟨r2, 0, none⟩)), (30, .int .i64 (rows9.length : Int)), (31, .int .i64 (x.i : Int))]) (fun x => SH x.wb (([⟨r2, zc53, 53⟩, ⟨r1, (List.flatten [[c0], [c1], mq1, mq2, mq3, mq4, mq5, [c7], [c8], [.slice aq6 rows9.length capq6], [c10], [c11]]).toArray, 53⟩] : List Blk) ++ x.R)) (fun x => rows9.length - x.i) (fun w3 h3 => ⟨(Cp.start hbel (ge_cons hr2 (ge_cons hr1 (ge_nil _))) hsq6 hclq6 hesq6 [⟨r2, zc53, 53⟩, ⟨r1, (List.flatten [[c0], [c1], mq1, mq2, mq3, mq4, c6, [c7], [c8], [c9], [c10], [c11]]).toArray, 53⟩] rfl).cast rfl, h3, (subEnv_cons (by kernel_rfl) (subEnv_cons (by kernel_rfl) (subEnv_cons (by kernel_rfl) (subEnv_cons (by kernel_rfl) (subEnv_nil _)))))⟩) (fun x => ?_)
  refine wc_seq ?_
  refine wc_region ?_
  refine wl_go 1 [(32, .bool (decide ((x.i : Int) < (rows9.length : Int))))] (by kernel_rfl) ?_
  refine nx_list ?_
  refine nx_then ?_
  refine wc_seq ?_
  refine wc_cond (decide ((x.i : Int) < (rows9.length : Int))) (by kernel_rfl) (by kernel_rfl) (fun hcq6 => ?_) (fun hcq6 => ?_)
  · skip
    have hlt : x.i < rows9.length := by simpa using hcq6
    have hrl : rows9.length ≤ 140737488355328 := by have := b_rows9; omega
    obtain ⟨g, sp, r, v, rfl, hxR, hrow, hval, hrd⟩ := x.row hlt
    have hfr := fR_rows9.get x.i r hrow
    obtain ⟨u1, dq, rfl, hu1, hfq⟩ := FitL.split (ks := ([]) ++ (shWrite)) (ks' := []) hfr
    obtain ⟨dp, dm, rfl, hfp, hfm⟩ := FitL.split (ks := []) (ks' := shWrite) hu1
    obtain ⟨uv, q, rfl, huv, h_q⟩ := RdL.split hrd
    obtain ⟨p, m, rfl, h_p, h_m⟩ := RdL.split huv
    have l_p : p.length = 0 := h_p.length.symm.trans hfp.length
    have l_m : m.length = 78 := h_m.length.symm.trans hfm.length
    have hbp := bare_of_fit hfp (by simp)
    have hbq := bare_of_fit hfq (by simp)
    have hszm : szL dm < szR rows9 := by have := szR_get hrow; rw [szL_append, szL_append] at this; omega
    rw [hxR]
    refine nx_skip ?_
    refine nx_then ?_
    refine wc_seq ?_
    refine wc_block ?_
    refine wc_seq ?_
    refine wc_region ?_
    refine wl_go 2 [(3, .int .i64 (x.i : Int)), (33, .int .i64 (x.i : Int))] (by kernel_rfl) ?_
    refine nx_list ?_
    refine nx_then ?_
    refine wc_draw 10 (SH x.wb [⟨r2, zc53, 53⟩, ⟨r1, (List.flatten [[c0], [c1], mq1, mq2, mq3, mq4, mq5, [c7], [c8], [.slice (some ⟨g, 0, none⟩) rows9.length capq6], [c10], [c11]]).toArray, 53⟩, ⟨g, ((x.rv.flatten ++ sp).toArray), 53⟩]) rfl (by decide) (fun w h => SH.drew h) ?_
    refine wd_go [0] [(34, .pointer (some ⟨r1, 75, none⟩))] #[true, false, false, false, false, false, false, false, false, false, false] (f := 9) rfl (by kernel_rfl) (fun w h => h) ?_
    refine wd_yl 1 (d := 35) (v := .slice (some ⟨g, 0, none⟩) rows9.length capq6) (f := 8) rfl (by kernel_rfl) (by kernel_rfl) (fun w h => h) (yl_load (b := r1) (off := 75) 1 rfl (by kernel_rfl) rfl (readAt_seg1 9 rfl (by simp [l_mq1, l_mq2, l_mq3, l_mq4, l_mq5]) (by kernel_rfl))) ?_
    refine wd_go [2, 3] [(37, .pointer (some ⟨r1, 75, none⟩)), (36, .int .i64 (x.i : Int))] #[true, true, true, true, false, false, false, false, false, false, false] (f := 6) rfl (by kernel_rfl) (fun w h => h) ?_
    refine wd_yl 4 (d := 38) (v := .slice (some ⟨g, 0, none⟩) rows9.length capq6) (f := 5) rfl (by kernel_rfl) (by kernel_rfl) (fun w h => h) (yl_load (b := r1) (off := 75) 1 rfl (by kernel_rfl) rfl (readAt_seg1 9 rfl (by simp [l_mq1, l_mq2, l_mq3, l_mq4, l_mq5]) (by kernel_rfl))) ?_
    refine wd_go [5] [(39, .int .i64 (x.i : Int))] #[true, true, true, true, true, true, false, false, false, false, false] (f := 4) rfl (by kernel_rfl) (fun w h => h) ?_
    refine wd_yl 6 (d := 40) (v := .pointer (some ⟨g, 0 + x.i * 78, none⟩)) (f := 3) rfl (by kernel_rfl) (by kernel_rfl) (fun w h => h) (yl_index (E := 53) (b := g) (off := 0) (len := rows9.length) (cap := capq6) (k := x.i) (es := 78) rfl (by kernel_rfl) (by kernel_rfl) (by kernel_rfl) (by omega)) ?_
    refine wd_yl 7 (d := 41) (v := .agg (m).toArray) (f := 2) rfl (by kernel_rfl) (by kernel_rfl) (fun w h => h) (yl_load (b := g) (off := 0 + x.i * 78) 2 rfl (by kernel_rfl) rfl (readAt_row x.hlen hval (by simp [l_p]) (by rw [l_m]; kernel_rfl))) ?_
    refine wd_callB 8 (X := List Value) (d := 42) (fu := 1) (fun x => .agg x.toArray) (fun wa y wz => RdL (fun k => wa.heap.size ≤ k) wz dm y ∧ Below wa.heap.size wa wz) rfl (by decide) (by kernel_rfl) (by kernel_rfl) (by kernel_rfl) (fun w1 h1 => ih dm (by simp only [szL, szL_append, D.sz]; omega) hfm w1 _ m ((show RdL (Im x.wb [⟨r2, zc53, 53⟩, ⟨r1, (List.flatten [[c0], [c1], mq1, mq2, mq3, mq4, mq5, [c7], [c8], [.slice (some ⟨g, 0, none⟩) rows9.length capq6], [c10], [c11]]).toArray, 53⟩, ⟨g, ((x.rv.flatten ++ sp).toArray), 53⟩]) x.wb dm m from by rw [← hxR]; exact h_m).stays h1.stays)) ?_
    rintro wq13 mq7 wq14 hin ⟨hmin, hbin⟩
    have h_mq7 := hmin
    have l_mq7 : mq7.length = 78 := hmin.length.symm.trans hfm.length
    have hin' := hin
    rw [← hxR] at hin
    refine ⟨hin'.keep hbin, ?_⟩
    refine wd_eq (T := SH wq14 [⟨r2, zc53, 53⟩, ⟨r1, (List.flatten [[c0], [c1], mq1, mq2, mq3, mq4, mq5, [c7], [c8], [.slice (some ⟨g, 0, none⟩) rows9.length capq6], [c10], [c11]]).toArray, 53⟩, ⟨g, ((x.rv.flatten ++ sp).toArray), 53⟩]) (hin'.after hbin) ?_
    refine wd_yl 9 (d := 43) (v := .pointer (some ⟨g, 0 + x.i * 78, none⟩)) (f := 0) rfl (by kernel_rfl) (by kernel_rfl) (fun w h => (hin'.keep hbin).trans h) (yl_index (E := 53) (b := g) (off := 0) (len := rows9.length) (cap := capq6) (k := x.i) (es := 78) rfl (by kernel_rfl) (by kernel_rfl) (by kernel_rfl) (by omega)) ?_
    refine wd_done (by kernel_rfl) ?_
    refine wl_store (b := g) (off := 0 + x.i * 78) (v := .agg (mq7).toArray) (c' := ((x.rv.set x.i (p ++ mq7 ++ q)).flatten ++ sp).toArray) (L' := [⟨r2, zc53, 53⟩, ⟨r1, (List.flatten [[c0], [c1], mq1, mq2, mq3, mq4, mq5, [c7], [c8], [.slice (some ⟨g, 0, none⟩) rows9.length capq6], [c10], [c11]]).toArray, 53⟩, ⟨g, (((x.rv.set x.i (p ++ mq7 ++ q)).flatten ++ sp).toArray), 53⟩]) 2 (by kernel_rfl) rfl (by kernel_rfl) (by kernel_rfl) rfl (writeAt_row mq7 x.hlen hval (by simp [l_p]) rfl (by rw [l_mq7, l_m]) (by rw [l_mq7]; kernel_rfl) (RdL.oneCell h_mq7)) rfl ?_
    refine nx_list ?_
    refine nx_on ?_
    refine nx_block ?_
    refine nx_then ?_
    refine wc_region ?_
    refine wl_yl (d := 44) (v := .int .i64 ((x.i : Int) + 1)) (by kernel_rfl) (yl_int (t := (x.i : Int) + 1) (r := (x.i : Int) + 1) (by kernel_rfl) (i64w (by omega) (by omega))) ?_
    refine wl_go 1 [(31, .int .i64 ((x.i : Int) + 1))] (by kernel_rfl) ?_
    refine nx_list ?_
    refine nx_round (y := x.next (m' := mq7) hlt hrow hval hxR h_p h_q hbp hbq (by rw [l_m, l_mq7]) hin hbin hmin) (show rows9.length - (x.i + 1) < rows9.length - x.i by omega) (subEnv_cons (by kernel_rfl) (subEnv_cons (by kernel_rfl) (subEnv_cons (by kernel_rfl) (subEnv_cons (by kernel_rfl) (subEnv_nil _))))) (fun w h => h)
  · skip
    have hge : rows9.length ≤ x.i := by simpa using hcq6
    refine wc_open (fun wq15 h9 => ?_)
    have h_sq8 := x.done hge h9 capq6
    have hT := (x.htr.trans h9.trDrop)
    have h_c2 := h_c2.stays hT.stays
    have h_c3 := h_c3.stays hT.stays
    have h_c4 := h_c4.stays hT.stays
    have h_c5 := h_c5.stays hT.stays
    have h_c6 := h_c6.stays hT.stays
    have h_c9 := h_c9.stays hT.stays
    have h_c10 := h_c10.stays hT.stays
    have h_mq1 := h_mq1.stays hT.staysN
    have h_mq2 := h_mq2.stays hT.staysN
    have h_mq3 := h_mq3.stays hT.staysN
    have h_mq4 := h_mq4.stays hT.staysN
    have h_mq5 := h_mq5.stays hT.staysN
    have hbel := h9.below x.hbel x.hbel.size x.hL
    refine wc_eq (S := SH wq15 [⟨r2, zc53, 53⟩, ⟨r1, (List.flatten [[c0], [c1], mq1, mq2, mq3, mq4, mq5, [c7], [c8], [.slice aq6 rows9.length capq6], [c10], [c11]]).toArray, 53⟩]) h9.drop ?_
    refine nx_exit ?_
    refine nx_then_exit ?_
    refine nx_then_exit ?_
    refine nx_block_here ?_
    refine nx_then ?_
    refine wc_seq ?_
    refine wc_region ?_
    refine wl_go 1 [(45, .pointer (some ⟨r1, 76, none⟩))] (by kernel_rfl) ?_
    refine wl_yl (d := 46) (v := c10) (by kernel_rfl) (yl_load (b := r1) (off := 76) 1 rfl (by kernel_rfl) rfl (readAt_seg1 10 rfl (by simp [l_mq1, l_mq2, l_mq3, l_mq4, l_mq5]) (by kernel_rfl))) ?_
    refine wl_callB (X := Value) (d := 47) (fun x => x) (fun wa y wz => Rd (fun k => wa.heap.size ≤ k) wz (.sl rows10) y ∧ Below wa.heap.size wa wz) (by kernel_rfl) (by kernel_rfl) (fun w1 h1 => (cloneV_48 rows10 fR_rows10 b_rows10) w1 _ c10 (h_c10.stays (h1.staysC (L0 := [⟨r2, zc53, 53⟩, ⟨r1, (List.flatten [[c0], [c1], mq1, mq2, mq3, mq4, mq5, [c7], [c8], [.slice aq6 rows9.length capq6], [c10], [c11]]).toArray, 53⟩]) rfl))) ?_
    rintro wq16 vq9 wq17 h1 ⟨h_vq9, hb⟩
    have h_vq9 := h_vq9.stays (stays_newN h1 (Nat.le_trans hbel.size h1.size))
    have hT := (h1.tr hb).cong (L0 := [⟨r2, zc53, 53⟩, ⟨r1, (List.flatten [[c0], [c1], mq1, mq2, mq3, mq4, mq5, [c7], [c8], [.slice aq6 rows9.length capq6], [c10], [c11]]).toArray, 53⟩]) rfl
    have h_c2 := h_c2.stays hT.stays
    have h_c3 := h_c3.stays hT.stays
    have h_c4 := h_c4.stays hT.stays
    have h_c5 := h_c5.stays hT.stays
    have h_c6 := h_c6.stays hT.stays
    have h_c9 := h_c9.stays hT.stays
    have h_c10 := h_c10.stays hT.stays
    have h_mq1 := h_mq1.stays hT.staysN
    have h_mq2 := h_mq2.stays hT.staysN
    have h_mq3 := h_mq3.stays hT.staysN
    have h_mq4 := h_mq4.stays hT.staysN
    have h_mq5 := h_mq5.stays hT.staysN
    have h_sq8 := h_sq8.stays hT.staysN
    have hbel := h1.belowCall hbel (ge_cons hr2 (ge_cons hr1 (ge_nil _))) hb
    refine wl_eq (S := SH wq17 [⟨r2, zc53, 53⟩, ⟨r1, (List.flatten [[c0], [c1], mq1, mq2, mq3, mq4, mq5, [c7], [c8], [.slice aq6 rows9.length capq6], [c10], [c11]]).toArray, 53⟩]) (h1.after hb) ?_
    refine wl_go 1 [(48, .pointer (some ⟨r1, 76, none⟩))] (by kernel_rfl) ?_
    refine wl_store (b := r1) (off := 76) (v := vq9) (c' := (List.flatten [[c0], [c1], mq1, mq2, mq3, mq4, mq5, [c7], [c8], [.slice aq6 rows9.length capq6], [vq9], [c11]]).toArray) (L' := [⟨r2, zc53, 53⟩, ⟨r1, (List.flatten [[c0], [c1], mq1, mq2, mq3, mq4, mq5, [c7], [c8], [.slice aq6 rows9.length capq6], [vq9], [c11]]).toArray, 53⟩]) 1 (by kernel_rfl) rfl (by kernel_rfl) (by kernel_rfl) rfl (writeAt_seg 10 ([vq9]) rfl (by simp [l_mq1, l_mq2, l_mq3, l_mq4, l_mq5]) (Rd.cells h_vq9) rfl (by kernel_rfl) (fun u hu => by simp only [List.mem_singleton] at hu; subst hu; exact h_vq9.oneCell) rfl) rfl ?_
    refine nx_list ?_
    refine nx_then ?_
    refine wc_seq ?_
    refine wc_region ?_
    refine wl_yl (d := 49) (v := .agg (List.flatten [[c0], [c1], mq1, mq2, mq3, mq4, mq5, [c7], [c8], [.slice aq6 rows9.length capq6], [vq9], [c11]]).toArray) (by kernel_rfl) (yl_load (b := r1) (off := 0) 1 rfl (by kernel_rfl) rfl (readAt_all (by rw [show (List.flatten [[c0], [c1], mq1, mq2, mq3, mq4, mq5, [c7], [c8], [.slice aq6 rows9.length capq6], [vq9], [c11]]).length = 78 from by simp [l_mq1, l_mq2, l_mq3, l_mq4, l_mq5]]; kernel_rfl))) ?_
    refine wl_store (b := r2) (off := 0) (v := .agg (List.flatten [[c0], [c1], mq1, mq2, mq3, mq4, mq5, [c7], [c8], [.slice aq6 rows9.length capq6], [vq9], [c11]]).toArray) (c' := (List.flatten [[c0], [c1], mq1, mq2, mq3, mq4, mq5, [c7], [c8], [.slice aq6 rows9.length capq6], [vq9], [c11]]).toArray) (L' := [⟨r2, (List.flatten [[c0], [c1], mq1, mq2, mq3, mq4, mq5, [c7], [c8], [.slice aq6 rows9.length capq6], [vq9], [c11]]).toArray, 53⟩, ⟨r1, (List.flatten [[c0], [c1], mq1, mq2, mq3, mq4, mq5, [c7], [c8], [.slice aq6 rows9.length capq6], [vq9], [c11]]).toArray, 53⟩]) 0 (by kernel_rfl) rfl (by kernel_rfl) (by kernel_rfl) rfl (writeAt_all (by rw [show (List.flatten [[c0], [c1], mq1, mq2, mq3, mq4, mq5, [c7], [c8], [.slice aq6 rows9.length capq6], [vq9], [c11]]).length = 78 from by simp [l_mq1, l_mq2, l_mq3, l_mq4, l_mq5]]; kernel_rfl) (by rw [show (List.flatten [[c0], [c1], mq1, mq2, mq3, mq4, mq5, [c7], [c8], [.slice aq6 rows9.length capq6], [vq9], [c11]]).length = 78 from by simp [l_mq1, l_mq2, l_mq3, l_mq4, l_mq5]]; kernel_rfl) (oc_cons (fun u hu => by simp only [List.mem_singleton] at hu; subst hu; exact h_c0.oneCell) (oc_cons (fun u hu => by simp only [List.mem_singleton] at hu; subst hu; exact h_c1.oneCell) (oc_cons (RdL.oneCell h_mq1) (oc_cons (RdL.oneCell h_mq2) (oc_cons (RdL.oneCell h_mq3) (oc_cons (RdL.oneCell h_mq4) (oc_cons (RdL.oneCell h_mq5) (oc_cons (fun u hu => by simp only [List.mem_singleton] at hu; subst hu; exact h_c7.oneCell) (oc_cons (fun u hu => by simp only [List.mem_singleton] at hu; subst hu; exact h_c8.oneCell) (oc_cons (fun u hu => by simp only [List.mem_singleton] at hu; subst hu; rfl) (oc_cons (fun u hu => by simp only [List.mem_singleton] at hu; subst hu; exact h_vq9.oneCell) (oc_cons (fun u hu => by simp only [List.mem_singleton] at hu; subst hu; exact h_c11.oneCell) oc_nil))))))))))))) rfl ?_
    refine nx_list ?_
    refine nx_then ?_
    refine nx_ret ?_
    refine ret_cell (v := .agg (List.flatten [[c0], [c1], mq1, mq2, mq3, mq4, mq5, [c7], [c8], [.slice aq6 rows9.length capq6], [vq9], [c11]]).toArray) (b := r2) (off := 0) 0 rfl (by kernel_rfl) rfl (readAt_all (by rw [show (List.flatten [[c0], [c1], mq1, mq2, mq3, mq4, mq5, [c7], [c8], [.slice aq6 rows9.length capq6], [vq9], [c11]]).length = 78 from by simp [l_mq1, l_mq2, l_mq3, l_mq4, l_mq5]]; kernel_rfl)) ?_
    intro w' hw'
    refine ⟨_, rfl, ?_, hw'.below hbel hbel.size (ge_cons hr2 (ge_cons hr1 (ge_nil _)))⟩
    rw [show (List.flatten [[c0], [c1], mq1, mq2, mq3, mq4, mq5, [c7], [c8], [.slice aq6 rows9.length capq6], [vq9], [c11]] : List Value) = (c0) :: ((c1) :: (mq1 ++ (mq2 ++ (mq3 ++ (mq4 ++ (mq5 ++ ((c7) :: ((c8) :: ((.slice aq6 rows9.length capq6) :: ((vq9) :: ((c11) :: ([])))))))))))) from by simp]
    exact RdL.mk (h_c0.bare rfl) (RdL.mk (h_c1.bare rfl) (RdL.append (h_mq1.stays (hw'.staysN (L0 := [⟨r2, zc53, 53⟩, ⟨r1, (List.flatten [[c0], [c1], mq1, mq2, mq3, mq4, mq5, [c7], [c8], [.slice aq6 rows9.length capq6], [c10], [c11]]).toArray, 53⟩]) rfl)) (RdL.append (h_mq2.stays (hw'.staysN (L0 := [⟨r2, zc53, 53⟩, ⟨r1, (List.flatten [[c0], [c1], mq1, mq2, mq3, mq4, mq5, [c7], [c8], [.slice aq6 rows9.length capq6], [c10], [c11]]).toArray, 53⟩]) rfl)) (RdL.append (h_mq3.stays (hw'.staysN (L0 := [⟨r2, zc53, 53⟩, ⟨r1, (List.flatten [[c0], [c1], mq1, mq2, mq3, mq4, mq5, [c7], [c8], [.slice aq6 rows9.length capq6], [c10], [c11]]).toArray, 53⟩]) rfl)) (RdL.append (h_mq4.stays (hw'.staysN (L0 := [⟨r2, zc53, 53⟩, ⟨r1, (List.flatten [[c0], [c1], mq1, mq2, mq3, mq4, mq5, [c7], [c8], [.slice aq6 rows9.length capq6], [c10], [c11]]).toArray, 53⟩]) rfl)) (RdL.append (h_mq5.stays (hw'.staysN (L0 := [⟨r2, zc53, 53⟩, ⟨r1, (List.flatten [[c0], [c1], mq1, mq2, mq3, mq4, mq5, [c7], [c8], [.slice aq6 rows9.length capq6], [c10], [c11]]).toArray, 53⟩]) rfl)) (RdL.mk (h_c7.bare rfl) (RdL.mk (h_c8.bare rfl) (RdL.mk (h_sq8.stays (hw'.staysN (L0 := [⟨r2, zc53, 53⟩, ⟨r1, (List.flatten [[c0], [c1], mq1, mq2, mq3, mq4, mq5, [c7], [c8], [.slice aq6 rows9.length capq6], [c10], [c11]]).toArray, 53⟩]) rfl)) (RdL.mk (h_vq9.stays (hw'.staysN (L0 := [⟨r2, zc53, 53⟩, ⟨r1, (List.flatten [[c0], [c1], mq1, mq2, mq3, mq4, mq5, [c7], [c8], [.slice aq6 rows9.length capq6], [c10], [c11]]).toArray, 53⟩]) rfl)) (RdL.mk (h_c11.bare rfl) (RdL.none))))))))))))

theorem copyWrite_all (ds : List D) (hfit : FitL sh by_ ds shWrite) : CopyS Try.prog 41 ds := by
  have key : ∀ (m : Nat) (ds : List D), szL ds < m → FitL sh by_ ds shWrite → CopyS Try.prog 41 ds := by
    intro m
    induction m with
    | zero => intro ds h; omega
    | succ m ih => intro ds h hf; exact copyWrite_step ds hf (fun r hr hfr => ih r (by omega) hfr)
  exact key _ ds (Nat.lt_succ_self _) hfit

theorem copyEntries_ok (rows : List (List D)) (fR_rows : FitR sh by_ rows (sh 13)) (b_rows : rows.length * 1208 ≤ 140737488355328) : CopyV Try.prog 33 rows := by
  intro w S v hr
  have h_v := hr.im
  have hbel := Below.refl w.heap.size w
  refine Sx.enter (l := [v]) Try.func33 rfl (n := 23) rfl (by simp) ?_
  refine wc_eq (S := SH w []) (SH.refl _) ?_
  refine wc_seq ?_
  refine wc_region ?_
  refine wl_go 1 [(2, .slice none 0 0)] (by kernel_rfl) ?_
  refine nx_list ?_
  refine nx_then ?_
  refine wc_seq ?_
  refine wc_region ?_
  refine wl_go 1 [(4, v)] (by kernel_rfl) ?_
  have hesq1 : ∀ r ∈ rows, r.length = 82 := fR_rows.length
  refine wl_callB (X := Value × List Blk × List (List Value)) (d := 5) (fun x => x.1) (fun wa y wz => Cl 55 (Im w []) wa rows y.1 wz y.2.1 y.2.2) (by kernel_rfl) (by kernel_rfl) (fun w1 h1 => (clone_40 rows _ v w1 (h_v.stays (h1.staysC (L0 := []) rfl)) hesq1 b_rows).mono (fun e w' ⟨v', R, rv, he, hc⟩ => ⟨(v', R, rv), he, hc⟩)) ?_
  rintro wq1 ⟨v1, Rq1, rvq1⟩ wq2 hsq1 hclq1
  obtain ⟨aq1, capq1, rfl⟩ : ∃ a cap, v1 = .slice a rows.length cap := by obtain ⟨_, _, ⟨a, cap, h, _⟩, _⟩ := hclq1; exact ⟨a, cap, h⟩
  refine wl_eq (S := SH wq2 (([] : List Blk) ++ Rq1)) (Cp.startSH hsq1 hclq1) ?_
  refine wl_go 1 [(0, .slice aq1 rows.length capq1)] (by kernel_rfl) ?_
  refine nx_list ?_
  refine nx_then ?_
  refine wc_seq ?_
  refine wc_seq ?_
  refine wc_region ?_
  refine wl_go 3 [(8, .int .i64 0), (7, .int .i64 (rows.length : Int)), (6, .slice aq1 rows.length capq1)] (by kernel_rfl) ?_
  refine nx_list ?_
  refine nx_then ?_
  refine wc_block ?_
  refine wc_loop (σ := Cp 55 82 w w [] rows aq1 []) (fun x => [(0, .slice aq1 rows.length capq1), (7, .int .i64 (rows.length : Int)), (8, .int .i64 (x.i : Int))]) (fun x => SH x.wb (([] : List Blk) ++ x.R)) (fun x => rows.length - x.i) (fun w3 h3 => ⟨(Cp.start hbel (ge_nil _) hsq1 hclq1 hesq1 [] rfl).cast rfl, h3, (subEnv_cons (by kernel_rfl) (subEnv_cons (by kernel_rfl) (subEnv_cons (by kernel_rfl) (subEnv_nil _))))⟩) (fun x => ?_)
  refine wc_seq ?_
  refine wc_region ?_
  refine wl_go 1 [(9, .bool (decide ((x.i : Int) < (rows.length : Int))))] (by kernel_rfl) ?_
  refine nx_list ?_
  refine nx_then ?_
  refine wc_seq ?_
  refine wc_cond (decide ((x.i : Int) < (rows.length : Int))) (by kernel_rfl) (by kernel_rfl) (fun hcq1 => ?_) (fun hcq1 => ?_)
  · skip
    have hlt : x.i < rows.length := by simpa using hcq1
    have hrl : rows.length ≤ 140737488355328 := by have := b_rows; omega
    obtain ⟨g, sp, r, v, rfl, hxR, hrow, hval, hrd⟩ := x.row hlt
    have hfr := fR_rows.get x.i r hrow
    obtain ⟨u1, dq, rfl, hu1, hfq⟩ := FitL.split (ks := ([.int] ++ [.int] ++ [.str] ++ [.int]) ++ (shWrite)) (ks' := []) hfr
    obtain ⟨dp, dm, rfl, hfp, hfm⟩ := FitL.split (ks := [.int] ++ [.int] ++ [.str] ++ [.int]) (ks' := shWrite) hu1
    obtain ⟨uv, q, rfl, huv, h_q⟩ := RdL.split hrd
    obtain ⟨p, m, rfl, h_p, h_m⟩ := RdL.split huv
    have l_p : p.length = 4 := h_p.length.symm.trans hfp.length
    have l_m : m.length = 78 := h_m.length.symm.trans hfm.length
    have hbp := bare_of_fit hfp (by simp)
    have hbq := bare_of_fit hfq (by simp)
    have hszm : szL dm < szR rows := by have := szR_get hrow; rw [szL_append, szL_append] at this; omega
    rw [hxR]
    refine nx_skip ?_
    refine nx_then ?_
    refine wc_seq ?_
    refine wc_block ?_
    refine wc_seq ?_
    refine wc_region ?_
    refine wl_go 2 [(3, .int .i64 (x.i : Int)), (10, .int .i64 (x.i : Int))] (by kernel_rfl) ?_
    refine nx_list ?_
    refine nx_then ?_
    refine wc_region ?_
    refine wl_go 4 [(14, .int .i64 (x.i : Int)), (13, .slice (some ⟨g, 0, none⟩) rows.length capq1), (12, .int .i64 (x.i : Int)), (11, .slice (some ⟨g, 0, none⟩) rows.length capq1)] (by kernel_rfl) ?_
    refine wl_yl (d := 15) (v := .pointer (some ⟨g, 0 + x.i * 82, none⟩)) (by kernel_rfl) (yl_index (E := 55) (b := g) (off := 0) (len := rows.length) (cap := capq1) (k := x.i) (es := 82) rfl (by kernel_rfl) (by kernel_rfl) (by kernel_rfl) (by omega)) ?_
    refine wl_go 1 [(16, .pointer (some ⟨g, 0 + x.i * 82 + 4, none⟩))] (by kernel_rfl) ?_
    refine wl_yl (d := 17) (v := .agg (m).toArray) (by kernel_rfl) (yl_load (b := g) (off := 0 + x.i * 82 + 4) 0 rfl (by kernel_rfl) rfl (readAt_row x.hlen hval (by simp [l_p]) (by rw [l_m]; kernel_rfl))) ?_
    refine wl_callB (X := List Value) (d := 18) (fun x => .agg x.toArray) (fun wa y wz => RdL (fun k => wa.heap.size ≤ k) wz dm y ∧ Below wa.heap.size wa wz) (by kernel_rfl) (by kernel_rfl) (fun w1 h1 => copyWrite_all dm hfm w1 _ m ((show RdL (Im x.wb [⟨g, ((x.rv.flatten ++ sp).toArray), 55⟩]) x.wb dm m from by rw [← hxR]; exact h_m).stays h1.stays)) ?_
    rintro wq3 mq2 wq4 hin ⟨hmin, hbin⟩
    have h_mq2 := hmin
    have l_mq2 : mq2.length = 78 := hmin.length.symm.trans hfm.length
    have hin' := hin
    rw [← hxR] at hin
    refine wl_eq (S := SH wq4 [⟨g, ((x.rv.flatten ++ sp).toArray), 55⟩]) (hin'.after hbin) ?_
    refine wl_yl (d := 19) (v := .pointer (some ⟨g, 0 + x.i * 82, none⟩)) (by kernel_rfl) (yl_index (E := 55) (b := g) (off := 0) (len := rows.length) (cap := capq1) (k := x.i) (es := 82) rfl (by kernel_rfl) (by kernel_rfl) (by kernel_rfl) (by omega)) ?_
    refine wl_go 1 [(20, .pointer (some ⟨g, 0 + x.i * 82 + 4, none⟩))] (by kernel_rfl) ?_
    refine wl_store (b := g) (off := 0 + x.i * 82 + 4) (v := .agg (mq2).toArray) (c' := ((x.rv.set x.i (p ++ mq2 ++ q)).flatten ++ sp).toArray) (L' := [⟨g, (((x.rv.set x.i (p ++ mq2 ++ q)).flatten ++ sp).toArray), 55⟩]) 0 (by kernel_rfl) rfl (by kernel_rfl) (by kernel_rfl) rfl (writeAt_row mq2 x.hlen hval (by simp [l_p]) rfl (by rw [l_mq2, l_m]) (by rw [l_mq2]; kernel_rfl) (RdL.oneCell h_mq2)) rfl ?_
    refine nx_list ?_
    refine nx_block ?_
    refine nx_then ?_
    refine wc_region ?_
    refine wl_yl (d := 21) (v := .int .i64 ((x.i : Int) + 1)) (by kernel_rfl) (yl_int (t := (x.i : Int) + 1) (r := (x.i : Int) + 1) (by kernel_rfl) (i64w (by omega) (by omega))) ?_
    refine wl_go 1 [(8, .int .i64 ((x.i : Int) + 1))] (by kernel_rfl) ?_
    refine nx_list ?_
    refine nx_round (y := x.next (m' := mq2) hlt hrow hval hxR h_p h_q hbp hbq (by rw [l_m, l_mq2]) hin hbin hmin) (show rows.length - (x.i + 1) < rows.length - x.i by omega) (subEnv_cons (by kernel_rfl) (subEnv_cons (by kernel_rfl) (subEnv_cons (by kernel_rfl) (subEnv_nil _)))) (fun w h => h)
  · skip
    have hge : rows.length ≤ x.i := by simpa using hcq1
    refine wc_open (fun wq5 h9 => ?_)
    have h_sq3 := x.done hge h9 capq1
    have hT := (x.htr.trans h9.trDrop)
    have h_v := h_v.stays hT.stays
    have hbel := h9.below x.hbel x.hbel.size x.hL
    refine wc_eq (S := SH wq5 []) h9.drop ?_
    refine nx_exit ?_
    refine nx_then_exit ?_
    refine nx_then_exit ?_
    refine nx_block_here ?_
    refine nx_then ?_
    refine wc_seq ?_
    refine wc_region ?_
    refine wl_go 2 [(2, .slice aq1 rows.length capq1), (22, .slice aq1 rows.length capq1)] (by kernel_rfl) ?_
    refine nx_list ?_
    refine nx_then ?_
    refine nx_ret ?_
    refine ret_tmp (v := .slice aq1 rows.length capq1) rfl (by kernel_rfl) ?_
    intro w' hw'
    exact ⟨_, rfl, h_sq3.stays (hw'.staysN rfl), hw'.below hbel hbel.size (ge_nil _)⟩

end Go.Proofs.Ytidkaipijocjcaa
