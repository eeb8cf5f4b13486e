/- Contracts of the writers of docstoreref40 (second part), printed by a program of this repository (gen/writers.py). -/
import Derived.Test.YtidkaipijocjcaaWr1
namespace Go.Proofs.Ytidkaipijocjcaa
open Go.RowKit Go.Sx
set_option linter.unusedVariables false
set_option linter.unusedSimpArgs false

set_option maxHeartbeats 4000000 in
theorem shape_step (ds : List D) (hfit : FitL sh by_ ds shShape) : WS Try.prog 81 130 ds := by
  intro w b s bad cs hb hrd hz0
  obtain ⟨E, hE⟩ : ∃ E, E = encL ds := ⟨_, rfl⟩
  rw [← hE]
  skip
  obtain ⟨d0, e0, rfl, hf0, hft0⟩ := FitL.cons (k := .int) (ks := [.sl 4] ++ [.int]) hfit
  obtain ⟨n0, rfl, _⟩ := Fit.int hf0
  obtain ⟨d1, e1, rfl, hf1, hft1⟩ := FitL.cons (k := .sl 4) (ks := [.int]) hft0
  obtain ⟨rows1, rfl, b_rows1, fR_rows1⟩ := Fit.sl hf1
  have b_rows1 : rows1.length * 16 ≤ 140737488355328 := b_rows1
  have bb_rows1 : rows1.length ≤ 140737488355328 := by omega
  obtain ⟨d2, e2, rfl, hf2, hft2⟩ := FitL.cons (k := .int) (ks := []) hft1
  obtain ⟨n2, rfl, _⟩ := Fit.int hf2
  obtain rfl := FitL.nil hft2
  obtain ⟨c0, z0, rfl, h_c0, hrd0⟩ := RdL.cons hrd
  rw [Rd] at h_c0; subst h_c0
  obtain ⟨c1, z1, rfl, h_c1, hrd1⟩ := RdL.cons hrd0
  obtain ⟨a1, cap1, rfl⟩ := h_c1.slv
  obtain ⟨c2, z2, rfl, h_c2, hrd2⟩ := RdL.cons hrd1
  rw [Rd] at h_c2; subst h_c2
  obtain rfl := RdL.nil hrd2
  rw [show ((.int .i64 n0) :: ((.slice a1 rows1.length cap1) :: ((.int .i64 n2) :: ([]))) : List Value) = List.flatten [[.int .i64 n0], [.slice a1 rows1.length cap1], [.int .i64 n2]] from by simp]
  have hz : s.size + ((encD (.int n0)).size + ((encD (.int (rows1.length : Int))).size + ((encR rows1).size + ((encD (.int n2)).size + (0))))) ≤ 9223372036854775807 := by
    have h9 := hz0
    simp only [encLs_cons, encLs_app, encLs_nil, szSL rows1] at h9
    exact h9
  have hent := (@Sx.enter Try.prog 41 81 Try.f81 _ [.pointer (some ⟨b, 0, none⟩), .agg (List.flatten [[.int .i64 n0], [.slice a1 rows1.length cap1], [.int .i64 n2]]).toArray] w (fun e w' => e = .returned (.tuple #[]) ∧ SH w [⟨b, #[.string (s ++ E), .bool bad, .bool true], 130⟩] w') Try.func81 rfl rfl (by simp))
  refine hent ?_
  refine wc_eq (S := SH w [⟨b, #[.string s, .bool bad, .bool true], 130⟩]) hb ?_
  refine wc_seq ?_
  refine wc_region ?_
  refine wl_new (d := 3) (List.flatten [[.int .i64 n0], [.slice a1 rows1.length cap1], [.int .i64 n2]]).toArray 41 (fun r => .pointer (some ⟨r, 0, none⟩)) (by kernel_rfl) (fun r => by kernel_rfl) ?_
  intro r1 hr1
  have h_c1 := h_c1.stays (im_more (c := (List.flatten [[.int .i64 n0], [.slice a1 rows1.length cap1], [.int .i64 n2]]).toArray) (t := 41) hr1)
  refine nx_list ?_
  refine nx_then ?_
  refine wc_seq ?_
  refine wc_region ?_
  refine wl_go 2 [(6, .pointer (some ⟨r1, 0, none⟩)), (5, .pointer (some ⟨b, 0, none⟩))] (by kernel_rfl) ?_
  refine wl_yl (d := 7) (v := .int .i64 n0) (by kernel_rfl) (yl_load (b := r1) (off := 0) 0 rfl (by kernel_rfl) rfl (readAt_seg1 0 rfl (by simp) (by kernel_rfl))) ?_
  refine wl_callW (d := 8) (b := b) (s := s) (E := (encD (.int n0))) (bad := bad) (T := 130) (L' := [⟨r1, (List.flatten [[.int .i64 n0], [.slice a1 rows1.length cap1], [.int .i64 n2]]).toArray, 41⟩, ⟨b, #[.string (s ++ (encD (.int n0))), .bool bad, .bool true], 130⟩]) 1 (by kernel_rfl) (by kernel_rfl) rfl rfl (fun w1 h1 => (num_ok n0) w1 b s bad (.int .i64 n0) (h1.one 1 rfl) (by rw [Rd]) (szA hz)) ?_
  obtain ⟨s1, hs1⟩ : ∃ u_, u_ = s ++ (encD (.int n0)) := ⟨_, rfl⟩
  have hz := szB hz hs1
  rw [← hs1]
  refine nx_list ?_
  refine nx_then ?_
  refine wc_seq ?_
  refine wc_region ?_
  refine wl_go 2 [(10, .pointer (some ⟨r1, 1, none⟩)), (9, .pointer (some ⟨b, 0, none⟩))] (by kernel_rfl) ?_
  refine wl_yl (d := 11) (v := .slice a1 rows1.length cap1) (by kernel_rfl) (yl_load (b := r1) (off := 1) 0 rfl (by kernel_rfl) rfl (readAt_seg1 1 rfl (by simp) (by kernel_rfl))) ?_
  refine wl_go 1 [(12, .int .i64 (rows1.length : Int))] (by kernel_rfl) ?_
  refine wl_callW (d := 13) (b := b) (s := s1) (E := (encD (.int (rows1.length : Int)))) (bad := bad) (T := 130) (L' := [⟨r1, (List.flatten [[.int .i64 n0], [.slice a1 rows1.length cap1], [.int .i64 n2]]).toArray, 41⟩, ⟨b, #[.string (s1 ++ (encD (.int (rows1.length : Int)))), .bool bad, .bool true], 130⟩]) 1 (by kernel_rfl) (by kernel_rfl) rfl rfl (fun w1 h1 => (num_ok (rows1.length : Int)) w1 b s1 bad (.int .i64 (rows1.length : Int)) (h1.one 1 rfl) (by rw [Rd]) (szA hz)) ?_
  obtain ⟨s2, hs2⟩ : ∃ u_, u_ = s1 ++ (encD (.int (rows1.length : Int))) := ⟨_, rfl⟩
  have hz := szB hz hs2
  rw [← hs2]
  refine nx_list ?_
  refine nx_then ?_
  refine wc_seq ?_
  refine wc_seq ?_
  refine wc_region ?_
  refine wl_go 1 [(4, .int .i64 0)] (by kernel_rfl) ?_
  refine nx_list ?_
  refine nx_then ?_
  refine wc_block ?_
  refine wc_loop (σ := { i : Nat // i ≤ rows1.length }) (fun x => [(0, .pointer (some ⟨b, 0, none⟩)), (3, .pointer (some ⟨r1, 0, none⟩)), (4, .int .i64 (x.1 : Int))]) (fun x => SH w [⟨r1, (List.flatten [[.int .i64 n0], [.slice a1 rows1.length cap1], [.int .i64 n2]]).toArray, 41⟩, ⟨b, #[.string (s2 ++ encR (rows1.take x.1)), .bool bad, .bool true], 130⟩]) (fun x => rows1.length - x.1) (fun w3 h3 => ⟨⟨0, Nat.zero_le _⟩, by simpa only [List.take_zero, encR, ByteArray.append_empty] using h3, (subEnv_cons (by kernel_rfl) (subEnv_cons (by kernel_rfl) (subEnv_cons (by kernel_rfl) (subEnv_nil _))))⟩) (fun x => ?_)
  refine wc_seq ?_
  refine wc_seq ?_
  refine wc_region ?_
  refine wl_go 2 [(15, .pointer (some ⟨r1, 1, none⟩)), (14, .int .i64 (x.1 : Int))] (by kernel_rfl) ?_
  refine wl_yl (d := 16) (v := .slice a1 rows1.length cap1) (by kernel_rfl) (yl_load (b := r1) (off := 1) 0 rfl (by kernel_rfl) rfl (readAt_seg1 1 rfl (by simp) (by kernel_rfl))) ?_
  refine wl_go 2 [(18, .bool (decide ((x.1 : Int) < (rows1.length : Int)))), (17, .int .i64 (rows1.length : Int))] (by kernel_rfl) ?_
  refine nx_list ?_
  refine nx_then ?_
  refine wc_cond (decide ((x.1 : Int) < (rows1.length : Int))) (by kernel_rfl) (by kernel_rfl) (fun hc1 => ?_) (fun hc1 => ?_)
  · skip
    have hlt : x.1 < rows1.length := by simpa using hc1
    obtain ⟨r, hrow⟩ : ∃ r, rows1[x.1]? = some r := ⟨_, List.getElem?_eq_getElem hlt⟩
    have hfr := fR_rows1.get x.1 r hrow
    obtain ⟨g, off, cr, rfl, hIg, h_cr, l_cr, hrg⟩ := Rd.row_at (es := 2) h_c1 (fun r hr => fR_rows1.length r hr) hrow
    have hzr : (s2 ++ encR (rows1.take x.1)).size + (encL r).size ≤ 9223372036854775807 := by
      rw [ByteArray.size_append]
      have h8 := encR_room hrow
      omega
    obtain ⟨dr0, er0, rfl, hfr0, hftr0⟩ := FitL.cons (k := .int) (ks := [.int]) hfr
    obtain ⟨nr0, rfl, _⟩ := Fit.int hfr0
    obtain ⟨dr1, er1, rfl, hfr1, hftr1⟩ := FitL.cons (k := .int) (ks := []) hftr0
    obtain ⟨nr1, rfl, _⟩ := Fit.int hfr1
    obtain rfl := FitL.nil hftr1
    obtain ⟨cr0, zr0, rfl, h_cr0, hrdr0⟩ := RdL.cons h_cr
    rw [Rd] at h_cr0; subst h_cr0
    obtain ⟨cr1, zr1, rfl, h_cr1, hrdr1⟩ := RdL.cons hrdr0
    rw [Rd] at h_cr1; subst h_cr1
    obtain rfl := RdL.nil hrdr1
    have hmem := List.mem_of_getElem? hrow
    have hz : (s2 ++ encR (rows1.take x.1)).size + ((encD (.int nr0)).size + ((encD (.int nr1)).size + (0))) ≤ 9223372036854775807 := by
      have h9 := hzr
      simp only [encLs_cons, encLs_app, encLs_nil] at h9
      exact h9
    refine nx_skip ?_
    refine nx_then ?_
    refine wc_seq ?_
    refine wc_block ?_
    refine wc_seq ?_
    refine wc_region ?_
    refine wl_go 2 [(22, .pointer (some ⟨r1, 1, none⟩)), (21, .pointer (some ⟨b, 0, none⟩))] (by kernel_rfl) ?_
    refine wl_yl (d := 23) (v := .slice (some ⟨g, off, none⟩) rows1.length cap1) (by kernel_rfl) (yl_load (b := r1) (off := 1) 0 rfl (by kernel_rfl) rfl (readAt_seg1 1 rfl (by simp) (by kernel_rfl))) ?_
    refine wl_go 1 [(24, .int .i64 (x.1 : Int))] (by kernel_rfl) ?_
    refine wl_yl (d := 25) (v := .pointer (some ⟨g, off + x.1 * 2, none⟩)) (by kernel_rfl) (yl_index (E := 138) (b := g) (off := off) (len := rows1.length) (cap := cap1) (k := x.1) (es := 2) rfl (by kernel_rfl) (by kernel_rfl) (by kernel_rfl) (by omega)) ?_
    refine wl_go 1 [(26, .pointer (some ⟨g, off + x.1 * 2, none⟩))] (by kernel_rfl) ?_
    refine wl_yl (d := 27) (v := .int .i64 nr0) (by kernel_rfl) (yl_load_im (b := g) (off := off + x.1 * 2) (v := .int .i64 nr0) rfl (by kernel_rfl) (im_cong (L := (⟨r1, (List.flatten [[.int .i64 n0], [.slice (some ⟨g, off, none⟩) rows1.length cap1], [.int .i64 n2]]).toArray, 41⟩ :: [⟨b, #[.string s, .bool bad, .bool true], 130⟩])) (L' := [⟨r1, (List.flatten [[.int .i64 n0], [.slice (some ⟨g, off, none⟩) rows1.length cap1], [.int .i64 n2]]).toArray, 41⟩, ⟨b, #[.string (s2 ++ encR (rows1.take x.1)), .bool bad, .bool true], 130⟩]) rfl hIg) (by kernel_rfl) (hrg 0 _ rfl)) ?_
    refine wl_callW (d := 28) (b := b) (s := (s2 ++ encR (rows1.take x.1))) (E := (encD (.int nr0))) (bad := bad) (T := 130) (L' := [⟨r1, (List.flatten [[.int .i64 n0], [.slice (some ⟨g, off, none⟩) rows1.length cap1], [.int .i64 n2]]).toArray, 41⟩, ⟨b, #[.string ((s2 ++ encR (rows1.take x.1)) ++ (encD (.int nr0))), .bool bad, .bool true], 130⟩]) 1 (by kernel_rfl) (by kernel_rfl) rfl rfl (fun w1 h1 => (num_ok nr0) w1 b (s2 ++ encR (rows1.take x.1)) bad (.int .i64 nr0) (h1.one 1 rfl) (by rw [Rd]) (szA hz)) ?_
    obtain ⟨s3, hs3⟩ : ∃ u_, u_ = (s2 ++ encR (rows1.take x.1)) ++ (encD (.int nr0)) := ⟨_, rfl⟩
    have hz := szB hz hs3
    rw [← hs3]
    refine nx_list ?_
    refine nx_then ?_
    refine wc_region ?_
    refine wl_go 2 [(30, .pointer (some ⟨r1, 1, none⟩)), (29, .pointer (some ⟨b, 0, none⟩))] (by kernel_rfl) ?_
    refine wl_yl (d := 31) (v := .slice (some ⟨g, off, none⟩) rows1.length cap1) (by kernel_rfl) (yl_load (b := r1) (off := 1) 0 rfl (by kernel_rfl) rfl (readAt_seg1 1 rfl (by simp) (by kernel_rfl))) ?_
    refine wl_go 1 [(32, .int .i64 (x.1 : Int))] (by kernel_rfl) ?_
    refine wl_yl (d := 33) (v := .pointer (some ⟨g, off + x.1 * 2, none⟩)) (by kernel_rfl) (yl_index (E := 138) (b := g) (off := off) (len := rows1.length) (cap := cap1) (k := x.1) (es := 2) rfl (by kernel_rfl) (by kernel_rfl) (by kernel_rfl) (by omega)) ?_
    refine wl_go 1 [(34, .pointer (some ⟨g, off + x.1 * 2 + 1, none⟩))] (by kernel_rfl) ?_
    refine wl_yl (d := 35) (v := .int .i64 nr1) (by kernel_rfl) (yl_load_im (b := g) (off := off + x.1 * 2 + 1) (v := .int .i64 nr1) rfl (by kernel_rfl) (im_cong (L := (⟨r1, (List.flatten [[.int .i64 n0], [.slice (some ⟨g, off, none⟩) rows1.length cap1], [.int .i64 n2]]).toArray, 41⟩ :: [⟨b, #[.string s, .bool bad, .bool true], 130⟩])) (L' := [⟨r1, (List.flatten [[.int .i64 n0], [.slice (some ⟨g, off, none⟩) rows1.length cap1], [.int .i64 n2]]).toArray, 41⟩, ⟨b, #[.string s3, .bool bad, .bool true], 130⟩]) rfl hIg) (by kernel_rfl) (hrg 1 _ rfl)) ?_
    refine wl_callW (d := 36) (b := b) (s := s3) (E := (encD (.int nr1))) (bad := bad) (T := 130) (L' := [⟨r1, (List.flatten [[.int .i64 n0], [.slice (some ⟨g, off, none⟩) rows1.length cap1], [.int .i64 n2]]).toArray, 41⟩, ⟨b, #[.string (s3 ++ (encD (.int nr1))), .bool bad, .bool true], 130⟩]) 1 (by kernel_rfl) (by kernel_rfl) rfl rfl (fun w1 h1 => (num_ok nr1) w1 b s3 bad (.int .i64 nr1) (h1.one 1 rfl) (by rw [Rd]) (szA hz)) ?_
    obtain ⟨s4, hs4⟩ : ∃ u_, u_ = s3 ++ (encD (.int nr1)) := ⟨_, rfl⟩
    have hz := szB hz hs4
    rw [← hs4]
    refine nx_list ?_
    refine nx_block ?_
    refine nx_then ?_
    refine wc_region ?_
    refine wl_go 1 [(19, .int .i64 (x.1 : Int))] (by kernel_rfl) ?_
    refine wl_yl (d := 20) (v := .int .i64 ((x.1 : Int) + 1)) (by kernel_rfl) (yl_int (t := (x.1 : Int) + 1) (r := (x.1 : Int) + 1) (by kernel_rfl) (i64w (by omega) (by omega))) ?_
    refine wl_go 1 [(4, .int .i64 ((x.1 : Int) + 1))] (by kernel_rfl) ?_
    refine nx_list ?_
    have hfin : s4 = s2 ++ encR (rows1.take (x.1 + 1)) := by
      rw [encR_take hrow, hs4, hs3]
      simp only [encL_append, encL, encD, ByteArray.append_assoc, ByteArray.append_empty]
    rw [hfin]
    refine nx_round (y := ⟨x.1 + 1, hlt⟩) (show rows1.length - (x.1 + 1) < rows1.length - x.1 by omega) (subEnv_cons (by kernel_rfl) (subEnv_cons (by kernel_rfl) (subEnv_cons (by kernel_rfl) (subEnv_nil _)))) (fun w h => h)
  · skip
    have hge : rows1.length ≤ x.1 := by simpa using hc1
    obtain ⟨s5, hs5⟩ : ∃ u_, u_ = s2 ++ encR rows1 := ⟨_, rfl⟩
    have hz := szB hz hs5
    rw [List.take_of_length_le hge, ← hs5]
    refine nx_exit ?_
    refine nx_then_exit ?_
    refine nx_then_exit ?_
    refine nx_block_here ?_
    refine nx_then ?_
    refine wc_region ?_
    refine wl_go 2 [(38, .pointer (some ⟨r1, 2, none⟩)), (37, .pointer (some ⟨b, 0, none⟩))] (by kernel_rfl) ?_
    refine wl_yl (d := 39) (v := .int .i64 n2) (by kernel_rfl) (yl_load (b := r1) (off := 2) 0 rfl (by kernel_rfl) rfl (readAt_seg1 2 rfl (by simp) (by kernel_rfl))) ?_
    refine wl_callW (d := 40) (b := b) (s := s5) (E := (encD (.int n2))) (bad := bad) (T := 130) (L' := [⟨r1, (List.flatten [[.int .i64 n0], [.slice a1 rows1.length cap1], [.int .i64 n2]]).toArray, 41⟩, ⟨b, #[.string (s5 ++ (encD (.int n2))), .bool bad, .bool true], 130⟩]) 1 (by kernel_rfl) (by kernel_rfl) rfl rfl (fun w1 h1 => (num_ok n2) w1 b s5 bad (.int .i64 n2) (h1.one 1 rfl) (by rw [Rd]) (szA hz)) ?_
    obtain ⟨s6, hs6⟩ : ∃ u_, u_ = s5 ++ (encD (.int n2)) := ⟨_, rfl⟩
    have hz := szB hz hs6
    rw [← hs6]
    refine nx_list ?_
    refine end_none rfl ?_
    intro w' hw'
    have hfin : s6 = s ++ E := by
      rw [hE, hs6, hs5, hs2, hs1]
      simp only [encL_append, encL, encD, ByteArray.append_assoc, ByteArray.append_empty]
    rw [hfin] at hw'
    exact ⟨rfl, hw'.tail hr1⟩

theorem shape_all (ds : List D) (hfit : FitL sh by_ ds shShape) : WS Try.prog 81 130 ds := shape_step ds hfit

set_option maxHeartbeats 4000000 in
theorem expr_step (ds : List D) (hfit : FitL sh by_ ds shExpr) (ih : ∀ (r : List D), szL r < szL ds → FitL sh by_ r shExpr → WS Try.prog 82 130 r) : WS Try.prog 82 130 ds := by
  intro w b s bad cs hb hrd hz0
  obtain ⟨E, hE⟩ : ∃ E, E = encL ds := ⟨_, rfl⟩
  rw [← hE]
  skip
  obtain ⟨d0, e0, rfl, hf0, hft0⟩ := FitL.cons (k := .int) (ks := [.sl 2] ++ [.str] ++ [.sl 2] ++ shV ++ [.int] ++ [.sl 5]) hfit
  obtain ⟨n0, rfl, _⟩ := Fit.int hf0
  obtain ⟨d1, e1, rfl, hf1, hft1⟩ := FitL.cons (k := .sl 2) (ks := [.str] ++ [.sl 2] ++ shV ++ [.int] ++ [.sl 5]) hft0
  obtain ⟨rows1, rfl, b_rows1, fR_rows1⟩ := Fit.sl hf1
  have b_rows1 : rows1.length * 16 ≤ 140737488355328 := b_rows1
  have bb_rows1 : rows1.length ≤ 140737488355328 := by omega
  obtain ⟨d2, e2, rfl, hf2, hft2⟩ := FitL.cons (k := .str) (ks := [.sl 2] ++ shV ++ [.int] ++ [.sl 5]) hft1
  obtain ⟨n2, rfl, _⟩ := Fit.str hf2
  obtain ⟨d3, e3, rfl, hf3, hft3⟩ := FitL.cons (k := .sl 2) (ks := shV ++ [.int] ++ [.sl 5]) hft2
  obtain ⟨rows3, rfl, b_rows3, fR_rows3⟩ := Fit.sl hf3
  have b_rows3 : rows3.length * 16 ≤ 140737488355328 := b_rows3
  have bb_rows3 : rows3.length ≤ 140737488355328 := by omega
  obtain ⟨d4, e4, rfl, hf4, hft4⟩ := FitL.split (ks := shV) (ks' := [.int] ++ [.sl 5]) hft3
  obtain ⟨d5, e5, rfl, hf5, hft5⟩ := FitL.cons (k := .int) (ks := [.sl 5]) hft4
  obtain ⟨n5, rfl, _⟩ := Fit.int hf5
  obtain ⟨d6, e6, rfl, hf6, hft6⟩ := FitL.cons (k := .sl 5) (ks := []) hft5
  obtain ⟨rows6, rfl, b_rows6, fR_rows6⟩ := Fit.sl hf6
  have b_rows6 : rows6.length * 184 ≤ 140737488355328 := b_rows6
  have bb_rows6 : rows6.length ≤ 140737488355328 := by omega
  obtain rfl := FitL.nil hft6
  obtain ⟨c0, z0, rfl, h_c0, hrd0⟩ := RdL.cons hrd
  rw [Rd] at h_c0; subst h_c0
  obtain ⟨c1, z1, rfl, h_c1, hrd1⟩ := RdL.cons hrd0
  obtain ⟨a1, cap1, rfl⟩ := h_c1.slv
  obtain ⟨c2, z2, rfl, h_c2, hrd2⟩ := RdL.cons hrd1
  rw [Rd] at h_c2; subst h_c2
  obtain ⟨c3, z3, rfl, h_c3, hrd3⟩ := RdL.cons hrd2
  obtain ⟨a3, cap3, rfl⟩ := h_c3.slv
  obtain ⟨c4, z4, rfl, h_c4, hrd4⟩ := RdL.split hrd3
  have l_c4 : c4.length = 5 := h_c4.length.symm.trans hf4.length
  obtain ⟨c5, z5, rfl, h_c5, hrd5⟩ := RdL.cons hrd4
  rw [Rd] at h_c5; subst h_c5
  obtain ⟨c6, z6, rfl, h_c6, hrd6⟩ := RdL.cons hrd5
  obtain ⟨a6, cap6, rfl⟩ := h_c6.slv
  obtain rfl := RdL.nil hrd6
  rw [show ((.int .i64 n0) :: ((.slice a1 rows1.length cap1) :: ((.string n2) :: ((.slice a3 rows3.length cap3) :: (c4 ++ ((.int .i64 n5) :: ((.slice a6 rows6.length cap6) :: ([]))))))) : List Value) = List.flatten [[.int .i64 n0], [.slice a1 rows1.length cap1], [.string n2], [.slice a3 rows3.length cap3], c4, [.int .i64 n5], [.slice a6 rows6.length cap6]] from by simp]
  have hz : s.size + ((encD (.int n0)).size + ((encD (.sl rows1)).size + ((encD (.str n2)).size + ((encD (.sl rows3)).size + ((encL d4).size + ((encD (.int n5)).size + ((encD (.int (rows6.length : Int))).size + ((encR rows6).size + (0))))))))) ≤ 9223372036854775807 := by
    have h9 := hz0
    simp only [encLs_cons, encLs_app, encLs_nil, szSL rows6] at h9
    exact h9
  have hent := (@Sx.enter Try.prog 48 82 Try.f82 _ [.pointer (some ⟨b, 0, none⟩), .agg (List.flatten [[.int .i64 n0], [.slice a1 rows1.length cap1], [.string n2], [.slice a3 rows3.length cap3], c4, [.int .i64 n5], [.slice a6 rows6.length cap6]]).toArray] w (fun e w' => e = .returned (.tuple #[]) ∧ SH w [⟨b, #[.string (s ++ E), .bool bad, .bool true], 130⟩] w') Try.func82 rfl rfl (by simp))
  refine hent ?_
  refine wc_eq (S := SH w [⟨b, #[.string s, .bool bad, .bool true], 130⟩]) hb ?_
  refine wc_seq ?_
  refine wc_region ?_
  refine wl_new (d := 3) (List.flatten [[.int .i64 n0], [.slice a1 rows1.length cap1], [.string n2], [.slice a3 rows3.length cap3], c4, [.int .i64 n5], [.slice a6 rows6.length cap6]]).toArray 44 (fun r => .pointer (some ⟨r, 0, none⟩)) (by kernel_rfl) (fun r => by kernel_rfl) ?_
  intro r1 hr1
  have h_c1 := h_c1.stays (im_more (c := (List.flatten [[.int .i64 n0], [.slice a1 rows1.length cap1], [.string n2], [.slice a3 rows3.length cap3], c4, [.int .i64 n5], [.slice a6 rows6.length cap6]]).toArray) (t := 44) hr1)
  have h_c3 := h_c3.stays (im_more (c := (List.flatten [[.int .i64 n0], [.slice a1 rows1.length cap1], [.string n2], [.slice a3 rows3.length cap3], c4, [.int .i64 n5], [.slice a6 rows6.length cap6]]).toArray) (t := 44) hr1)
  have h_c4 := h_c4.stays (im_more (c := (List.flatten [[.int .i64 n0], [.slice a1 rows1.length cap1], [.string n2], [.slice a3 rows3.length cap3], c4, [.int .i64 n5], [.slice a6 rows6.length cap6]]).toArray) (t := 44) hr1)
  have h_c6 := h_c6.stays (im_more (c := (List.flatten [[.int .i64 n0], [.slice a1 rows1.length cap1], [.string n2], [.slice a3 rows3.length cap3], c4, [.int .i64 n5], [.slice a6 rows6.length cap6]]).toArray) (t := 44) hr1)
  refine nx_list ?_
  refine nx_then ?_
  refine wc_seq ?_
  refine wc_region ?_
  refine wl_go 2 [(6, .pointer (some ⟨r1, 0, none⟩)), (5, .pointer (some ⟨b, 0, none⟩))] (by kernel_rfl) ?_
  refine wl_yl (d := 7) (v := .int .i64 n0) (by kernel_rfl) (yl_load (b := r1) (off := 0) 0 rfl (by kernel_rfl) rfl (readAt_seg1 0 rfl (by simp [l_c4]) (by kernel_rfl))) ?_
  refine wl_callW (d := 8) (b := b) (s := s) (E := (encD (.int n0))) (bad := bad) (T := 130) (L' := [⟨r1, (List.flatten [[.int .i64 n0], [.slice a1 rows1.length cap1], [.string n2], [.slice a3 rows3.length cap3], c4, [.int .i64 n5], [.slice a6 rows6.length cap6]]).toArray, 44⟩, ⟨b, #[.string (s ++ (encD (.int n0))), .bool bad, .bool true], 130⟩]) 1 (by kernel_rfl) (by kernel_rfl) rfl rfl (fun w1 h1 => (num_ok n0) w1 b s bad (.int .i64 n0) (h1.one 1 rfl) (by rw [Rd]) (szA hz)) ?_
  obtain ⟨s1, hs1⟩ : ∃ u_, u_ = s ++ (encD (.int n0)) := ⟨_, rfl⟩
  have hz := szB hz hs1
  rw [← hs1]
  refine nx_list ?_
  refine nx_then ?_
  refine wc_seq ?_
  refine wc_region ?_
  refine wl_go 2 [(10, .pointer (some ⟨r1, 1, none⟩)), (9, .pointer (some ⟨b, 0, none⟩))] (by kernel_rfl) ?_
  refine wl_yl (d := 11) (v := .slice a1 rows1.length cap1) (by kernel_rfl) (yl_load (b := r1) (off := 1) 0 rfl (by kernel_rfl) rfl (readAt_seg1 1 rfl (by simp [l_c4]) (by kernel_rfl))) ?_
  refine wl_callW (d := 12) (b := b) (s := s1) (E := (encD (.sl rows1))) (bad := bad) (T := 130) (L' := [⟨r1, (List.flatten [[.int .i64 n0], [.slice a1 rows1.length cap1], [.string n2], [.slice a3 rows3.length cap3], c4, [.int .i64 n5], [.slice a6 rows6.length cap6]]).toArray, 44⟩, ⟨b, #[.string (s1 ++ (encD (.sl rows1))), .bool bad, .bool true], 130⟩]) 1 (by kernel_rfl) (by kernel_rfl) rfl rfl (fun w1 h1 => (strs_ok rows1 fR_rows1 b_rows1) w1 b s1 bad (.slice a1 rows1.length cap1) (h1.one 1 rfl) (h_c1.stays (h1.staysB (L0 := (⟨r1, (List.flatten [[.int .i64 n0], [.slice a1 rows1.length cap1], [.string n2], [.slice a3 rows3.length cap3], c4, [.int .i64 n5], [.slice a6 rows6.length cap6]]).toArray, 44⟩ :: [⟨b, #[.string s, .bool bad, .bool true], 130⟩])) rfl 1 rfl)) (szA hz)) ?_
  obtain ⟨s2, hs2⟩ : ∃ u_, u_ = s1 ++ (encD (.sl rows1)) := ⟨_, rfl⟩
  have hz := szB hz hs2
  rw [← hs2]
  refine nx_list ?_
  refine nx_then ?_
  refine wc_seq ?_
  refine wc_region ?_
  refine wl_go 2 [(14, .pointer (some ⟨r1, 2, none⟩)), (13, .pointer (some ⟨b, 0, none⟩))] (by kernel_rfl) ?_
  refine wl_yl (d := 15) (v := .string n2) (by kernel_rfl) (yl_load (b := r1) (off := 2) 0 rfl (by kernel_rfl) rfl (readAt_seg1 2 rfl (by simp [l_c4]) (by kernel_rfl))) ?_
  refine wl_callW (d := 16) (b := b) (s := s2) (E := (encD (.str n2))) (bad := bad) (T := 130) (L' := [⟨r1, (List.flatten [[.int .i64 n0], [.slice a1 rows1.length cap1], [.string n2], [.slice a3 rows3.length cap3], c4, [.int .i64 n5], [.slice a6 rows6.length cap6]]).toArray, 44⟩, ⟨b, #[.string (s2 ++ (encD (.str n2))), .bool bad, .bool true], 130⟩]) 1 (by kernel_rfl) (by kernel_rfl) rfl rfl (fun w1 h1 => (str_ok n2) w1 b s2 bad (.string n2) (h1.one 1 rfl) (by rw [Rd]) (szA hz)) ?_
  obtain ⟨s3, hs3⟩ : ∃ u_, u_ = s2 ++ (encD (.str n2)) := ⟨_, rfl⟩
  have hz := szB hz hs3
  rw [← hs3]
  refine nx_list ?_
  refine nx_then ?_
  refine wc_seq ?_
  refine wc_region ?_
  refine wl_go 2 [(18, .pointer (some ⟨r1, 3, none⟩)), (17, .pointer (some ⟨b, 0, none⟩))] (by kernel_rfl) ?_
  refine wl_yl (d := 19) (v := .slice a3 rows3.length cap3) (by kernel_rfl) (yl_load (b := r1) (off := 3) 0 rfl (by kernel_rfl) rfl (readAt_seg1 3 rfl (by simp [l_c4]) (by kernel_rfl))) ?_
  refine wl_callW (d := 20) (b := b) (s := s3) (E := (encD (.sl rows3))) (bad := bad) (T := 130) (L' := [⟨r1, (List.flatten [[.int .i64 n0], [.slice a1 rows1.length cap1], [.string n2], [.slice a3 rows3.length cap3], c4, [.int .i64 n5], [.slice a6 rows6.length cap6]]).toArray, 44⟩, ⟨b, #[.string (s3 ++ (encD (.sl rows3))), .bool bad, .bool true], 130⟩]) 1 (by kernel_rfl) (by kernel_rfl) rfl rfl (fun w1 h1 => (strs_ok rows3 fR_rows3 b_rows3) w1 b s3 bad (.slice a3 rows3.length cap3) (h1.one 1 rfl) (h_c3.stays (h1.staysB (L0 := (⟨r1, (List.flatten [[.int .i64 n0], [.slice a1 rows1.length cap1], [.string n2], [.slice a3 rows3.length cap3], c4, [.int .i64 n5], [.slice a6 rows6.length cap6]]).toArray, 44⟩ :: [⟨b, #[.string s, .bool bad, .bool true], 130⟩])) rfl 1 rfl)) (szA hz)) ?_
  obtain ⟨s4, hs4⟩ : ∃ u_, u_ = s3 ++ (encD (.sl rows3)) := ⟨_, rfl⟩
  have hz := szB hz hs4
  rw [← hs4]
  refine nx_list ?_
  refine nx_then ?_
  refine wc_seq ?_
  refine wc_region ?_
  refine wl_go 2 [(22, .pointer (some ⟨r1, 4, none⟩)), (21, .pointer (some ⟨b, 0, none⟩))] (by kernel_rfl) ?_
  refine wl_yl (d := 23) (v := .agg (c4).toArray) (by kernel_rfl) (yl_load (b := r1) (off := 4) 0 rfl (by kernel_rfl) rfl (readAt_seg 4 rfl (by simp [l_c4]) (by rw [l_c4]; kernel_rfl))) ?_
  refine wl_callW (d := 24) (b := b) (s := s4) (E := (encL d4)) (bad := bad) (T := 130) (L' := [⟨r1, (List.flatten [[.int .i64 n0], [.slice a1 rows1.length cap1], [.string n2], [.slice a3 rows3.length cap3], c4, [.int .i64 n5], [.slice a6 rows6.length cap6]]).toArray, 44⟩, ⟨b, #[.string (s4 ++ (encL d4)), .bool bad, .bool true], 130⟩]) 1 (by kernel_rfl) (by kernel_rfl) rfl rfl (fun w1 h1 => (value_all d4 hf4) w1 b s4 bad c4 (h1.one 1 rfl) (h_c4.stays (h1.staysB (L0 := (⟨r1, (List.flatten [[.int .i64 n0], [.slice a1 rows1.length cap1], [.string n2], [.slice a3 rows3.length cap3], c4, [.int .i64 n5], [.slice a6 rows6.length cap6]]).toArray, 44⟩ :: [⟨b, #[.string s, .bool bad, .bool true], 130⟩])) rfl 1 rfl)) (szA hz)) ?_
  obtain ⟨s5, hs5⟩ : ∃ u_, u_ = s4 ++ (encL d4) := ⟨_, rfl⟩
  have hz := szB hz hs5
  rw [← hs5]
  refine nx_list ?_
  refine nx_then ?_
  refine wc_seq ?_
  refine wc_region ?_
  refine wl_go 2 [(26, .pointer (some ⟨r1, 9, none⟩)), (25, .pointer (some ⟨b, 0, none⟩))] (by kernel_rfl) ?_
  refine wl_yl (d := 27) (v := .int .i64 n5) (by kernel_rfl) (yl_load (b := r1) (off := 9) 0 rfl (by kernel_rfl) rfl (readAt_seg1 5 rfl (by simp [l_c4]) (by kernel_rfl))) ?_
  refine wl_callW (d := 28) (b := b) (s := s5) (E := (encD (.int n5))) (bad := bad) (T := 130) (L' := [⟨r1, (List.flatten [[.int .i64 n0], [.slice a1 rows1.length cap1], [.string n2], [.slice a3 rows3.length cap3], c4, [.int .i64 n5], [.slice a6 rows6.length cap6]]).toArray, 44⟩, ⟨b, #[.string (s5 ++ (encD (.int n5))), .bool bad, .bool true], 130⟩]) 1 (by kernel_rfl) (by kernel_rfl) rfl rfl (fun w1 h1 => (num_ok n5) w1 b s5 bad (.int .i64 n5) (h1.one 1 rfl) (by rw [Rd]) (szA hz)) ?_
  obtain ⟨s6, hs6⟩ : ∃ u_, u_ = s5 ++ (encD (.int n5)) := ⟨_, rfl⟩
  have hz := szB hz hs6
  rw [← hs6]
  refine nx_list ?_
  refine nx_then ?_
  refine wc_seq ?_
  refine wc_region ?_
  refine wl_go 2 [(30, .pointer (some ⟨r1, 10, none⟩)), (29, .pointer (some ⟨b, 0, none⟩))] (by kernel_rfl) ?_
  refine wl_yl (d := 31) (v := .slice a6 rows6.length cap6) (by kernel_rfl) (yl_load (b := r1) (off := 10) 0 rfl (by kernel_rfl) rfl (readAt_seg1 6 rfl (by simp [l_c4]) (by kernel_rfl))) ?_
  refine wl_go 1 [(32, .int .i64 (rows6.length : Int))] (by kernel_rfl) ?_
  refine wl_callW (d := 33) (b := b) (s := s6) (E := (encD (.int (rows6.length : Int)))) (bad := bad) (T := 130) (L' := [⟨r1, (List.flatten [[.int .i64 n0], [.slice a1 rows1.length cap1], [.string n2], [.slice a3 rows3.length cap3], c4, [.int .i64 n5], [.slice a6 rows6.length cap6]]).toArray, 44⟩, ⟨b, #[.string (s6 ++ (encD (.int (rows6.length : Int)))), .bool bad, .bool true], 130⟩]) 1 (by kernel_rfl) (by kernel_rfl) rfl rfl (fun w1 h1 => (num_ok (rows6.length : Int)) w1 b s6 bad (.int .i64 (rows6.length : Int)) (h1.one 1 rfl) (by rw [Rd]) (szA hz)) ?_
  obtain ⟨s7, hs7⟩ : ∃ u_, u_ = s6 ++ (encD (.int (rows6.length : Int))) := ⟨_, rfl⟩
  have hz := szB hz hs7
  rw [← hs7]
  refine nx_list ?_
  refine nx_then ?_
  refine wc_seq ?_
  refine wc_region ?_
  refine wl_go 1 [(4, .int .i64 0)] (by kernel_rfl) ?_
  refine nx_list ?_
  refine nx_then ?_
  refine wc_block ?_
  refine wc_loop (σ := { i : Nat // i ≤ rows6.length }) (fun x => [(0, .pointer (some ⟨b, 0, none⟩)), (3, .pointer (some ⟨r1, 0, none⟩)), (4, .int .i64 (x.1 : Int))]) (fun x => SH w [⟨r1, (List.flatten [[.int .i64 n0], [.slice a1 rows1.length cap1], [.string n2], [.slice a3 rows3.length cap3], c4, [.int .i64 n5], [.slice a6 rows6.length cap6]]).toArray, 44⟩, ⟨b, #[.string (s7 ++ encR (rows6.take x.1)), .bool bad, .bool true], 130⟩]) (fun x => rows6.length - x.1) (fun w3 h3 => ⟨⟨0, Nat.zero_le _⟩, by simpa only [List.take_zero, encR, ByteArray.append_empty] using h3, (subEnv_cons (by kernel_rfl) (subEnv_cons (by kernel_rfl) (subEnv_cons (by kernel_rfl) (subEnv_nil _))))⟩) (fun x => ?_)
  refine wc_seq ?_
  refine wc_seq ?_
  refine wc_region ?_
  refine wl_go 2 [(35, .pointer (some ⟨r1, 10, none⟩)), (34, .int .i64 (x.1 : Int))] (by kernel_rfl) ?_
  refine wl_yl (d := 36) (v := .slice a6 rows6.length cap6) (by kernel_rfl) (yl_load (b := r1) (off := 10) 0 rfl (by kernel_rfl) rfl (readAt_seg1 6 rfl (by simp [l_c4]) (by kernel_rfl))) ?_
  refine wl_go 2 [(38, .bool (decide ((x.1 : Int) < (rows6.length : Int)))), (37, .int .i64 (rows6.length : Int))] (by kernel_rfl) ?_
  refine nx_list ?_
  refine nx_then ?_
  refine wc_cond (decide ((x.1 : Int) < (rows6.length : Int))) (by kernel_rfl) (by kernel_rfl) (fun hc6 => ?_) (fun hc6 => ?_)
  · skip
    have hlt : x.1 < rows6.length := by simpa using hc6
    obtain ⟨r, hrow⟩ : ∃ r, rows6[x.1]? = some r := ⟨_, List.getElem?_eq_getElem hlt⟩
    have hfr := fR_rows6.get x.1 r hrow
    obtain ⟨g, off, cr, rfl, hIg, h_cr, l_cr, hrg⟩ := Rd.row_at (es := 11) h_c6 (fun r hr => fR_rows6.length r hr) hrow
    have hzr : (s7 ++ encR (rows6.take x.1)).size + (encL r).size ≤ 9223372036854775807 := by
      rw [ByteArray.size_append]
      have h8 := encR_room hrow
      omega
    have hmem := List.mem_of_getElem? hrow
    have hz : (s7 ++ encR (rows6.take x.1)).size + ((encL r).size + (0)) ≤ 9223372036854775807 := by rw [Nat.add_zero]; exact hzr
    refine nx_skip ?_
    refine nx_then ?_
    refine wc_seq ?_
    refine wc_block ?_
    refine wc_region ?_
    refine wl_go 2 [(42, .pointer (some ⟨r1, 10, none⟩)), (41, .pointer (some ⟨b, 0, none⟩))] (by kernel_rfl) ?_
    refine wl_yl (d := 43) (v := .slice (some ⟨g, off, none⟩) rows6.length cap6) (by kernel_rfl) (yl_load (b := r1) (off := 10) 0 rfl (by kernel_rfl) rfl (readAt_seg1 6 rfl (by simp [l_c4]) (by kernel_rfl))) ?_
    refine wl_go 1 [(44, .int .i64 (x.1 : Int))] (by kernel_rfl) ?_
    refine wl_yl (d := 45) (v := .pointer (some ⟨g, off + x.1 * 11, none⟩)) (by kernel_rfl) (yl_index (E := 44) (b := g) (off := off) (len := rows6.length) (cap := cap6) (k := x.1) (es := 11) rfl (by kernel_rfl) (by kernel_rfl) (by kernel_rfl) (by omega)) ?_
    refine wl_yl (d := 46) (v := .agg (cr).toArray) (by kernel_rfl) (yl_loads_im (b := g) (off := off + x.1 * 11) (cs := cr) rfl (by kernel_rfl) (im_cong (L := (⟨r1, (List.flatten [[.int .i64 n0], [.slice a1 rows1.length cap1], [.string n2], [.slice a3 rows3.length cap3], c4, [.int .i64 n5], [.slice (some ⟨g, off, none⟩) rows6.length cap6]]).toArray, 44⟩ :: [⟨b, #[.string s, .bool bad, .bool true], 130⟩])) (L' := [⟨r1, (List.flatten [[.int .i64 n0], [.slice a1 rows1.length cap1], [.string n2], [.slice a3 rows3.length cap3], c4, [.int .i64 n5], [.slice (some ⟨g, off, none⟩) rows6.length cap6]]).toArray, 44⟩, ⟨b, #[.string (s7 ++ encR (rows6.take x.1)), .bool bad, .bool true], 130⟩]) rfl hIg) (by rw [l_cr]; kernel_rfl) hrg) ?_
    refine wl_callW (d := 47) (b := b) (s := (s7 ++ encR (rows6.take x.1))) (E := (encL r)) (bad := bad) (T := 130) (L' := [⟨r1, (List.flatten [[.int .i64 n0], [.slice a1 rows1.length cap1], [.string n2], [.slice a3 rows3.length cap3], c4, [.int .i64 n5], [.slice (some ⟨g, off, none⟩) rows6.length cap6]]).toArray, 44⟩, ⟨b, #[.string ((s7 ++ encR (rows6.take x.1)) ++ (encL r)), .bool bad, .bool true], 130⟩]) 1 (by kernel_rfl) (by kernel_rfl) rfl rfl (fun w1 h1 => (ih r (by have := szR_mem hmem; simp only [szL, szL_append, D.sz] at *; omega) hfr) w1 b (s7 ++ encR (rows6.take x.1)) bad cr (h1.one 1 rfl) (h_cr.stays (h1.staysB (L0 := (⟨r1, (List.flatten [[.int .i64 n0], [.slice a1 rows1.length cap1], [.string n2], [.slice a3 rows3.length cap3], c4, [.int .i64 n5], [.slice (some ⟨g, off, none⟩) rows6.length cap6]]).toArray, 44⟩ :: [⟨b, #[.string s, .bool bad, .bool true], 130⟩])) rfl 1 rfl)) (szA hz)) ?_
    obtain ⟨s8, hs8⟩ : ∃ u_, u_ = (s7 ++ encR (rows6.take x.1)) ++ (encL r) := ⟨_, rfl⟩
    have hz := szB hz hs8
    rw [← hs8]
    refine nx_list ?_
    refine nx_block ?_
    refine nx_then ?_
    refine wc_region ?_
    refine wl_go 1 [(39, .int .i64 (x.1 : Int))] (by kernel_rfl) ?_
    refine wl_yl (d := 40) (v := .int .i64 ((x.1 : Int) + 1)) (by kernel_rfl) (yl_int (t := (x.1 : Int) + 1) (r := (x.1 : Int) + 1) (by kernel_rfl) (i64w (by omega) (by omega))) ?_
    refine wl_go 1 [(4, .int .i64 ((x.1 : Int) + 1))] (by kernel_rfl) ?_
    refine nx_list ?_
    have hfin : s8 = s7 ++ encR (rows6.take (x.1 + 1)) := by
      rw [encR_take hrow, hs8]
      simp only [encL_append, encL, encD, ByteArray.append_assoc, ByteArray.append_empty]
    rw [hfin]
    refine nx_round (y := ⟨x.1 + 1, hlt⟩) (show rows6.length - (x.1 + 1) < rows6.length - x.1 by omega) (subEnv_cons (by kernel_rfl) (subEnv_cons (by kernel_rfl) (subEnv_cons (by kernel_rfl) (subEnv_nil _)))) (fun w h => h)
  · skip
    have hge : rows6.length ≤ x.1 := by simpa using hc6
    obtain ⟨s9, hs9⟩ : ∃ u_, u_ = s7 ++ encR rows6 := ⟨_, rfl⟩
    have hz := szB hz hs9
    rw [List.take_of_length_le hge, ← hs9]
    refine nx_exit ?_
    refine nx_then_exit ?_
    refine nx_then_exit ?_
    refine nx_block_here ?_
    refine end_none rfl ?_
    intro w' hw'
    have hfin : s9 = s ++ E := by
      rw [hE, hs9, hs7, hs6, hs5, hs4, hs3, hs2, hs1]
      simp only [encL_append, encL, encD, ByteArray.append_assoc, ByteArray.append_empty]
    rw [hfin] at hw'
    exact ⟨rfl, hw'.tail hr1⟩

theorem expr_all (ds : List D) (hfit : FitL sh by_ ds shExpr) : WS Try.prog 82 130 ds := by
  have key : ∀ (m : Nat) (ds : List D), szL ds < m → FitL sh by_ ds shExpr → WS Try.prog 82 130 ds := by
    intro m
    induction m with
    | zero => intro ds h; omega
    | succ m ih => intro ds h hf; exact expr_step ds hf (fun r hr hfr => ih r (by omega) hfr)
  exact key _ ds (Nat.lt_succ_self _) hfit

set_option maxHeartbeats 4000000 in
theorem pred_step (ds : List D) (hfit : FitL sh by_ ds shPred) (ih : ∀ (r : List D), szL r < szL ds → FitL sh by_ r shPred → WS Try.prog 78 130 r) : WS Try.prog 78 130 ds := by
  intro w b s bad cs hb hrd hz0
  obtain ⟨E, hE⟩ : ∃ E, E = encL ds := ⟨_, rfl⟩
  rw [← hE]
  skip
  obtain ⟨d0, e0, rfl, hf0, hft0⟩ := FitL.cons (k := .int) (ks := [.sl 2] ++ shV ++ [.sl 0] ++ [.int] ++ [.int] ++ shShape ++ shExpr ++ [.sl 6]) hfit
  obtain ⟨n0, rfl, _⟩ := Fit.int hf0
  obtain ⟨d1, e1, rfl, hf1, hft1⟩ := FitL.cons (k := .sl 2) (ks := shV ++ [.sl 0] ++ [.int] ++ [.int] ++ shShape ++ shExpr ++ [.sl 6]) hft0
  obtain ⟨rows1, rfl, b_rows1, fR_rows1⟩ := Fit.sl hf1
  have b_rows1 : rows1.length * 16 ≤ 140737488355328 := b_rows1
  have bb_rows1 : rows1.length ≤ 140737488355328 := by omega
  obtain ⟨d2, e2, rfl, hf2, hft2⟩ := FitL.split (ks := shV) (ks' := [.sl 0] ++ [.int] ++ [.int] ++ shShape ++ shExpr ++ [.sl 6]) hft1
  obtain ⟨d3, e3, rfl, hf3, hft3⟩ := FitL.cons (k := .sl 0) (ks := [.int] ++ [.int] ++ shShape ++ shExpr ++ [.sl 6]) hft2
  obtain ⟨rows3, rfl, b_rows3, fR_rows3⟩ := Fit.sl hf3
  have b_rows3 : rows3.length * 80 ≤ 140737488355328 := b_rows3
  have bb_rows3 : rows3.length ≤ 140737488355328 := by omega
  obtain ⟨d4, e4, rfl, hf4, hft4⟩ := FitL.cons (k := .int) (ks := [.int] ++ shShape ++ shExpr ++ [.sl 6]) hft3
  obtain ⟨n4, rfl, _⟩ := Fit.int hf4
  obtain ⟨d5, e5, rfl, hf5, hft5⟩ := FitL.cons (k := .int) (ks := shShape ++ shExpr ++ [.sl 6]) hft4
  obtain ⟨n5, rfl, _⟩ := Fit.int hf5
  obtain ⟨d6, e6, rfl, hf6, hft6⟩ := FitL.split (ks := shShape) (ks' := shExpr ++ [.sl 6]) hft5
  obtain ⟨d7, e7, rfl, hf7, hft7⟩ := FitL.split (ks := shExpr) (ks' := [.sl 6]) hft6
  obtain ⟨d8, e8, rfl, hf8, hft8⟩ := FitL.cons (k := .sl 6) (ks := []) hft7
  obtain ⟨rows8, rfl, b_rows8, fR_rows8⟩ := Fit.sl hf8
  have b_rows8 : rows8.length * 400 ≤ 140737488355328 := b_rows8
  have bb_rows8 : rows8.length ≤ 140737488355328 := by omega
  obtain rfl := FitL.nil hft8
  obtain ⟨c0, z0, rfl, h_c0, hrd0⟩ := RdL.cons hrd
  rw [Rd] at h_c0; subst h_c0
  obtain ⟨c1, z1, rfl, h_c1, hrd1⟩ := RdL.cons hrd0
  obtain ⟨a1, cap1, rfl⟩ := h_c1.slv
  obtain ⟨c2, z2, rfl, h_c2, hrd2⟩ := RdL.split hrd1
  have l_c2 : c2.length = 5 := h_c2.length.symm.trans hf2.length
  obtain ⟨c3, z3, rfl, h_c3, hrd3⟩ := RdL.cons hrd2
  obtain ⟨a3, cap3, rfl⟩ := h_c3.slv
  obtain ⟨c4, z4, rfl, h_c4, hrd4⟩ := RdL.cons hrd3
  rw [Rd] at h_c4; subst h_c4
  obtain ⟨c5, z5, rfl, h_c5, hrd5⟩ := RdL.cons hrd4
  rw [Rd] at h_c5; subst h_c5
  obtain ⟨c6, z6, rfl, h_c6, hrd6⟩ := RdL.split hrd5
  have l_c6 : c6.length = 3 := h_c6.length.symm.trans hf6.length
  obtain ⟨c7, z7, rfl, h_c7, hrd7⟩ := RdL.split hrd6
  have l_c7 : c7.length = 11 := h_c7.length.symm.trans hf7.length
  obtain ⟨c8, z8, rfl, h_c8, hrd8⟩ := RdL.cons hrd7
  obtain ⟨a8, cap8, rfl⟩ := h_c8.slv
  obtain rfl := RdL.nil hrd8
  rw [show ((.int .i64 n0) :: ((.slice a1 rows1.length cap1) :: (c2 ++ ((.slice a3 rows3.length cap3) :: ((.int .i64 n4) :: ((.int .i64 n5) :: (c6 ++ (c7 ++ ((.slice a8 rows8.length cap8) :: ([]))))))))) : List Value) = List.flatten [[.int .i64 n0], [.slice a1 rows1.length cap1], c2, [.slice a3 rows3.length cap3], [.int .i64 n4], [.int .i64 n5], c6, c7, [.slice a8 rows8.length cap8]] from by simp]
  have hz : s.size + ((encD (.int n0)).size + ((encD (.sl rows1)).size + ((encL d2).size + ((encD (.sl rows3)).size + ((encD (.int n4)).size + ((encD (.int n5)).size + ((encL d6).size + ((encL d7).size + ((encD (.int (rows8.length : Int))).size + ((encR rows8).size + (0))))))))))) ≤ 9223372036854775807 := by
    have h9 := hz0
    simp only [encLs_cons, encLs_app, encLs_nil, szSL rows8] at h9
    exact h9
  have hent := (@Sx.enter Try.prog 56 78 Try.f78 _ [.pointer (some ⟨b, 0, none⟩), .agg (List.flatten [[.int .i64 n0], [.slice a1 rows1.length cap1], c2, [.slice a3 rows3.length cap3], [.int .i64 n4], [.int .i64 n5], c6, c7, [.slice a8 rows8.length cap8]]).toArray] w (fun e w' => e = .returned (.tuple #[]) ∧ SH w [⟨b, #[.string (s ++ E), .bool bad, .bool true], 130⟩] w') Try.func78 rfl rfl (by simp))
  refine hent ?_
  refine wc_eq (S := SH w [⟨b, #[.string s, .bool bad, .bool true], 130⟩]) hb ?_
  refine wc_seq ?_
  refine wc_region ?_
  refine wl_new (d := 3) (List.flatten [[.int .i64 n0], [.slice a1 rows1.length cap1], c2, [.slice a3 rows3.length cap3], [.int .i64 n4], [.int .i64 n5], c6, c7, [.slice a8 rows8.length cap8]]).toArray 47 (fun r => .pointer (some ⟨r, 0, none⟩)) (by kernel_rfl) (fun r => by kernel_rfl) ?_
  intro r1 hr1
  have h_c1 := h_c1.stays (im_more (c := (List.flatten [[.int .i64 n0], [.slice a1 rows1.length cap1], c2, [.slice a3 rows3.length cap3], [.int .i64 n4], [.int .i64 n5], c6, c7, [.slice a8 rows8.length cap8]]).toArray) (t := 47) hr1)
  have h_c2 := h_c2.stays (im_more (c := (List.flatten [[.int .i64 n0], [.slice a1 rows1.length cap1], c2, [.slice a3 rows3.length cap3], [.int .i64 n4], [.int .i64 n5], c6, c7, [.slice a8 rows8.length cap8]]).toArray) (t := 47) hr1)
  have h_c3 := h_c3.stays (im_more (c := (List.flatten [[.int .i64 n0], [.slice a1 rows1.length cap1], c2, [.slice a3 rows3.length cap3], [.int .i64 n4], [.int .i64 n5], c6, c7, [.slice a8 rows8.length cap8]]).toArray) (t := 47) hr1)
  have h_c6 := h_c6.stays (im_more (c := (List.flatten [[.int .i64 n0], [.slice a1 rows1.length cap1], c2, [.slice a3 rows3.length cap3], [.int .i64 n4], [.int .i64 n5], c6, c7, [.slice a8 rows8.length cap8]]).toArray) (t := 47) hr1)
  have h_c7 := h_c7.stays (im_more (c := (List.flatten [[.int .i64 n0], [.slice a1 rows1.length cap1], c2, [.slice a3 rows3.length cap3], [.int .i64 n4], [.int .i64 n5], c6, c7, [.slice a8 rows8.length cap8]]).toArray) (t := 47) hr1)
  have h_c8 := h_c8.stays (im_more (c := (List.flatten [[.int .i64 n0], [.slice a1 rows1.length cap1], c2, [.slice a3 rows3.length cap3], [.int .i64 n4], [.int .i64 n5], c6, c7, [.slice a8 rows8.length cap8]]).toArray) (t := 47) hr1)
  refine nx_list ?_
  refine nx_then ?_
  refine wc_seq ?_
  refine wc_region ?_
  refine wl_go 2 [(6, .pointer (some ⟨r1, 0, none⟩)), (5, .pointer (some ⟨b, 0, none⟩))] (by kernel_rfl) ?_
  refine wl_yl (d := 7) (v := .int .i64 n0) (by kernel_rfl) (yl_load (b := r1) (off := 0) 0 rfl (by kernel_rfl) rfl (readAt_seg1 0 rfl (by simp [l_c2, l_c6, l_c7]) (by kernel_rfl))) ?_
  refine wl_callW (d := 8) (b := b) (s := s) (E := (encD (.int n0))) (bad := bad) (T := 130) (L' := [⟨r1, (List.flatten [[.int .i64 n0], [.slice a1 rows1.length cap1], c2, [.slice a3 rows3.length cap3], [.int .i64 n4], [.int .i64 n5], c6, c7, [.slice a8 rows8.length cap8]]).toArray, 47⟩, ⟨b, #[.string (s ++ (encD (.int n0))), .bool bad, .bool true], 130⟩]) 1 (by kernel_rfl) (by kernel_rfl) rfl rfl (fun w1 h1 => (num_ok n0) w1 b s bad (.int .i64 n0) (h1.one 1 rfl) (by rw [Rd]) (szA hz)) ?_
  obtain ⟨s1, hs1⟩ : ∃ u_, u_ = s ++ (encD (.int n0)) := ⟨_, rfl⟩
  have hz := szB hz hs1
  rw [← hs1]
  refine nx_list ?_
  refine nx_then ?_
  refine wc_seq ?_
  refine wc_region ?_
  refine wl_go 2 [(10, .pointer (some ⟨r1, 1, none⟩)), (9, .pointer (some ⟨b, 0, none⟩))] (by kernel_rfl) ?_
  refine wl_yl (d := 11) (v := .slice a1 rows1.length cap1) (by kernel_rfl) (yl_load (b := r1) (off := 1) 0 rfl (by kernel_rfl) rfl (readAt_seg1 1 rfl (by simp [l_c2, l_c6, l_c7]) (by kernel_rfl))) ?_
  refine wl_callW (d := 12) (b := b) (s := s1) (E := (encD (.sl rows1))) (bad := bad) (T := 130) (L' := [⟨r1, (List.flatten [[.int .i64 n0], [.slice a1 rows1.length cap1], c2, [.slice a3 rows3.length cap3], [.int .i64 n4], [.int .i64 n5], c6, c7, [.slice a8 rows8.length cap8]]).toArray, 47⟩, ⟨b, #[.string (s1 ++ (encD (.sl rows1))), .bool bad, .bool true], 130⟩]) 1 (by kernel_rfl) (by kernel_rfl) rfl rfl (fun w1 h1 => (strs_ok rows1 fR_rows1 b_rows1) w1 b s1 bad (.slice a1 rows1.length cap1) (h1.one 1 rfl) (h_c1.stays (h1.staysB (L0 := (⟨r1, (List.flatten [[.int .i64 n0], [.slice a1 rows1.length cap1], c2, [.slice a3 rows3.length cap3], [.int .i64 n4], [.int .i64 n5], c6, c7, [.slice a8 rows8.length cap8]]).toArray, 47⟩ :: [⟨b, #[.string s, .bool bad, .bool true], 130⟩])) rfl 1 rfl)) (szA hz)) ?_
  obtain ⟨s2, hs2⟩ : ∃ u_, u_ = s1 ++ (encD (.sl rows1)) := ⟨_, rfl⟩
  have hz := szB hz hs2
  rw [← hs2]
  refine nx_list ?_
  refine nx_then ?_
  refine wc_seq ?_
  refine wc_region ?_
  refine wl_go 2 [(14, .pointer (some ⟨r1, 2, none⟩)), (13, .pointer (some ⟨b, 0, none⟩))] (by kernel_rfl) ?_
  refine wl_yl (d := 15) (v := .agg (c2).toArray) (by kernel_rfl) (yl_load (b := r1) (off := 2) 0 rfl (by kernel_rfl) rfl (readAt_seg 2 rfl (by simp [l_c2, l_c6, l_c7]) (by rw [l_c2]; kernel_rfl))) ?_
  refine wl_callW (d := 16) (b := b) (s := s2) (E := (encL d2)) (bad := bad) (T := 130) (L' := [⟨r1, (List.flatten [[.int .i64 n0], [.slice a1 rows1.length cap1], c2, [.slice a3 rows3.length cap3], [.int .i64 n4], [.int .i64 n5], c6, c7, [.slice a8 rows8.length cap8]]).toArray, 47⟩, ⟨b, #[.string (s2 ++ (encL d2)), .bool bad, .bool true], 130⟩]) 1 (by kernel_rfl) (by kernel_rfl) rfl rfl (fun w1 h1 => (value_all d2 hf2) w1 b s2 bad c2 (h1.one 1 rfl) (h_c2.stays (h1.staysB (L0 := (⟨r1, (List.flatten [[.int .i64 n0], [.slice a1 rows1.length cap1], c2, [.slice a3 rows3.length cap3], [.int .i64 n4], [.int .i64 n5], c6, c7, [.slice a8 rows8.length cap8]]).toArray, 47⟩ :: [⟨b, #[.string s, .bool bad, .bool true], 130⟩])) rfl 1 rfl)) (szA hz)) ?_
  obtain ⟨s3, hs3⟩ : ∃ u_, u_ = s2 ++ (encL d2) := ⟨_, rfl⟩
  have hz := szB hz hs3
  rw [← hs3]
  refine nx_list ?_
  refine nx_then ?_
  refine wc_seq ?_
  refine wc_region ?_
  refine wl_go 2 [(18, .pointer (some ⟨r1, 7, none⟩)), (17, .pointer (some ⟨b, 0, none⟩))] (by kernel_rfl) ?_
  refine wl_yl (d := 19) (v := .slice a3 rows3.length cap3) (by kernel_rfl) (yl_load (b := r1) (off := 7) 0 rfl (by kernel_rfl) rfl (readAt_seg1 3 rfl (by simp [l_c2, l_c6, l_c7]) (by kernel_rfl))) ?_
  refine wl_callW (d := 20) (b := b) (s := s3) (E := (encD (.sl rows3))) (bad := bad) (T := 130) (L' := [⟨r1, (List.flatten [[.int .i64 n0], [.slice a1 rows1.length cap1], c2, [.slice a3 rows3.length cap3], [.int .i64 n4], [.int .i64 n5], c6, c7, [.slice a8 rows8.length cap8]]).toArray, 47⟩, ⟨b, #[.string (s3 ++ (encD (.sl rows3))), .bool bad, .bool true], 130⟩]) 1 (by kernel_rfl) (by kernel_rfl) rfl rfl (fun w1 h1 => (values_ok rows3 fR_rows3 b_rows3 (fun r hr => value_all r (fR_rows3.mem hr))) w1 b s3 bad (.slice a3 rows3.length cap3) (h1.one 1 rfl) (h_c3.stays (h1.staysB (L0 := (⟨r1, (List.flatten [[.int .i64 n0], [.slice a1 rows1.length cap1], c2, [.slice a3 rows3.length cap3], [.int .i64 n4], [.int .i64 n5], c6, c7, [.slice a8 rows8.length cap8]]).toArray, 47⟩ :: [⟨b, #[.string s, .bool bad, .bool true], 130⟩])) rfl 1 rfl)) (szA hz)) ?_
  obtain ⟨s4, hs4⟩ : ∃ u_, u_ = s3 ++ (encD (.sl rows3)) := ⟨_, rfl⟩
  have hz := szB hz hs4
  rw [← hs4]
  refine nx_list ?_
  refine nx_then ?_
  refine wc_seq ?_
  refine wc_region ?_
  refine wl_go 2 [(22, .pointer (some ⟨r1, 8, none⟩)), (21, .pointer (some ⟨b, 0, none⟩))] (by kernel_rfl) ?_
  refine wl_yl (d := 23) (v := .int .i64 n4) (by kernel_rfl) (yl_load (b := r1) (off := 8) 0 rfl (by kernel_rfl) rfl (readAt_seg1 4 rfl (by simp [l_c2, l_c6, l_c7]) (by kernel_rfl))) ?_
  refine wl_callW (d := 24) (b := b) (s := s4) (E := (encD (.int n4))) (bad := bad) (T := 130) (L' := [⟨r1, (List.flatten [[.int .i64 n0], [.slice a1 rows1.length cap1], c2, [.slice a3 rows3.length cap3], [.int .i64 n4], [.int .i64 n5], c6, c7, [.slice a8 rows8.length cap8]]).toArray, 47⟩, ⟨b, #[.string (s4 ++ (encD (.int n4))), .bool bad, .bool true], 130⟩]) 1 (by kernel_rfl) (by kernel_rfl) rfl rfl (fun w1 h1 => (num_ok n4) w1 b s4 bad (.int .i64 n4) (h1.one 1 rfl) (by rw [Rd]) (szA hz)) ?_
  obtain ⟨s5, hs5⟩ : ∃ u_, u_ = s4 ++ (encD (.int n4)) := ⟨_, rfl⟩
  have hz := szB hz hs5
  rw [← hs5]
  refine nx_list ?_
  refine nx_then ?_
  refine wc_seq ?_
  refine wc_region ?_
  refine wl_go 2 [(26, .pointer (some ⟨r1, 9, none⟩)), (25, .pointer (some ⟨b, 0, none⟩))] (by kernel_rfl) ?_
  refine wl_yl (d := 27) (v := .int .i64 n5) (by kernel_rfl) (yl_load (b := r1) (off := 9) 0 rfl (by kernel_rfl) rfl (readAt_seg1 5 rfl (by simp [l_c2, l_c6, l_c7]) (by kernel_rfl))) ?_
  refine wl_callW (d := 28) (b := b) (s := s5) (E := (encD (.int n5))) (bad := bad) (T := 130) (L' := [⟨r1, (List.flatten [[.int .i64 n0], [.slice a1 rows1.length cap1], c2, [.slice a3 rows3.length cap3], [.int .i64 n4], [.int .i64 n5], c6, c7, [.slice a8 rows8.length cap8]]).toArray, 47⟩, ⟨b, #[.string (s5 ++ (encD (.int n5))), .bool bad, .bool true], 130⟩]) 1 (by kernel_rfl) (by kernel_rfl) rfl rfl (fun w1 h1 => (num_ok n5) w1 b s5 bad (.int .i64 n5) (h1.one 1 rfl) (by rw [Rd]) (szA hz)) ?_
  obtain ⟨s6, hs6⟩ : ∃ u_, u_ = s5 ++ (encD (.int n5)) := ⟨_, rfl⟩
  have hz := szB hz hs6
  rw [← hs6]
  refine nx_list ?_
  refine nx_then ?_
  refine wc_seq ?_
  refine wc_region ?_
  refine wl_go 2 [(30, .pointer (some ⟨r1, 10, none⟩)), (29, .pointer (some ⟨b, 0, none⟩))] (by kernel_rfl) ?_
  refine wl_yl (d := 31) (v := .agg (c6).toArray) (by kernel_rfl) (yl_load (b := r1) (off := 10) 0 rfl (by kernel_rfl) rfl (readAt_seg 6 rfl (by simp [l_c2, l_c6, l_c7]) (by rw [l_c6]; kernel_rfl))) ?_
  refine wl_callW (d := 32) (b := b) (s := s6) (E := (encL d6)) (bad := bad) (T := 130) (L' := [⟨r1, (List.flatten [[.int .i64 n0], [.slice a1 rows1.length cap1], c2, [.slice a3 rows3.length cap3], [.int .i64 n4], [.int .i64 n5], c6, c7, [.slice a8 rows8.length cap8]]).toArray, 47⟩, ⟨b, #[.string (s6 ++ (encL d6)), .bool bad, .bool true], 130⟩]) 1 (by kernel_rfl) (by kernel_rfl) rfl rfl (fun w1 h1 => (shape_all d6 hf6) w1 b s6 bad c6 (h1.one 1 rfl) (h_c6.stays (h1.staysB (L0 := (⟨r1, (List.flatten [[.int .i64 n0], [.slice a1 rows1.length cap1], c2, [.slice a3 rows3.length cap3], [.int .i64 n4], [.int .i64 n5], c6, c7, [.slice a8 rows8.length cap8]]).toArray, 47⟩ :: [⟨b, #[.string s, .bool bad, .bool true], 130⟩])) rfl 1 rfl)) (szA hz)) ?_
  obtain ⟨s7, hs7⟩ : ∃ u_, u_ = s6 ++ (encL d6) := ⟨_, rfl⟩
  have hz := szB hz hs7
  rw [← hs7]
  refine nx_list ?_
  refine nx_then ?_
  refine wc_seq ?_
  refine wc_region ?_
  refine wl_go 2 [(34, .pointer (some ⟨r1, 13, none⟩)), (33, .pointer (some ⟨b, 0, none⟩))] (by kernel_rfl) ?_
  refine wl_yl (d := 35) (v := .agg (c7).toArray) (by kernel_rfl) (yl_load (b := r1) (off := 13) 0 rfl (by kernel_rfl) rfl (readAt_seg 7 rfl (by simp [l_c2, l_c6, l_c7]) (by rw [l_c7]; kernel_rfl))) ?_
  refine wl_callW (d := 36) (b := b) (s := s7) (E := (encL d7)) (bad := bad) (T := 130) (L' := [⟨r1, (List.flatten [[.int .i64 n0], [.slice a1 rows1.length cap1], c2, [.slice a3 rows3.length cap3], [.int .i64 n4], [.int .i64 n5], c6, c7, [.slice a8 rows8.length cap8]]).toArray, 47⟩, ⟨b, #[.string (s7 ++ (encL d7)), .bool bad, .bool true], 130⟩]) 1 (by kernel_rfl) (by kernel_rfl) rfl rfl (fun w1 h1 => (expr_all d7 hf7) w1 b s7 bad c7 (h1.one 1 rfl) (h_c7.stays (h1.staysB (L0 := (⟨r1, (List.flatten [[.int .i64 n0], [.slice a1 rows1.length cap1], c2, [.slice a3 rows3.length cap3], [.int .i64 n4], [.int .i64 n5], c6, c7, [.slice a8 rows8.length cap8]]).toArray, 47⟩ :: [⟨b, #[.string s, .bool bad, .bool true], 130⟩])) rfl 1 rfl)) (szA hz)) ?_
  obtain ⟨s8, hs8⟩ : ∃ u_, u_ = s7 ++ (encL d7) := ⟨_, rfl⟩
  have hz := szB hz hs8
  rw [← hs8]
  refine nx_list ?_
  refine nx_then ?_
  refine wc_seq ?_
  refine wc_region ?_
  refine wl_go 2 [(38, .pointer (some ⟨r1, 24, none⟩)), (37, .pointer (some ⟨b, 0, none⟩))] (by kernel_rfl) ?_
  refine wl_yl (d := 39) (v := .slice a8 rows8.length cap8) (by kernel_rfl) (yl_load (b := r1) (off := 24) 0 rfl (by kernel_rfl) rfl (readAt_seg1 8 rfl (by simp [l_c2, l_c6, l_c7]) (by kernel_rfl))) ?_
  refine wl_go 1 [(40, .int .i64 (rows8.length : Int))] (by kernel_rfl) ?_
  refine wl_callW (d := 41) (b := b) (s := s8) (E := (encD (.int (rows8.length : Int)))) (bad := bad) (T := 130) (L' := [⟨r1, (List.flatten [[.int .i64 n0], [.slice a1 rows1.length cap1], c2, [.slice a3 rows3.length cap3], [.int .i64 n4], [.int .i64 n5], c6, c7, [.slice a8 rows8.length cap8]]).toArray, 47⟩, ⟨b, #[.string (s8 ++ (encD (.int (rows8.length : Int)))), .bool bad, .bool true], 130⟩]) 1 (by kernel_rfl) (by kernel_rfl) rfl rfl (fun w1 h1 => (num_ok (rows8.length : Int)) w1 b s8 bad (.int .i64 (rows8.length : Int)) (h1.one 1 rfl) (by rw [Rd]) (szA hz)) ?_
  obtain ⟨s9, hs9⟩ : ∃ u_, u_ = s8 ++ (encD (.int (rows8.length : Int))) := ⟨_, rfl⟩
  have hz := szB hz hs9
  rw [← hs9]
  refine nx_list ?_
  refine nx_then ?_
  refine wc_seq ?_
  refine wc_region ?_
  refine wl_go 1 [(4, .int .i64 0)] (by kernel_rfl) ?_
  refine nx_list ?_
  refine nx_then ?_
  refine wc_block ?_
  refine wc_loop (σ := { i : Nat // i ≤ rows8.length }) (fun x => [(0, .pointer (some ⟨b, 0, none⟩)), (3, .pointer (some ⟨r1, 0, none⟩)), (4, .int .i64 (x.1 : Int))]) (fun x => SH w [⟨r1, (List.flatten [[.int .i64 n0], [.slice a1 rows1.length cap1], c2, [.slice a3 rows3.length cap3], [.int .i64 n4], [.int .i64 n5], c6, c7, [.slice a8 rows8.length cap8]]).toArray, 47⟩, ⟨b, #[.string (s9 ++ encR (rows8.take x.1)), .bool bad, .bool true], 130⟩]) (fun x => rows8.length - x.1) (fun w3 h3 => ⟨⟨0, Nat.zero_le _⟩, by simpa only [List.take_zero, encR, ByteArray.append_empty] using h3, (subEnv_cons (by kernel_rfl) (subEnv_cons (by kernel_rfl) (subEnv_cons (by kernel_rfl) (subEnv_nil _))))⟩) (fun x => ?_)
  refine wc_seq ?_
  refine wc_seq ?_
  refine wc_region ?_
  refine wl_go 2 [(43, .pointer (some ⟨r1, 24, none⟩)), (42, .int .i64 (x.1 : Int))] (by kernel_rfl) ?_
  refine wl_yl (d := 44) (v := .slice a8 rows8.length cap8) (by kernel_rfl) (yl_load (b := r1) (off := 24) 0 rfl (by kernel_rfl) rfl (readAt_seg1 8 rfl (by simp [l_c2, l_c6, l_c7]) (by kernel_rfl))) ?_
  refine wl_go 2 [(46, .bool (decide ((x.1 : Int) < (rows8.length : Int)))), (45, .int .i64 (rows8.length : Int))] (by kernel_rfl) ?_
  refine nx_list ?_
  refine nx_then ?_
  refine wc_cond (decide ((x.1 : Int) < (rows8.length : Int))) (by kernel_rfl) (by kernel_rfl) (fun hc8 => ?_) (fun hc8 => ?_)
  · skip
    have hlt : x.1 < rows8.length := by simpa using hc8
    obtain ⟨r, hrow⟩ : ∃ r, rows8[x.1]? = some r := ⟨_, List.getElem?_eq_getElem hlt⟩
    have hfr := fR_rows8.get x.1 r hrow
    obtain ⟨g, off, cr, rfl, hIg, h_cr, l_cr, hrg⟩ := Rd.row_at (es := 25) h_c8 (fun r hr => fR_rows8.length r hr) hrow
    have hzr : (s9 ++ encR (rows8.take x.1)).size + (encL r).size ≤ 9223372036854775807 := by
      rw [ByteArray.size_append]
      have h8 := encR_room hrow
      omega
    have hmem := List.mem_of_getElem? hrow
    have hz : (s9 ++ encR (rows8.take x.1)).size + ((encL r).size + (0)) ≤ 9223372036854775807 := by rw [Nat.add_zero]; exact hzr
    refine nx_skip ?_
    refine nx_then ?_
    refine wc_seq ?_
    refine wc_block ?_
    refine wc_region ?_
    refine wl_go 2 [(50, .pointer (some ⟨r1, 24, none⟩)), (49, .pointer (some ⟨b, 0, none⟩))] (by kernel_rfl) ?_
    refine wl_yl (d := 51) (v := .slice (some ⟨g, off, none⟩) rows8.length cap8) (by kernel_rfl) (yl_load (b := r1) (off := 24) 0 rfl (by kernel_rfl) rfl (readAt_seg1 8 rfl (by simp [l_c2, l_c6, l_c7]) (by kernel_rfl))) ?_
    refine wl_go 1 [(52, .int .i64 (x.1 : Int))] (by kernel_rfl) ?_
    refine wl_yl (d := 53) (v := .pointer (some ⟨g, off + x.1 * 25, none⟩)) (by kernel_rfl) (yl_index (E := 47) (b := g) (off := off) (len := rows8.length) (cap := cap8) (k := x.1) (es := 25) rfl (by kernel_rfl) (by kernel_rfl) (by kernel_rfl) (by omega)) ?_
    refine wl_yl (d := 54) (v := .agg (cr).toArray) (by kernel_rfl) (yl_loads_im (b := g) (off := off + x.1 * 25) (cs := cr) rfl (by kernel_rfl) (im_cong (L := (⟨r1, (List.flatten [[.int .i64 n0], [.slice a1 rows1.length cap1], c2, [.slice a3 rows3.length cap3], [.int .i64 n4], [.int .i64 n5], c6, c7, [.slice (some ⟨g, off, none⟩) rows8.length cap8]]).toArray, 47⟩ :: [⟨b, #[.string s, .bool bad, .bool true], 130⟩])) (L' := [⟨r1, (List.flatten [[.int .i64 n0], [.slice a1 rows1.length cap1], c2, [.slice a3 rows3.length cap3], [.int .i64 n4], [.int .i64 n5], c6, c7, [.slice (some ⟨g, off, none⟩) rows8.length cap8]]).toArray, 47⟩, ⟨b, #[.string (s9 ++ encR (rows8.take x.1)), .bool bad, .bool true], 130⟩]) rfl hIg) (by rw [l_cr]; kernel_rfl) hrg) ?_
    refine wl_callW (d := 55) (b := b) (s := (s9 ++ encR (rows8.take x.1))) (E := (encL r)) (bad := bad) (T := 130) (L' := [⟨r1, (List.flatten [[.int .i64 n0], [.slice a1 rows1.length cap1], c2, [.slice a3 rows3.length cap3], [.int .i64 n4], [.int .i64 n5], c6, c7, [.slice (some ⟨g, off, none⟩) rows8.length cap8]]).toArray, 47⟩, ⟨b, #[.string ((s9 ++ encR (rows8.take x.1)) ++ (encL r)), .bool bad, .bool true], 130⟩]) 1 (by kernel_rfl) (by kernel_rfl) rfl rfl (fun w1 h1 => (ih r (by have := szR_mem hmem; simp only [szL, szL_append, D.sz] at *; omega) hfr) w1 b (s9 ++ encR (rows8.take x.1)) bad cr (h1.one 1 rfl) (h_cr.stays (h1.staysB (L0 := (⟨r1, (List.flatten [[.int .i64 n0], [.slice a1 rows1.length cap1], c2, [.slice a3 rows3.length cap3], [.int .i64 n4], [.int .i64 n5], c6, c7, [.slice (some ⟨g, off, none⟩) rows8.length cap8]]).toArray, 47⟩ :: [⟨b, #[.string s, .bool bad, .bool true], 130⟩])) rfl 1 rfl)) (szA hz)) ?_
    obtain ⟨s10, hs10⟩ : ∃ u_, u_ = (s9 ++ encR (rows8.take x.1)) ++ (encL r) := ⟨_, rfl⟩
    have hz := szB hz hs10
    rw [← hs10]
    refine nx_list ?_
    refine nx_block ?_
    refine nx_then ?_
    refine wc_region ?_
    refine wl_go 1 [(47, .int .i64 (x.1 : Int))] (by kernel_rfl) ?_
    refine wl_yl (d := 48) (v := .int .i64 ((x.1 : Int) + 1)) (by kernel_rfl) (yl_int (t := (x.1 : Int) + 1) (r := (x.1 : Int) + 1) (by kernel_rfl) (i64w (by omega) (by omega))) ?_
    refine wl_go 1 [(4, .int .i64 ((x.1 : Int) + 1))] (by kernel_rfl) ?_
    refine nx_list ?_
    have hfin : s10 = s9 ++ encR (rows8.take (x.1 + 1)) := by
      rw [encR_take hrow, hs10]
      simp only [encL_append, encL, encD, ByteArray.append_assoc, ByteArray.append_empty]
    rw [hfin]
    refine nx_round (y := ⟨x.1 + 1, hlt⟩) (show rows8.length - (x.1 + 1) < rows8.length - x.1 by omega) (subEnv_cons (by kernel_rfl) (subEnv_cons (by kernel_rfl) (subEnv_cons (by kernel_rfl) (subEnv_nil _)))) (fun w h => h)
  · skip
    have hge : rows8.length ≤ x.1 := by simpa using hc8
    obtain ⟨s11, hs11⟩ : ∃ u_, u_ = s9 ++ encR rows8 := ⟨_, rfl⟩
    have hz := szB hz hs11
    rw [List.take_of_length_le hge, ← hs11]
    refine nx_exit ?_
    refine nx_then_exit ?_
    refine nx_then_exit ?_
    refine nx_block_here ?_
    refine end_none rfl ?_
    intro w' hw'
    have hfin : s11 = s ++ E := by
      rw [hE, hs11, hs9, hs8, hs7, hs6, hs5, hs4, hs3, hs2, hs1]
      simp only [encL_append, encL, encD, ByteArray.append_assoc, ByteArray.append_empty]
    rw [hfin] at hw'
    exact ⟨rfl, hw'.tail hr1⟩

theorem pred_all (ds : List D) (hfit : FitL sh by_ ds shPred) : WS Try.prog 78 130 ds := by
  have key : ∀ (m : Nat) (ds : List D), szL ds < m → FitL sh by_ ds shPred → WS Try.prog 78 130 ds := by
    intro m
    induction m with
    | zero => intro ds h; omega
    | succ m ih => intro ds h hf; exact pred_step ds hf (fun r hr hfr => ih r (by omega) hfr)
  exact key _ ds (Nat.lt_succ_self _) hfit

set_option maxHeartbeats 4000000 in
theorem index_step (ds : List D) (hfit : FitL sh by_ ds shIndex) : WS Try.prog 71 130 ds := by
  intro w b s bad cs hb hrd hz0
  obtain ⟨E, hE⟩ : ∃ E, E = encL ds := ⟨_, rfl⟩
  rw [← hE]
  skip
  obtain ⟨d0, e0, rfl, hf0, hft0⟩ := FitL.cons (k := .str) (ks := [.int] ++ [.sl 7] ++ [.bool] ++ [.bool] ++ [.bool] ++ shPred) hfit
  obtain ⟨n0, rfl, _⟩ := Fit.str hf0
  obtain ⟨d1, e1, rfl, hf1, hft1⟩ := FitL.cons (k := .int) (ks := [.sl 7] ++ [.bool] ++ [.bool] ++ [.bool] ++ shPred) hft0
  obtain ⟨n1, rfl, _⟩ := Fit.int hf1
  obtain ⟨d2, e2, rfl, hf2, hft2⟩ := FitL.cons (k := .sl 7) (ks := [.bool] ++ [.bool] ++ [.bool] ++ shPred) hft1
  obtain ⟨rows2, rfl, b_rows2, fR_rows2⟩ := Fit.sl hf2
  have b_rows2 : rows2.length * 32 ≤ 140737488355328 := b_rows2
  have bb_rows2 : rows2.length ≤ 140737488355328 := by omega
  obtain ⟨d3, e3, rfl, hf3, hft3⟩ := FitL.cons (k := .bool) (ks := [.bool] ++ [.bool] ++ shPred) hft2
  obtain ⟨n3, rfl⟩ := Fit.bool hf3
  obtain ⟨d4, e4, rfl, hf4, hft4⟩ := FitL.cons (k := .bool) (ks := [.bool] ++ shPred) hft3
  obtain ⟨n4, rfl⟩ := Fit.bool hf4
  obtain ⟨d5, e5, rfl, hf5, hft5⟩ := FitL.cons (k := .bool) (ks := shPred) hft4
  obtain ⟨n5, rfl⟩ := Fit.bool hf5
  obtain ⟨d6, e6, rfl, hf6, hft6⟩ := FitL.split (ks := shPred) (ks' := []) hft5
  obtain rfl := FitL.nil hft6
  obtain ⟨c0, z0, rfl, h_c0, hrd0⟩ := RdL.cons hrd
  rw [Rd] at h_c0; subst h_c0
  obtain ⟨c1, z1, rfl, h_c1, hrd1⟩ := RdL.cons hrd0
  rw [Rd] at h_c1; subst h_c1
  obtain ⟨c2, z2, rfl, h_c2, hrd2⟩ := RdL.cons hrd1
  obtain ⟨a2, cap2, rfl⟩ := h_c2.slv
  obtain ⟨c3, z3, rfl, h_c3, hrd3⟩ := RdL.cons hrd2
  rw [Rd] at h_c3; subst h_c3
  obtain ⟨c4, z4, rfl, h_c4, hrd4⟩ := RdL.cons hrd3
  rw [Rd] at h_c4; subst h_c4
  obtain ⟨c5, z5, rfl, h_c5, hrd5⟩ := RdL.cons hrd4
  rw [Rd] at h_c5; subst h_c5
  obtain ⟨c6, z6, rfl, h_c6, hrd6⟩ := RdL.split hrd5
  have l_c6 : c6.length = 25 := h_c6.length.symm.trans hf6.length
  obtain rfl := RdL.nil hrd6
  rw [show ((.string n0) :: ((.int .i64 n1) :: ((.slice a2 rows2.length cap2) :: ((.bool n3) :: ((.bool n4) :: ((.bool n5) :: (c6 ++ ([]))))))) : List Value) = List.flatten [[.string n0], [.int .i64 n1], [.slice a2 rows2.length cap2], [.bool n3], [.bool n4], [.bool n5], c6] from by simp]
  have hz : s.size + ((encD (.str n0)).size + ((encD (.int n1)).size + ((encD (.int (rows2.length : Int))).size + ((encR rows2).size + ((encD (.bool n3)).size + ((encD (.bool n4)).size + ((encD (.bool n5)).size + ((encL d6).size + (0))))))))) ≤ 9223372036854775807 := by
    have h9 := hz0
    simp only [encLs_cons, encLs_app, encLs_nil, szSL rows2] at h9
    exact h9
  have hent := (@Sx.enter Try.prog 57 71 Try.f71 _ [.pointer (some ⟨b, 0, none⟩), .agg (List.flatten [[.string n0], [.int .i64 n1], [.slice a2 rows2.length cap2], [.bool n3], [.bool n4], [.bool n5], c6]).toArray] w (fun e w' => e = .returned (.tuple #[]) ∧ SH w [⟨b, #[.string (s ++ E), .bool bad, .bool true], 130⟩] w') Try.func71 rfl rfl (by simp))
  refine hent ?_
  refine wc_eq (S := SH w [⟨b, #[.string s, .bool bad, .bool true], 130⟩]) hb ?_
  refine wc_seq ?_
  refine wc_region ?_
  refine wl_new (d := 3) (List.flatten [[.string n0], [.int .i64 n1], [.slice a2 rows2.length cap2], [.bool n3], [.bool n4], [.bool n5], c6]).toArray 49 (fun r => .pointer (some ⟨r, 0, none⟩)) (by kernel_rfl) (fun r => by kernel_rfl) ?_
  intro r1 hr1
  have h_c2 := h_c2.stays (im_more (c := (List.flatten [[.string n0], [.int .i64 n1], [.slice a2 rows2.length cap2], [.bool n3], [.bool n4], [.bool n5], c6]).toArray) (t := 49) hr1)
  have h_c6 := h_c6.stays (im_more (c := (List.flatten [[.string n0], [.int .i64 n1], [.slice a2 rows2.length cap2], [.bool n3], [.bool n4], [.bool n5], c6]).toArray) (t := 49) hr1)
  refine nx_list ?_
  refine nx_then ?_
  refine wc_seq ?_
  refine wc_region ?_
  refine wl_go 2 [(6, .pointer (some ⟨r1, 0, none⟩)), (5, .pointer (some ⟨b, 0, none⟩))] (by kernel_rfl) ?_
  refine wl_yl (d := 7) (v := .string n0) (by kernel_rfl) (yl_load (b := r1) (off := 0) 0 rfl (by kernel_rfl) rfl (readAt_seg1 0 rfl (by simp [l_c6]) (by kernel_rfl))) ?_
  refine wl_callW (d := 8) (b := b) (s := s) (E := (encD (.str n0))) (bad := bad) (T := 130) (L' := [⟨r1, (List.flatten [[.string n0], [.int .i64 n1], [.slice a2 rows2.length cap2], [.bool n3], [.bool n4], [.bool n5], c6]).toArray, 49⟩, ⟨b, #[.string (s ++ (encD (.str n0))), .bool bad, .bool true], 130⟩]) 1 (by kernel_rfl) (by kernel_rfl) rfl rfl (fun w1 h1 => (str_ok n0) w1 b s bad (.string n0) (h1.one 1 rfl) (by rw [Rd]) (szA hz)) ?_
  obtain ⟨s1, hs1⟩ : ∃ u_, u_ = s ++ (encD (.str n0)) := ⟨_, rfl⟩
  have hz := szB hz hs1
  rw [← hs1]
  refine nx_list ?_
  refine nx_then ?_
  refine wc_seq ?_
  refine wc_region ?_
  refine wl_go 2 [(10, .pointer (some ⟨r1, 1, none⟩)), (9, .pointer (some ⟨b, 0, none⟩))] (by kernel_rfl) ?_
  refine wl_yl (d := 11) (v := .int .i64 n1) (by kernel_rfl) (yl_load (b := r1) (off := 1) 0 rfl (by kernel_rfl) rfl (readAt_seg1 1 rfl (by simp [l_c6]) (by kernel_rfl))) ?_
  refine wl_callW (d := 12) (b := b) (s := s1) (E := (encD (.int n1))) (bad := bad) (T := 130) (L' := [⟨r1, (List.flatten [[.string n0], [.int .i64 n1], [.slice a2 rows2.length cap2], [.bool n3], [.bool n4], [.bool n5], c6]).toArray, 49⟩, ⟨b, #[.string (s1 ++ (encD (.int n1))), .bool bad, .bool true], 130⟩]) 1 (by kernel_rfl) (by kernel_rfl) rfl rfl (fun w1 h1 => (num_ok n1) w1 b s1 bad (.int .i64 n1) (h1.one 1 rfl) (by rw [Rd]) (szA hz)) ?_
  obtain ⟨s2, hs2⟩ : ∃ u_, u_ = s1 ++ (encD (.int n1)) := ⟨_, rfl⟩
  have hz := szB hz hs2
  rw [← hs2]
  refine nx_list ?_
  refine nx_then ?_
  refine wc_seq ?_
  refine wc_region ?_
  refine wl_go 2 [(14, .pointer (some ⟨r1, 2, none⟩)), (13, .pointer (some ⟨b, 0, none⟩))] (by kernel_rfl) ?_
  refine wl_yl (d := 15) (v := .slice a2 rows2.length cap2) (by kernel_rfl) (yl_load (b := r1) (off := 2) 0 rfl (by kernel_rfl) rfl (readAt_seg1 2 rfl (by simp [l_c6]) (by kernel_rfl))) ?_
  refine wl_go 1 [(16, .int .i64 (rows2.length : Int))] (by kernel_rfl) ?_
  refine wl_callW (d := 17) (b := b) (s := s2) (E := (encD (.int (rows2.length : Int)))) (bad := bad) (T := 130) (L' := [⟨r1, (List.flatten [[.string n0], [.int .i64 n1], [.slice a2 rows2.length cap2], [.bool n3], [.bool n4], [.bool n5], c6]).toArray, 49⟩, ⟨b, #[.string (s2 ++ (encD (.int (rows2.length : Int)))), .bool bad, .bool true], 130⟩]) 1 (by kernel_rfl) (by kernel_rfl) rfl rfl (fun w1 h1 => (num_ok (rows2.length : Int)) w1 b s2 bad (.int .i64 (rows2.length : Int)) (h1.one 1 rfl) (by rw [Rd]) (szA hz)) ?_
  obtain ⟨s3, hs3⟩ : ∃ u_, u_ = s2 ++ (encD (.int (rows2.length : Int))) := ⟨_, rfl⟩
  have hz := szB hz hs3
  rw [← hs3]
  refine nx_list ?_
  refine nx_then ?_
  refine wc_seq ?_
  refine wc_seq ?_
  refine wc_region ?_
  refine wl_go 1 [(4, .int .i64 0)] (by kernel_rfl) ?_
  refine nx_list ?_
  refine nx_then ?_
  refine wc_block ?_
  refine wc_loop (σ := { i : Nat // i ≤ rows2.length }) (fun x => [(0, .pointer (some ⟨b, 0, none⟩)), (3, .pointer (some ⟨r1, 0, none⟩)), (4, .int .i64 (x.1 : Int))]) (fun x => SH w [⟨r1, (List.flatten [[.string n0], [.int .i64 n1], [.slice a2 rows2.length cap2], [.bool n3], [.bool n4], [.bool n5], c6]).toArray, 49⟩, ⟨b, #[.string (s3 ++ encR (rows2.take x.1)), .bool bad, .bool true], 130⟩]) (fun x => rows2.length - x.1) (fun w3 h3 => ⟨⟨0, Nat.zero_le _⟩, by simpa only [List.take_zero, encR, ByteArray.append_empty] using h3, (subEnv_cons (by kernel_rfl) (subEnv_cons (by kernel_rfl) (subEnv_cons (by kernel_rfl) (subEnv_nil _))))⟩) (fun x => ?_)
  refine wc_seq ?_
  refine wc_seq ?_
  refine wc_region ?_
  refine wl_go 2 [(19, .pointer (some ⟨r1, 2, none⟩)), (18, .int .i64 (x.1 : Int))] (by kernel_rfl) ?_
  refine wl_yl (d := 20) (v := .slice a2 rows2.length cap2) (by kernel_rfl) (yl_load (b := r1) (off := 2) 0 rfl (by kernel_rfl) rfl (readAt_seg1 2 rfl (by simp [l_c6]) (by kernel_rfl))) ?_
  refine wl_go 2 [(22, .bool (decide ((x.1 : Int) < (rows2.length : Int)))), (21, .int .i64 (rows2.length : Int))] (by kernel_rfl) ?_
  refine nx_list ?_
  refine nx_then ?_
  refine wc_cond (decide ((x.1 : Int) < (rows2.length : Int))) (by kernel_rfl) (by kernel_rfl) (fun hc2 => ?_) (fun hc2 => ?_)
  · skip
    have hlt : x.1 < rows2.length := by simpa using hc2
    obtain ⟨r, hrow⟩ : ∃ r, rows2[x.1]? = some r := ⟨_, List.getElem?_eq_getElem hlt⟩
    have hfr := fR_rows2.get x.1 r hrow
    obtain ⟨g, off, cr, rfl, hIg, h_cr, l_cr, hrg⟩ := Rd.row_at (es := 2) h_c2 (fun r hr => fR_rows2.length r hr) hrow
    have hzr : (s3 ++ encR (rows2.take x.1)).size + (encL r).size ≤ 9223372036854775807 := by
      rw [ByteArray.size_append]
      have h8 := encR_room hrow
      omega
    obtain ⟨dr0, er0, rfl, hfr0, hftr0⟩ := FitL.cons (k := .sl 2) (ks := [.bool]) hfr
    obtain ⟨rowsr0, rfl, b_rowsr0, fR_rowsr0⟩ := Fit.sl hfr0
    have b_rowsr0 : rowsr0.length * 16 ≤ 140737488355328 := b_rowsr0
    have bb_rowsr0 : rowsr0.length ≤ 140737488355328 := by omega
    obtain ⟨dr1, er1, rfl, hfr1, hftr1⟩ := FitL.cons (k := .bool) (ks := []) hftr0
    obtain ⟨nr1, rfl⟩ := Fit.bool hfr1
    obtain rfl := FitL.nil hftr1
    obtain ⟨cr0, zr0, rfl, h_cr0, hrdr0⟩ := RdL.cons h_cr
    obtain ⟨ar0, capr0, rfl⟩ := h_cr0.slv
    obtain ⟨cr1, zr1, rfl, h_cr1, hrdr1⟩ := RdL.cons hrdr0
    rw [Rd] at h_cr1; subst h_cr1
    obtain rfl := RdL.nil hrdr1
    have hmem := List.mem_of_getElem? hrow
    have hz : (s3 ++ encR (rows2.take x.1)).size + ((encD (.sl rowsr0)).size + ((encD (.bool nr1)).size + (0))) ≤ 9223372036854775807 := by
      have h9 := hzr
      simp only [encLs_cons, encLs_app, encLs_nil] at h9
      exact h9
    refine nx_skip ?_
    refine nx_then ?_
    refine wc_seq ?_
    refine wc_block ?_
    refine wc_seq ?_
    refine wc_region ?_
    refine wl_go 2 [(26, .pointer (some ⟨r1, 2, none⟩)), (25, .pointer (some ⟨b, 0, none⟩))] (by kernel_rfl) ?_
    refine wl_yl (d := 27) (v := .slice (some ⟨g, off, none⟩) rows2.length cap2) (by kernel_rfl) (yl_load (b := r1) (off := 2) 0 rfl (by kernel_rfl) rfl (readAt_seg1 2 rfl (by simp [l_c6]) (by kernel_rfl))) ?_
    refine wl_go 1 [(28, .int .i64 (x.1 : Int))] (by kernel_rfl) ?_
    refine wl_yl (d := 29) (v := .pointer (some ⟨g, off + x.1 * 2, none⟩)) (by kernel_rfl) (yl_index (E := 126) (b := g) (off := off) (len := rows2.length) (cap := cap2) (k := x.1) (es := 2) rfl (by kernel_rfl) (by kernel_rfl) (by kernel_rfl) (by omega)) ?_
    refine wl_go 1 [(30, .pointer (some ⟨g, off + x.1 * 2, none⟩))] (by kernel_rfl) ?_
    refine wl_yl (d := 31) (v := .slice ar0 rowsr0.length capr0) (by kernel_rfl) (yl_load_im (b := g) (off := off + x.1 * 2) (v := .slice ar0 rowsr0.length capr0) rfl (by kernel_rfl) (im_cong (L := (⟨r1, (List.flatten [[.string n0], [.int .i64 n1], [.slice (some ⟨g, off, none⟩) rows2.length cap2], [.bool n3], [.bool n4], [.bool n5], c6]).toArray, 49⟩ :: [⟨b, #[.string s, .bool bad, .bool true], 130⟩])) (L' := [⟨r1, (List.flatten [[.string n0], [.int .i64 n1], [.slice (some ⟨g, off, none⟩) rows2.length cap2], [.bool n3], [.bool n4], [.bool n5], c6]).toArray, 49⟩, ⟨b, #[.string (s3 ++ encR (rows2.take x.1)), .bool bad, .bool true], 130⟩]) rfl hIg) (by kernel_rfl) (hrg 0 _ rfl)) ?_
    refine wl_callW (d := 32) (b := b) (s := (s3 ++ encR (rows2.take x.1))) (E := (encD (.sl rowsr0))) (bad := bad) (T := 130) (L' := [⟨r1, (List.flatten [[.string n0], [.int .i64 n1], [.slice (some ⟨g, off, none⟩) rows2.length cap2], [.bool n3], [.bool n4], [.bool n5], c6]).toArray, 49⟩, ⟨b, #[.string ((s3 ++ encR (rows2.take x.1)) ++ (encD (.sl rowsr0))), .bool bad, .bool true], 130⟩]) 1 (by kernel_rfl) (by kernel_rfl) rfl rfl (fun w1 h1 => (strs_ok rowsr0 fR_rowsr0 b_rowsr0) w1 b (s3 ++ encR (rows2.take x.1)) bad (.slice ar0 rowsr0.length capr0) (h1.one 1 rfl) (h_cr0.stays (h1.staysB (L0 := (⟨r1, (List.flatten [[.string n0], [.int .i64 n1], [.slice (some ⟨g, off, none⟩) rows2.length cap2], [.bool n3], [.bool n4], [.bool n5], c6]).toArray, 49⟩ :: [⟨b, #[.string s, .bool bad, .bool true], 130⟩])) rfl 1 rfl)) (szA hz)) ?_
    obtain ⟨s4, hs4⟩ : ∃ u_, u_ = (s3 ++ encR (rows2.take x.1)) ++ (encD (.sl rowsr0)) := ⟨_, rfl⟩
    have hz := szB hz hs4
    rw [← hs4]
    refine nx_list ?_
    refine nx_then ?_
    refine wc_region ?_
    refine wl_go 2 [(34, .pointer (some ⟨r1, 2, none⟩)), (33, .pointer (some ⟨b, 0, none⟩))] (by kernel_rfl) ?_
    refine wl_yl (d := 35) (v := .slice (some ⟨g, off, none⟩) rows2.length cap2) (by kernel_rfl) (yl_load (b := r1) (off := 2) 0 rfl (by kernel_rfl) rfl (readAt_seg1 2 rfl (by simp [l_c6]) (by kernel_rfl))) ?_
    refine wl_go 1 [(36, .int .i64 (x.1 : Int))] (by kernel_rfl) ?_
    refine wl_yl (d := 37) (v := .pointer (some ⟨g, off + x.1 * 2, none⟩)) (by kernel_rfl) (yl_index (E := 126) (b := g) (off := off) (len := rows2.length) (cap := cap2) (k := x.1) (es := 2) rfl (by kernel_rfl) (by kernel_rfl) (by kernel_rfl) (by omega)) ?_
    refine wl_go 1 [(38, .pointer (some ⟨g, off + x.1 * 2 + 1, none⟩))] (by kernel_rfl) ?_
    refine wl_yl (d := 39) (v := .bool nr1) (by kernel_rfl) (yl_load_im (b := g) (off := off + x.1 * 2 + 1) (v := .bool nr1) rfl (by kernel_rfl) (im_cong (L := (⟨r1, (List.flatten [[.string n0], [.int .i64 n1], [.slice (some ⟨g, off, none⟩) rows2.length cap2], [.bool n3], [.bool n4], [.bool n5], c6]).toArray, 49⟩ :: [⟨b, #[.string s, .bool bad, .bool true], 130⟩])) (L' := [⟨r1, (List.flatten [[.string n0], [.int .i64 n1], [.slice (some ⟨g, off, none⟩) rows2.length cap2], [.bool n3], [.bool n4], [.bool n5], c6]).toArray, 49⟩, ⟨b, #[.string s4, .bool bad, .bool true], 130⟩]) rfl hIg) (by kernel_rfl) (hrg 1 _ rfl)) ?_
    refine wl_callW (d := 40) (b := b) (s := s4) (E := (encD (.bool nr1))) (bad := bad) (T := 130) (L' := [⟨r1, (List.flatten [[.string n0], [.int .i64 n1], [.slice (some ⟨g, off, none⟩) rows2.length cap2], [.bool n3], [.bool n4], [.bool n5], c6]).toArray, 49⟩, ⟨b, #[.string (s4 ++ (encD (.bool nr1))), .bool bad, .bool true], 130⟩]) 1 (by kernel_rfl) (by kernel_rfl) rfl rfl (fun w1 h1 => (flag_ok nr1) w1 b s4 bad (.bool nr1) (h1.one 1 rfl) (by rw [Rd]) (szA hz)) ?_
    obtain ⟨s5, hs5⟩ : ∃ u_, u_ = s4 ++ (encD (.bool nr1)) := ⟨_, rfl⟩
    have hz := szB hz hs5
    rw [← hs5]
    refine nx_list ?_
    refine nx_block ?_
    refine nx_then ?_
    refine wc_region ?_
    refine wl_go 1 [(23, .int .i64 (x.1 : Int))] (by kernel_rfl) ?_
    refine wl_yl (d := 24) (v := .int .i64 ((x.1 : Int) + 1)) (by kernel_rfl) (yl_int (t := (x.1 : Int) + 1) (r := (x.1 : Int) + 1) (by kernel_rfl) (i64w (by omega) (by omega))) ?_
    refine wl_go 1 [(4, .int .i64 ((x.1 : Int) + 1))] (by kernel_rfl) ?_
    refine nx_list ?_
    have hfin : s5 = s3 ++ encR (rows2.take (x.1 + 1)) := by
      rw [encR_take hrow, hs5, hs4]
      simp only [encL_append, encL, encD, ByteArray.append_assoc, ByteArray.append_empty]
    rw [hfin]
    refine nx_round (y := ⟨x.1 + 1, hlt⟩) (show rows2.length - (x.1 + 1) < rows2.length - x.1 by omega) (subEnv_cons (by kernel_rfl) (subEnv_cons (by kernel_rfl) (subEnv_cons (by kernel_rfl) (subEnv_nil _)))) (fun w h => h)
  · skip
    have hge : rows2.length ≤ x.1 := by simpa using hc2
    obtain ⟨s6, hs6⟩ : ∃ u_, u_ = s3 ++ encR rows2 := ⟨_, rfl⟩
    have hz := szB hz hs6
    rw [List.take_of_length_le hge, ← hs6]
    refine nx_exit ?_
    refine nx_then_exit ?_
    refine nx_then_exit ?_
    refine nx_block_here ?_
    refine nx_then ?_
    refine wc_seq ?_
    refine wc_region ?_
    refine wl_go 2 [(42, .pointer (some ⟨r1, 3, none⟩)), (41, .pointer (some ⟨b, 0, none⟩))] (by kernel_rfl) ?_
    refine wl_yl (d := 43) (v := .bool n3) (by kernel_rfl) (yl_load (b := r1) (off := 3) 0 rfl (by kernel_rfl) rfl (readAt_seg1 3 rfl (by simp [l_c6]) (by kernel_rfl))) ?_
    refine wl_callW (d := 44) (b := b) (s := s6) (E := (encD (.bool n3))) (bad := bad) (T := 130) (L' := [⟨r1, (List.flatten [[.string n0], [.int .i64 n1], [.slice a2 rows2.length cap2], [.bool n3], [.bool n4], [.bool n5], c6]).toArray, 49⟩, ⟨b, #[.string (s6 ++ (encD (.bool n3))), .bool bad, .bool true], 130⟩]) 1 (by kernel_rfl) (by kernel_rfl) rfl rfl (fun w1 h1 => (flag_ok n3) w1 b s6 bad (.bool n3) (h1.one 1 rfl) (by rw [Rd]) (szA hz)) ?_
    obtain ⟨s7, hs7⟩ : ∃ u_, u_ = s6 ++ (encD (.bool n3)) := ⟨_, rfl⟩
    have hz := szB hz hs7
    rw [← hs7]
    refine nx_list ?_
    refine nx_then ?_
    refine wc_seq ?_
    refine wc_region ?_
    refine wl_go 2 [(46, .pointer (some ⟨r1, 4, none⟩)), (45, .pointer (some ⟨b, 0, none⟩))] (by kernel_rfl) ?_
    refine wl_yl (d := 47) (v := .bool n4) (by kernel_rfl) (yl_load (b := r1) (off := 4) 0 rfl (by kernel_rfl) rfl (readAt_seg1 4 rfl (by simp [l_c6]) (by kernel_rfl))) ?_
    refine wl_callW (d := 48) (b := b) (s := s7) (E := (encD (.bool n4))) (bad := bad) (T := 130) (L' := [⟨r1, (List.flatten [[.string n0], [.int .i64 n1], [.slice a2 rows2.length cap2], [.bool n3], [.bool n4], [.bool n5], c6]).toArray, 49⟩, ⟨b, #[.string (s7 ++ (encD (.bool n4))), .bool bad, .bool true], 130⟩]) 1 (by kernel_rfl) (by kernel_rfl) rfl rfl (fun w1 h1 => (flag_ok n4) w1 b s7 bad (.bool n4) (h1.one 1 rfl) (by rw [Rd]) (szA hz)) ?_
    obtain ⟨s8, hs8⟩ : ∃ u_, u_ = s7 ++ (encD (.bool n4)) := ⟨_, rfl⟩
    have hz := szB hz hs8
    rw [← hs8]
    refine nx_list ?_
    refine nx_then ?_
    refine wc_seq ?_
    refine wc_region ?_
    refine wl_go 2 [(50, .pointer (some ⟨r1, 5, none⟩)), (49, .pointer (some ⟨b, 0, none⟩))] (by kernel_rfl) ?_
    refine wl_yl (d := 51) (v := .bool n5) (by kernel_rfl) (yl_load (b := r1) (off := 5) 0 rfl (by kernel_rfl) rfl (readAt_seg1 5 rfl (by simp [l_c6]) (by kernel_rfl))) ?_
    refine wl_callW (d := 52) (b := b) (s := s8) (E := (encD (.bool n5))) (bad := bad) (T := 130) (L' := [⟨r1, (List.flatten [[.string n0], [.int .i64 n1], [.slice a2 rows2.length cap2], [.bool n3], [.bool n4], [.bool n5], c6]).toArray, 49⟩, ⟨b, #[.string (s8 ++ (encD (.bool n5))), .bool bad, .bool true], 130⟩]) 1 (by kernel_rfl) (by kernel_rfl) rfl rfl (fun w1 h1 => (flag_ok n5) w1 b s8 bad (.bool n5) (h1.one 1 rfl) (by rw [Rd]) (szA hz)) ?_
    obtain ⟨s9, hs9⟩ : ∃ u_, u_ = s8 ++ (encD (.bool n5)) := ⟨_, rfl⟩
    have hz := szB hz hs9
    rw [← hs9]
    refine nx_list ?_
    refine nx_then ?_
    refine wc_region ?_
    refine wl_go 2 [(54, .pointer (some ⟨r1, 6, none⟩)), (53, .pointer (some ⟨b, 0, none⟩))] (by kernel_rfl) ?_
    refine wl_yl (d := 55) (v := .agg (c6).toArray) (by kernel_rfl) (yl_load (b := r1) (off := 6) 0 rfl (by kernel_rfl) rfl (readAt_seg 6 rfl (by simp [l_c6]) (by rw [l_c6]; kernel_rfl))) ?_
    refine wl_callW (d := 56) (b := b) (s := s9) (E := (encL d6)) (bad := bad) (T := 130) (L' := [⟨r1, (List.flatten [[.string n0], [.int .i64 n1], [.slice a2 rows2.length cap2], [.bool n3], [.bool n4], [.bool n5], c6]).toArray, 49⟩, ⟨b, #[.string (s9 ++ (encL d6)), .bool bad, .bool true], 130⟩]) 1 (by kernel_rfl) (by kernel_rfl) rfl rfl (fun w1 h1 => (pred_all d6 hf6) w1 b s9 bad c6 (h1.one 1 rfl) (h_c6.stays (h1.staysB (L0 := (⟨r1, (List.flatten [[.string n0], [.int .i64 n1], [.slice a2 rows2.length cap2], [.bool n3], [.bool n4], [.bool n5], c6]).toArray, 49⟩ :: [⟨b, #[.string s, .bool bad, .bool true], 130⟩])) rfl 1 rfl)) (szA hz)) ?_
    obtain ⟨s10, hs10⟩ : ∃ u_, u_ = s9 ++ (encL d6) := ⟨_, rfl⟩
    have hz := szB hz hs10
    rw [← hs10]
    refine nx_list ?_
    refine end_none rfl ?_
    intro w' hw'
    have hfin : s10 = s ++ E := by
      rw [hE, hs10, hs9, hs8, hs7, hs6, hs3, hs2, hs1]
      simp only [encL_append, encL, encD, ByteArray.append_assoc, ByteArray.append_empty]
    rw [hfin] at hw'
    exact ⟨rfl, hw'.tail hr1⟩

theorem index_all (ds : List D) (hfit : FitL sh by_ ds shIndex) : WS Try.prog 71 130 ds := index_step ds hfit

end Go.Proofs.Ytidkaipijocjcaa
