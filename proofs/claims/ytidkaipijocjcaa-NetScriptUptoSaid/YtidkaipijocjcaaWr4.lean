/- Contracts of the writers of docstoreref40 (last part), printed by a program of this repository (gen/writers.py). -/
import Derived.Test.YtidkaipijocjcaaWr2
import Derived.Test.YtidkaipijocjcaaWr3
namespace Go.Proofs.Ytidkaipijocjcaa
open Go.RowKit Go.Sx
set_option linter.unusedVariables false
set_option linter.unusedSimpArgs false

set_option maxHeartbeats 4000000 in
theorem space_step (ds : List D) (hfit : FitL sh by_ ds shSpace) : WS Try.prog 70 130 ds := by
  intro w b s bad cs hb hrd hz0
  obtain ⟨E, hE⟩ : ∃ E, E = encL ds := ⟨_, rfl⟩
  rw [← hE]
  skip
  obtain ⟨d0, e0, rfl, hf0, hft0⟩ := FitL.cons (k := .str) (ks := [.sl 8] ++ shSchema ++ [.int] ++ [.int]) hfit
  obtain ⟨n0, rfl, _⟩ := Fit.str hf0
  obtain ⟨d1, e1, rfl, hf1, hft1⟩ := FitL.cons (k := .sl 8) (ks := shSchema ++ [.int] ++ [.int]) hft0
  obtain ⟨rows1, rfl, b_rows1, fR_rows1⟩ := Fit.sl hf1
  have b_rows1 : rows1.length * 456 ≤ 140737488355328 := b_rows1
  have bb_rows1 : rows1.length ≤ 140737488355328 := by omega
  obtain ⟨d2, e2, rfl, hf2, hft2⟩ := FitL.split (ks := shSchema) (ks' := [.int] ++ [.int]) hft1
  obtain ⟨d3, e3, rfl, hf3, hft3⟩ := FitL.cons (k := .int) (ks := [.int]) hft2
  obtain ⟨n3, rfl, _⟩ := Fit.int hf3
  obtain ⟨d4, e4, rfl, hf4, hft4⟩ := FitL.cons (k := .int) (ks := []) hft3
  obtain ⟨n4, rfl, _⟩ := Fit.int hf4
  obtain rfl := FitL.nil hft4
  obtain ⟨c0, z0, rfl, h_c0, hrd0⟩ := RdL.cons hrd
  rw [Rd] at h_c0; subst h_c0
  obtain ⟨c1, z1, rfl, h_c1, hrd1⟩ := RdL.cons hrd0
  obtain ⟨a1, cap1, rfl⟩ := h_c1.slv
  obtain ⟨c2, z2, rfl, h_c2, hrd2⟩ := RdL.split hrd1
  have l_c2 : c2.length = 21 := h_c2.length.symm.trans hf2.length
  obtain ⟨c3, z3, rfl, h_c3, hrd3⟩ := RdL.cons hrd2
  rw [Rd] at h_c3; subst h_c3
  obtain ⟨c4, z4, rfl, h_c4, hrd4⟩ := RdL.cons hrd3
  rw [Rd] at h_c4; subst h_c4
  obtain rfl := RdL.nil hrd4
  rw [show ((.string n0) :: ((.slice a1 rows1.length cap1) :: (c2 ++ ((.int .i64 n3) :: ((.int .i64 n4) :: ([]))))) : List Value) = List.flatten [[.string n0], [.slice a1 rows1.length cap1], c2, [.int .i64 n3], [.int .i64 n4]] from by simp]
  have hz : s.size + ((encD (.str n0)).size + ((encD (.int (rows1.length : Int))).size + ((encR rows1).size + ((encL d2).size + ((encD (.int n3)).size + ((encD (.int n4)).size + (0))))))) ≤ 9223372036854775807 := by
    have h9 := hz0
    simp only [encLs_cons, encLs_app, encLs_nil, szSL rows1] at h9
    exact h9
  have hent := (@Sx.enter Try.prog 40 70 Try.f70 _ [.pointer (some ⟨b, 0, none⟩), .agg (List.flatten [[.string n0], [.slice a1 rows1.length cap1], c2, [.int .i64 n3], [.int .i64 n4]]).toArray] w (fun e w' => e = .returned (.tuple #[]) ∧ SH w [⟨b, #[.string (s ++ E), .bool bad, .bool true], 130⟩] w') Try.func70 rfl rfl (by simp))
  refine hent ?_
  refine wc_eq (S := SH w [⟨b, #[.string s, .bool bad, .bool true], 130⟩]) hb ?_
  refine wc_seq ?_
  refine wc_region ?_
  refine wl_new (d := 3) (List.flatten [[.string n0], [.slice a1 rows1.length cap1], c2, [.int .i64 n3], [.int .i64 n4]]).toArray 37 (fun r => .pointer (some ⟨r, 0, none⟩)) (by kernel_rfl) (fun r => by kernel_rfl) ?_
  intro r1 hr1
  have h_c1 := h_c1.stays (im_more (c := (List.flatten [[.string n0], [.slice a1 rows1.length cap1], c2, [.int .i64 n3], [.int .i64 n4]]).toArray) (t := 37) hr1)
  have h_c2 := h_c2.stays (im_more (c := (List.flatten [[.string n0], [.slice a1 rows1.length cap1], c2, [.int .i64 n3], [.int .i64 n4]]).toArray) (t := 37) hr1)
  refine nx_list ?_
  refine nx_then ?_
  refine wc_seq ?_
  refine wc_region ?_
  refine wl_go 2 [(6, .pointer (some ⟨r1, 0, none⟩)), (5, .pointer (some ⟨b, 0, none⟩))] (by kernel_rfl) ?_
  refine wl_yl (d := 7) (v := .string n0) (by kernel_rfl) (yl_load (b := r1) (off := 0) 0 rfl (by kernel_rfl) rfl (readAt_seg1 0 rfl (by simp [l_c2]) (by kernel_rfl))) ?_
  refine wl_callW (d := 8) (b := b) (s := s) (E := (encD (.str n0))) (bad := bad) (T := 130) (L' := [⟨r1, (List.flatten [[.string n0], [.slice a1 rows1.length cap1], c2, [.int .i64 n3], [.int .i64 n4]]).toArray, 37⟩, ⟨b, #[.string (s ++ (encD (.str n0))), .bool bad, .bool true], 130⟩]) 1 (by kernel_rfl) (by kernel_rfl) rfl rfl (fun w1 h1 => (str_ok n0) w1 b s bad (.string n0) (h1.one 1 rfl) (by rw [Rd]) (szA hz)) ?_
  obtain ⟨s1, hs1⟩ : ∃ u_, u_ = s ++ (encD (.str n0)) := ⟨_, rfl⟩
  have hz := szB hz hs1
  rw [← hs1]
  refine nx_list ?_
  refine nx_then ?_
  refine wc_seq ?_
  refine wc_region ?_
  refine wl_go 2 [(10, .pointer (some ⟨r1, 1, none⟩)), (9, .pointer (some ⟨b, 0, none⟩))] (by kernel_rfl) ?_
  refine wl_yl (d := 11) (v := .slice a1 rows1.length cap1) (by kernel_rfl) (yl_load (b := r1) (off := 1) 0 rfl (by kernel_rfl) rfl (readAt_seg1 1 rfl (by simp [l_c2]) (by kernel_rfl))) ?_
  refine wl_go 1 [(12, .int .i64 (rows1.length : Int))] (by kernel_rfl) ?_
  refine wl_callW (d := 13) (b := b) (s := s1) (E := (encD (.int (rows1.length : Int)))) (bad := bad) (T := 130) (L' := [⟨r1, (List.flatten [[.string n0], [.slice a1 rows1.length cap1], c2, [.int .i64 n3], [.int .i64 n4]]).toArray, 37⟩, ⟨b, #[.string (s1 ++ (encD (.int (rows1.length : Int)))), .bool bad, .bool true], 130⟩]) 1 (by kernel_rfl) (by kernel_rfl) rfl rfl (fun w1 h1 => (num_ok (rows1.length : Int)) w1 b s1 bad (.int .i64 (rows1.length : Int)) (h1.one 1 rfl) (by rw [Rd]) (szA hz)) ?_
  obtain ⟨s2, hs2⟩ : ∃ u_, u_ = s1 ++ (encD (.int (rows1.length : Int))) := ⟨_, rfl⟩
  have hz := szB hz hs2
  rw [← hs2]
  refine nx_list ?_
  refine nx_then ?_
  refine wc_seq ?_
  refine wc_seq ?_
  refine wc_region ?_
  refine wl_go 1 [(4, .int .i64 0)] (by kernel_rfl) ?_
  refine nx_list ?_
  refine nx_then ?_
  refine wc_block ?_
  refine wc_loop (σ := { i : Nat // i ≤ rows1.length }) (fun x => [(0, .pointer (some ⟨b, 0, none⟩)), (3, .pointer (some ⟨r1, 0, none⟩)), (4, .int .i64 (x.1 : Int))]) (fun x => SH w [⟨r1, (List.flatten [[.string n0], [.slice a1 rows1.length cap1], c2, [.int .i64 n3], [.int .i64 n4]]).toArray, 37⟩, ⟨b, #[.string (s2 ++ encR (rows1.take x.1)), .bool bad, .bool true], 130⟩]) (fun x => rows1.length - x.1) (fun w3 h3 => ⟨⟨0, Nat.zero_le _⟩, by simpa only [List.take_zero, encR, ByteArray.append_empty] using h3, (subEnv_cons (by kernel_rfl) (subEnv_cons (by kernel_rfl) (subEnv_cons (by kernel_rfl) (subEnv_nil _))))⟩) (fun x => ?_)
  refine wc_seq ?_
  refine wc_seq ?_
  refine wc_region ?_
  refine wl_go 2 [(15, .pointer (some ⟨r1, 1, none⟩)), (14, .int .i64 (x.1 : Int))] (by kernel_rfl) ?_
  refine wl_yl (d := 16) (v := .slice a1 rows1.length cap1) (by kernel_rfl) (yl_load (b := r1) (off := 1) 0 rfl (by kernel_rfl) rfl (readAt_seg1 1 rfl (by simp [l_c2]) (by kernel_rfl))) ?_
  refine wl_go 2 [(18, .bool (decide ((x.1 : Int) < (rows1.length : Int)))), (17, .int .i64 (rows1.length : Int))] (by kernel_rfl) ?_
  refine nx_list ?_
  refine nx_then ?_
  refine wc_cond (decide ((x.1 : Int) < (rows1.length : Int))) (by kernel_rfl) (by kernel_rfl) (fun hc1 => ?_) (fun hc1 => ?_)
  · skip
    have hlt : x.1 < rows1.length := by simpa using hc1
    obtain ⟨r, hrow⟩ : ∃ r, rows1[x.1]? = some r := ⟨_, List.getElem?_eq_getElem hlt⟩
    have hfr := fR_rows1.get x.1 r hrow
    obtain ⟨g, off, cr, rfl, hIg, h_cr, l_cr, hrg⟩ := Rd.row_at (es := 31) h_c1 (fun r hr => fR_rows1.length r hr) hrow
    have hzr : (s2 ++ encR (rows1.take x.1)).size + (encL r).size ≤ 9223372036854775807 := by
      rw [ByteArray.size_append]
      have h8 := encR_room hrow
      omega
    have hmem := List.mem_of_getElem? hrow
    have hz : (s2 ++ encR (rows1.take x.1)).size + ((encL r).size + (0)) ≤ 9223372036854775807 := by rw [Nat.add_zero]; exact hzr
    refine nx_skip ?_
    refine nx_then ?_
    refine wc_seq ?_
    refine wc_block ?_
    refine wc_region ?_
    refine wl_go 2 [(22, .pointer (some ⟨r1, 1, none⟩)), (21, .pointer (some ⟨b, 0, none⟩))] (by kernel_rfl) ?_
    refine wl_yl (d := 23) (v := .slice (some ⟨g, off, none⟩) rows1.length cap1) (by kernel_rfl) (yl_load (b := r1) (off := 1) 0 rfl (by kernel_rfl) rfl (readAt_seg1 1 rfl (by simp [l_c2]) (by kernel_rfl))) ?_
    refine wl_go 1 [(24, .int .i64 (x.1 : Int))] (by kernel_rfl) ?_
    refine wl_yl (d := 25) (v := .pointer (some ⟨g, off + x.1 * 31, none⟩)) (by kernel_rfl) (yl_index (E := 49) (b := g) (off := off) (len := rows1.length) (cap := cap1) (k := x.1) (es := 31) rfl (by kernel_rfl) (by kernel_rfl) (by kernel_rfl) (by omega)) ?_
    refine wl_yl (d := 26) (v := .agg (cr).toArray) (by kernel_rfl) (yl_loads_im (b := g) (off := off + x.1 * 31) (cs := cr) rfl (by kernel_rfl) (im_cong (L := (⟨r1, (List.flatten [[.string n0], [.slice (some ⟨g, off, none⟩) rows1.length cap1], c2, [.int .i64 n3], [.int .i64 n4]]).toArray, 37⟩ :: [⟨b, #[.string s, .bool bad, .bool true], 130⟩])) (L' := [⟨r1, (List.flatten [[.string n0], [.slice (some ⟨g, off, none⟩) rows1.length cap1], c2, [.int .i64 n3], [.int .i64 n4]]).toArray, 37⟩, ⟨b, #[.string (s2 ++ encR (rows1.take x.1)), .bool bad, .bool true], 130⟩]) rfl hIg) (by rw [l_cr]; kernel_rfl) hrg) ?_
    refine wl_callW (d := 27) (b := b) (s := (s2 ++ encR (rows1.take x.1))) (E := (encL r)) (bad := bad) (T := 130) (L' := [⟨r1, (List.flatten [[.string n0], [.slice (some ⟨g, off, none⟩) rows1.length cap1], c2, [.int .i64 n3], [.int .i64 n4]]).toArray, 37⟩, ⟨b, #[.string ((s2 ++ encR (rows1.take x.1)) ++ (encL r)), .bool bad, .bool true], 130⟩]) 1 (by kernel_rfl) (by kernel_rfl) rfl rfl (fun w1 h1 => (index_all r hfr) w1 b (s2 ++ encR (rows1.take x.1)) bad cr (h1.one 1 rfl) (h_cr.stays (h1.staysB (L0 := (⟨r1, (List.flatten [[.string n0], [.slice (some ⟨g, off, none⟩) rows1.length cap1], c2, [.int .i64 n3], [.int .i64 n4]]).toArray, 37⟩ :: [⟨b, #[.string s, .bool bad, .bool true], 130⟩])) rfl 1 rfl)) (szA hz)) ?_
    obtain ⟨s3, hs3⟩ : ∃ u_, u_ = (s2 ++ encR (rows1.take x.1)) ++ (encL r) := ⟨_, rfl⟩
    have hz := szB hz hs3
    rw [← hs3]
    refine nx_list ?_
    refine nx_block ?_
    refine nx_then ?_
    refine wc_region ?_
    refine wl_go 1 [(19, .int .i64 (x.1 : Int))] (by kernel_rfl) ?_
    refine wl_yl (d := 20) (v := .int .i64 ((x.1 : Int) + 1)) (by kernel_rfl) (yl_int (t := (x.1 : Int) + 1) (r := (x.1 : Int) + 1) (by kernel_rfl) (i64w (by omega) (by omega))) ?_
    refine wl_go 1 [(4, .int .i64 ((x.1 : Int) + 1))] (by kernel_rfl) ?_
    refine nx_list ?_
    have hfin : s3 = s2 ++ encR (rows1.take (x.1 + 1)) := by
      rw [encR_take hrow, hs3]
      simp only [encL_append, encL, encD, ByteArray.append_assoc, ByteArray.append_empty]
    rw [hfin]
    refine nx_round (y := ⟨x.1 + 1, hlt⟩) (show rows1.length - (x.1 + 1) < rows1.length - x.1 by omega) (subEnv_cons (by kernel_rfl) (subEnv_cons (by kernel_rfl) (subEnv_cons (by kernel_rfl) (subEnv_nil _)))) (fun w h => h)
  · skip
    have hge : rows1.length ≤ x.1 := by simpa using hc1
    obtain ⟨s4, hs4⟩ : ∃ u_, u_ = s2 ++ encR rows1 := ⟨_, rfl⟩
    have hz := szB hz hs4
    rw [List.take_of_length_le hge, ← hs4]
    refine nx_exit ?_
    refine nx_then_exit ?_
    refine nx_then_exit ?_
    refine nx_block_here ?_
    refine nx_then ?_
    refine wc_seq ?_
    refine wc_region ?_
    refine wl_go 2 [(29, .pointer (some ⟨r1, 2, none⟩)), (28, .pointer (some ⟨b, 0, none⟩))] (by kernel_rfl) ?_
    refine wl_yl (d := 30) (v := .agg (c2).toArray) (by kernel_rfl) (yl_load (b := r1) (off := 2) 0 rfl (by kernel_rfl) rfl (readAt_seg 2 rfl (by simp [l_c2]) (by rw [l_c2]; kernel_rfl))) ?_
    refine wl_callW (d := 31) (b := b) (s := s4) (E := (encL d2)) (bad := bad) (T := 130) (L' := [⟨r1, (List.flatten [[.string n0], [.slice a1 rows1.length cap1], c2, [.int .i64 n3], [.int .i64 n4]]).toArray, 37⟩, ⟨b, #[.string (s4 ++ (encL d2)), .bool bad, .bool true], 130⟩]) 1 (by kernel_rfl) (by kernel_rfl) rfl rfl (fun w1 h1 => (schema_all d2 hf2) w1 b s4 bad c2 (h1.one 1 rfl) (h_c2.stays (h1.staysB (L0 := (⟨r1, (List.flatten [[.string n0], [.slice a1 rows1.length cap1], c2, [.int .i64 n3], [.int .i64 n4]]).toArray, 37⟩ :: [⟨b, #[.string s, .bool bad, .bool true], 130⟩])) rfl 1 rfl)) (szA hz)) ?_
    obtain ⟨s5, hs5⟩ : ∃ u_, u_ = s4 ++ (encL d2) := ⟨_, rfl⟩
    have hz := szB hz hs5
    rw [← hs5]
    refine nx_list ?_
    refine nx_then ?_
    refine wc_seq ?_
    refine wc_region ?_
    refine wl_go 2 [(33, .pointer (some ⟨r1, 23, none⟩)), (32, .pointer (some ⟨b, 0, none⟩))] (by kernel_rfl) ?_
    refine wl_yl (d := 34) (v := .int .i64 n3) (by kernel_rfl) (yl_load (b := r1) (off := 23) 0 rfl (by kernel_rfl) rfl (readAt_seg1 3 rfl (by simp [l_c2]) (by kernel_rfl))) ?_
    refine wl_callW (d := 35) (b := b) (s := s5) (E := (encD (.int n3))) (bad := bad) (T := 130) (L' := [⟨r1, (List.flatten [[.string n0], [.slice a1 rows1.length cap1], c2, [.int .i64 n3], [.int .i64 n4]]).toArray, 37⟩, ⟨b, #[.string (s5 ++ (encD (.int n3))), .bool bad, .bool true], 130⟩]) 1 (by kernel_rfl) (by kernel_rfl) rfl rfl (fun w1 h1 => (num_ok n3) w1 b s5 bad (.int .i64 n3) (h1.one 1 rfl) (by rw [Rd]) (szA hz)) ?_
    obtain ⟨s6, hs6⟩ : ∃ u_, u_ = s5 ++ (encD (.int n3)) := ⟨_, rfl⟩
    have hz := szB hz hs6
    rw [← hs6]
    refine nx_list ?_
    refine nx_then ?_
    refine wc_region ?_
    refine wl_go 2 [(37, .pointer (some ⟨r1, 24, none⟩)), (36, .pointer (some ⟨b, 0, none⟩))] (by kernel_rfl) ?_
    refine wl_yl (d := 38) (v := .int .i64 n4) (by kernel_rfl) (yl_load (b := r1) (off := 24) 0 rfl (by kernel_rfl) rfl (readAt_seg1 4 rfl (by simp [l_c2]) (by kernel_rfl))) ?_
    refine wl_callW (d := 39) (b := b) (s := s6) (E := (encD (.int n4))) (bad := bad) (T := 130) (L' := [⟨r1, (List.flatten [[.string n0], [.slice a1 rows1.length cap1], c2, [.int .i64 n3], [.int .i64 n4]]).toArray, 37⟩, ⟨b, #[.string (s6 ++ (encD (.int n4))), .bool bad, .bool true], 130⟩]) 1 (by kernel_rfl) (by kernel_rfl) rfl rfl (fun w1 h1 => (num_ok n4) w1 b s6 bad (.int .i64 n4) (h1.one 1 rfl) (by rw [Rd]) (szA hz)) ?_
    obtain ⟨s7, hs7⟩ : ∃ u_, u_ = s6 ++ (encD (.int n4)) := ⟨_, rfl⟩
    have hz := szB hz hs7
    rw [← hs7]
    refine nx_list ?_
    refine end_none rfl ?_
    intro w' hw'
    have hfin : s7 = s ++ E := by
      rw [hE, hs7, hs6, hs5, hs4, hs2, hs1]
      simp only [encL_append, encL, encD, ByteArray.append_assoc, ByteArray.append_empty]
    rw [hfin] at hw'
    exact ⟨rfl, hw'.tail hr1⟩

theorem space_all (ds : List D) (hfit : FitL sh by_ ds shSpace) : WS Try.prog 70 130 ds := space_step ds hfit

set_option maxHeartbeats 4000000 in
theorem write_step (ds : List D) (hfit : FitL sh by_ ds shWrite) (ih : ∀ (r : List D), szL r < szL ds → FitL sh by_ r shWrite → WS Try.prog 66 130 r) : WS Try.prog 66 130 ds := by
  intro w b s bad cs hb hrd hz0
  obtain ⟨E, hE⟩ : ∃ E, E = encL ds := ⟨_, rfl⟩
  rw [← hE]
  skip
  obtain ⟨d0, e0, rfl, hf0, hft0⟩ := FitL.cons (k := .int) (ks := [.str] ++ shV ++ shV ++ shV ++ shSpace ++ shIndex ++ [.str] ++ [.int] ++ [.sl 12] ++ [.sl 3] ++ [.bool]) hfit
  obtain ⟨n0, rfl, _⟩ := Fit.int hf0
  obtain ⟨d1, e1, rfl, hf1, hft1⟩ := FitL.cons (k := .str) (ks := shV ++ shV ++ shV ++ shSpace ++ shIndex ++ [.str] ++ [.int] ++ [.sl 12] ++ [.sl 3] ++ [.bool]) hft0
  obtain ⟨n1, rfl, _⟩ := Fit.str hf1
  obtain ⟨d2, e2, rfl, hf2, hft2⟩ := FitL.split (ks := shV) (ks' := shV ++ shV ++ shSpace ++ shIndex ++ [.str] ++ [.int] ++ [.sl 12] ++ [.sl 3] ++ [.bool]) hft1
  obtain ⟨d3, e3, rfl, hf3, hft3⟩ := FitL.split (ks := shV) (ks' := shV ++ shSpace ++ shIndex ++ [.str] ++ [.int] ++ [.sl 12] ++ [.sl 3] ++ [.bool]) hft2
  obtain ⟨d4, e4, rfl, hf4, hft4⟩ := FitL.split (ks := shV) (ks' := shSpace ++ shIndex ++ [.str] ++ [.int] ++ [.sl 12] ++ [.sl 3] ++ [.bool]) hft3
  obtain ⟨d5, e5, rfl, hf5, hft5⟩ := FitL.split (ks := shSpace) (ks' := shIndex ++ [.str] ++ [.int] ++ [.sl 12] ++ [.sl 3] ++ [.bool]) hft4
  obtain ⟨d6, e6, rfl, hf6, hft6⟩ := FitL.split (ks := shIndex) (ks' := [.str] ++ [.int] ++ [.sl 12] ++ [.sl 3] ++ [.bool]) hft5
  obtain ⟨d7, e7, rfl, hf7, hft7⟩ := FitL.cons (k := .str) (ks := [.int] ++ [.sl 12] ++ [.sl 3] ++ [.bool]) hft6
  obtain ⟨n7, rfl, _⟩ := Fit.str hf7
  obtain ⟨d8, e8, rfl, hf8, hft8⟩ := FitL.cons (k := .int) (ks := [.sl 12] ++ [.sl 3] ++ [.bool]) hft7
  obtain ⟨n8, rfl, _⟩ := Fit.int hf8
  obtain ⟨d9, e9, rfl, hf9, hft9⟩ := FitL.cons (k := .sl 12) (ks := [.sl 3] ++ [.bool]) hft8
  obtain ⟨rows9, rfl, b_rows9, fR_rows9⟩ := Fit.sl hf9
  have b_rows9 : rows9.length * 1168 ≤ 140737488355328 := b_rows9
  have bb_rows9 : rows9.length ≤ 140737488355328 := by omega
  obtain ⟨d10, e10, rfl, hf10, hft10⟩ := FitL.cons (k := .sl 3) (ks := [.bool]) hft9
  obtain ⟨rows10, rfl, b_rows10, fR_rows10⟩ := Fit.sl hf10
  have b_rows10 : rows10.length * 8 ≤ 140737488355328 := b_rows10
  have bb_rows10 : rows10.length ≤ 140737488355328 := by omega
  obtain ⟨d11, e11, rfl, hf11, hft11⟩ := FitL.cons (k := .bool) (ks := []) hft10
  obtain ⟨n11, rfl⟩ := Fit.bool hf11
  obtain rfl := FitL.nil hft11
  obtain ⟨c0, z0, rfl, h_c0, hrd0⟩ := RdL.cons hrd
  rw [Rd] at h_c0; subst h_c0
  obtain ⟨c1, z1, rfl, h_c1, hrd1⟩ := RdL.cons hrd0
  rw [Rd] at h_c1; subst h_c1
  obtain ⟨c2, z2, rfl, h_c2, hrd2⟩ := RdL.split hrd1
  have l_c2 : c2.length = 5 := h_c2.length.symm.trans hf2.length
  obtain ⟨c3, z3, rfl, h_c3, hrd3⟩ := RdL.split hrd2
  have l_c3 : c3.length = 5 := h_c3.length.symm.trans hf3.length
  obtain ⟨c4, z4, rfl, h_c4, hrd4⟩ := RdL.split hrd3
  have l_c4 : c4.length = 5 := h_c4.length.symm.trans hf4.length
  obtain ⟨c5, z5, rfl, h_c5, hrd5⟩ := RdL.split hrd4
  have l_c5 : c5.length = 25 := h_c5.length.symm.trans hf5.length
  obtain ⟨c6, z6, rfl, h_c6, hrd6⟩ := RdL.split hrd5
  have l_c6 : c6.length = 31 := h_c6.length.symm.trans hf6.length
  obtain ⟨c7, z7, rfl, h_c7, hrd7⟩ := RdL.cons hrd6
  rw [Rd] at h_c7; subst h_c7
  obtain ⟨c8, z8, rfl, h_c8, hrd8⟩ := RdL.cons hrd7
  rw [Rd] at h_c8; subst h_c8
  obtain ⟨c9, z9, rfl, h_c9, hrd9⟩ := RdL.cons hrd8
  obtain ⟨a9, cap9, rfl⟩ := h_c9.slv
  obtain ⟨c10, z10, rfl, h_c10, hrd10⟩ := RdL.cons hrd9
  obtain ⟨a10, cap10, rfl⟩ := h_c10.slv
  obtain ⟨c11, z11, rfl, h_c11, hrd11⟩ := RdL.cons hrd10
  rw [Rd] at h_c11; subst h_c11
  obtain rfl := RdL.nil hrd11
  rw [show ((.int .i64 n0) :: ((.string n1) :: (c2 ++ (c3 ++ (c4 ++ (c5 ++ (c6 ++ ((.string n7) :: ((.int .i64 n8) :: ((.slice a9 rows9.length cap9) :: ((.slice a10 rows10.length cap10) :: ((.bool n11) :: ([])))))))))))) : List Value) = List.flatten [[.int .i64 n0], [.string n1], c2, c3, c4, c5, c6, [.string n7], [.int .i64 n8], [.slice a9 rows9.length cap9], [.slice a10 rows10.length cap10], [.bool n11]] from by simp]
  have hz : s.size + ((encD (.int n0)).size + ((encD (.str n1)).size + ((encL d2).size + ((encL d3).size + ((encL d4).size + ((encL d5).size + ((encL d6).size + ((encD (.str n7)).size + ((encD (.int n8)).size + ((encD (.int (rows9.length : Int))).size + ((encR rows9).size + ((encD (.int (rows10.length : Int))).size + ((encR rows10).size + ((encD (.bool n11)).size + (0))))))))))))))) ≤ 9223372036854775807 := by
    have h9 := hz0
    simp only [encLs_cons, encLs_app, encLs_nil, szSL rows9, szSL rows10] at h9
    exact h9
  have hent := (@Sx.enter Try.prog 84 66 Try.f66 _ [.pointer (some ⟨b, 0, none⟩), .agg (List.flatten [[.int .i64 n0], [.string n1], c2, c3, c4, c5, c6, [.string n7], [.int .i64 n8], [.slice a9 rows9.length cap9], [.slice a10 rows10.length cap10], [.bool n11]]).toArray] w (fun e w' => e = .returned (.tuple #[]) ∧ SH w [⟨b, #[.string (s ++ E), .bool bad, .bool true], 130⟩] w') Try.func66 rfl rfl (by simp))
  refine hent ?_
  refine wc_eq (S := SH w [⟨b, #[.string s, .bool bad, .bool true], 130⟩]) hb ?_
  refine wc_seq ?_
  refine wc_region ?_
  refine wl_new (d := 3) (List.flatten [[.int .i64 n0], [.string n1], c2, c3, c4, c5, c6, [.string n7], [.int .i64 n8], [.slice a9 rows9.length cap9], [.slice a10 rows10.length cap10], [.bool n11]]).toArray 53 (fun r => .pointer (some ⟨r, 0, none⟩)) (by kernel_rfl) (fun r => by kernel_rfl) ?_
  intro r1 hr1
  have h_c2 := h_c2.stays (im_more (c := (List.flatten [[.int .i64 n0], [.string n1], c2, c3, c4, c5, c6, [.string n7], [.int .i64 n8], [.slice a9 rows9.length cap9], [.slice a10 rows10.length cap10], [.bool n11]]).toArray) (t := 53) hr1)
  have h_c3 := h_c3.stays (im_more (c := (List.flatten [[.int .i64 n0], [.string n1], c2, c3, c4, c5, c6, [.string n7], [.int .i64 n8], [.slice a9 rows9.length cap9], [.slice a10 rows10.length cap10], [.bool n11]]).toArray) (t := 53) hr1)
  have h_c4 := h_c4.stays (im_more (c := (List.flatten [[.int .i64 n0], [.string n1], c2, c3, c4, c5, c6, [.string n7], [.int .i64 n8], [.slice a9 rows9.length cap9], [.slice a10 rows10.length cap10], [.bool n11]]).toArray) (t := 53) hr1)
  have h_c5 := h_c5.stays (im_more (c := (List.flatten [[.int .i64 n0], [.string n1], c2, c3, c4, c5, c6, [.string n7], [.int .i64 n8], [.slice a9 rows9.length cap9], [.slice a10 rows10.length cap10], [.bool n11]]).toArray) (t := 53) hr1)
  have h_c6 := h_c6.stays (im_more (c := (List.flatten [[.int .i64 n0], [.string n1], c2, c3, c4, c5, c6, [.string n7], [.int .i64 n8], [.slice a9 rows9.length cap9], [.slice a10 rows10.length cap10], [.bool n11]]).toArray) (t := 53) hr1)
  have h_c9 := h_c9.stays (im_more (c := (List.flatten [[.int .i64 n0], [.string n1], c2, c3, c4, c5, c6, [.string n7], [.int .i64 n8], [.slice a9 rows9.length cap9], [.slice a10 rows10.length cap10], [.bool n11]]).toArray) (t := 53) hr1)
  have h_c10 := h_c10.stays (im_more (c := (List.flatten [[.int .i64 n0], [.string n1], c2, c3, c4, c5, c6, [.string n7], [.int .i64 n8], [.slice a9 rows9.length cap9], [.slice a10 rows10.length cap10], [.bool n11]]).toArray) (t := 53) hr1)
  refine nx_list ?_
  refine nx_then ?_
  refine wc_seq ?_
  refine wc_region ?_
  refine wl_go 2 [(7, .pointer (some ⟨r1, 0, none⟩)), (6, .pointer (some ⟨b, 0, none⟩))] (by kernel_rfl) ?_
  refine wl_yl (d := 8) (v := .int .i64 n0) (by kernel_rfl) (yl_load (b := r1) (off := 0) 0 rfl (by kernel_rfl) rfl (readAt_seg1 0 rfl (by simp [l_c2, l_c3, l_c4, l_c5, l_c6]) (by kernel_rfl))) ?_
  refine wl_callW (d := 9) (b := b) (s := s) (E := (encD (.int n0))) (bad := bad) (T := 130) (L' := [⟨r1, (List.flatten [[.int .i64 n0], [.string n1], c2, c3, c4, c5, c6, [.string n7], [.int .i64 n8], [.slice a9 rows9.length cap9], [.slice a10 rows10.length cap10], [.bool n11]]).toArray, 53⟩, ⟨b, #[.string (s ++ (encD (.int n0))), .bool bad, .bool true], 130⟩]) 1 (by kernel_rfl) (by kernel_rfl) rfl rfl (fun w1 h1 => (num_ok n0) w1 b s bad (.int .i64 n0) (h1.one 1 rfl) (by rw [Rd]) (szA hz)) ?_
  obtain ⟨s1, hs1⟩ : ∃ u_, u_ = s ++ (encD (.int n0)) := ⟨_, rfl⟩
  have hz := szB hz hs1
  rw [← hs1]
  refine nx_list ?_
  refine nx_then ?_
  refine wc_seq ?_
  refine wc_region ?_
  refine wl_go 2 [(11, .pointer (some ⟨r1, 1, none⟩)), (10, .pointer (some ⟨b, 0, none⟩))] (by kernel_rfl) ?_
  refine wl_yl (d := 12) (v := .string n1) (by kernel_rfl) (yl_load (b := r1) (off := 1) 0 rfl (by kernel_rfl) rfl (readAt_seg1 1 rfl (by simp [l_c2, l_c3, l_c4, l_c5, l_c6]) (by kernel_rfl))) ?_
  refine wl_callW (d := 13) (b := b) (s := s1) (E := (encD (.str n1))) (bad := bad) (T := 130) (L' := [⟨r1, (List.flatten [[.int .i64 n0], [.string n1], c2, c3, c4, c5, c6, [.string n7], [.int .i64 n8], [.slice a9 rows9.length cap9], [.slice a10 rows10.length cap10], [.bool n11]]).toArray, 53⟩, ⟨b, #[.string (s1 ++ (encD (.str n1))), .bool bad, .bool true], 130⟩]) 1 (by kernel_rfl) (by kernel_rfl) rfl rfl (fun w1 h1 => (str_ok n1) w1 b s1 bad (.string n1) (h1.one 1 rfl) (by rw [Rd]) (szA hz)) ?_
  obtain ⟨s2, hs2⟩ : ∃ u_, u_ = s1 ++ (encD (.str n1)) := ⟨_, rfl⟩
  have hz := szB hz hs2
  rw [← hs2]
  refine nx_list ?_
  refine nx_then ?_
  refine wc_seq ?_
  refine wc_region ?_
  refine wl_go 2 [(15, .pointer (some ⟨r1, 2, none⟩)), (14, .pointer (some ⟨b, 0, none⟩))] (by kernel_rfl) ?_
  refine wl_yl (d := 16) (v := .agg (c2).toArray) (by kernel_rfl) (yl_load (b := r1) (off := 2) 0 rfl (by kernel_rfl) rfl (readAt_seg 2 rfl (by simp [l_c2, l_c3, l_c4, l_c5, l_c6]) (by rw [l_c2]; kernel_rfl))) ?_
  refine wl_callW (d := 17) (b := b) (s := s2) (E := (encL d2)) (bad := bad) (T := 130) (L' := [⟨r1, (List.flatten [[.int .i64 n0], [.string n1], c2, c3, c4, c5, c6, [.string n7], [.int .i64 n8], [.slice a9 rows9.length cap9], [.slice a10 rows10.length cap10], [.bool n11]]).toArray, 53⟩, ⟨b, #[.string (s2 ++ (encL d2)), .bool bad, .bool true], 130⟩]) 1 (by kernel_rfl) (by kernel_rfl) rfl rfl (fun w1 h1 => (value_all d2 hf2) w1 b s2 bad c2 (h1.one 1 rfl) (h_c2.stays (h1.staysB (L0 := (⟨r1, (List.flatten [[.int .i64 n0], [.string n1], c2, c3, c4, c5, c6, [.string n7], [.int .i64 n8], [.slice a9 rows9.length cap9], [.slice a10 rows10.length cap10], [.bool n11]]).toArray, 53⟩ :: [⟨b, #[.string s, .bool bad, .bool true], 130⟩])) rfl 1 rfl)) (szA hz)) ?_
  obtain ⟨s3, hs3⟩ : ∃ u_, u_ = s2 ++ (encL d2) := ⟨_, rfl⟩
  have hz := szB hz hs3
  rw [← hs3]
  refine nx_list ?_
  refine nx_then ?_
  refine wc_seq ?_
  refine wc_region ?_
  refine wl_go 2 [(19, .pointer (some ⟨r1, 7, none⟩)), (18, .pointer (some ⟨b, 0, none⟩))] (by kernel_rfl) ?_
  refine wl_yl (d := 20) (v := .agg (c3).toArray) (by kernel_rfl) (yl_load (b := r1) (off := 7) 0 rfl (by kernel_rfl) rfl (readAt_seg 3 rfl (by simp [l_c2, l_c3, l_c4, l_c5, l_c6]) (by rw [l_c3]; kernel_rfl))) ?_
  refine wl_callW (d := 21) (b := b) (s := s3) (E := (encL d3)) (bad := bad) (T := 130) (L' := [⟨r1, (List.flatten [[.int .i64 n0], [.string n1], c2, c3, c4, c5, c6, [.string n7], [.int .i64 n8], [.slice a9 rows9.length cap9], [.slice a10 rows10.length cap10], [.bool n11]]).toArray, 53⟩, ⟨b, #[.string (s3 ++ (encL d3)), .bool bad, .bool true], 130⟩]) 1 (by kernel_rfl) (by kernel_rfl) rfl rfl (fun w1 h1 => (value_all d3 hf3) w1 b s3 bad c3 (h1.one 1 rfl) (h_c3.stays (h1.staysB (L0 := (⟨r1, (List.flatten [[.int .i64 n0], [.string n1], c2, c3, c4, c5, c6, [.string n7], [.int .i64 n8], [.slice a9 rows9.length cap9], [.slice a10 rows10.length cap10], [.bool n11]]).toArray, 53⟩ :: [⟨b, #[.string s, .bool bad, .bool true], 130⟩])) rfl 1 rfl)) (szA hz)) ?_
  obtain ⟨s4, hs4⟩ : ∃ u_, u_ = s3 ++ (encL d3) := ⟨_, rfl⟩
  have hz := szB hz hs4
  rw [← hs4]
  refine nx_list ?_
  refine nx_then ?_
  refine wc_seq ?_
  refine wc_region ?_
  refine wl_go 2 [(23, .pointer (some ⟨r1, 12, none⟩)), (22, .pointer (some ⟨b, 0, none⟩))] (by kernel_rfl) ?_
  refine wl_yl (d := 24) (v := .agg (c4).toArray) (by kernel_rfl) (yl_load (b := r1) (off := 12) 0 rfl (by kernel_rfl) rfl (readAt_seg 4 rfl (by simp [l_c2, l_c3, l_c4, l_c5, l_c6]) (by rw [l_c4]; kernel_rfl))) ?_
  refine wl_callW (d := 25) (b := b) (s := s4) (E := (encL d4)) (bad := bad) (T := 130) (L' := [⟨r1, (List.flatten [[.int .i64 n0], [.string n1], c2, c3, c4, c5, c6, [.string n7], [.int .i64 n8], [.slice a9 rows9.length cap9], [.slice a10 rows10.length cap10], [.bool n11]]).toArray, 53⟩, ⟨b, #[.string (s4 ++ (encL d4)), .bool bad, .bool true], 130⟩]) 1 (by kernel_rfl) (by kernel_rfl) rfl rfl (fun w1 h1 => (value_all d4 hf4) w1 b s4 bad c4 (h1.one 1 rfl) (h_c4.stays (h1.staysB (L0 := (⟨r1, (List.flatten [[.int .i64 n0], [.string n1], c2, c3, c4, c5, c6, [.string n7], [.int .i64 n8], [.slice a9 rows9.length cap9], [.slice a10 rows10.length cap10], [.bool n11]]).toArray, 53⟩ :: [⟨b, #[.string s, .bool bad, .bool true], 130⟩])) rfl 1 rfl)) (szA hz)) ?_
  obtain ⟨s5, hs5⟩ : ∃ u_, u_ = s4 ++ (encL d4) := ⟨_, rfl⟩
  have hz := szB hz hs5
  rw [← hs5]
  refine nx_list ?_
  refine nx_then ?_
  refine wc_seq ?_
  refine wc_region ?_
  refine wl_go 2 [(27, .pointer (some ⟨r1, 17, none⟩)), (26, .pointer (some ⟨b, 0, none⟩))] (by kernel_rfl) ?_
  refine wl_yl (d := 28) (v := .agg (c5).toArray) (by kernel_rfl) (yl_load (b := r1) (off := 17) 0 rfl (by kernel_rfl) rfl (readAt_seg 5 rfl (by simp [l_c2, l_c3, l_c4, l_c5, l_c6]) (by rw [l_c5]; kernel_rfl))) ?_
  refine wl_callW (d := 29) (b := b) (s := s5) (E := (encL d5)) (bad := bad) (T := 130) (L' := [⟨r1, (List.flatten [[.int .i64 n0], [.string n1], c2, c3, c4, c5, c6, [.string n7], [.int .i64 n8], [.slice a9 rows9.length cap9], [.slice a10 rows10.length cap10], [.bool n11]]).toArray, 53⟩, ⟨b, #[.string (s5 ++ (encL d5)), .bool bad, .bool true], 130⟩]) 1 (by kernel_rfl) (by kernel_rfl) rfl rfl (fun w1 h1 => (space_all d5 hf5) w1 b s5 bad c5 (h1.one 1 rfl) (h_c5.stays (h1.staysB (L0 := (⟨r1, (List.flatten [[.int .i64 n0], [.string n1], c2, c3, c4, c5, c6, [.string n7], [.int .i64 n8], [.slice a9 rows9.length cap9], [.slice a10 rows10.length cap10], [.bool n11]]).toArray, 53⟩ :: [⟨b, #[.string s, .bool bad, .bool true], 130⟩])) rfl 1 rfl)) (szA hz)) ?_
  obtain ⟨s6, hs6⟩ : ∃ u_, u_ = s5 ++ (encL d5) := ⟨_, rfl⟩
  have hz := szB hz hs6
  rw [← hs6]
  refine nx_list ?_
  refine nx_then ?_
  refine wc_seq ?_
  refine wc_region ?_
  refine wl_go 2 [(31, .pointer (some ⟨r1, 42, none⟩)), (30, .pointer (some ⟨b, 0, none⟩))] (by kernel_rfl) ?_
  refine wl_yl (d := 32) (v := .agg (c6).toArray) (by kernel_rfl) (yl_load (b := r1) (off := 42) 0 rfl (by kernel_rfl) rfl (readAt_seg 6 rfl (by simp [l_c2, l_c3, l_c4, l_c5, l_c6]) (by rw [l_c6]; kernel_rfl))) ?_
  refine wl_callW (d := 33) (b := b) (s := s6) (E := (encL d6)) (bad := bad) (T := 130) (L' := [⟨r1, (List.flatten [[.int .i64 n0], [.string n1], c2, c3, c4, c5, c6, [.string n7], [.int .i64 n8], [.slice a9 rows9.length cap9], [.slice a10 rows10.length cap10], [.bool n11]]).toArray, 53⟩, ⟨b, #[.string (s6 ++ (encL d6)), .bool bad, .bool true], 130⟩]) 1 (by kernel_rfl) (by kernel_rfl) rfl rfl (fun w1 h1 => (index_all d6 hf6) w1 b s6 bad c6 (h1.one 1 rfl) (h_c6.stays (h1.staysB (L0 := (⟨r1, (List.flatten [[.int .i64 n0], [.string n1], c2, c3, c4, c5, c6, [.string n7], [.int .i64 n8], [.slice a9 rows9.length cap9], [.slice a10 rows10.length cap10], [.bool n11]]).toArray, 53⟩ :: [⟨b, #[.string s, .bool bad, .bool true], 130⟩])) rfl 1 rfl)) (szA hz)) ?_
  obtain ⟨s7, hs7⟩ : ∃ u_, u_ = s6 ++ (encL d6) := ⟨_, rfl⟩
  have hz := szB hz hs7
  rw [← hs7]
  refine nx_list ?_
  refine nx_then ?_
  refine wc_seq ?_
  refine wc_region ?_
  refine wl_go 2 [(35, .pointer (some ⟨r1, 73, none⟩)), (34, .pointer (some ⟨b, 0, none⟩))] (by kernel_rfl) ?_
  refine wl_yl (d := 36) (v := .string n7) (by kernel_rfl) (yl_load (b := r1) (off := 73) 0 rfl (by kernel_rfl) rfl (readAt_seg1 7 rfl (by simp [l_c2, l_c3, l_c4, l_c5, l_c6]) (by kernel_rfl))) ?_
  refine wl_callW (d := 37) (b := b) (s := s7) (E := (encD (.str n7))) (bad := bad) (T := 130) (L' := [⟨r1, (List.flatten [[.int .i64 n0], [.string n1], c2, c3, c4, c5, c6, [.string n7], [.int .i64 n8], [.slice a9 rows9.length cap9], [.slice a10 rows10.length cap10], [.bool n11]]).toArray, 53⟩, ⟨b, #[.string (s7 ++ (encD (.str n7))), .bool bad, .bool true], 130⟩]) 1 (by kernel_rfl) (by kernel_rfl) rfl rfl (fun w1 h1 => (str_ok n7) w1 b s7 bad (.string n7) (h1.one 1 rfl) (by rw [Rd]) (szA hz)) ?_
  obtain ⟨s8, hs8⟩ : ∃ u_, u_ = s7 ++ (encD (.str n7)) := ⟨_, rfl⟩
  have hz := szB hz hs8
  rw [← hs8]
  refine nx_list ?_
  refine nx_then ?_
  refine wc_seq ?_
  refine wc_region ?_
  refine wl_go 2 [(39, .pointer (some ⟨r1, 74, none⟩)), (38, .pointer (some ⟨b, 0, none⟩))] (by kernel_rfl) ?_
  refine wl_yl (d := 40) (v := .int .i64 n8) (by kernel_rfl) (yl_load (b := r1) (off := 74) 0 rfl (by kernel_rfl) rfl (readAt_seg1 8 rfl (by simp [l_c2, l_c3, l_c4, l_c5, l_c6]) (by kernel_rfl))) ?_
  refine wl_callW (d := 41) (b := b) (s := s8) (E := (encD (.int n8))) (bad := bad) (T := 130) (L' := [⟨r1, (List.flatten [[.int .i64 n0], [.string n1], c2, c3, c4, c5, c6, [.string n7], [.int .i64 n8], [.slice a9 rows9.length cap9], [.slice a10 rows10.length cap10], [.bool n11]]).toArray, 53⟩, ⟨b, #[.string (s8 ++ (encD (.int n8))), .bool bad, .bool true], 130⟩]) 1 (by kernel_rfl) (by kernel_rfl) rfl rfl (fun w1 h1 => (num_ok n8) w1 b s8 bad (.int .i64 n8) (h1.one 1 rfl) (by rw [Rd]) (szA hz)) ?_
  obtain ⟨s9, hs9⟩ : ∃ u_, u_ = s8 ++ (encD (.int n8)) := ⟨_, rfl⟩
  have hz := szB hz hs9
  rw [← hs9]
  refine nx_list ?_
  refine nx_then ?_
  refine wc_seq ?_
  refine wc_region ?_
  refine wl_go 2 [(43, .pointer (some ⟨r1, 75, none⟩)), (42, .pointer (some ⟨b, 0, none⟩))] (by kernel_rfl) ?_
  refine wl_yl (d := 44) (v := .slice a9 rows9.length cap9) (by kernel_rfl) (yl_load (b := r1) (off := 75) 0 rfl (by kernel_rfl) rfl (readAt_seg1 9 rfl (by simp [l_c2, l_c3, l_c4, l_c5, l_c6]) (by kernel_rfl))) ?_
  refine wl_go 1 [(45, .int .i64 (rows9.length : Int))] (by kernel_rfl) ?_
  refine wl_callW (d := 46) (b := b) (s := s9) (E := (encD (.int (rows9.length : Int)))) (bad := bad) (T := 130) (L' := [⟨r1, (List.flatten [[.int .i64 n0], [.string n1], c2, c3, c4, c5, c6, [.string n7], [.int .i64 n8], [.slice a9 rows9.length cap9], [.slice a10 rows10.length cap10], [.bool n11]]).toArray, 53⟩, ⟨b, #[.string (s9 ++ (encD (.int (rows9.length : Int)))), .bool bad, .bool true], 130⟩]) 1 (by kernel_rfl) (by kernel_rfl) rfl rfl (fun w1 h1 => (num_ok (rows9.length : Int)) w1 b s9 bad (.int .i64 (rows9.length : Int)) (h1.one 1 rfl) (by rw [Rd]) (szA hz)) ?_
  obtain ⟨s10, hs10⟩ : ∃ u_, u_ = s9 ++ (encD (.int (rows9.length : Int))) := ⟨_, rfl⟩
  have hz := szB hz hs10
  rw [← hs10]
  refine nx_list ?_
  refine nx_then ?_
  refine wc_seq ?_
  refine wc_seq ?_
  refine wc_region ?_
  refine wl_go 1 [(4, .int .i64 0)] (by kernel_rfl) ?_
  refine nx_list ?_
  refine nx_then ?_
  refine wc_block ?_
  refine wc_loop (σ := { i : Nat // i ≤ rows9.length }) (fun x => [(0, .pointer (some ⟨b, 0, none⟩)), (3, .pointer (some ⟨r1, 0, none⟩)), (4, .int .i64 (x.1 : Int))]) (fun x => SH w [⟨r1, (List.flatten [[.int .i64 n0], [.string n1], c2, c3, c4, c5, c6, [.string n7], [.int .i64 n8], [.slice a9 rows9.length cap9], [.slice a10 rows10.length cap10], [.bool n11]]).toArray, 53⟩, ⟨b, #[.string (s10 ++ encR (rows9.take x.1)), .bool bad, .bool true], 130⟩]) (fun x => rows9.length - x.1) (fun w3 h3 => ⟨⟨0, Nat.zero_le _⟩, by simpa only [List.take_zero, encR, ByteArray.append_empty] using h3, (subEnv_cons (by kernel_rfl) (subEnv_cons (by kernel_rfl) (subEnv_cons (by kernel_rfl) (subEnv_nil _))))⟩) (fun x => ?_)
  refine wc_seq ?_
  refine wc_seq ?_
  refine wc_region ?_
  refine wl_go 2 [(48, .pointer (some ⟨r1, 75, none⟩)), (47, .int .i64 (x.1 : Int))] (by kernel_rfl) ?_
  refine wl_yl (d := 49) (v := .slice a9 rows9.length cap9) (by kernel_rfl) (yl_load (b := r1) (off := 75) 0 rfl (by kernel_rfl) rfl (readAt_seg1 9 rfl (by simp [l_c2, l_c3, l_c4, l_c5, l_c6]) (by kernel_rfl))) ?_
  refine wl_go 2 [(51, .bool (decide ((x.1 : Int) < (rows9.length : Int)))), (50, .int .i64 (rows9.length : Int))] (by kernel_rfl) ?_
  refine nx_list ?_
  refine nx_then ?_
  refine wc_cond (decide ((x.1 : Int) < (rows9.length : Int))) (by kernel_rfl) (by kernel_rfl) (fun hc9 => ?_) (fun hc9 => ?_)
  · skip
    have hlt : x.1 < rows9.length := by simpa using hc9
    obtain ⟨r, hrow⟩ : ∃ r, rows9[x.1]? = some r := ⟨_, List.getElem?_eq_getElem hlt⟩
    have hfr := fR_rows9.get x.1 r hrow
    obtain ⟨g, off, cr, rfl, hIg, h_cr, l_cr, hrg⟩ := Rd.row_at (es := 78) h_c9 (fun r hr => fR_rows9.length r hr) hrow
    have hzr : (s10 ++ encR (rows9.take x.1)).size + (encL r).size ≤ 9223372036854775807 := by
      rw [ByteArray.size_append]
      have h8 := encR_room hrow
      omega
    have hmem := List.mem_of_getElem? hrow
    have hz : (s10 ++ encR (rows9.take x.1)).size + ((encL r).size + (0)) ≤ 9223372036854775807 := by rw [Nat.add_zero]; exact hzr
    refine nx_skip ?_
    refine nx_then ?_
    refine wc_seq ?_
    refine wc_block ?_
    refine wc_region ?_
    refine wl_go 2 [(55, .pointer (some ⟨r1, 75, none⟩)), (54, .pointer (some ⟨b, 0, none⟩))] (by kernel_rfl) ?_
    refine wl_yl (d := 56) (v := .slice (some ⟨g, off, none⟩) rows9.length cap9) (by kernel_rfl) (yl_load (b := r1) (off := 75) 0 rfl (by kernel_rfl) rfl (readAt_seg1 9 rfl (by simp [l_c2, l_c3, l_c4, l_c5, l_c6]) (by kernel_rfl))) ?_
    refine wl_go 1 [(57, .int .i64 (x.1 : Int))] (by kernel_rfl) ?_
    refine wl_yl (d := 58) (v := .pointer (some ⟨g, off + x.1 * 78, none⟩)) (by kernel_rfl) (yl_index (E := 53) (b := g) (off := off) (len := rows9.length) (cap := cap9) (k := x.1) (es := 78) rfl (by kernel_rfl) (by kernel_rfl) (by kernel_rfl) (by omega)) ?_
    refine wl_yl (d := 59) (v := .agg (cr).toArray) (by kernel_rfl) (yl_loads_im (b := g) (off := off + x.1 * 78) (cs := cr) rfl (by kernel_rfl) (im_cong (L := (⟨r1, (List.flatten [[.int .i64 n0], [.string n1], c2, c3, c4, c5, c6, [.string n7], [.int .i64 n8], [.slice (some ⟨g, off, none⟩) rows9.length cap9], [.slice a10 rows10.length cap10], [.bool n11]]).toArray, 53⟩ :: [⟨b, #[.string s, .bool bad, .bool true], 130⟩])) (L' := [⟨r1, (List.flatten [[.int .i64 n0], [.string n1], c2, c3, c4, c5, c6, [.string n7], [.int .i64 n8], [.slice (some ⟨g, off, none⟩) rows9.length cap9], [.slice a10 rows10.length cap10], [.bool n11]]).toArray, 53⟩, ⟨b, #[.string (s10 ++ encR (rows9.take x.1)), .bool bad, .bool true], 130⟩]) rfl hIg) (by rw [l_cr]; kernel_rfl) hrg) ?_
    refine wl_callW (d := 60) (b := b) (s := (s10 ++ encR (rows9.take x.1))) (E := (encL r)) (bad := bad) (T := 130) (L' := [⟨r1, (List.flatten [[.int .i64 n0], [.string n1], c2, c3, c4, c5, c6, [.string n7], [.int .i64 n8], [.slice (some ⟨g, off, none⟩) rows9.length cap9], [.slice a10 rows10.length cap10], [.bool n11]]).toArray, 53⟩, ⟨b, #[.string ((s10 ++ encR (rows9.take x.1)) ++ (encL r)), .bool bad, .bool true], 130⟩]) 1 (by kernel_rfl) (by kernel_rfl) rfl rfl (fun w1 h1 => (ih r (by have := szR_mem hmem; simp only [szL, szL_append, D.sz] at *; omega) hfr) w1 b (s10 ++ encR (rows9.take x.1)) bad cr (h1.one 1 rfl) (h_cr.stays (h1.staysB (L0 := (⟨r1, (List.flatten [[.int .i64 n0], [.string n1], c2, c3, c4, c5, c6, [.string n7], [.int .i64 n8], [.slice (some ⟨g, off, none⟩) rows9.length cap9], [.slice a10 rows10.length cap10], [.bool n11]]).toArray, 53⟩ :: [⟨b, #[.string s, .bool bad, .bool true], 130⟩])) rfl 1 rfl)) (szA hz)) ?_
    obtain ⟨s11, hs11⟩ : ∃ u_, u_ = (s10 ++ encR (rows9.take x.1)) ++ (encL r) := ⟨_, rfl⟩
    have hz := szB hz hs11
    rw [← hs11]
    refine nx_list ?_
    refine nx_block ?_
    refine nx_then ?_
    refine wc_region ?_
    refine wl_go 1 [(52, .int .i64 (x.1 : Int))] (by kernel_rfl) ?_
    refine wl_yl (d := 53) (v := .int .i64 ((x.1 : Int) + 1)) (by kernel_rfl) (yl_int (t := (x.1 : Int) + 1) (r := (x.1 : Int) + 1) (by kernel_rfl) (i64w (by omega) (by omega))) ?_
    refine wl_go 1 [(4, .int .i64 ((x.1 : Int) + 1))] (by kernel_rfl) ?_
    refine nx_list ?_
    have hfin : s11 = s10 ++ encR (rows9.take (x.1 + 1)) := by
      rw [encR_take hrow, hs11]
      simp only [encL_append, encL, encD, ByteArray.append_assoc, ByteArray.append_empty]
    rw [hfin]
    refine nx_round (y := ⟨x.1 + 1, hlt⟩) (show rows9.length - (x.1 + 1) < rows9.length - x.1 by omega) (subEnv_cons (by kernel_rfl) (subEnv_cons (by kernel_rfl) (subEnv_cons (by kernel_rfl) (subEnv_nil _)))) (fun w h => h)
  · skip
    have hge : rows9.length ≤ x.1 := by simpa using hc9
    obtain ⟨s12, hs12⟩ : ∃ u_, u_ = s10 ++ encR rows9 := ⟨_, rfl⟩
    have hz := szB hz hs12
    rw [List.take_of_length_le hge, ← hs12]
    refine nx_exit ?_
    refine nx_then_exit ?_
    refine nx_then_exit ?_
    refine nx_block_here ?_
    refine nx_then ?_
    refine wc_seq ?_
    refine wc_region ?_
    refine wl_go 2 [(62, .pointer (some ⟨r1, 76, none⟩)), (61, .pointer (some ⟨b, 0, none⟩))] (by kernel_rfl) ?_
    refine wl_yl (d := 63) (v := .slice a10 rows10.length cap10) (by kernel_rfl) (yl_load (b := r1) (off := 76) 0 rfl (by kernel_rfl) rfl (readAt_seg1 10 rfl (by simp [l_c2, l_c3, l_c4, l_c5, l_c6]) (by kernel_rfl))) ?_
    refine wl_go 1 [(64, .int .i64 (rows10.length : Int))] (by kernel_rfl) ?_
    refine wl_callW (d := 65) (b := b) (s := s12) (E := (encD (.int (rows10.length : Int)))) (bad := bad) (T := 130) (L' := [⟨r1, (List.flatten [[.int .i64 n0], [.string n1], c2, c3, c4, c5, c6, [.string n7], [.int .i64 n8], [.slice a9 rows9.length cap9], [.slice a10 rows10.length cap10], [.bool n11]]).toArray, 53⟩, ⟨b, #[.string (s12 ++ (encD (.int (rows10.length : Int)))), .bool bad, .bool true], 130⟩]) 1 (by kernel_rfl) (by kernel_rfl) rfl rfl (fun w1 h1 => (num_ok (rows10.length : Int)) w1 b s12 bad (.int .i64 (rows10.length : Int)) (h1.one 1 rfl) (by rw [Rd]) (szA hz)) ?_
    obtain ⟨s13, hs13⟩ : ∃ u_, u_ = s12 ++ (encD (.int (rows10.length : Int))) := ⟨_, rfl⟩
    have hz := szB hz hs13
    rw [← hs13]
    refine nx_list ?_
    refine nx_then ?_
    refine wc_seq ?_
    refine wc_seq ?_
    refine wc_region ?_
    refine wl_go 1 [(5, .int .i64 0)] (by kernel_rfl) ?_
    refine nx_list ?_
    refine nx_then ?_
    refine wc_block ?_
    refine wc_loop (σ := { i : Nat // i ≤ rows10.length }) (fun x => [(0, .pointer (some ⟨b, 0, none⟩)), (3, .pointer (some ⟨r1, 0, none⟩)), (5, .int .i64 (x.1 : Int))]) (fun x => SH w [⟨r1, (List.flatten [[.int .i64 n0], [.string n1], c2, c3, c4, c5, c6, [.string n7], [.int .i64 n8], [.slice a9 rows9.length cap9], [.slice a10 rows10.length cap10], [.bool n11]]).toArray, 53⟩, ⟨b, #[.string (s13 ++ encR (rows10.take x.1)), .bool bad, .bool true], 130⟩]) (fun x => rows10.length - x.1) (fun w3 h3 => ⟨⟨0, Nat.zero_le _⟩, by simpa only [List.take_zero, encR, ByteArray.append_empty] using h3, (subEnv_cons (by kernel_rfl) (subEnv_cons (by kernel_rfl) (subEnv_cons (by kernel_rfl) (subEnv_nil _))))⟩) (fun x => ?_)
    refine wc_seq ?_
    refine wc_seq ?_
    refine wc_region ?_
    refine wl_go 2 [(67, .pointer (some ⟨r1, 76, none⟩)), (66, .int .i64 (x.1 : Int))] (by kernel_rfl) ?_
    refine wl_yl (d := 68) (v := .slice a10 rows10.length cap10) (by kernel_rfl) (yl_load (b := r1) (off := 76) 0 rfl (by kernel_rfl) rfl (readAt_seg1 10 rfl (by simp [l_c2, l_c3, l_c4, l_c5, l_c6]) (by kernel_rfl))) ?_
    refine wl_go 2 [(70, .bool (decide ((x.1 : Int) < (rows10.length : Int)))), (69, .int .i64 (rows10.length : Int))] (by kernel_rfl) ?_
    refine nx_list ?_
    refine nx_then ?_
    refine wc_cond (decide ((x.1 : Int) < (rows10.length : Int))) (by kernel_rfl) (by kernel_rfl) (fun hc10 => ?_) (fun hc10 => ?_)
    · skip
      have hlt : x.1 < rows10.length := by simpa using hc10
      obtain ⟨r, hrow⟩ : ∃ r, rows10[x.1]? = some r := ⟨_, List.getElem?_eq_getElem hlt⟩
      have hfr := fR_rows10.get x.1 r hrow
      obtain ⟨g, off, cr, rfl, hIg, h_cr, l_cr, hrg⟩ := Rd.row_at (es := 1) h_c10 (fun r hr => fR_rows10.length r hr) hrow
      have hzr : (s13 ++ encR (rows10.take x.1)).size + (encL r).size ≤ 9223372036854775807 := by
        rw [ByteArray.size_append]
        have h8 := encR_room hrow
        omega
      obtain ⟨dr0, er0, rfl, hfr0, hftr0⟩ := FitL.cons (k := .int) (ks := []) hfr
      obtain ⟨nr0, rfl, _⟩ := Fit.int hfr0
      obtain rfl := FitL.nil hftr0
      obtain ⟨cr0, zr0, rfl, h_cr0, hrdr0⟩ := RdL.cons h_cr
      rw [Rd] at h_cr0; subst h_cr0
      obtain rfl := RdL.nil hrdr0
      have hmem := List.mem_of_getElem? hrow
      have hz : (s13 ++ encR (rows10.take x.1)).size + ((encD (.int nr0)).size + (0)) ≤ 9223372036854775807 := by
        have h9 := hzr
        simp only [encLs_cons, encLs_app, encLs_nil] at h9
        exact h9
      refine nx_skip ?_
      refine nx_then ?_
      refine wc_seq ?_
      refine wc_block ?_
      refine wc_region ?_
      refine wl_go 2 [(74, .pointer (some ⟨r1, 76, none⟩)), (73, .pointer (some ⟨b, 0, none⟩))] (by kernel_rfl) ?_
      refine wl_yl (d := 75) (v := .slice (some ⟨g, off, none⟩) rows10.length cap10) (by kernel_rfl) (yl_load (b := r1) (off := 76) 0 rfl (by kernel_rfl) rfl (readAt_seg1 10 rfl (by simp [l_c2, l_c3, l_c4, l_c5, l_c6]) (by kernel_rfl))) ?_
      refine wl_go 1 [(76, .int .i64 (x.1 : Int))] (by kernel_rfl) ?_
      refine wl_yl (d := 77) (v := .pointer (some ⟨g, off + x.1 * 1, none⟩)) (by kernel_rfl) (yl_index (E := 3) (b := g) (off := off) (len := rows10.length) (cap := cap10) (k := x.1) (es := 1) rfl (by kernel_rfl) (by kernel_rfl) (by kernel_rfl) (by omega)) ?_
      refine wl_yl (d := 78) (v := .int .i64 nr0) (by kernel_rfl) (yl_load_im (b := g) (off := off + x.1 * 1) (v := .int .i64 nr0) rfl (by kernel_rfl) (im_cong (L := (⟨r1, (List.flatten [[.int .i64 n0], [.string n1], c2, c3, c4, c5, c6, [.string n7], [.int .i64 n8], [.slice a9 rows9.length cap9], [.slice (some ⟨g, off, none⟩) rows10.length cap10], [.bool n11]]).toArray, 53⟩ :: [⟨b, #[.string s, .bool bad, .bool true], 130⟩])) (L' := [⟨r1, (List.flatten [[.int .i64 n0], [.string n1], c2, c3, c4, c5, c6, [.string n7], [.int .i64 n8], [.slice a9 rows9.length cap9], [.slice (some ⟨g, off, none⟩) rows10.length cap10], [.bool n11]]).toArray, 53⟩, ⟨b, #[.string (s13 ++ encR (rows10.take x.1)), .bool bad, .bool true], 130⟩]) rfl hIg) (by kernel_rfl) (hrg 0 _ rfl)) ?_
      refine wl_callW (d := 79) (b := b) (s := (s13 ++ encR (rows10.take x.1))) (E := (encD (.int nr0))) (bad := bad) (T := 130) (L' := [⟨r1, (List.flatten [[.int .i64 n0], [.string n1], c2, c3, c4, c5, c6, [.string n7], [.int .i64 n8], [.slice a9 rows9.length cap9], [.slice (some ⟨g, off, none⟩) rows10.length cap10], [.bool n11]]).toArray, 53⟩, ⟨b, #[.string ((s13 ++ encR (rows10.take x.1)) ++ (encD (.int nr0))), .bool bad, .bool true], 130⟩]) 1 (by kernel_rfl) (by kernel_rfl) rfl rfl (fun w1 h1 => (num_ok nr0) w1 b (s13 ++ encR (rows10.take x.1)) bad (.int .i64 nr0) (h1.one 1 rfl) (by rw [Rd]) (szA hz)) ?_
      obtain ⟨s14, hs14⟩ : ∃ u_, u_ = (s13 ++ encR (rows10.take x.1)) ++ (encD (.int nr0)) := ⟨_, rfl⟩
      have hz := szB hz hs14
      rw [← hs14]
      refine nx_list ?_
      refine nx_block ?_
      refine nx_then ?_
      refine wc_region ?_
      refine wl_go 1 [(71, .int .i64 (x.1 : Int))] (by kernel_rfl) ?_
      refine wl_yl (d := 72) (v := .int .i64 ((x.1 : Int) + 1)) (by kernel_rfl) (yl_int (t := (x.1 : Int) + 1) (r := (x.1 : Int) + 1) (by kernel_rfl) (i64w (by omega) (by omega))) ?_
      refine wl_go 1 [(5, .int .i64 ((x.1 : Int) + 1))] (by kernel_rfl) ?_
      refine nx_list ?_
      have hfin : s14 = s13 ++ encR (rows10.take (x.1 + 1)) := by
        rw [encR_take hrow, hs14]
        simp only [encL_append, encL, encD, ByteArray.append_assoc, ByteArray.append_empty]
      rw [hfin]
      refine nx_round (y := ⟨x.1 + 1, hlt⟩) (show rows10.length - (x.1 + 1) < rows10.length - x.1 by omega) (subEnv_cons (by kernel_rfl) (subEnv_cons (by kernel_rfl) (subEnv_cons (by kernel_rfl) (subEnv_nil _)))) (fun w h => h)
    · skip
      have hge : rows10.length ≤ x.1 := by simpa using hc10
      obtain ⟨s15, hs15⟩ : ∃ u_, u_ = s13 ++ encR rows10 := ⟨_, rfl⟩
      have hz := szB hz hs15
      rw [List.take_of_length_le hge, ← hs15]
      refine nx_exit ?_
      refine nx_then_exit ?_
      refine nx_then_exit ?_
      refine nx_block_here ?_
      refine nx_then ?_
      refine wc_region ?_
      refine wl_go 2 [(81, .pointer (some ⟨r1, 77, none⟩)), (80, .pointer (some ⟨b, 0, none⟩))] (by kernel_rfl) ?_
      refine wl_yl (d := 82) (v := .bool n11) (by kernel_rfl) (yl_load (b := r1) (off := 77) 0 rfl (by kernel_rfl) rfl (readAt_seg1 11 rfl (by simp [l_c2, l_c3, l_c4, l_c5, l_c6]) (by kernel_rfl))) ?_
      refine wl_callW (d := 83) (b := b) (s := s15) (E := (encD (.bool n11))) (bad := bad) (T := 130) (L' := [⟨r1, (List.flatten [[.int .i64 n0], [.string n1], c2, c3, c4, c5, c6, [.string n7], [.int .i64 n8], [.slice a9 rows9.length cap9], [.slice a10 rows10.length cap10], [.bool n11]]).toArray, 53⟩, ⟨b, #[.string (s15 ++ (encD (.bool n11))), .bool bad, .bool true], 130⟩]) 1 (by kernel_rfl) (by kernel_rfl) rfl rfl (fun w1 h1 => (flag_ok n11) w1 b s15 bad (.bool n11) (h1.one 1 rfl) (by rw [Rd]) (szA hz)) ?_
      obtain ⟨s16, hs16⟩ : ∃ u_, u_ = s15 ++ (encD (.bool n11)) := ⟨_, rfl⟩
      have hz := szB hz hs16
      rw [← hs16]
      refine nx_list ?_
      refine end_none rfl ?_
      intro w' hw'
      have hfin : s16 = s ++ E := by
        rw [hE, hs16, hs15, hs13, hs12, hs10, hs9, hs8, hs7, hs6, hs5, hs4, hs3, hs2, hs1]
        simp only [encL_append, encL, encD, ByteArray.append_assoc, ByteArray.append_empty]
      rw [hfin] at hw'
      exact ⟨rfl, hw'.tail hr1⟩

theorem write_all (ds : List D) (hfit : FitL sh by_ ds shWrite) : WS Try.prog 66 130 ds := by
  have key : ∀ (m : Nat) (ds : List D), szL ds < m → FitL sh by_ ds shWrite → WS Try.prog 66 130 ds := by
    intro m
    induction m with
    | zero => intro ds h; omega
    | succ m ih => intro ds h hf; exact write_step ds hf (fun r hr hfr => ih r (by omega) hfr)
  exact key _ ds (Nat.lt_succ_self _) hfit

set_option maxHeartbeats 4000000 in
theorem entry_step (ds : List D) (hfit : FitL sh by_ ds (sh 13)) : WS Try.prog 57 130 ds := by
  intro w b s bad cs hb hrd hz0
  obtain ⟨E, hE⟩ : ∃ E, E = encL ds := ⟨_, rfl⟩
  rw [← hE]
  skip
  obtain ⟨d0, e0, rfl, hf0, hft0⟩ := FitL.cons (k := .int) (ks := [.int] ++ [.str] ++ [.int] ++ shWrite) hfit
  obtain ⟨n0, rfl, _⟩ := Fit.int hf0
  obtain ⟨d1, e1, rfl, hf1, hft1⟩ := FitL.cons (k := .int) (ks := [.str] ++ [.int] ++ shWrite) hft0
  obtain ⟨n1, rfl, _⟩ := Fit.int hf1
  obtain ⟨d2, e2, rfl, hf2, hft2⟩ := FitL.cons (k := .str) (ks := [.int] ++ shWrite) hft1
  obtain ⟨n2, rfl, _⟩ := Fit.str hf2
  obtain ⟨d3, e3, rfl, hf3, hft3⟩ := FitL.cons (k := .int) (ks := shWrite) hft2
  obtain ⟨n3, rfl, _⟩ := Fit.int hf3
  obtain ⟨d4, e4, rfl, hf4, hft4⟩ := FitL.split (ks := shWrite) (ks' := []) hft3
  obtain rfl := FitL.nil hft4
  obtain ⟨c0, z0, rfl, h_c0, hrd0⟩ := RdL.cons hrd
  rw [Rd] at h_c0; subst h_c0
  obtain ⟨c1, z1, rfl, h_c1, hrd1⟩ := RdL.cons hrd0
  rw [Rd] at h_c1; subst h_c1
  obtain ⟨c2, z2, rfl, h_c2, hrd2⟩ := RdL.cons hrd1
  rw [Rd] at h_c2; subst h_c2
  obtain ⟨c3, z3, rfl, h_c3, hrd3⟩ := RdL.cons hrd2
  rw [Rd] at h_c3; subst h_c3
  obtain ⟨c4, z4, rfl, h_c4, hrd4⟩ := RdL.split hrd3
  have l_c4 : c4.length = 78 := h_c4.length.symm.trans hf4.length
  obtain rfl := RdL.nil hrd4
  rw [show ((.int .i64 n0) :: ((.int .i64 n1) :: ((.string n2) :: ((.int .i64 n3) :: (c4 ++ ([]))))) : List Value) = List.flatten [[.int .i64 n0], [.int .i64 n1], [.string n2], [.int .i64 n3], c4] from by simp]
  have hz : s.size + ((encD (.int n0)).size + ((encD (.int n1)).size + ((encD (.str n2)).size + ((encD (.int n3)).size + ((encL d4).size + (0)))))) ≤ 9223372036854775807 := by
    have h9 := hz0
    simp only [encLs_cons, encLs_app, encLs_nil] at h9
    exact h9
  have hent := (@Sx.enter Try.prog 24 57 Try.f57 _ [.pointer (some ⟨b, 0, none⟩), .agg (List.flatten [[.int .i64 n0], [.int .i64 n1], [.string n2], [.int .i64 n3], c4]).toArray] w (fun e w' => e = .returned (.tuple #[]) ∧ SH w [⟨b, #[.string (s ++ E), .bool bad, .bool true], 130⟩] w') Try.func57 rfl rfl (by simp))
  refine hent ?_
  refine wc_eq (S := SH w [⟨b, #[.string s, .bool bad, .bool true], 130⟩]) hb ?_
  refine wc_seq ?_
  refine wc_region ?_
  refine wl_new (d := 3) (List.flatten [[.int .i64 n0], [.int .i64 n1], [.string n2], [.int .i64 n3], c4]).toArray 55 (fun r => .pointer (some ⟨r, 0, none⟩)) (by kernel_rfl) (fun r => by kernel_rfl) ?_
  intro r1 hr1
  have h_c4 := h_c4.stays (im_more (c := (List.flatten [[.int .i64 n0], [.int .i64 n1], [.string n2], [.int .i64 n3], c4]).toArray) (t := 55) hr1)
  refine nx_list ?_
  refine nx_then ?_
  refine wc_seq ?_
  refine wc_region ?_
  refine wl_go 2 [(5, .pointer (some ⟨r1, 0, none⟩)), (4, .pointer (some ⟨b, 0, none⟩))] (by kernel_rfl) ?_
  refine wl_yl (d := 6) (v := .int .i64 n0) (by kernel_rfl) (yl_load (b := r1) (off := 0) 0 rfl (by kernel_rfl) rfl (readAt_seg1 0 rfl (by simp [l_c4]) (by kernel_rfl))) ?_
  refine wl_callW (d := 7) (b := b) (s := s) (E := (encD (.int n0))) (bad := bad) (T := 130) (L' := [⟨r1, (List.flatten [[.int .i64 n0], [.int .i64 n1], [.string n2], [.int .i64 n3], c4]).toArray, 55⟩, ⟨b, #[.string (s ++ (encD (.int n0))), .bool bad, .bool true], 130⟩]) 1 (by kernel_rfl) (by kernel_rfl) rfl rfl (fun w1 h1 => (num_ok n0) w1 b s bad (.int .i64 n0) (h1.one 1 rfl) (by rw [Rd]) (szA hz)) ?_
  obtain ⟨s1, hs1⟩ : ∃ u_, u_ = s ++ (encD (.int n0)) := ⟨_, rfl⟩
  have hz := szB hz hs1
  rw [← hs1]
  refine nx_list ?_
  refine nx_then ?_
  refine wc_seq ?_
  refine wc_region ?_
  refine wl_go 2 [(9, .pointer (some ⟨r1, 1, none⟩)), (8, .pointer (some ⟨b, 0, none⟩))] (by kernel_rfl) ?_
  refine wl_yl (d := 10) (v := .int .i64 n1) (by kernel_rfl) (yl_load (b := r1) (off := 1) 0 rfl (by kernel_rfl) rfl (readAt_seg1 1 rfl (by simp [l_c4]) (by kernel_rfl))) ?_
  refine wl_callW (d := 11) (b := b) (s := s1) (E := (encD (.int n1))) (bad := bad) (T := 130) (L' := [⟨r1, (List.flatten [[.int .i64 n0], [.int .i64 n1], [.string n2], [.int .i64 n3], c4]).toArray, 55⟩, ⟨b, #[.string (s1 ++ (encD (.int n1))), .bool bad, .bool true], 130⟩]) 1 (by kernel_rfl) (by kernel_rfl) rfl rfl (fun w1 h1 => (num_ok n1) w1 b s1 bad (.int .i64 n1) (h1.one 1 rfl) (by rw [Rd]) (szA hz)) ?_
  obtain ⟨s2, hs2⟩ : ∃ u_, u_ = s1 ++ (encD (.int n1)) := ⟨_, rfl⟩
  have hz := szB hz hs2
  rw [← hs2]
  refine nx_list ?_
  refine nx_then ?_
  refine wc_seq ?_
  refine wc_region ?_
  refine wl_go 2 [(13, .pointer (some ⟨r1, 2, none⟩)), (12, .pointer (some ⟨b, 0, none⟩))] (by kernel_rfl) ?_
  refine wl_yl (d := 14) (v := .string n2) (by kernel_rfl) (yl_load (b := r1) (off := 2) 0 rfl (by kernel_rfl) rfl (readAt_seg1 2 rfl (by simp [l_c4]) (by kernel_rfl))) ?_
  refine wl_callW (d := 15) (b := b) (s := s2) (E := (encD (.str n2))) (bad := bad) (T := 130) (L' := [⟨r1, (List.flatten [[.int .i64 n0], [.int .i64 n1], [.string n2], [.int .i64 n3], c4]).toArray, 55⟩, ⟨b, #[.string (s2 ++ (encD (.str n2))), .bool bad, .bool true], 130⟩]) 1 (by kernel_rfl) (by kernel_rfl) rfl rfl (fun w1 h1 => (str_ok n2) w1 b s2 bad (.string n2) (h1.one 1 rfl) (by rw [Rd]) (szA hz)) ?_
  obtain ⟨s3, hs3⟩ : ∃ u_, u_ = s2 ++ (encD (.str n2)) := ⟨_, rfl⟩
  have hz := szB hz hs3
  rw [← hs3]
  refine nx_list ?_
  refine nx_then ?_
  refine wc_seq ?_
  refine wc_region ?_
  refine wl_go 2 [(17, .pointer (some ⟨r1, 3, none⟩)), (16, .pointer (some ⟨b, 0, none⟩))] (by kernel_rfl) ?_
  refine wl_yl (d := 18) (v := .int .i64 n3) (by kernel_rfl) (yl_load (b := r1) (off := 3) 0 rfl (by kernel_rfl) rfl (readAt_seg1 3 rfl (by simp [l_c4]) (by kernel_rfl))) ?_
  refine wl_callW (d := 19) (b := b) (s := s3) (E := (encD (.int n3))) (bad := bad) (T := 130) (L' := [⟨r1, (List.flatten [[.int .i64 n0], [.int .i64 n1], [.string n2], [.int .i64 n3], c4]).toArray, 55⟩, ⟨b, #[.string (s3 ++ (encD (.int n3))), .bool bad, .bool true], 130⟩]) 1 (by kernel_rfl) (by kernel_rfl) rfl rfl (fun w1 h1 => (num_ok n3) w1 b s3 bad (.int .i64 n3) (h1.one 1 rfl) (by rw [Rd]) (szA hz)) ?_
  obtain ⟨s4, hs4⟩ : ∃ u_, u_ = s3 ++ (encD (.int n3)) := ⟨_, rfl⟩
  have hz := szB hz hs4
  rw [← hs4]
  refine nx_list ?_
  refine nx_then ?_
  refine wc_region ?_
  refine wl_go 2 [(21, .pointer (some ⟨r1, 4, none⟩)), (20, .pointer (some ⟨b, 0, none⟩))] (by kernel_rfl) ?_
  refine wl_yl (d := 22) (v := .agg (c4).toArray) (by kernel_rfl) (yl_load (b := r1) (off := 4) 0 rfl (by kernel_rfl) rfl (readAt_seg 4 rfl (by simp [l_c4]) (by rw [l_c4]; kernel_rfl))) ?_
  refine wl_callW (d := 23) (b := b) (s := s4) (E := (encL d4)) (bad := bad) (T := 130) (L' := [⟨r1, (List.flatten [[.int .i64 n0], [.int .i64 n1], [.string n2], [.int .i64 n3], c4]).toArray, 55⟩, ⟨b, #[.string (s4 ++ (encL d4)), .bool bad, .bool true], 130⟩]) 1 (by kernel_rfl) (by kernel_rfl) rfl rfl (fun w1 h1 => (write_all d4 hf4) w1 b s4 bad c4 (h1.one 1 rfl) (h_c4.stays (h1.staysB (L0 := (⟨r1, (List.flatten [[.int .i64 n0], [.int .i64 n1], [.string n2], [.int .i64 n3], c4]).toArray, 55⟩ :: [⟨b, #[.string s, .bool bad, .bool true], 130⟩])) rfl 1 rfl)) (szA hz)) ?_
  obtain ⟨s5, hs5⟩ : ∃ u_, u_ = s4 ++ (encL d4) := ⟨_, rfl⟩
  have hz := szB hz hs5
  rw [← hs5]
  refine nx_list ?_
  refine end_none rfl ?_
  intro w' hw'
  have hfin : s5 = s ++ E := by
    rw [hE, hs5, hs4, hs3, hs2, hs1]
    simp only [encL_append, encL, encD, ByteArray.append_assoc, ByteArray.append_empty]
  rw [hfin] at hw'
  exact ⟨rfl, hw'.tail hr1⟩

theorem entry_all (ds : List D) (hfit : FitL sh by_ ds (sh 13)) : WS Try.prog 57 130 ds := entry_step ds hfit

theorem code_ok (ds : List D) (hfit : FitL sh by_ ds (sh 13)) (hz : (encL ds).size ≤ 9223372036854775807) (w : World) (S : Nat → Prop) (cs : List Value) (hrd : RdL S w ds cs) : Calls Try.prog 49 #[.agg cs.toArray] w (fun e w' => e = .returned (.string (encL ds)) ∧ Below w.heap.size w w') := by
  have h_cs := hrd.im
  have l_cs : cs.length = 82 := hrd.length.symm.trans hfit.length
  have hent := (@Sx.enter Try.prog 9 49 Try.f49 _ [.agg (cs).toArray] w (fun e w' => e = .returned (.string (encL ds)) ∧ Below w.heap.size w w') Try.func49 rfl rfl (by simp))
  refine hent ?_
  refine wc_eq (S := SH w []) (SH.refl _) ?_
  refine wc_seq ?_
  refine wc_region ?_
  refine wl_new (d := 1) cs.toArray 55 (fun r => .pointer (some ⟨r, 0, none⟩)) (by kernel_rfl) (fun r => by kernel_rfl) ?_
  intro r1 hr1
  have h_cs := h_cs.stays (im_more (c := cs.toArray) (t := 55) hr1)
  refine wl_go 1 [(2, .string ⟨#[]⟩)] (by kernel_rfl) ?_
  refine nx_list ?_
  refine nx_then ?_
  refine wc_seq ?_
  refine wc_region ?_
  refine wl_go 1 [(4, .agg #[.string ByteArray.empty, .bool false, .bool true])] (by kernel_rfl) ?_
  refine wl_new (d := 3) #[.string ByteArray.empty, .bool false, .bool false] 130 (fun r => .pointer (some ⟨r, 0, none⟩)) (by kernel_rfl) (fun r => by kernel_rfl) ?_
  intro r2 hr2
  have h_cs := h_cs.stays (im_more (c := #[.string ByteArray.empty, .bool false, .bool false]) (t := 130) hr2)
  refine wl_store (b := r2) (off := 0) (v := .agg #[.string ByteArray.empty, .bool false, .bool true]) (c' := #[.string ByteArray.empty, .bool false, .bool true]) (L' := [⟨r2, #[.string ByteArray.empty, .bool false, .bool true], 130⟩, ⟨r1, cs.toArray, 55⟩]) 0 (by kernel_rfl) rfl (by kernel_rfl) (by kernel_rfl) rfl (by kernel_rfl) rfl ?_
  refine nx_list ?_
  refine nx_then ?_
  refine wc_seq ?_
  refine wc_region ?_
  refine wl_yl (d := 5) (v := .agg (cs).toArray) (by kernel_rfl) (yl_load (b := r1) (off := 0) 1 rfl (by kernel_rfl) rfl (readAt_all (by rw [l_cs]; kernel_rfl))) ?_
  refine wl_callW (d := 6) (b := r2) (s := ⟨#[]⟩) (E := encL ds) (bad := false) (T := 130) (L' := [⟨r2, #[.string (⟨#[]⟩ ++ encL ds), .bool false, .bool true], 130⟩, ⟨r1, cs.toArray, 55⟩]) 0 (by kernel_rfl) (by kernel_rfl) rfl rfl (fun w1 h1 => entry_all ds hfit w1 r2 ⟨#[]⟩ false cs (h1.one 0 rfl) (h_cs.stays (h1.staysB (L0 := (⟨r2, #[.string ByteArray.empty, .bool false, .bool false], 130⟩ :: (⟨r1, cs.toArray, 55⟩ :: []))) rfl 0 rfl)) (by rw [show (⟨#[]⟩ : ByteArray).size = 0 from rfl, Nat.zero_add]; exact hz)) ?_
  rw [show (⟨#[]⟩ : ByteArray) ++ encL ds = encL ds from ByteArray.empty_append]
  refine nx_list ?_
  refine nx_then ?_
  refine wc_seq ?_
  refine wc_region ?_
  refine wl_go 1 [(7, .pointer (some ⟨r2, 0, none⟩))] (by kernel_rfl) ?_
  refine wl_yl (d := 8) (v := .string (encL ds)) (by kernel_rfl) (yl_load (b := r2) (off := 0) 0 rfl (by kernel_rfl) rfl (by kernel_rfl)) ?_
  refine wl_go 1 [(2, .string (encL ds))] (by kernel_rfl) ?_
  refine nx_list ?_
  refine nx_then ?_
  refine nx_ret ?_
  refine ret_tmp (v := .string (encL ds)) rfl (by kernel_rfl) ?_
  intro w' hw'
  exact ⟨rfl, hw'.below (Below.refl _ _) (Nat.le_refl _) (ge_cons hr2 (ge_cons hr1 (ge_nil _)))⟩

theorem same_ok (ds : List D) (hfit : FitL sh by_ ds (sh 13)) (hz : (encL ds).size ≤ 9223372036854775807) (w : World) (S S' : Nat → Prop) (ca cb : List Value) (hra : RdL S w ds ca) (hrb : RdL S' w ds cb) : Calls Try.prog 43 #[.agg ca.toArray, .agg cb.toArray] w (fun e w' => e = .returned (.bool true) ∧ Below w.heap.size w w') := by
  have h_ca := hra.im
  have h_cb := hrb.im
  have l_ca : ca.length = 82 := hra.length.symm.trans hfit.length
  have l_cb : cb.length = 82 := hrb.length.symm.trans hfit.length
  have hent := (@Sx.enter Try.prog 10 43 Try.f43 _ [.agg (ca).toArray, .agg (cb).toArray] w (fun e w' => e = .returned (.bool true) ∧ Below w.heap.size w w') Try.func43 rfl rfl (by simp))
  refine hent ?_
  refine wc_eq (S := SH w []) (SH.refl _) ?_
  refine wc_seq ?_
  refine wc_region ?_
  refine wl_new (d := 2) ca.toArray 55 (fun r => .pointer (some ⟨r, 0, none⟩)) (by kernel_rfl) (fun r => by kernel_rfl) ?_
  intro r1 hr1
  have h_ca := h_ca.stays (im_more (c := ca.toArray) (t := 55) hr1)
  have h_cb := h_cb.stays (im_more (c := ca.toArray) (t := 55) hr1)
  refine wl_new (d := 3) cb.toArray 55 (fun r => .pointer (some ⟨r, 0, none⟩)) (by kernel_rfl) (fun r => by kernel_rfl) ?_
  intro r2 hr2
  have h_ca := h_ca.stays (im_more (c := cb.toArray) (t := 55) hr2)
  have h_cb := h_cb.stays (im_more (c := cb.toArray) (t := 55) hr2)
  refine wl_go 1 [(4, .bool false)] (by kernel_rfl) ?_
  refine nx_list ?_
  refine nx_then ?_
  refine wc_seq ?_
  refine wc_draw 6 (SH w [⟨r2, cb.toArray, 55⟩, ⟨r1, ca.toArray, 55⟩]) rfl (by decide) (fun w h => SH.drew h) ?_
  refine wd_yl 0 (d := 5) (v := .agg (ca).toArray) (f := 5) rfl (by kernel_rfl) (by kernel_rfl) (fun w h => h) (yl_load (b := r1) (off := 0) 1 rfl (by kernel_rfl) rfl (readAt_all (by rw [l_ca]; kernel_rfl))) ?_
  refine wd_yl 2 (d := 7) (v := .agg (cb).toArray) (f := 4) rfl (by kernel_rfl) (by kernel_rfl) (fun w h => h) (yl_load (b := r2) (off := 0) 0 rfl (by kernel_rfl) rfl (readAt_all (by rw [l_cb]; kernel_rfl))) ?_
  refine wd_callK shK 1 (d := 6) (fu := 3) (v := .string (encL ds)) rfl (by decide) (by kernel_rfl) (by kernel_rfl) (by kernel_rfl) (fun w1 h1 => code_ok ds hfit hz w1 _ ca (h_ca.stays (h1.staysC (L0 := (⟨r2, cb.toArray, 55⟩ :: (⟨r1, ca.toArray, 55⟩ :: []))) rfl))) ?_
  refine wd_callK shK 3 (d := 8) (fu := 2) (v := .string (encL ds)) rfl (by decide) (by kernel_rfl) (by kernel_rfl) (by kernel_rfl) (fun w1 h1 => code_ok ds hfit hz w1 _ cb (h_cb.stays (h1.staysC (L0 := (⟨r2, cb.toArray, 55⟩ :: (⟨r1, ca.toArray, 55⟩ :: []))) rfl))) ?_
  refine wd_go [4] [(9, .bool ((encL ds).toList == (encL ds).toList))] #[true, true, true, true, true, false] (f := 1) rfl (by kernel_rfl) (fun w h => h) ?_
  rw [show ((encL ds).toList == (encL ds).toList) = true from by simp]
  refine wd_go [5] [(4, .bool true)] #[true, true, true, true, true, true] (f := 0) rfl (by kernel_rfl) (fun w h => h) ?_
  refine wd_done (by kernel_rfl) ?_
  refine nx_list ?_
  refine nx_on ?_
  refine nx_then ?_
  refine nx_ret ?_
  refine ret_tmp (v := .bool true) rfl (by kernel_rfl) ?_
  intro w' hw'
  exact ⟨rfl, hw'.below (Below.refl _ _) (Nat.le_refl _) (ge_cons hr2 (ge_cons hr1 (ge_nil _)))⟩

def zcw55 : Array Value := #[.int .i64 0, .int .i64 0, .string ByteArray.empty, .int .i64 0, .int .i64 0, .string ByteArray.empty, .int .i64 0, .int .i64 0, .string ByteArray.empty, .slice none 0 0, .slice none 0 0, .int .i64 0, .int .i64 0, .string ByteArray.empty, .slice none 0 0, .slice none 0 0, .int .i64 0, .int .i64 0, .string ByteArray.empty, .slice none 0 0, .slice none 0 0, .string ByteArray.empty, .slice none 0 0, .int .i64 0, .bool false, .int .i64 0, .int .i64 0, .string ByteArray.empty, .slice none 0 0, .slice none 0 0, .bool false, .int .i64 0, .int .i64 0, .string ByteArray.empty, .slice none 0 0, .slice none 0 0, .slice none 0 0, .int .i64 0, .int .i64 0, .slice none 0 0, .slice none 0 0, .bool false, .slice none 0 0, .bool false, .int .i64 0, .int .i64 0, .string ByteArray.empty, .int .i64 0, .slice none 0 0, .bool false, .bool false, .bool false, .int .i64 0, .slice none 0 0, .int .i64 0, .int .i64 0, .string ByteArray.empty, .slice none 0 0, .slice none 0 0, .slice none 0 0, .int .i64 0, .int .i64 0, .int .i64 0, .slice none 0 0, .int .i64 0, .int .i64 0, .slice none 0 0, .string ByteArray.empty, .slice none 0 0, .int .i64 0, .int .i64 0, .string ByteArray.empty, .slice none 0 0, .slice none 0 0, .int .i64 0, .slice none 0 0, .slice none 0 0, .string ByteArray.empty, .int .i64 0, .slice none 0 0, .slice none 0 0, .bool false]
theorem equal_ok (rows : List (List D)) (fR : FitR sh by_ rows (sh 13)) (hl : rows.length * 1208 ≤ 140737488355328) (hz : ∀ r ∈ rows, (encL r).size ≤ 9223372036854775807) (w : World) (S S' : Nat → Prop) (aa ab : Option Addr) (na nb : Nat) (ha : Rd S w (.sl rows) (.slice aa rows.length na)) (hb : Rd S' w (.sl rows) (.slice ab rows.length nb)) : Calls Try.prog 42 #[.slice aa rows.length na, .slice ab rows.length nb, .func (.func 43) #[] #[]] w (fun e w' => e = .returned (.bool true) ∧ Below w.heap.size w w') := by
  have h_a := ha.any
  have h_b := hb.any
  have bb : rows.length ≤ 140737488355328 := by omega
  refine Sx.enter (l := [.slice aa rows.length na, .slice ab rows.length nb, .func (.func 43) #[] #[]]) Try.func42 rfl (n := 32) rfl (by simp) ?_
  refine wc_eq (S := SH w []) (SH.refl _) ?_
  refine wc_seq ?_
  refine wc_region ?_
  refine wl_go 1 [(6, .bool false)] (by kernel_rfl) ?_
  refine nx_list ?_
  refine nx_then ?_
  refine wc_seq ?_
  refine wc_seq ?_
  refine wc_region ?_
  refine wl_go 5 [(14, .bool ((rows.length : Int) != (rows.length : Int))), (13, .int .i64 (rows.length : Int)), (12, .slice ab rows.length nb), (11, .int .i64 (rows.length : Int)), (10, .slice aa rows.length na)] (by kernel_rfl) ?_
  rw [show ((rows.length : Int) != (rows.length : Int)) = false from by simp]
  refine nx_list ?_
  refine nx_then ?_
  refine wc_cond false (by kernel_rfl) (by kernel_rfl) (fun h => by cases h) (fun _ => ?_)
  refine nx_skip ?_
  refine nx_then ?_
  refine wc_seq ?_
  refine wc_seq ?_
  refine wc_region ?_
  refine wl_go 3 [(17, .int .i64 0), (16, .int .i64 (rows.length : Int)), (15, .slice aa rows.length na)] (by kernel_rfl) ?_
  refine nx_list ?_
  refine nx_then ?_
  refine wc_block ?_
  refine wc_loop (σ := { i : Nat // i ≤ rows.length }) (fun x => [(1, .slice ab rows.length nb), (2, .func (.func 43) #[] #[]), (15, .slice aa rows.length na), (16, .int .i64 (rows.length : Int)), (17, .int .i64 (x.1 : Int))]) (fun _ => Bl w) (fun x => rows.length - x.1) (fun w3 h3 => ⟨⟨0, Nat.zero_le _⟩, h3.below (Below.refl _ _) (Nat.le_refl _) (ge_nil _), (subEnv_cons (by kernel_rfl) (subEnv_cons (by kernel_rfl) (subEnv_cons (by kernel_rfl) (subEnv_cons (by kernel_rfl) (subEnv_cons (by kernel_rfl) (subEnv_nil _))))))⟩) (fun x => ?_)
  refine wc_open (fun w3 h3 => ?_)
  refine wc_eq (S := SH w3 []) (SH.refl _) ?_
  refine wc_seq ?_
  refine wc_region ?_
  refine wl_go 1 [(18, .bool (decide ((x.1 : Int) < (rows.length : Int))))] (by kernel_rfl) ?_
  refine nx_list ?_
  refine nx_then ?_
  refine wc_seq ?_
  refine wc_cond (decide ((x.1 : Int) < (rows.length : Int))) (by kernel_rfl) (by kernel_rfl) (fun hc => ?_) (fun hc => ?_)
  · skip
    have hlt : x.1 < rows.length := by simpa using hc
    obtain ⟨r, hrow⟩ : ∃ r, rows[x.1]? = some r := ⟨_, List.getElem?_eq_getElem hlt⟩
    obtain ⟨ga, oa, ca, rfl, hIa, h_ca, l_ca, hga⟩ := Rd.row_at (es := 82) (h_a.stays (Bl.stays h3)).im (fun r hr => fR.length r hr) hrow
    obtain ⟨gb, ob, cb, rfl, hIb, h_cb, l_cb, hgb⟩ := Rd.row_at (es := 82) (h_b.stays (Bl.stays h3)).im (fun r hr => fR.length r hr) hrow
    have hmem := List.mem_of_getElem? hrow
    refine nx_skip ?_
    refine nx_then ?_
    refine wc_seq ?_
    refine wc_block ?_
    refine wc_seq ?_
    refine wc_region ?_
    refine wl_go 1 [(19, .int .i64 (x.1 : Int))] (by kernel_rfl) ?_
    refine wl_yl (d := 20) (v := .pointer (some ⟨ga, oa + x.1 * 82, none⟩)) (by kernel_rfl) (yl_index (E := 55) (b := ga) (off := oa) (len := rows.length) (cap := na) (k := x.1) (es := 82) rfl (by kernel_rfl) (by kernel_rfl) (by kernel_rfl) (by omega)) ?_
    refine wl_yl (d := 21) (v := .agg (ca).toArray) (by kernel_rfl) (yl_loads_im (b := ga) (off := oa + x.1 * 82) (cs := ca) rfl (by kernel_rfl) (im_new hIa.1 (ge_nil _)) (by rw [l_ca]; kernel_rfl) hga) ?_
    refine wl_new (d := 8) zcw55 55 (fun r => .pointer (some ⟨r, 0, none⟩)) (by kernel_rfl) (fun r => by kernel_rfl) ?_
    intro r1 hr1
    refine wl_go 1 [(7, .int .i64 (x.1 : Int))] (by kernel_rfl) ?_
    refine wl_store (b := r1) (off := 0) (v := .agg (ca).toArray) (c' := ca.toArray) (L' := [⟨r1, ca.toArray, 55⟩]) 0 (by kernel_rfl) rfl (by kernel_rfl) (by kernel_rfl) rfl (writeAt_all (by rw [l_ca]; kernel_rfl) (by rw [l_ca]; kernel_rfl) (RdL.oneCell h_ca)) rfl ?_
    refine nx_list ?_
    refine nx_then ?_
    refine wc_seq ?_
    refine wc_region ?_
    refine wl_go 2 [(23, .int .i64 (x.1 : Int)), (22, .slice (some ⟨gb, ob, none⟩) rows.length nb)] (by kernel_rfl) ?_
    refine wl_yl (d := 24) (v := .pointer (some ⟨gb, ob + x.1 * 82, none⟩)) (by kernel_rfl) (yl_index (E := 55) (b := gb) (off := ob) (len := rows.length) (cap := nb) (k := x.1) (es := 82) rfl (by kernel_rfl) (by kernel_rfl) (by kernel_rfl) (by omega)) ?_
    refine wl_yl (d := 25) (v := .agg (cb).toArray) (by kernel_rfl) (yl_loads_im (b := gb) (off := ob + x.1 * 82) (cs := cb) rfl (by kernel_rfl) (im_new hIb.1 (ge_cons hr1 (ge_nil _))) (by rw [l_cb]; kernel_rfl) hgb) ?_
    refine wl_new (d := 9) zcw55 55 (fun r => .pointer (some ⟨r, 0, none⟩)) (by kernel_rfl) (fun r => by kernel_rfl) ?_
    intro r2 hr2
    refine wl_store (b := r2) (off := 0) (v := .agg (cb).toArray) (c' := cb.toArray) (L' := [⟨r2, cb.toArray, 55⟩, ⟨r1, ca.toArray, 55⟩]) 0 (by kernel_rfl) rfl (by kernel_rfl) (by kernel_rfl) rfl (writeAt_all (by rw [l_cb]; kernel_rfl) (by rw [l_cb]; kernel_rfl) (RdL.oneCell h_cb)) rfl ?_
    refine nx_list ?_
    refine nx_then ?_
    refine wc_seq ?_
    refine wc_region ?_
    refine wl_go 1 [(26, .func (.func 43) #[] #[])] (by kernel_rfl) ?_
    refine wl_yl (d := 27) (v := .agg (ca).toArray) (by kernel_rfl) (yl_load (b := r1) (off := 0) 1 rfl (by kernel_rfl) rfl (readAt_all (by rw [l_ca]; kernel_rfl))) ?_
    refine wl_yl (d := 28) (v := .agg (cb).toArray) (by kernel_rfl) (yl_load (b := r2) (off := 0) 0 rfl (by kernel_rfl) rfl (readAt_all (by rw [l_cb]; kernel_rfl))) ?_
    refine wl_callK shK (d := 29) (v := .bool true) (by kernel_rfl) (by kernel_rfl) (fun w1 h1 => same_ok r (fR.mem hmem) (hz r hmem) w1 (fun _ => True) (fun _ => True) ca cb (h_ca.stays ⟨h1.size, fun k hk hI => trivial, fun k hk hI => h1.kept k hk (im_new hk (ge_cons hr2 (ge_cons hr1 (ge_nil _)))).2⟩) (h_cb.stays ⟨h1.size, fun k hk hI => trivial, fun k hk hI => h1.kept k hk (im_new hk (ge_cons hr2 (ge_cons hr1 (ge_nil _)))).2⟩)) ?_
    refine wl_go 1 [(30, .bool false)] (by kernel_rfl) ?_
    refine nx_list ?_
    refine nx_then ?_
    refine wc_cond false (by kernel_rfl) (by kernel_rfl) (fun h => by cases h) (fun _ => ?_)
    refine nx_skip ?_
    refine nx_block ?_
    refine nx_then ?_
    refine wc_region ?_
    refine wl_yl (d := 31) (v := .int .i64 ((x.1 : Int) + 1)) (by kernel_rfl) (yl_int (t := (x.1 : Int) + 1) (r := (x.1 : Int) + 1) (by kernel_rfl) (i64w (by omega) (by omega))) ?_
    refine wl_go 1 [(17, .int .i64 ((x.1 : Int) + 1))] (by kernel_rfl) ?_
    refine nx_list ?_
    refine nx_round_w (fun w4 hw' => ⟨⟨x.1 + 1, hlt⟩, (show rows.length - (x.1 + 1) < rows.length - x.1 by omega), (subEnv_cons (by kernel_rfl) (subEnv_cons (by kernel_rfl) (subEnv_cons (by kernel_rfl) (subEnv_cons (by kernel_rfl) (subEnv_cons (by kernel_rfl) (subEnv_nil _)))))), hw'.below h3 h3.size (ge_cons (Nat.le_trans h3.size hr2) (ge_cons (Nat.le_trans h3.size hr1) (ge_nil _)))⟩)
  · skip
    refine nx_exit ?_
    refine nx_then_exit ?_
    refine nx_then_exit ?_
    refine nx_block_here ?_
    refine nx_then ?_
    refine wc_seq ?_
    refine wc_region ?_
    refine wl_go 1 [(6, .bool true)] (by kernel_rfl) ?_
    refine nx_list ?_
    refine nx_then ?_
    refine nx_ret ?_
    refine ret_tmp (v := .bool true) rfl (by kernel_rfl) ?_
    intro w' hw'
    exact ⟨rfl, hw'.below h3 h3.size (ge_nil _)⟩

theorem sameEntries_ok (rows : List (List D)) (fR : FitR sh by_ rows (sh 13)) (hl : rows.length * 1208 ≤ 140737488355328) (hz : ∀ r ∈ rows, (encL r).size ≤ 9223372036854775807) (w : World) (S S' : Nat → Prop) (aa ab : Option Addr) (na nb : Nat) (ha : Rd S w (.sl rows) (.slice aa rows.length na)) (hb : Rd S' w (.sl rows) (.slice ab rows.length nb)) : Calls Try.prog 36 #[.slice aa rows.length na, .slice ab rows.length nb] w (fun e w' => e = .returned (.bool true) ∧ Below w.heap.size w w') := by
  have h_a := ha.any
  have h_b := hb.any
  refine Sx.enter (l := [.slice aa rows.length na, .slice ab rows.length nb]) Try.func36 rfl (n := 8) rfl (by simp) ?_
  refine wc_eq (S := SH w []) (SH.refl _) ?_
  refine wc_seq ?_
  refine wc_region ?_
  refine wl_go 1 [(4, .bool false)] (by kernel_rfl) ?_
  refine nx_list ?_
  refine nx_then ?_
  refine wc_seq ?_
  refine wc_region ?_
  refine wl_go 2 [(6, .slice ab rows.length nb), (5, .slice aa rows.length na)] (by kernel_rfl) ?_
  refine wl_callK shK (d := 7) (v := .bool true) (by kernel_rfl) (by kernel_rfl) (fun w1 h1 => equal_ok rows fR hl hz w1 (fun _ => True) (fun _ => True) aa ab na nb (h_a.stays (Bl.stays (h1.below (Below.refl _ _) (Nat.le_refl _) (ge_nil _)))) (h_b.stays (Bl.stays (h1.below (Below.refl _ _) (Nat.le_refl _) (ge_nil _))))) ?_
  refine wl_go 1 [(4, .bool true)] (by kernel_rfl) ?_
  refine nx_list ?_
  refine nx_then ?_
  refine nx_ret ?_
  refine ret_tmp (v := .bool true) rfl (by kernel_rfl) ?_
  intro w' hw'
  exact ⟨rfl, hw'.below (Below.refl _ _) (Nat.le_refl _) (ge_nil _)⟩

end Go.Proofs.Ytidkaipijocjcaa
