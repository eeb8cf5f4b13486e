/- Contracts of the writers of docstoreref40 (third part), printed by a program of this repository (gen/writers.py). -/
import Derived.Test.YtidkaipijocjcaaWr1
namespace Go.Proofs.Ytidkaipijocjcaa
open Go.RowKit Go.Sx
set_option linter.unusedVariables false
set_option linter.unusedSimpArgs false

set_option maxHeartbeats 4000000 in
theorem schema_step (ds : List D) (hfit : FitL sh by_ ds shSchema) (ih : ∀ (r : List D), szL r < szL ds → FitL sh by_ r shSchema → WS Try.prog 76 130 r) : WS Try.prog 76 130 ds := by
  intro w b s bad cs hb hrd hz0
  obtain ⟨E, hE⟩ : ∃ E, E = encL ds := ⟨_, rfl⟩
  rw [← hE]
  skip
  obtain ⟨d0, e0, rfl, hf0, hft0⟩ := FitL.cons (k := .int) (ks := [.bool] ++ shV ++ [.bool] ++ shV ++ [.sl 0] ++ [.int] ++ [.int] ++ [.sl 2] ++ [.sl 10] ++ [.bool] ++ [.sl 9] ++ [.bool]) hfit
  obtain ⟨n0, rfl, _⟩ := Fit.int hf0
  obtain ⟨d1, e1, rfl, hf1, hft1⟩ := FitL.cons (k := .bool) (ks := shV ++ [.bool] ++ shV ++ [.sl 0] ++ [.int] ++ [.int] ++ [.sl 2] ++ [.sl 10] ++ [.bool] ++ [.sl 9] ++ [.bool]) hft0
  obtain ⟨n1, rfl⟩ := Fit.bool hf1
  obtain ⟨d2, e2, rfl, hf2, hft2⟩ := FitL.split (ks := shV) (ks' := [.bool] ++ shV ++ [.sl 0] ++ [.int] ++ [.int] ++ [.sl 2] ++ [.sl 10] ++ [.bool] ++ [.sl 9] ++ [.bool]) hft1
  obtain ⟨d3, e3, rfl, hf3, hft3⟩ := FitL.cons (k := .bool) (ks := shV ++ [.sl 0] ++ [.int] ++ [.int] ++ [.sl 2] ++ [.sl 10] ++ [.bool] ++ [.sl 9] ++ [.bool]) hft2
  obtain ⟨n3, rfl⟩ := Fit.bool hf3
  obtain ⟨d4, e4, rfl, hf4, hft4⟩ := FitL.split (ks := shV) (ks' := [.sl 0] ++ [.int] ++ [.int] ++ [.sl 2] ++ [.sl 10] ++ [.bool] ++ [.sl 9] ++ [.bool]) hft3
  obtain ⟨d5, e5, rfl, hf5, hft5⟩ := FitL.cons (k := .sl 0) (ks := [.int] ++ [.int] ++ [.sl 2] ++ [.sl 10] ++ [.bool] ++ [.sl 9] ++ [.bool]) hft4
  obtain ⟨rows5, rfl, b_rows5, fR_rows5⟩ := Fit.sl hf5
  have b_rows5 : rows5.length * 80 ≤ 140737488355328 := b_rows5
  have bb_rows5 : rows5.length ≤ 140737488355328 := by omega
  obtain ⟨d6, e6, rfl, hf6, hft6⟩ := FitL.cons (k := .int) (ks := [.int] ++ [.sl 2] ++ [.sl 10] ++ [.bool] ++ [.sl 9] ++ [.bool]) hft5
  obtain ⟨n6, rfl, _⟩ := Fit.int hf6
  obtain ⟨d7, e7, rfl, hf7, hft7⟩ := FitL.cons (k := .int) (ks := [.sl 2] ++ [.sl 10] ++ [.bool] ++ [.sl 9] ++ [.bool]) hft6
  obtain ⟨n7, rfl, _⟩ := Fit.int hf7
  obtain ⟨d8, e8, rfl, hf8, hft8⟩ := FitL.cons (k := .sl 2) (ks := [.sl 10] ++ [.bool] ++ [.sl 9] ++ [.bool]) hft7
  obtain ⟨rows8, rfl, b_rows8, fR_rows8⟩ := Fit.sl hf8
  have b_rows8 : rows8.length * 16 ≤ 140737488355328 := b_rows8
  have bb_rows8 : rows8.length ≤ 140737488355328 := by omega
  obtain ⟨d9, e9, rfl, hf9, hft9⟩ := FitL.cons (k := .sl 10) (ks := [.bool] ++ [.sl 9] ++ [.bool]) hft8
  obtain ⟨rows9, rfl, b_rows9, fR_rows9⟩ := Fit.sl hf9
  have b_rows9 : rows9.length * 328 ≤ 140737488355328 := b_rows9
  have bb_rows9 : rows9.length ≤ 140737488355328 := by omega
  obtain ⟨d10, e10, rfl, hf10, hft10⟩ := FitL.cons (k := .bool) (ks := [.sl 9] ++ [.bool]) hft9
  obtain ⟨n10, rfl⟩ := Fit.bool hf10
  obtain ⟨d11, e11, rfl, hf11, hft11⟩ := FitL.cons (k := .sl 9) (ks := [.bool]) hft10
  obtain ⟨rows11, rfl, b_rows11, fR_rows11⟩ := Fit.sl hf11
  have b_rows11 : rows11.length * 312 ≤ 140737488355328 := b_rows11
  have bb_rows11 : rows11.length ≤ 140737488355328 := by omega
  obtain ⟨d12, e12, rfl, hf12, hft12⟩ := FitL.cons (k := .bool) (ks := []) hft11
  obtain ⟨n12, rfl⟩ := Fit.bool hf12
  obtain rfl := FitL.nil hft12
  obtain ⟨c0, z0, rfl, h_c0, hrd0⟩ := RdL.cons hrd
  rw [Rd] at h_c0; subst h_c0
  obtain ⟨c1, z1, rfl, h_c1, hrd1⟩ := RdL.cons hrd0
  rw [Rd] at h_c1; subst h_c1
  obtain ⟨c2, z2, rfl, h_c2, hrd2⟩ := RdL.split hrd1
  have l_c2 : c2.length = 5 := h_c2.length.symm.trans hf2.length
  obtain ⟨c3, z3, rfl, h_c3, hrd3⟩ := RdL.cons hrd2
  rw [Rd] at h_c3; subst h_c3
  obtain ⟨c4, z4, rfl, h_c4, hrd4⟩ := RdL.split hrd3
  have l_c4 : c4.length = 5 := h_c4.length.symm.trans hf4.length
  obtain ⟨c5, z5, rfl, h_c5, hrd5⟩ := RdL.cons hrd4
  obtain ⟨a5, cap5, rfl⟩ := h_c5.slv
  obtain ⟨c6, z6, rfl, h_c6, hrd6⟩ := RdL.cons hrd5
  rw [Rd] at h_c6; subst h_c6
  obtain ⟨c7, z7, rfl, h_c7, hrd7⟩ := RdL.cons hrd6
  rw [Rd] at h_c7; subst h_c7
  obtain ⟨c8, z8, rfl, h_c8, hrd8⟩ := RdL.cons hrd7
  obtain ⟨a8, cap8, rfl⟩ := h_c8.slv
  obtain ⟨c9, z9, rfl, h_c9, hrd9⟩ := RdL.cons hrd8
  obtain ⟨a9, cap9, rfl⟩ := h_c9.slv
  obtain ⟨c10, z10, rfl, h_c10, hrd10⟩ := RdL.cons hrd9
  rw [Rd] at h_c10; subst h_c10
  obtain ⟨c11, z11, rfl, h_c11, hrd11⟩ := RdL.cons hrd10
  obtain ⟨a11, cap11, rfl⟩ := h_c11.slv
  obtain ⟨c12, z12, rfl, h_c12, hrd12⟩ := RdL.cons hrd11
  rw [Rd] at h_c12; subst h_c12
  obtain rfl := RdL.nil hrd12
  rw [show ((.int .i64 n0) :: ((.bool n1) :: (c2 ++ ((.bool n3) :: (c4 ++ ((.slice a5 rows5.length cap5) :: ((.int .i64 n6) :: ((.int .i64 n7) :: ((.slice a8 rows8.length cap8) :: ((.slice a9 rows9.length cap9) :: ((.bool n10) :: ((.slice a11 rows11.length cap11) :: ((.bool n12) :: ([]))))))))))))) : List Value) = List.flatten [[.int .i64 n0], [.bool n1], c2, [.bool n3], c4, [.slice a5 rows5.length cap5], [.int .i64 n6], [.int .i64 n7], [.slice a8 rows8.length cap8], [.slice a9 rows9.length cap9], [.bool n10], [.slice a11 rows11.length cap11], [.bool n12]] from by simp]
  have hz : s.size + ((encD (.int n0)).size + ((encD (.bool n1)).size + ((encL d2).size + ((encD (.bool n3)).size + ((encL d4).size + ((encD (.sl rows5)).size + ((encD (.int n6)).size + ((encD (.int n7)).size + ((encD (.sl rows8)).size + ((encD (.int (rows9.length : Int))).size + ((encR rows9).size + ((encD (.bool n10)).size + ((encD (.int (rows11.length : Int))).size + ((encR rows11).size + ((encD (.bool n12)).size + (0)))))))))))))))) ≤ 9223372036854775807 := by
    have h9 := hz0
    simp only [encLs_cons, encLs_app, encLs_nil, szSL rows9, szSL rows11] at h9
    exact h9
  have hent := (@Sx.enter Try.prog 97 76 Try.f76 _ [.pointer (some ⟨b, 0, none⟩), .agg (List.flatten [[.int .i64 n0], [.bool n1], c2, [.bool n3], c4, [.slice a5 rows5.length cap5], [.int .i64 n6], [.int .i64 n7], [.slice a8 rows8.length cap8], [.slice a9 rows9.length cap9], [.bool n10], [.slice a11 rows11.length cap11], [.bool n12]]).toArray] w (fun e w' => e = .returned (.tuple #[]) ∧ SH w [⟨b, #[.string (s ++ E), .bool bad, .bool true], 130⟩] w') Try.func76 rfl rfl (by simp))
  refine hent ?_
  refine wc_eq (S := SH w [⟨b, #[.string s, .bool bad, .bool true], 130⟩]) hb ?_
  refine wc_seq ?_
  refine wc_region ?_
  refine wl_new (d := 3) (List.flatten [[.int .i64 n0], [.bool n1], c2, [.bool n3], c4, [.slice a5 rows5.length cap5], [.int .i64 n6], [.int .i64 n7], [.slice a8 rows8.length cap8], [.slice a9 rows9.length cap9], [.bool n10], [.slice a11 rows11.length cap11], [.bool n12]]).toArray 35 (fun r => .pointer (some ⟨r, 0, none⟩)) (by kernel_rfl) (fun r => by kernel_rfl) ?_
  intro r1 hr1
  have h_c2 := h_c2.stays (im_more (c := (List.flatten [[.int .i64 n0], [.bool n1], c2, [.bool n3], c4, [.slice a5 rows5.length cap5], [.int .i64 n6], [.int .i64 n7], [.slice a8 rows8.length cap8], [.slice a9 rows9.length cap9], [.bool n10], [.slice a11 rows11.length cap11], [.bool n12]]).toArray) (t := 35) hr1)
  have h_c4 := h_c4.stays (im_more (c := (List.flatten [[.int .i64 n0], [.bool n1], c2, [.bool n3], c4, [.slice a5 rows5.length cap5], [.int .i64 n6], [.int .i64 n7], [.slice a8 rows8.length cap8], [.slice a9 rows9.length cap9], [.bool n10], [.slice a11 rows11.length cap11], [.bool n12]]).toArray) (t := 35) hr1)
  have h_c5 := h_c5.stays (im_more (c := (List.flatten [[.int .i64 n0], [.bool n1], c2, [.bool n3], c4, [.slice a5 rows5.length cap5], [.int .i64 n6], [.int .i64 n7], [.slice a8 rows8.length cap8], [.slice a9 rows9.length cap9], [.bool n10], [.slice a11 rows11.length cap11], [.bool n12]]).toArray) (t := 35) hr1)
  have h_c8 := h_c8.stays (im_more (c := (List.flatten [[.int .i64 n0], [.bool n1], c2, [.bool n3], c4, [.slice a5 rows5.length cap5], [.int .i64 n6], [.int .i64 n7], [.slice a8 rows8.length cap8], [.slice a9 rows9.length cap9], [.bool n10], [.slice a11 rows11.length cap11], [.bool n12]]).toArray) (t := 35) hr1)
  have h_c9 := h_c9.stays (im_more (c := (List.flatten [[.int .i64 n0], [.bool n1], c2, [.bool n3], c4, [.slice a5 rows5.length cap5], [.int .i64 n6], [.int .i64 n7], [.slice a8 rows8.length cap8], [.slice a9 rows9.length cap9], [.bool n10], [.slice a11 rows11.length cap11], [.bool n12]]).toArray) (t := 35) hr1)
  have h_c11 := h_c11.stays (im_more (c := (List.flatten [[.int .i64 n0], [.bool n1], c2, [.bool n3], c4, [.slice a5 rows5.length cap5], [.int .i64 n6], [.int .i64 n7], [.slice a8 rows8.length cap8], [.slice a9 rows9.length cap9], [.bool n10], [.slice a11 rows11.length cap11], [.bool n12]]).toArray) (t := 35) hr1)
  refine nx_list ?_
  refine nx_then ?_
  refine wc_seq ?_
  refine wc_region ?_
  refine wl_go 2 [(7, .pointer (some ⟨r1, 0, none⟩)), (6, .pointer (some ⟨b, 0, none⟩))] (by kernel_rfl) ?_
  refine wl_yl (d := 8) (v := .int .i64 n0) (by kernel_rfl) (yl_load (b := r1) (off := 0) 0 rfl (by kernel_rfl) rfl (readAt_seg1 0 rfl (by simp [l_c2, l_c4]) (by kernel_rfl))) ?_
  refine wl_callW (d := 9) (b := b) (s := s) (E := (encD (.int n0))) (bad := bad) (T := 130) (L' := [⟨r1, (List.flatten [[.int .i64 n0], [.bool n1], c2, [.bool n3], c4, [.slice a5 rows5.length cap5], [.int .i64 n6], [.int .i64 n7], [.slice a8 rows8.length cap8], [.slice a9 rows9.length cap9], [.bool n10], [.slice a11 rows11.length cap11], [.bool n12]]).toArray, 35⟩, ⟨b, #[.string (s ++ (encD (.int n0))), .bool bad, .bool true], 130⟩]) 1 (by kernel_rfl) (by kernel_rfl) rfl rfl (fun w1 h1 => (num_ok n0) w1 b s bad (.int .i64 n0) (h1.one 1 rfl) (by rw [Rd]) (szA hz)) ?_
  obtain ⟨s1, hs1⟩ : ∃ u_, u_ = s ++ (encD (.int n0)) := ⟨_, rfl⟩
  have hz := szB hz hs1
  rw [← hs1]
  refine nx_list ?_
  refine nx_then ?_
  refine wc_seq ?_
  refine wc_region ?_
  refine wl_go 2 [(11, .pointer (some ⟨r1, 1, none⟩)), (10, .pointer (some ⟨b, 0, none⟩))] (by kernel_rfl) ?_
  refine wl_yl (d := 12) (v := .bool n1) (by kernel_rfl) (yl_load (b := r1) (off := 1) 0 rfl (by kernel_rfl) rfl (readAt_seg1 1 rfl (by simp [l_c2, l_c4]) (by kernel_rfl))) ?_
  refine wl_callW (d := 13) (b := b) (s := s1) (E := (encD (.bool n1))) (bad := bad) (T := 130) (L' := [⟨r1, (List.flatten [[.int .i64 n0], [.bool n1], c2, [.bool n3], c4, [.slice a5 rows5.length cap5], [.int .i64 n6], [.int .i64 n7], [.slice a8 rows8.length cap8], [.slice a9 rows9.length cap9], [.bool n10], [.slice a11 rows11.length cap11], [.bool n12]]).toArray, 35⟩, ⟨b, #[.string (s1 ++ (encD (.bool n1))), .bool bad, .bool true], 130⟩]) 1 (by kernel_rfl) (by kernel_rfl) rfl rfl (fun w1 h1 => (flag_ok n1) w1 b s1 bad (.bool n1) (h1.one 1 rfl) (by rw [Rd]) (szA hz)) ?_
  obtain ⟨s2, hs2⟩ : ∃ u_, u_ = s1 ++ (encD (.bool n1)) := ⟨_, rfl⟩
  have hz := szB hz hs2
  rw [← hs2]
  refine nx_list ?_
  refine nx_then ?_
  refine wc_seq ?_
  refine wc_region ?_
  refine wl_go 2 [(15, .pointer (some ⟨r1, 2, none⟩)), (14, .pointer (some ⟨b, 0, none⟩))] (by kernel_rfl) ?_
  refine wl_yl (d := 16) (v := .agg (c2).toArray) (by kernel_rfl) (yl_load (b := r1) (off := 2) 0 rfl (by kernel_rfl) rfl (readAt_seg 2 rfl (by simp [l_c2, l_c4]) (by rw [l_c2]; kernel_rfl))) ?_
  refine wl_callW (d := 17) (b := b) (s := s2) (E := (encL d2)) (bad := bad) (T := 130) (L' := [⟨r1, (List.flatten [[.int .i64 n0], [.bool n1], c2, [.bool n3], c4, [.slice a5 rows5.length cap5], [.int .i64 n6], [.int .i64 n7], [.slice a8 rows8.length cap8], [.slice a9 rows9.length cap9], [.bool n10], [.slice a11 rows11.length cap11], [.bool n12]]).toArray, 35⟩, ⟨b, #[.string (s2 ++ (encL d2)), .bool bad, .bool true], 130⟩]) 1 (by kernel_rfl) (by kernel_rfl) rfl rfl (fun w1 h1 => (value_all d2 hf2) w1 b s2 bad c2 (h1.one 1 rfl) (h_c2.stays (h1.staysB (L0 := (⟨r1, (List.flatten [[.int .i64 n0], [.bool n1], c2, [.bool n3], c4, [.slice a5 rows5.length cap5], [.int .i64 n6], [.int .i64 n7], [.slice a8 rows8.length cap8], [.slice a9 rows9.length cap9], [.bool n10], [.slice a11 rows11.length cap11], [.bool n12]]).toArray, 35⟩ :: [⟨b, #[.string s, .bool bad, .bool true], 130⟩])) rfl 1 rfl)) (szA hz)) ?_
  obtain ⟨s3, hs3⟩ : ∃ u_, u_ = s2 ++ (encL d2) := ⟨_, rfl⟩
  have hz := szB hz hs3
  rw [← hs3]
  refine nx_list ?_
  refine nx_then ?_
  refine wc_seq ?_
  refine wc_region ?_
  refine wl_go 2 [(19, .pointer (some ⟨r1, 7, none⟩)), (18, .pointer (some ⟨b, 0, none⟩))] (by kernel_rfl) ?_
  refine wl_yl (d := 20) (v := .bool n3) (by kernel_rfl) (yl_load (b := r1) (off := 7) 0 rfl (by kernel_rfl) rfl (readAt_seg1 3 rfl (by simp [l_c2, l_c4]) (by kernel_rfl))) ?_
  refine wl_callW (d := 21) (b := b) (s := s3) (E := (encD (.bool n3))) (bad := bad) (T := 130) (L' := [⟨r1, (List.flatten [[.int .i64 n0], [.bool n1], c2, [.bool n3], c4, [.slice a5 rows5.length cap5], [.int .i64 n6], [.int .i64 n7], [.slice a8 rows8.length cap8], [.slice a9 rows9.length cap9], [.bool n10], [.slice a11 rows11.length cap11], [.bool n12]]).toArray, 35⟩, ⟨b, #[.string (s3 ++ (encD (.bool n3))), .bool bad, .bool true], 130⟩]) 1 (by kernel_rfl) (by kernel_rfl) rfl rfl (fun w1 h1 => (flag_ok n3) w1 b s3 bad (.bool n3) (h1.one 1 rfl) (by rw [Rd]) (szA hz)) ?_
  obtain ⟨s4, hs4⟩ : ∃ u_, u_ = s3 ++ (encD (.bool n3)) := ⟨_, rfl⟩
  have hz := szB hz hs4
  rw [← hs4]
  refine nx_list ?_
  refine nx_then ?_
  refine wc_seq ?_
  refine wc_region ?_
  refine wl_go 2 [(23, .pointer (some ⟨r1, 8, none⟩)), (22, .pointer (some ⟨b, 0, none⟩))] (by kernel_rfl) ?_
  refine wl_yl (d := 24) (v := .agg (c4).toArray) (by kernel_rfl) (yl_load (b := r1) (off := 8) 0 rfl (by kernel_rfl) rfl (readAt_seg 4 rfl (by simp [l_c2, l_c4]) (by rw [l_c4]; kernel_rfl))) ?_
  refine wl_callW (d := 25) (b := b) (s := s4) (E := (encL d4)) (bad := bad) (T := 130) (L' := [⟨r1, (List.flatten [[.int .i64 n0], [.bool n1], c2, [.bool n3], c4, [.slice a5 rows5.length cap5], [.int .i64 n6], [.int .i64 n7], [.slice a8 rows8.length cap8], [.slice a9 rows9.length cap9], [.bool n10], [.slice a11 rows11.length cap11], [.bool n12]]).toArray, 35⟩, ⟨b, #[.string (s4 ++ (encL d4)), .bool bad, .bool true], 130⟩]) 1 (by kernel_rfl) (by kernel_rfl) rfl rfl (fun w1 h1 => (value_all d4 hf4) w1 b s4 bad c4 (h1.one 1 rfl) (h_c4.stays (h1.staysB (L0 := (⟨r1, (List.flatten [[.int .i64 n0], [.bool n1], c2, [.bool n3], c4, [.slice a5 rows5.length cap5], [.int .i64 n6], [.int .i64 n7], [.slice a8 rows8.length cap8], [.slice a9 rows9.length cap9], [.bool n10], [.slice a11 rows11.length cap11], [.bool n12]]).toArray, 35⟩ :: [⟨b, #[.string s, .bool bad, .bool true], 130⟩])) rfl 1 rfl)) (szA hz)) ?_
  obtain ⟨s5, hs5⟩ : ∃ u_, u_ = s4 ++ (encL d4) := ⟨_, rfl⟩
  have hz := szB hz hs5
  rw [← hs5]
  refine nx_list ?_
  refine nx_then ?_
  refine wc_seq ?_
  refine wc_region ?_
  refine wl_go 2 [(27, .pointer (some ⟨r1, 13, none⟩)), (26, .pointer (some ⟨b, 0, none⟩))] (by kernel_rfl) ?_
  refine wl_yl (d := 28) (v := .slice a5 rows5.length cap5) (by kernel_rfl) (yl_load (b := r1) (off := 13) 0 rfl (by kernel_rfl) rfl (readAt_seg1 5 rfl (by simp [l_c2, l_c4]) (by kernel_rfl))) ?_
  refine wl_callW (d := 29) (b := b) (s := s5) (E := (encD (.sl rows5))) (bad := bad) (T := 130) (L' := [⟨r1, (List.flatten [[.int .i64 n0], [.bool n1], c2, [.bool n3], c4, [.slice a5 rows5.length cap5], [.int .i64 n6], [.int .i64 n7], [.slice a8 rows8.length cap8], [.slice a9 rows9.length cap9], [.bool n10], [.slice a11 rows11.length cap11], [.bool n12]]).toArray, 35⟩, ⟨b, #[.string (s5 ++ (encD (.sl rows5))), .bool bad, .bool true], 130⟩]) 1 (by kernel_rfl) (by kernel_rfl) rfl rfl (fun w1 h1 => (values_ok rows5 fR_rows5 b_rows5 (fun r hr => value_all r (fR_rows5.mem hr))) w1 b s5 bad (.slice a5 rows5.length cap5) (h1.one 1 rfl) (h_c5.stays (h1.staysB (L0 := (⟨r1, (List.flatten [[.int .i64 n0], [.bool n1], c2, [.bool n3], c4, [.slice a5 rows5.length cap5], [.int .i64 n6], [.int .i64 n7], [.slice a8 rows8.length cap8], [.slice a9 rows9.length cap9], [.bool n10], [.slice a11 rows11.length cap11], [.bool n12]]).toArray, 35⟩ :: [⟨b, #[.string s, .bool bad, .bool true], 130⟩])) rfl 1 rfl)) (szA hz)) ?_
  obtain ⟨s6, hs6⟩ : ∃ u_, u_ = s5 ++ (encD (.sl rows5)) := ⟨_, rfl⟩
  have hz := szB hz hs6
  rw [← hs6]
  refine nx_list ?_
  refine nx_then ?_
  refine wc_seq ?_
  refine wc_region ?_
  refine wl_go 2 [(31, .pointer (some ⟨r1, 14, none⟩)), (30, .pointer (some ⟨b, 0, none⟩))] (by kernel_rfl) ?_
  refine wl_yl (d := 32) (v := .int .i64 n6) (by kernel_rfl) (yl_load (b := r1) (off := 14) 0 rfl (by kernel_rfl) rfl (readAt_seg1 6 rfl (by simp [l_c2, l_c4]) (by kernel_rfl))) ?_
  refine wl_callW (d := 33) (b := b) (s := s6) (E := (encD (.int n6))) (bad := bad) (T := 130) (L' := [⟨r1, (List.flatten [[.int .i64 n0], [.bool n1], c2, [.bool n3], c4, [.slice a5 rows5.length cap5], [.int .i64 n6], [.int .i64 n7], [.slice a8 rows8.length cap8], [.slice a9 rows9.length cap9], [.bool n10], [.slice a11 rows11.length cap11], [.bool n12]]).toArray, 35⟩, ⟨b, #[.string (s6 ++ (encD (.int n6))), .bool bad, .bool true], 130⟩]) 1 (by kernel_rfl) (by kernel_rfl) rfl rfl (fun w1 h1 => (num_ok n6) w1 b s6 bad (.int .i64 n6) (h1.one 1 rfl) (by rw [Rd]) (szA hz)) ?_
  obtain ⟨s7, hs7⟩ : ∃ u_, u_ = s6 ++ (encD (.int n6)) := ⟨_, rfl⟩
  have hz := szB hz hs7
  rw [← hs7]
  refine nx_list ?_
  refine nx_then ?_
  refine wc_seq ?_
  refine wc_region ?_
  refine wl_go 2 [(35, .pointer (some ⟨r1, 15, none⟩)), (34, .pointer (some ⟨b, 0, none⟩))] (by kernel_rfl) ?_
  refine wl_yl (d := 36) (v := .int .i64 n7) (by kernel_rfl) (yl_load (b := r1) (off := 15) 0 rfl (by kernel_rfl) rfl (readAt_seg1 7 rfl (by simp [l_c2, l_c4]) (by kernel_rfl))) ?_
  refine wl_callW (d := 37) (b := b) (s := s7) (E := (encD (.int n7))) (bad := bad) (T := 130) (L' := [⟨r1, (List.flatten [[.int .i64 n0], [.bool n1], c2, [.bool n3], c4, [.slice a5 rows5.length cap5], [.int .i64 n6], [.int .i64 n7], [.slice a8 rows8.length cap8], [.slice a9 rows9.length cap9], [.bool n10], [.slice a11 rows11.length cap11], [.bool n12]]).toArray, 35⟩, ⟨b, #[.string (s7 ++ (encD (.int n7))), .bool bad, .bool true], 130⟩]) 1 (by kernel_rfl) (by kernel_rfl) rfl rfl (fun w1 h1 => (num_ok n7) w1 b s7 bad (.int .i64 n7) (h1.one 1 rfl) (by rw [Rd]) (szA hz)) ?_
  obtain ⟨s8, hs8⟩ : ∃ u_, u_ = s7 ++ (encD (.int n7)) := ⟨_, rfl⟩
  have hz := szB hz hs8
  rw [← hs8]
  refine nx_list ?_
  refine nx_then ?_
  refine wc_seq ?_
  refine wc_region ?_
  refine wl_go 2 [(39, .pointer (some ⟨r1, 16, none⟩)), (38, .pointer (some ⟨b, 0, none⟩))] (by kernel_rfl) ?_
  refine wl_yl (d := 40) (v := .slice a8 rows8.length cap8) (by kernel_rfl) (yl_load (b := r1) (off := 16) 0 rfl (by kernel_rfl) rfl (readAt_seg1 8 rfl (by simp [l_c2, l_c4]) (by kernel_rfl))) ?_
  refine wl_callW (d := 41) (b := b) (s := s8) (E := (encD (.sl rows8))) (bad := bad) (T := 130) (L' := [⟨r1, (List.flatten [[.int .i64 n0], [.bool n1], c2, [.bool n3], c4, [.slice a5 rows5.length cap5], [.int .i64 n6], [.int .i64 n7], [.slice a8 rows8.length cap8], [.slice a9 rows9.length cap9], [.bool n10], [.slice a11 rows11.length cap11], [.bool n12]]).toArray, 35⟩, ⟨b, #[.string (s8 ++ (encD (.sl rows8))), .bool bad, .bool true], 130⟩]) 1 (by kernel_rfl) (by kernel_rfl) rfl rfl (fun w1 h1 => (strs_ok rows8 fR_rows8 b_rows8) w1 b s8 bad (.slice a8 rows8.length cap8) (h1.one 1 rfl) (h_c8.stays (h1.staysB (L0 := (⟨r1, (List.flatten [[.int .i64 n0], [.bool n1], c2, [.bool n3], c4, [.slice a5 rows5.length cap5], [.int .i64 n6], [.int .i64 n7], [.slice a8 rows8.length cap8], [.slice a9 rows9.length cap9], [.bool n10], [.slice a11 rows11.length cap11], [.bool n12]]).toArray, 35⟩ :: [⟨b, #[.string s, .bool bad, .bool true], 130⟩])) rfl 1 rfl)) (szA hz)) ?_
  obtain ⟨s9, hs9⟩ : ∃ u_, u_ = s8 ++ (encD (.sl rows8)) := ⟨_, rfl⟩
  have hz := szB hz hs9
  rw [← hs9]
  refine nx_list ?_
  refine nx_then ?_
  refine wc_seq ?_
  refine wc_region ?_
  refine wl_go 2 [(43, .pointer (some ⟨r1, 17, none⟩)), (42, .pointer (some ⟨b, 0, none⟩))] (by kernel_rfl) ?_
  refine wl_yl (d := 44) (v := .slice a9 rows9.length cap9) (by kernel_rfl) (yl_load (b := r1) (off := 17) 0 rfl (by kernel_rfl) rfl (readAt_seg1 9 rfl (by simp [l_c2, l_c4]) (by kernel_rfl))) ?_
  refine wl_go 1 [(45, .int .i64 (rows9.length : Int))] (by kernel_rfl) ?_
  refine wl_callW (d := 46) (b := b) (s := s9) (E := (encD (.int (rows9.length : Int)))) (bad := bad) (T := 130) (L' := [⟨r1, (List.flatten [[.int .i64 n0], [.bool n1], c2, [.bool n3], c4, [.slice a5 rows5.length cap5], [.int .i64 n6], [.int .i64 n7], [.slice a8 rows8.length cap8], [.slice a9 rows9.length cap9], [.bool n10], [.slice a11 rows11.length cap11], [.bool n12]]).toArray, 35⟩, ⟨b, #[.string (s9 ++ (encD (.int (rows9.length : Int)))), .bool bad, .bool true], 130⟩]) 1 (by kernel_rfl) (by kernel_rfl) rfl rfl (fun w1 h1 => (num_ok (rows9.length : Int)) w1 b s9 bad (.int .i64 (rows9.length : Int)) (h1.one 1 rfl) (by rw [Rd]) (szA hz)) ?_
  obtain ⟨s10, hs10⟩ : ∃ u_, u_ = s9 ++ (encD (.int (rows9.length : Int))) := ⟨_, rfl⟩
  have hz := szB hz hs10
  rw [← hs10]
  refine nx_list ?_
  refine nx_then ?_
  refine wc_seq ?_
  refine wc_seq ?_
  refine wc_region ?_
  refine wl_go 1 [(4, .int .i64 0)] (by kernel_rfl) ?_
  refine nx_list ?_
  refine nx_then ?_
  refine wc_block ?_
  refine wc_loop (σ := { i : Nat // i ≤ rows9.length }) (fun x => [(0, .pointer (some ⟨b, 0, none⟩)), (3, .pointer (some ⟨r1, 0, none⟩)), (4, .int .i64 (x.1 : Int))]) (fun x => SH w [⟨r1, (List.flatten [[.int .i64 n0], [.bool n1], c2, [.bool n3], c4, [.slice a5 rows5.length cap5], [.int .i64 n6], [.int .i64 n7], [.slice a8 rows8.length cap8], [.slice a9 rows9.length cap9], [.bool n10], [.slice a11 rows11.length cap11], [.bool n12]]).toArray, 35⟩, ⟨b, #[.string (s10 ++ encR (rows9.take x.1)), .bool bad, .bool true], 130⟩]) (fun x => rows9.length - x.1) (fun w3 h3 => ⟨⟨0, Nat.zero_le _⟩, by simpa only [List.take_zero, encR, ByteArray.append_empty] using h3, (subEnv_cons (by kernel_rfl) (subEnv_cons (by kernel_rfl) (subEnv_cons (by kernel_rfl) (subEnv_nil _))))⟩) (fun x => ?_)
  refine wc_seq ?_
  refine wc_seq ?_
  refine wc_region ?_
  refine wl_go 2 [(48, .pointer (some ⟨r1, 17, none⟩)), (47, .int .i64 (x.1 : Int))] (by kernel_rfl) ?_
  refine wl_yl (d := 49) (v := .slice a9 rows9.length cap9) (by kernel_rfl) (yl_load (b := r1) (off := 17) 0 rfl (by kernel_rfl) rfl (readAt_seg1 9 rfl (by simp [l_c2, l_c4]) (by kernel_rfl))) ?_
  refine wl_go 2 [(51, .bool (decide ((x.1 : Int) < (rows9.length : Int)))), (50, .int .i64 (rows9.length : Int))] (by kernel_rfl) ?_
  refine nx_list ?_
  refine nx_then ?_
  refine wc_cond (decide ((x.1 : Int) < (rows9.length : Int))) (by kernel_rfl) (by kernel_rfl) (fun hc9 => ?_) (fun hc9 => ?_)
  · skip
    have hlt : x.1 < rows9.length := by simpa using hc9
    obtain ⟨r, hrow⟩ : ∃ r, rows9[x.1]? = some r := ⟨_, List.getElem?_eq_getElem hlt⟩
    have hfr := fR_rows9.get x.1 r hrow
    obtain ⟨g, off, cr, rfl, hIg, h_cr, l_cr, hrg⟩ := Rd.row_at (es := 22) h_c9 (fun r hr => fR_rows9.length r hr) hrow
    have hzr : (s10 ++ encR (rows9.take x.1)).size + (encL r).size ≤ 9223372036854775807 := by
      rw [ByteArray.size_append]
      have h8 := encR_room hrow
      omega
    obtain ⟨dr0, er0, rfl, hfr0, hftr0⟩ := FitL.cons (k := .str) (ks := shSchema) hfr
    obtain ⟨nr0, rfl, _⟩ := Fit.str hfr0
    have hfr1 := hftr0
    obtain ⟨cr0, zr0, rfl, h_cr0, hrdr0⟩ := RdL.cons h_cr
    rw [Rd] at h_cr0; subst h_cr0
    have h_zr0 := hrdr0
    have l_zr0 : zr0.length = 21 := h_zr0.length.symm.trans hfr1.length
    have hmem := List.mem_of_getElem? hrow
    have hz : (s10 ++ encR (rows9.take x.1)).size + ((encD (.str nr0)).size + ((encL er0).size + (0))) ≤ 9223372036854775807 := by
      have h9 := hzr
      simp only [encLs_cons] at h9
      rw [Nat.add_zero]
      exact h9
    refine nx_skip ?_
    refine nx_then ?_
    refine wc_seq ?_
    refine wc_block ?_
    refine wc_seq ?_
    refine wc_region ?_
    refine wl_go 2 [(55, .pointer (some ⟨r1, 17, none⟩)), (54, .pointer (some ⟨b, 0, none⟩))] (by kernel_rfl) ?_
    refine wl_yl (d := 56) (v := .slice (some ⟨g, off, none⟩) rows9.length cap9) (by kernel_rfl) (yl_load (b := r1) (off := 17) 0 rfl (by kernel_rfl) rfl (readAt_seg1 9 rfl (by simp [l_c2, l_c4]) (by kernel_rfl))) ?_
    refine wl_go 1 [(57, .int .i64 (x.1 : Int))] (by kernel_rfl) ?_
    refine wl_yl (d := 58) (v := .pointer (some ⟨g, off + x.1 * 22, none⟩)) (by kernel_rfl) (yl_index (E := 134) (b := g) (off := off) (len := rows9.length) (cap := cap9) (k := x.1) (es := 22) rfl (by kernel_rfl) (by kernel_rfl) (by kernel_rfl) (by omega)) ?_
    refine wl_go 1 [(59, .pointer (some ⟨g, off + x.1 * 22, none⟩))] (by kernel_rfl) ?_
    refine wl_yl (d := 60) (v := .string nr0) (by kernel_rfl) (yl_load_im (b := g) (off := off + x.1 * 22) (v := .string nr0) rfl (by kernel_rfl) (im_cong (L := (⟨r1, (List.flatten [[.int .i64 n0], [.bool n1], c2, [.bool n3], c4, [.slice a5 rows5.length cap5], [.int .i64 n6], [.int .i64 n7], [.slice a8 rows8.length cap8], [.slice (some ⟨g, off, none⟩) rows9.length cap9], [.bool n10], [.slice a11 rows11.length cap11], [.bool n12]]).toArray, 35⟩ :: [⟨b, #[.string s, .bool bad, .bool true], 130⟩])) (L' := [⟨r1, (List.flatten [[.int .i64 n0], [.bool n1], c2, [.bool n3], c4, [.slice a5 rows5.length cap5], [.int .i64 n6], [.int .i64 n7], [.slice a8 rows8.length cap8], [.slice (some ⟨g, off, none⟩) rows9.length cap9], [.bool n10], [.slice a11 rows11.length cap11], [.bool n12]]).toArray, 35⟩, ⟨b, #[.string (s10 ++ encR (rows9.take x.1)), .bool bad, .bool true], 130⟩]) rfl hIg) (by kernel_rfl) (hrg 0 _ rfl)) ?_
    refine wl_callW (d := 61) (b := b) (s := (s10 ++ encR (rows9.take x.1))) (E := (encD (.str nr0))) (bad := bad) (T := 130) (L' := [⟨r1, (List.flatten [[.int .i64 n0], [.bool n1], c2, [.bool n3], c4, [.slice a5 rows5.length cap5], [.int .i64 n6], [.int .i64 n7], [.slice a8 rows8.length cap8], [.slice (some ⟨g, off, none⟩) rows9.length cap9], [.bool n10], [.slice a11 rows11.length cap11], [.bool n12]]).toArray, 35⟩, ⟨b, #[.string ((s10 ++ encR (rows9.take x.1)) ++ (encD (.str nr0))), .bool bad, .bool true], 130⟩]) 1 (by kernel_rfl) (by kernel_rfl) rfl rfl (fun w1 h1 => (str_ok nr0) w1 b (s10 ++ encR (rows9.take x.1)) bad (.string nr0) (h1.one 1 rfl) (by rw [Rd]) (szA hz)) ?_
    obtain ⟨s11, hs11⟩ : ∃ u_, u_ = (s10 ++ encR (rows9.take x.1)) ++ (encD (.str nr0)) := ⟨_, rfl⟩
    have hz := szB hz hs11
    rw [← hs11]
    refine nx_list ?_
    refine nx_then ?_
    refine wc_region ?_
    refine wl_go 2 [(63, .pointer (some ⟨r1, 17, none⟩)), (62, .pointer (some ⟨b, 0, none⟩))] (by kernel_rfl) ?_
    refine wl_yl (d := 64) (v := .slice (some ⟨g, off, none⟩) rows9.length cap9) (by kernel_rfl) (yl_load (b := r1) (off := 17) 0 rfl (by kernel_rfl) rfl (readAt_seg1 9 rfl (by simp [l_c2, l_c4]) (by kernel_rfl))) ?_
    refine wl_go 1 [(65, .int .i64 (x.1 : Int))] (by kernel_rfl) ?_
    refine wl_yl (d := 66) (v := .pointer (some ⟨g, off + x.1 * 22, none⟩)) (by kernel_rfl) (yl_index (E := 134) (b := g) (off := off) (len := rows9.length) (cap := cap9) (k := x.1) (es := 22) rfl (by kernel_rfl) (by kernel_rfl) (by kernel_rfl) (by omega)) ?_
    refine wl_go 1 [(67, .pointer (some ⟨g, off + x.1 * 22 + 1, none⟩))] (by kernel_rfl) ?_
    refine wl_yl (d := 68) (v := .agg (zr0).toArray) (by kernel_rfl) (yl_loads_im (b := g) (off := off + x.1 * 22 + 1) (cs := zr0) rfl (by kernel_rfl) (im_cong (L := (⟨r1, (List.flatten [[.int .i64 n0], [.bool n1], c2, [.bool n3], c4, [.slice a5 rows5.length cap5], [.int .i64 n6], [.int .i64 n7], [.slice a8 rows8.length cap8], [.slice (some ⟨g, off, none⟩) rows9.length cap9], [.bool n10], [.slice a11 rows11.length cap11], [.bool n12]]).toArray, 35⟩ :: [⟨b, #[.string s, .bool bad, .bool true], 130⟩])) (L' := [⟨r1, (List.flatten [[.int .i64 n0], [.bool n1], c2, [.bool n3], c4, [.slice a5 rows5.length cap5], [.int .i64 n6], [.int .i64 n7], [.slice a8 rows8.length cap8], [.slice (some ⟨g, off, none⟩) rows9.length cap9], [.bool n10], [.slice a11 rows11.length cap11], [.bool n12]]).toArray, 35⟩, ⟨b, #[.string s11, .bool bad, .bool true], 130⟩]) rfl hIg) (by rw [l_zr0]; kernel_rfl) (range_sub (a := [.string nr0]) hrg rfl)) ?_
    refine wl_callW (d := 69) (b := b) (s := s11) (E := (encL er0)) (bad := bad) (T := 130) (L' := [⟨r1, (List.flatten [[.int .i64 n0], [.bool n1], c2, [.bool n3], c4, [.slice a5 rows5.length cap5], [.int .i64 n6], [.int .i64 n7], [.slice a8 rows8.length cap8], [.slice (some ⟨g, off, none⟩) rows9.length cap9], [.bool n10], [.slice a11 rows11.length cap11], [.bool n12]]).toArray, 35⟩, ⟨b, #[.string (s11 ++ (encL er0)), .bool bad, .bool true], 130⟩]) 1 (by kernel_rfl) (by kernel_rfl) rfl rfl (fun w1 h1 => (ih er0 (by have := szR_mem hmem; simp only [szL, szL_append, D.sz] at *; omega) hfr1) w1 b s11 bad zr0 (h1.one 1 rfl) (h_zr0.stays (h1.staysB (L0 := (⟨r1, (List.flatten [[.int .i64 n0], [.bool n1], c2, [.bool n3], c4, [.slice a5 rows5.length cap5], [.int .i64 n6], [.int .i64 n7], [.slice a8 rows8.length cap8], [.slice (some ⟨g, off, none⟩) rows9.length cap9], [.bool n10], [.slice a11 rows11.length cap11], [.bool n12]]).toArray, 35⟩ :: [⟨b, #[.string s, .bool bad, .bool true], 130⟩])) rfl 1 rfl)) (szA hz)) ?_
    obtain ⟨s12, hs12⟩ : ∃ u_, u_ = s11 ++ (encL er0) := ⟨_, rfl⟩
    have hz := szB hz hs12
    rw [← hs12]
    refine nx_list ?_
    refine nx_block ?_
    refine nx_then ?_
    refine wc_region ?_
    refine wl_go 1 [(52, .int .i64 (x.1 : Int))] (by kernel_rfl) ?_
    refine wl_yl (d := 53) (v := .int .i64 ((x.1 : Int) + 1)) (by kernel_rfl) (yl_int (t := (x.1 : Int) + 1) (r := (x.1 : Int) + 1) (by kernel_rfl) (i64w (by omega) (by omega))) ?_
    refine wl_go 1 [(4, .int .i64 ((x.1 : Int) + 1))] (by kernel_rfl) ?_
    refine nx_list ?_
    have hfin : s12 = s10 ++ encR (rows9.take (x.1 + 1)) := by
      rw [encR_take hrow, hs12, hs11]
      simp only [encL_append, encL, encD, ByteArray.append_assoc, ByteArray.append_empty]
    rw [hfin]
    refine nx_round (y := ⟨x.1 + 1, hlt⟩) (show rows9.length - (x.1 + 1) < rows9.length - x.1 by omega) (subEnv_cons (by kernel_rfl) (subEnv_cons (by kernel_rfl) (subEnv_cons (by kernel_rfl) (subEnv_nil _)))) (fun w h => h)
  · skip
    have hge : rows9.length ≤ x.1 := by simpa using hc9
    obtain ⟨s13, hs13⟩ : ∃ u_, u_ = s10 ++ encR rows9 := ⟨_, rfl⟩
    have hz := szB hz hs13
    rw [List.take_of_length_le hge, ← hs13]
    refine nx_exit ?_
    refine nx_then_exit ?_
    refine nx_then_exit ?_
    refine nx_block_here ?_
    refine nx_then ?_
    refine wc_seq ?_
    refine wc_region ?_
    refine wl_go 2 [(71, .pointer (some ⟨r1, 18, none⟩)), (70, .pointer (some ⟨b, 0, none⟩))] (by kernel_rfl) ?_
    refine wl_yl (d := 72) (v := .bool n10) (by kernel_rfl) (yl_load (b := r1) (off := 18) 0 rfl (by kernel_rfl) rfl (readAt_seg1 10 rfl (by simp [l_c2, l_c4]) (by kernel_rfl))) ?_
    refine wl_callW (d := 73) (b := b) (s := s13) (E := (encD (.bool n10))) (bad := bad) (T := 130) (L' := [⟨r1, (List.flatten [[.int .i64 n0], [.bool n1], c2, [.bool n3], c4, [.slice a5 rows5.length cap5], [.int .i64 n6], [.int .i64 n7], [.slice a8 rows8.length cap8], [.slice a9 rows9.length cap9], [.bool n10], [.slice a11 rows11.length cap11], [.bool n12]]).toArray, 35⟩, ⟨b, #[.string (s13 ++ (encD (.bool n10))), .bool bad, .bool true], 130⟩]) 1 (by kernel_rfl) (by kernel_rfl) rfl rfl (fun w1 h1 => (flag_ok n10) w1 b s13 bad (.bool n10) (h1.one 1 rfl) (by rw [Rd]) (szA hz)) ?_
    obtain ⟨s14, hs14⟩ : ∃ u_, u_ = s13 ++ (encD (.bool n10)) := ⟨_, rfl⟩
    have hz := szB hz hs14
    rw [← hs14]
    refine nx_list ?_
    refine nx_then ?_
    refine wc_seq ?_
    refine wc_region ?_
    refine wl_go 2 [(75, .pointer (some ⟨r1, 19, none⟩)), (74, .pointer (some ⟨b, 0, none⟩))] (by kernel_rfl) ?_
    refine wl_yl (d := 76) (v := .slice a11 rows11.length cap11) (by kernel_rfl) (yl_load (b := r1) (off := 19) 0 rfl (by kernel_rfl) rfl (readAt_seg1 11 rfl (by simp [l_c2, l_c4]) (by kernel_rfl))) ?_
    refine wl_go 1 [(77, .int .i64 (rows11.length : Int))] (by kernel_rfl) ?_
    refine wl_callW (d := 78) (b := b) (s := s14) (E := (encD (.int (rows11.length : Int)))) (bad := bad) (T := 130) (L' := [⟨r1, (List.flatten [[.int .i64 n0], [.bool n1], c2, [.bool n3], c4, [.slice a5 rows5.length cap5], [.int .i64 n6], [.int .i64 n7], [.slice a8 rows8.length cap8], [.slice a9 rows9.length cap9], [.bool n10], [.slice a11 rows11.length cap11], [.bool n12]]).toArray, 35⟩, ⟨b, #[.string (s14 ++ (encD (.int (rows11.length : Int)))), .bool bad, .bool true], 130⟩]) 1 (by kernel_rfl) (by kernel_rfl) rfl rfl (fun w1 h1 => (num_ok (rows11.length : Int)) w1 b s14 bad (.int .i64 (rows11.length : Int)) (h1.one 1 rfl) (by rw [Rd]) (szA hz)) ?_
    obtain ⟨s15, hs15⟩ : ∃ u_, u_ = s14 ++ (encD (.int (rows11.length : Int))) := ⟨_, rfl⟩
    have hz := szB hz hs15
    rw [← hs15]
    refine nx_list ?_
    refine nx_then ?_
    refine wc_seq ?_
    refine wc_seq ?_
    refine wc_region ?_
    refine wl_go 1 [(5, .int .i64 0)] (by kernel_rfl) ?_
    refine nx_list ?_
    refine nx_then ?_
    refine wc_block ?_
    refine wc_loop (σ := { i : Nat // i ≤ rows11.length }) (fun x => [(0, .pointer (some ⟨b, 0, none⟩)), (3, .pointer (some ⟨r1, 0, none⟩)), (5, .int .i64 (x.1 : Int))]) (fun x => SH w [⟨r1, (List.flatten [[.int .i64 n0], [.bool n1], c2, [.bool n3], c4, [.slice a5 rows5.length cap5], [.int .i64 n6], [.int .i64 n7], [.slice a8 rows8.length cap8], [.slice a9 rows9.length cap9], [.bool n10], [.slice a11 rows11.length cap11], [.bool n12]]).toArray, 35⟩, ⟨b, #[.string (s15 ++ encR (rows11.take x.1)), .bool bad, .bool true], 130⟩]) (fun x => rows11.length - x.1) (fun w3 h3 => ⟨⟨0, Nat.zero_le _⟩, by simpa only [List.take_zero, encR, ByteArray.append_empty] using h3, (subEnv_cons (by kernel_rfl) (subEnv_cons (by kernel_rfl) (subEnv_cons (by kernel_rfl) (subEnv_nil _))))⟩) (fun x => ?_)
    refine wc_seq ?_
    refine wc_seq ?_
    refine wc_region ?_
    refine wl_go 2 [(80, .pointer (some ⟨r1, 19, none⟩)), (79, .int .i64 (x.1 : Int))] (by kernel_rfl) ?_
    refine wl_yl (d := 81) (v := .slice a11 rows11.length cap11) (by kernel_rfl) (yl_load (b := r1) (off := 19) 0 rfl (by kernel_rfl) rfl (readAt_seg1 11 rfl (by simp [l_c2, l_c4]) (by kernel_rfl))) ?_
    refine wl_go 2 [(83, .bool (decide ((x.1 : Int) < (rows11.length : Int)))), (82, .int .i64 (rows11.length : Int))] (by kernel_rfl) ?_
    refine nx_list ?_
    refine nx_then ?_
    refine wc_cond (decide ((x.1 : Int) < (rows11.length : Int))) (by kernel_rfl) (by kernel_rfl) (fun hc11 => ?_) (fun hc11 => ?_)
    · skip
      have hlt : x.1 < rows11.length := by simpa using hc11
      obtain ⟨r, hrow⟩ : ∃ r, rows11[x.1]? = some r := ⟨_, List.getElem?_eq_getElem hlt⟩
      have hfr := fR_rows11.get x.1 r hrow
      obtain ⟨g, off, cr, rfl, hIg, h_cr, l_cr, hrg⟩ := Rd.row_at (es := 21) h_c11 (fun r hr => fR_rows11.length r hr) hrow
      have hzr : (s15 ++ encR (rows11.take x.1)).size + (encL r).size ≤ 9223372036854775807 := by
        rw [ByteArray.size_append]
        have h8 := encR_room hrow
        omega
      have hmem := List.mem_of_getElem? hrow
      have hz : (s15 ++ encR (rows11.take x.1)).size + ((encL r).size + (0)) ≤ 9223372036854775807 := by rw [Nat.add_zero]; exact hzr
      refine nx_skip ?_
      refine nx_then ?_
      refine wc_seq ?_
      refine wc_block ?_
      refine wc_region ?_
      refine wl_go 2 [(87, .pointer (some ⟨r1, 19, none⟩)), (86, .pointer (some ⟨b, 0, none⟩))] (by kernel_rfl) ?_
      refine wl_yl (d := 88) (v := .slice (some ⟨g, off, none⟩) rows11.length cap11) (by kernel_rfl) (yl_load (b := r1) (off := 19) 0 rfl (by kernel_rfl) rfl (readAt_seg1 11 rfl (by simp [l_c2, l_c4]) (by kernel_rfl))) ?_
      refine wl_go 1 [(89, .int .i64 (x.1 : Int))] (by kernel_rfl) ?_
      refine wl_yl (d := 90) (v := .pointer (some ⟨g, off + x.1 * 21, none⟩)) (by kernel_rfl) (yl_index (E := 35) (b := g) (off := off) (len := rows11.length) (cap := cap11) (k := x.1) (es := 21) rfl (by kernel_rfl) (by kernel_rfl) (by kernel_rfl) (by omega)) ?_
      refine wl_yl (d := 91) (v := .agg (cr).toArray) (by kernel_rfl) (yl_loads_im (b := g) (off := off + x.1 * 21) (cs := cr) rfl (by kernel_rfl) (im_cong (L := (⟨r1, (List.flatten [[.int .i64 n0], [.bool n1], c2, [.bool n3], c4, [.slice a5 rows5.length cap5], [.int .i64 n6], [.int .i64 n7], [.slice a8 rows8.length cap8], [.slice a9 rows9.length cap9], [.bool n10], [.slice (some ⟨g, off, none⟩) rows11.length cap11], [.bool n12]]).toArray, 35⟩ :: [⟨b, #[.string s, .bool bad, .bool true], 130⟩])) (L' := [⟨r1, (List.flatten [[.int .i64 n0], [.bool n1], c2, [.bool n3], c4, [.slice a5 rows5.length cap5], [.int .i64 n6], [.int .i64 n7], [.slice a8 rows8.length cap8], [.slice a9 rows9.length cap9], [.bool n10], [.slice (some ⟨g, off, none⟩) rows11.length cap11], [.bool n12]]).toArray, 35⟩, ⟨b, #[.string (s15 ++ encR (rows11.take x.1)), .bool bad, .bool true], 130⟩]) rfl hIg) (by rw [l_cr]; kernel_rfl) hrg) ?_
      refine wl_callW (d := 92) (b := b) (s := (s15 ++ encR (rows11.take x.1))) (E := (encL r)) (bad := bad) (T := 130) (L' := [⟨r1, (List.flatten [[.int .i64 n0], [.bool n1], c2, [.bool n3], c4, [.slice a5 rows5.length cap5], [.int .i64 n6], [.int .i64 n7], [.slice a8 rows8.length cap8], [.slice a9 rows9.length cap9], [.bool n10], [.slice (some ⟨g, off, none⟩) rows11.length cap11], [.bool n12]]).toArray, 35⟩, ⟨b, #[.string ((s15 ++ encR (rows11.take x.1)) ++ (encL r)), .bool bad, .bool true], 130⟩]) 1 (by kernel_rfl) (by kernel_rfl) rfl rfl (fun w1 h1 => (ih r (by have := szR_mem hmem; simp only [szL, szL_append, D.sz] at *; omega) hfr) w1 b (s15 ++ encR (rows11.take x.1)) bad cr (h1.one 1 rfl) (h_cr.stays (h1.staysB (L0 := (⟨r1, (List.flatten [[.int .i64 n0], [.bool n1], c2, [.bool n3], c4, [.slice a5 rows5.length cap5], [.int .i64 n6], [.int .i64 n7], [.slice a8 rows8.length cap8], [.slice a9 rows9.length cap9], [.bool n10], [.slice (some ⟨g, off, none⟩) rows11.length cap11], [.bool n12]]).toArray, 35⟩ :: [⟨b, #[.string s, .bool bad, .bool true], 130⟩])) rfl 1 rfl)) (szA hz)) ?_
      obtain ⟨s16, hs16⟩ : ∃ u_, u_ = (s15 ++ encR (rows11.take x.1)) ++ (encL r) := ⟨_, rfl⟩
      have hz := szB hz hs16
      rw [← hs16]
      refine nx_list ?_
      refine nx_block ?_
      refine nx_then ?_
      refine wc_region ?_
      refine wl_go 1 [(84, .int .i64 (x.1 : Int))] (by kernel_rfl) ?_
      refine wl_yl (d := 85) (v := .int .i64 ((x.1 : Int) + 1)) (by kernel_rfl) (yl_int (t := (x.1 : Int) + 1) (r := (x.1 : Int) + 1) (by kernel_rfl) (i64w (by omega) (by omega))) ?_
      refine wl_go 1 [(5, .int .i64 ((x.1 : Int) + 1))] (by kernel_rfl) ?_
      refine nx_list ?_
      have hfin : s16 = s15 ++ encR (rows11.take (x.1 + 1)) := by
        rw [encR_take hrow, hs16]
        simp only [encL_append, encL, encD, ByteArray.append_assoc, ByteArray.append_empty]
      rw [hfin]
      refine nx_round (y := ⟨x.1 + 1, hlt⟩) (show rows11.length - (x.1 + 1) < rows11.length - x.1 by omega) (subEnv_cons (by kernel_rfl) (subEnv_cons (by kernel_rfl) (subEnv_cons (by kernel_rfl) (subEnv_nil _)))) (fun w h => h)
    · skip
      have hge : rows11.length ≤ x.1 := by simpa using hc11
      obtain ⟨s17, hs17⟩ : ∃ u_, u_ = s15 ++ encR rows11 := ⟨_, rfl⟩
      have hz := szB hz hs17
      rw [List.take_of_length_le hge, ← hs17]
      refine nx_exit ?_
      refine nx_then_exit ?_
      refine nx_then_exit ?_
      refine nx_block_here ?_
      refine nx_then ?_
      refine wc_region ?_
      refine wl_go 2 [(94, .pointer (some ⟨r1, 20, none⟩)), (93, .pointer (some ⟨b, 0, none⟩))] (by kernel_rfl) ?_
      refine wl_yl (d := 95) (v := .bool n12) (by kernel_rfl) (yl_load (b := r1) (off := 20) 0 rfl (by kernel_rfl) rfl (readAt_seg1 12 rfl (by simp [l_c2, l_c4]) (by kernel_rfl))) ?_
      refine wl_callW (d := 96) (b := b) (s := s17) (E := (encD (.bool n12))) (bad := bad) (T := 130) (L' := [⟨r1, (List.flatten [[.int .i64 n0], [.bool n1], c2, [.bool n3], c4, [.slice a5 rows5.length cap5], [.int .i64 n6], [.int .i64 n7], [.slice a8 rows8.length cap8], [.slice a9 rows9.length cap9], [.bool n10], [.slice a11 rows11.length cap11], [.bool n12]]).toArray, 35⟩, ⟨b, #[.string (s17 ++ (encD (.bool n12))), .bool bad, .bool true], 130⟩]) 1 (by kernel_rfl) (by kernel_rfl) rfl rfl (fun w1 h1 => (flag_ok n12) w1 b s17 bad (.bool n12) (h1.one 1 rfl) (by rw [Rd]) (szA hz)) ?_
      obtain ⟨s18, hs18⟩ : ∃ u_, u_ = s17 ++ (encD (.bool n12)) := ⟨_, rfl⟩
      have hz := szB hz hs18
      rw [← hs18]
      refine nx_list ?_
      refine end_none rfl ?_
      intro w' hw'
      have hfin : s18 = s ++ E := by
        rw [hE, hs18, hs17, hs15, hs14, hs13, hs10, hs9, hs8, hs7, hs6, hs5, hs4, hs3, hs2, hs1]
        simp only [encL_append, encL, encD, ByteArray.append_assoc, ByteArray.append_empty]
      rw [hfin] at hw'
      exact ⟨rfl, hw'.tail hr1⟩

theorem schema_all (ds : List D) (hfit : FitL sh by_ ds shSchema) : WS Try.prog 76 130 ds := by
  have key : ∀ (m : Nat) (ds : List D), szL ds < m → FitL sh by_ ds shSchema → WS Try.prog 76 130 ds := by
    intro m
    induction m with
    | zero => intro ds h; omega
    | succ m ih => intro ds h hf; exact schema_step ds hf (fun r hr hfr => ih r (by omega) hfr)
  exact key _ ds (Nat.lt_succ_self _) hfit

end Go.Proofs.Ytidkaipijocjcaa
