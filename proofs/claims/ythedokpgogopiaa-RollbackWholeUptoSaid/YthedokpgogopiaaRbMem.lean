/- Contracts of copyMember and Cut of package rollback, printed by a program of this repository (gen/rbcut.py). -/
import Derived.Test.YthedokpgogopiaaRbCopy
import Derived.Test.YthedokpgogopiaaSl
namespace Go.Proofs.Ythedokpgogopiaa
open Go.RowKit Go.Sx
set_option linter.unusedVariables false
set_option linter.unusedSimpArgs false

def shMember : List K := [.int, .int, .int, .int, .int, .int, .int, .int, .sl 13, .int, .sl 3, .sl 3]
def zv61 : Value := .agg #[.int .i64 0, .int .i64 0, .int .i64 0, .slice none 0 0]
theorem dropB {rs : List (List D)} {k m B : Nat} (h : rs.length * m ≤ B) : (rs.drop k).length * m ≤ B := by rw [List.length_drop]; exact Nat.le_trans (Nat.mul_le_mul_right _ (Nat.sub_le _ _)) h
theorem takeB {rs : List (List D)} {k m B : Nat} (h : rs.length * m ≤ B) : (rs.take k).length * m ≤ B := by rw [List.length_take]; exact Nat.le_trans (Nat.mul_le_mul_right _ (Nat.min_le_right _ _)) h
theorem FitR.take {sh : Nat → List K} {by_ : Nat → Nat} {rs : List (List D)} {ks : List K} (h : FitR sh by_ rs ks) (k : Nat) : FitR sh by_ (rs.take k) ks := FitR.of (fun r hr => h.mem (List.mem_of_mem_take hr))
theorem FitR.drop {sh : Nat → List K} {by_ : Nat → Nat} {rs : List (List D)} {ks : List K} (h : FitR sh by_ rs ks) (k : Nat) : FitR sh by_ (rs.drop k) ks := FitR.of (fun r hr => h.mem (List.mem_of_mem_drop hr))
theorem mem_fit (n0 n1 n2 n3 n4 n5 n6 n7 n9 : Int) (rows8 rows10 rows11 : List (List D)) (hn : ∀ x ∈ [n0, n1, n2, n3, n4, n5, n6, n7, n9], -9223372036854775808 ≤ x ∧ x ≤ 9223372036854775807)
    (fR8 : FitR sh by_ rows8 (sh 13)) (b8 : rows8.length * 1208 ≤ 140737488355328) (fR10 : FitR sh by_ rows10 (sh 3)) (b10 : rows10.length * 8 ≤ 140737488355328) (fR11 : FitR sh by_ rows11 (sh 3)) (b11 : rows11.length * 8 ≤ 140737488355328) :
    FitL sh by_ [.int n0, .int n1, .int n2, .int n3, .int n4, .int n5, .int n6, .int n7, .sl rows8, .int n9, .sl rows10, .sl rows11] shMember := by
  simp only [List.mem_cons, List.not_mem_nil, or_false, forall_eq_or_imp, forall_eq] at hn
  obtain ⟨h0, h1, h2, h3, h4, h5, h6, h7, h9⟩ := hn
  simp only [shMember, FitL.cons_iff, FitL.nil_iff, Fit.int_iff, Fit.sl_iff]
  exact ⟨h0, h1, h2, h3, h4, h5, h6, h7, ⟨b8, fR8⟩, h9, ⟨b10, fR10⟩, ⟨b11, fR11⟩, trivial⟩
theorem copyMember_step (ds : List D) (hfit : FitL sh by_ ds shMember) : CopyS Try.prog 23 ds := by
  intro w S cs hrdS
  have hrd := hrdS.im
  have hbel := Below.refl w.heap.size w
  obtain ⟨d0, e0, rfl, hf0, hft0⟩ := FitL.cons (k := .int) (ks := [.int] ++ [.int] ++ [.int] ++ [.int] ++ [.int] ++ [.int] ++ [.int] ++ [.sl 13] ++ [.int] ++ [.sl 3] ++ [.sl 3]) hfit
  obtain ⟨n0, rfl, _⟩ := Fit.int hf0
  obtain ⟨d1, e1, rfl, hf1, hft1⟩ := FitL.cons (k := .int) (ks := [.int] ++ [.int] ++ [.int] ++ [.int] ++ [.int] ++ [.int] ++ [.sl 13] ++ [.int] ++ [.sl 3] ++ [.sl 3]) hft0
  obtain ⟨n1, rfl, _⟩ := Fit.int hf1
  obtain ⟨d2, e2, rfl, hf2, hft2⟩ := FitL.cons (k := .int) (ks := [.int] ++ [.int] ++ [.int] ++ [.int] ++ [.int] ++ [.sl 13] ++ [.int] ++ [.sl 3] ++ [.sl 3]) hft1
  obtain ⟨n2, rfl, _⟩ := Fit.int hf2
  obtain ⟨d3, e3, rfl, hf3, hft3⟩ := FitL.cons (k := .int) (ks := [.int] ++ [.int] ++ [.int] ++ [.int] ++ [.sl 13] ++ [.int] ++ [.sl 3] ++ [.sl 3]) hft2
  obtain ⟨n3, rfl, _⟩ := Fit.int hf3
  obtain ⟨d4, e4, rfl, hf4, hft4⟩ := FitL.cons (k := .int) (ks := [.int] ++ [.int] ++ [.int] ++ [.sl 13] ++ [.int] ++ [.sl 3] ++ [.sl 3]) hft3
  obtain ⟨n4, rfl, _⟩ := Fit.int hf4
  obtain ⟨d5, e5, rfl, hf5, hft5⟩ := FitL.cons (k := .int) (ks := [.int] ++ [.int] ++ [.sl 13] ++ [.int] ++ [.sl 3] ++ [.sl 3]) hft4
  obtain ⟨n5, rfl, _⟩ := Fit.int hf5
  obtain ⟨d6, e6, rfl, hf6, hft6⟩ := FitL.cons (k := .int) (ks := [.int] ++ [.sl 13] ++ [.int] ++ [.sl 3] ++ [.sl 3]) hft5
  obtain ⟨n6, rfl, _⟩ := Fit.int hf6
  obtain ⟨d7, e7, rfl, hf7, hft7⟩ := FitL.cons (k := .int) (ks := [.sl 13] ++ [.int] ++ [.sl 3] ++ [.sl 3]) hft6
  obtain ⟨n7, rfl, _⟩ := Fit.int hf7
  obtain ⟨d8, e8, rfl, hf8, hft8⟩ := FitL.cons (k := .sl 13) (ks := [.int] ++ [.sl 3] ++ [.sl 3]) hft7
  obtain ⟨rows8, rfl, b_rows8, fR_rows8⟩ := Fit.sl hf8
  have b_rows8 : rows8.length * 1208 ≤ 140737488355328 := b_rows8
  obtain ⟨d9, e9, rfl, hf9, hft9⟩ := FitL.cons (k := .int) (ks := [.sl 3] ++ [.sl 3]) hft8
  obtain ⟨n9, rfl, _⟩ := Fit.int hf9
  obtain ⟨d10, e10, rfl, hf10, hft10⟩ := FitL.cons (k := .sl 3) (ks := [.sl 3]) hft9
  obtain ⟨rows10, rfl, b_rows10, fR_rows10⟩ := Fit.sl hf10
  have b_rows10 : rows10.length * 8 ≤ 140737488355328 := b_rows10
  obtain ⟨d11, e11, rfl, hf11, hft11⟩ := FitL.cons (k := .sl 3) (ks := []) hft10
  obtain ⟨rows11, rfl, b_rows11, fR_rows11⟩ := Fit.sl hf11
  have b_rows11 : rows11.length * 8 ≤ 140737488355328 := b_rows11
  obtain rfl := FitL.nil hft11
  obtain ⟨c0, z0, rfl, h_c0, hrd0⟩ := RdL.cons hrd
  obtain ⟨c1, z1, rfl, h_c1, hrd1⟩ := RdL.cons hrd0
  obtain ⟨c2, z2, rfl, h_c2, hrd2⟩ := RdL.cons hrd1
  obtain ⟨c3, z3, rfl, h_c3, hrd3⟩ := RdL.cons hrd2
  obtain ⟨c4, z4, rfl, h_c4, hrd4⟩ := RdL.cons hrd3
  obtain ⟨c5, z5, rfl, h_c5, hrd5⟩ := RdL.cons hrd4
  obtain ⟨c6, z6, rfl, h_c6, hrd6⟩ := RdL.cons hrd5
  obtain ⟨c7, z7, rfl, h_c7, hrd7⟩ := RdL.cons hrd6
  obtain ⟨c8, z8, rfl, h_c8, hrd8⟩ := RdL.cons hrd7
  obtain ⟨c9, z9, rfl, h_c9, hrd9⟩ := RdL.cons hrd8
  obtain ⟨c10, z10, rfl, h_c10, hrd10⟩ := RdL.cons hrd9
  obtain ⟨c11, z11, rfl, h_c11, hrd11⟩ := RdL.cons hrd10
  obtain rfl := RdL.nil hrd11
  rw [show c0 :: (c1 :: (c2 :: (c3 :: (c4 :: (c5 :: (c6 :: (c7 :: (c8 :: (c9 :: (c10 :: (c11 :: ([])))))))))))) = List.flatten [[c0], [c1], [c2], [c3], [c4], [c5], [c6], [c7], [c8], [c9], [c10], [c11]] from by simp]
  refine Sx.enter (l := [.agg (List.flatten [[c0], [c1], [c2], [c3], [c4], [c5], [c6], [c7], [c8], [c9], [c10], [c11]]).toArray]) Try.func23 rfl (n := 16) rfl (by simp) ?_
  refine wc_eq (S := SH w []) (SH.refl _) ?_
  refine wc_seq ?_
  refine wc_region ?_
  refine wl_new (d := 1) (List.flatten [[c0], [c1], [c2], [c3], [c4], [c5], [c6], [c7], [c8], [c9], [c10], [c11]]).toArray 59 (fun r => .pointer (some ⟨r, 0, none⟩)) (by kernel_rfl) (fun r => by kernel_rfl) ?_
  intro r1 hr1
  have h_c8 := h_c8.stays (im_more (c := (List.flatten [[c0], [c1], [c2], [c3], [c4], [c5], [c6], [c7], [c8], [c9], [c10], [c11]]).toArray) (t := 59) hr1)
  have h_c10 := h_c10.stays (im_more (c := (List.flatten [[c0], [c1], [c2], [c3], [c4], [c5], [c6], [c7], [c8], [c9], [c10], [c11]]).toArray) (t := 59) hr1)
  have h_c11 := h_c11.stays (im_more (c := (List.flatten [[c0], [c1], [c2], [c3], [c4], [c5], [c6], [c7], [c8], [c9], [c10], [c11]]).toArray) (t := 59) hr1)
  refine wl_new (d := 2) #[.int .i64 0, .int .i64 0, .int .i64 0, .int .i64 0, .int .i64 0, .int .i64 0, .int .i64 0, .int .i64 0, .slice none 0 0, .int .i64 0, .slice none 0 0, .slice none 0 0] 59 (fun r => .pointer (some ⟨r, 0, none⟩)) (by kernel_rfl) (fun r => by kernel_rfl) ?_
  intro r2 hr2
  have h_c8 := h_c8.stays (im_more (c := #[.int .i64 0, .int .i64 0, .int .i64 0, .int .i64 0, .int .i64 0, .int .i64 0, .int .i64 0, .int .i64 0, .slice none 0 0, .int .i64 0, .slice none 0 0, .slice none 0 0]) (t := 59) hr2)
  have h_c10 := h_c10.stays (im_more (c := #[.int .i64 0, .int .i64 0, .int .i64 0, .int .i64 0, .int .i64 0, .int .i64 0, .int .i64 0, .int .i64 0, .slice none 0 0, .int .i64 0, .slice none 0 0, .slice none 0 0]) (t := 59) hr2)
  have h_c11 := h_c11.stays (im_more (c := #[.int .i64 0, .int .i64 0, .int .i64 0, .int .i64 0, .int .i64 0, .int .i64 0, .int .i64 0, .int .i64 0, .slice none 0 0, .int .i64 0, .slice none 0 0, .slice none 0 0]) (t := 59) hr2)
  refine nx_list ?_
  refine nx_then ?_
  refine wc_seq ?_
  refine wc_region ?_
  refine wl_go 1 [(3, .pointer (some ⟨r1, 8, none⟩))] (by kernel_rfl) ?_
  refine wl_yl (d := 4) (v := c8) (by kernel_rfl) (yl_load (b := r1) (off := 8) 1 rfl (by kernel_rfl) rfl (readAt_seg1 8 rfl (by simp) (by kernel_rfl))) ?_
  refine wl_callB (X := Value) (d := 5) (fun x => x) (fun wa y wz => Rd (fun k => wa.heap.size ≤ k) wz (.sl rows8) y ∧ Below wa.heap.size wa wz) (by kernel_rfl) (by kernel_rfl) (fun w1 h1 => (copyEntries_ok rows8 fR_rows8 b_rows8) w1 _ c8 (h_c8.stays (h1.staysC (L0 := (⟨r2, #[.int .i64 0, .int .i64 0, .int .i64 0, .int .i64 0, .int .i64 0, .int .i64 0, .int .i64 0, .int .i64 0, .slice none 0 0, .int .i64 0, .slice none 0 0, .slice none 0 0], 59⟩ :: (⟨r1, (List.flatten [[c0], [c1], [c2], [c3], [c4], [c5], [c6], [c7], [c8], [c9], [c10], [c11]]).toArray, 59⟩ :: []))) rfl))) ?_
  rintro wq1 vq1 wq2 h1 ⟨h_vq1, hb⟩
  have h_vq1 := h_vq1.stays (stays_newN h1 (Nat.le_trans hbel.size h1.size))
  have hT := (h1.tr hb).cong (L0 := (⟨r2, #[.int .i64 0, .int .i64 0, .int .i64 0, .int .i64 0, .int .i64 0, .int .i64 0, .int .i64 0, .int .i64 0, .slice none 0 0, .int .i64 0, .slice none 0 0, .slice none 0 0], 59⟩ :: (⟨r1, (List.flatten [[c0], [c1], [c2], [c3], [c4], [c5], [c6], [c7], [c8], [c9], [c10], [c11]]).toArray, 59⟩ :: []))) rfl
  have h_c8 := h_c8.stays hT.stays
  have h_c10 := h_c10.stays hT.stays
  have h_c11 := h_c11.stays hT.stays
  have hbel := h1.belowCall hbel (ge_cons hr2 (ge_cons hr1 (ge_nil _))) hb
  refine wl_eq (S := SH wq2 [⟨r2, #[.int .i64 0, .int .i64 0, .int .i64 0, .int .i64 0, .int .i64 0, .int .i64 0, .int .i64 0, .int .i64 0, .slice none 0 0, .int .i64 0, .slice none 0 0, .slice none 0 0], 59⟩, ⟨r1, (List.flatten [[c0], [c1], [c2], [c3], [c4], [c5], [c6], [c7], [c8], [c9], [c10], [c11]]).toArray, 59⟩]) (h1.after hb) ?_
  refine wl_go 1 [(6, .pointer (some ⟨r1, 8, none⟩))] (by kernel_rfl) ?_
  refine wl_store (b := r1) (off := 8) (v := vq1) (c' := (List.flatten [[c0], [c1], [c2], [c3], [c4], [c5], [c6], [c7], [vq1], [c9], [c10], [c11]]).toArray) (L' := [⟨r2, #[.int .i64 0, .int .i64 0, .int .i64 0, .int .i64 0, .int .i64 0, .int .i64 0, .int .i64 0, .int .i64 0, .slice none 0 0, .int .i64 0, .slice none 0 0, .slice none 0 0], 59⟩, ⟨r1, (List.flatten [[c0], [c1], [c2], [c3], [c4], [c5], [c6], [c7], [vq1], [c9], [c10], [c11]]).toArray, 59⟩]) 1 (by kernel_rfl) rfl (by kernel_rfl) (by kernel_rfl) rfl (writeAt_seg 8 ([vq1]) rfl (by simp) (Rd.cells h_vq1) rfl (by kernel_rfl) (fun u hu => by simp only [List.mem_singleton] at hu; subst hu; exact h_vq1.oneCell) rfl) rfl ?_
  refine nx_list ?_
  refine nx_then ?_
  refine wc_seq ?_
  refine wc_region ?_
  refine wl_go 1 [(7, .pointer (some ⟨r1, 10, none⟩))] (by kernel_rfl) ?_
  refine wl_yl (d := 8) (v := c10) (by kernel_rfl) (yl_load (b := r1) (off := 10) 1 rfl (by kernel_rfl) rfl (readAt_seg1 10 rfl (by simp) (by kernel_rfl))) ?_
  refine wl_callB (X := Value) (d := 9) (fun x => x) (fun wa y wz => Rd (fun k => wa.heap.size ≤ k) wz (.sl rows10) y ∧ Below wa.heap.size wa wz) (by kernel_rfl) (by kernel_rfl) (fun w1 h1 => (copyInts_ok rows10 fR_rows10 b_rows10) w1 _ c10 (h_c10.stays (h1.staysC (L0 := [⟨r2, #[.int .i64 0, .int .i64 0, .int .i64 0, .int .i64 0, .int .i64 0, .int .i64 0, .int .i64 0, .int .i64 0, .slice none 0 0, .int .i64 0, .slice none 0 0, .slice none 0 0], 59⟩, ⟨r1, (List.flatten [[c0], [c1], [c2], [c3], [c4], [c5], [c6], [c7], [c8], [c9], [c10], [c11]]).toArray, 59⟩]) rfl))) ?_
  rintro wq3 vq2 wq4 h1 ⟨h_vq2, hb⟩
  have h_vq2 := h_vq2.stays (stays_newN h1 (Nat.le_trans hbel.size h1.size))
  have hT := (h1.tr hb).cong (L0 := [⟨r2, #[.int .i64 0, .int .i64 0, .int .i64 0, .int .i64 0, .int .i64 0, .int .i64 0, .int .i64 0, .int .i64 0, .slice none 0 0, .int .i64 0, .slice none 0 0, .slice none 0 0], 59⟩, ⟨r1, (List.flatten [[c0], [c1], [c2], [c3], [c4], [c5], [c6], [c7], [c8], [c9], [c10], [c11]]).toArray, 59⟩]) rfl
  have h_c8 := h_c8.stays hT.stays
  have h_c10 := h_c10.stays hT.stays
  have h_c11 := h_c11.stays hT.stays
  have h_vq1 := h_vq1.stays hT.staysN
  have hbel := h1.belowCall hbel (ge_cons hr2 (ge_cons hr1 (ge_nil _))) hb
  refine wl_eq (S := SH wq4 [⟨r2, #[.int .i64 0, .int .i64 0, .int .i64 0, .int .i64 0, .int .i64 0, .int .i64 0, .int .i64 0, .int .i64 0, .slice none 0 0, .int .i64 0, .slice none 0 0, .slice none 0 0], 59⟩, ⟨r1, (List.flatten [[c0], [c1], [c2], [c3], [c4], [c5], [c6], [c7], [vq1], [c9], [c10], [c11]]).toArray, 59⟩]) (h1.after hb) ?_
  refine wl_go 1 [(10, .pointer (some ⟨r1, 10, none⟩))] (by kernel_rfl) ?_
  refine wl_store (b := r1) (off := 10) (v := vq2) (c' := (List.flatten [[c0], [c1], [c2], [c3], [c4], [c5], [c6], [c7], [vq1], [c9], [vq2], [c11]]).toArray) (L' := [⟨r2, #[.int .i64 0, .int .i64 0, .int .i64 0, .int .i64 0, .int .i64 0, .int .i64 0, .int .i64 0, .int .i64 0, .slice none 0 0, .int .i64 0, .slice none 0 0, .slice none 0 0], 59⟩, ⟨r1, (List.flatten [[c0], [c1], [c2], [c3], [c4], [c5], [c6], [c7], [vq1], [c9], [vq2], [c11]]).toArray, 59⟩]) 1 (by kernel_rfl) rfl (by kernel_rfl) (by kernel_rfl) rfl (writeAt_seg 10 ([vq2]) rfl (by simp) (Rd.cells h_vq2) rfl (by kernel_rfl) (fun u hu => by simp only [List.mem_singleton] at hu; subst hu; exact h_vq2.oneCell) rfl) rfl ?_
  refine nx_list ?_
  refine nx_then ?_
  refine wc_seq ?_
  refine wc_region ?_
  refine wl_go 1 [(11, .pointer (some ⟨r1, 11, none⟩))] (by kernel_rfl) ?_
  refine wl_yl (d := 12) (v := c11) (by kernel_rfl) (yl_load (b := r1) (off := 11) 1 rfl (by kernel_rfl) rfl (readAt_seg1 11 rfl (by simp) (by kernel_rfl))) ?_
  refine wl_callB (X := Value) (d := 13) (fun x => x) (fun wa y wz => Rd (fun k => wa.heap.size ≤ k) wz (.sl rows11) y ∧ Below wa.heap.size wa wz) (by kernel_rfl) (by kernel_rfl) (fun w1 h1 => (copyInts_ok rows11 fR_rows11 b_rows11) w1 _ c11 (h_c11.stays (h1.staysC (L0 := [⟨r2, #[.int .i64 0, .int .i64 0, .int .i64 0, .int .i64 0, .int .i64 0, .int .i64 0, .int .i64 0, .int .i64 0, .slice none 0 0, .int .i64 0, .slice none 0 0, .slice none 0 0], 59⟩, ⟨r1, (List.flatten [[c0], [c1], [c2], [c3], [c4], [c5], [c6], [c7], [vq1], [c9], [c10], [c11]]).toArray, 59⟩]) rfl))) ?_
  rintro wq5 vq3 wq6 h1 ⟨h_vq3, hb⟩
  have h_vq3 := h_vq3.stays (stays_newN h1 (Nat.le_trans hbel.size h1.size))
  have hT := (h1.tr hb).cong (L0 := [⟨r2, #[.int .i64 0, .int .i64 0, .int .i64 0, .int .i64 0, .int .i64 0, .int .i64 0, .int .i64 0, .int .i64 0, .slice none 0 0, .int .i64 0, .slice none 0 0, .slice none 0 0], 59⟩, ⟨r1, (List.flatten [[c0], [c1], [c2], [c3], [c4], [c5], [c6], [c7], [vq1], [c9], [c10], [c11]]).toArray, 59⟩]) rfl
  have h_c8 := h_c8.stays hT.stays
  have h_c10 := h_c10.stays hT.stays
  have h_c11 := h_c11.stays hT.stays
  have h_vq1 := h_vq1.stays hT.staysN
  have h_vq2 := h_vq2.stays hT.staysN
  have hbel := h1.belowCall hbel (ge_cons hr2 (ge_cons hr1 (ge_nil _))) hb
  refine wl_eq (S := SH wq6 [⟨r2, #[.int .i64 0, .int .i64 0, .int .i64 0, .int .i64 0, .int .i64 0, .int .i64 0, .int .i64 0, .int .i64 0, .slice none 0 0, .int .i64 0, .slice none 0 0, .slice none 0 0], 59⟩, ⟨r1, (List.flatten [[c0], [c1], [c2], [c3], [c4], [c5], [c6], [c7], [vq1], [c9], [vq2], [c11]]).toArray, 59⟩]) (h1.after hb) ?_
  refine wl_go 1 [(14, .pointer (some ⟨r1, 11, none⟩))] (by kernel_rfl) ?_
  refine wl_store (b := r1) (off := 11) (v := vq3) (c' := (List.flatten [[c0], [c1], [c2], [c3], [c4], [c5], [c6], [c7], [vq1], [c9], [vq2], [vq3]]).toArray) (L' := [⟨r2, #[.int .i64 0, .int .i64 0, .int .i64 0, .int .i64 0, .int .i64 0, .int .i64 0, .int .i64 0, .int .i64 0, .slice none 0 0, .int .i64 0, .slice none 0 0, .slice none 0 0], 59⟩, ⟨r1, (List.flatten [[c0], [c1], [c2], [c3], [c4], [c5], [c6], [c7], [vq1], [c9], [vq2], [vq3]]).toArray, 59⟩]) 1 (by kernel_rfl) rfl (by kernel_rfl) (by kernel_rfl) rfl (writeAt_seg 11 ([vq3]) rfl (by simp) (Rd.cells h_vq3) rfl (by kernel_rfl) (fun u hu => by simp only [List.mem_singleton] at hu; subst hu; exact h_vq3.oneCell) rfl) rfl ?_
  refine nx_list ?_
  refine nx_then ?_
  refine wc_seq ?_
  refine wc_region ?_
  refine wl_yl (d := 15) (v := .agg (List.flatten [[c0], [c1], [c2], [c3], [c4], [c5], [c6], [c7], [vq1], [c9], [vq2], [vq3]]).toArray) (by kernel_rfl) (yl_load (b := r1) (off := 0) 1 rfl (by kernel_rfl) rfl (readAt_all (by rw [show (List.flatten [[c0], [c1], [c2], [c3], [c4], [c5], [c6], [c7], [vq1], [c9], [vq2], [vq3]]).length = 12 from by simp]; kernel_rfl))) ?_
  refine wl_store (b := r2) (off := 0) (v := .agg (List.flatten [[c0], [c1], [c2], [c3], [c4], [c5], [c6], [c7], [vq1], [c9], [vq2], [vq3]]).toArray) (c' := (List.flatten [[c0], [c1], [c2], [c3], [c4], [c5], [c6], [c7], [vq1], [c9], [vq2], [vq3]]).toArray) (L' := [⟨r2, (List.flatten [[c0], [c1], [c2], [c3], [c4], [c5], [c6], [c7], [vq1], [c9], [vq2], [vq3]]).toArray, 59⟩, ⟨r1, (List.flatten [[c0], [c1], [c2], [c3], [c4], [c5], [c6], [c7], [vq1], [c9], [vq2], [vq3]]).toArray, 59⟩]) 0 (by kernel_rfl) rfl (by kernel_rfl) (by kernel_rfl) rfl (writeAt_all (by rw [show (List.flatten [[c0], [c1], [c2], [c3], [c4], [c5], [c6], [c7], [vq1], [c9], [vq2], [vq3]]).length = 12 from by simp]; kernel_rfl) (by rw [show (List.flatten [[c0], [c1], [c2], [c3], [c4], [c5], [c6], [c7], [vq1], [c9], [vq2], [vq3]]).length = 12 from by simp]; kernel_rfl) (oc_cons (fun u hu => by simp only [List.mem_singleton] at hu; subst hu; exact h_c0.oneCell) (oc_cons (fun u hu => by simp only [List.mem_singleton] at hu; subst hu; exact h_c1.oneCell) (oc_cons (fun u hu => by simp only [List.mem_singleton] at hu; subst hu; exact h_c2.oneCell) (oc_cons (fun u hu => by simp only [List.mem_singleton] at hu; subst hu; exact h_c3.oneCell) (oc_cons (fun u hu => by simp only [List.mem_singleton] at hu; subst hu; exact h_c4.oneCell) (oc_cons (fun u hu => by simp only [List.mem_singleton] at hu; subst hu; exact h_c5.oneCell) (oc_cons (fun u hu => by simp only [List.mem_singleton] at hu; subst hu; exact h_c6.oneCell) (oc_cons (fun u hu => by simp only [List.mem_singleton] at hu; subst hu; exact h_c7.oneCell) (oc_cons (fun u hu => by simp only [List.mem_singleton] at hu; subst hu; exact h_vq1.oneCell) (oc_cons (fun u hu => by simp only [List.mem_singleton] at hu; subst hu; exact h_c9.oneCell) (oc_cons (fun u hu => by simp only [List.mem_singleton] at hu; subst hu; exact h_vq2.oneCell) (oc_cons (fun u hu => by simp only [List.mem_singleton] at hu; subst hu; exact h_vq3.oneCell) oc_nil))))))))))))) rfl ?_
  refine nx_list ?_
  refine nx_then ?_
  refine nx_ret ?_
  refine ret_cell (v := .agg (List.flatten [[c0], [c1], [c2], [c3], [c4], [c5], [c6], [c7], [vq1], [c9], [vq2], [vq3]]).toArray) (b := r2) (off := 0) 0 rfl (by kernel_rfl) rfl (readAt_all (by rw [show (List.flatten [[c0], [c1], [c2], [c3], [c4], [c5], [c6], [c7], [vq1], [c9], [vq2], [vq3]]).length = 12 from by simp]; kernel_rfl)) ?_
  intro w' hw'
  refine ⟨_, rfl, ?_, hw'.below hbel hbel.size (ge_cons hr2 (ge_cons hr1 (ge_nil _)))⟩
  rw [show (List.flatten [[c0], [c1], [c2], [c3], [c4], [c5], [c6], [c7], [vq1], [c9], [vq2], [vq3]] : List Value) = (c0) :: ((c1) :: ((c2) :: ((c3) :: ((c4) :: ((c5) :: ((c6) :: ((c7) :: ((vq1) :: ((c9) :: ((vq2) :: ((vq3) :: ([])))))))))))) from by simp]
  exact RdL.mk (h_c0.bare rfl) (RdL.mk (h_c1.bare rfl) (RdL.mk (h_c2.bare rfl) (RdL.mk (h_c3.bare rfl) (RdL.mk (h_c4.bare rfl) (RdL.mk (h_c5.bare rfl) (RdL.mk (h_c6.bare rfl) (RdL.mk (h_c7.bare rfl) (RdL.mk (h_vq1.stays (hw'.staysN (L0 := [⟨r2, #[.int .i64 0, .int .i64 0, .int .i64 0, .int .i64 0, .int .i64 0, .int .i64 0, .int .i64 0, .int .i64 0, .slice none 0 0, .int .i64 0, .slice none 0 0, .slice none 0 0], 59⟩, ⟨r1, (List.flatten [[c0], [c1], [c2], [c3], [c4], [c5], [c6], [c7], [vq1], [c9], [vq2], [c11]]).toArray, 59⟩]) rfl)) (RdL.mk (h_c9.bare rfl) (RdL.mk (h_vq2.stays (hw'.staysN (L0 := [⟨r2, #[.int .i64 0, .int .i64 0, .int .i64 0, .int .i64 0, .int .i64 0, .int .i64 0, .int .i64 0, .int .i64 0, .slice none 0 0, .int .i64 0, .slice none 0 0, .slice none 0 0], 59⟩, ⟨r1, (List.flatten [[c0], [c1], [c2], [c3], [c4], [c5], [c6], [c7], [vq1], [c9], [vq2], [c11]]).toArray, 59⟩]) rfl)) (RdL.mk (h_vq3.stays (hw'.staysN (L0 := [⟨r2, #[.int .i64 0, .int .i64 0, .int .i64 0, .int .i64 0, .int .i64 0, .int .i64 0, .int .i64 0, .int .i64 0, .slice none 0 0, .int .i64 0, .slice none 0 0, .slice none 0 0], 59⟩, ⟨r1, (List.flatten [[c0], [c1], [c2], [c3], [c4], [c5], [c6], [c7], [vq1], [c9], [vq2], [c11]]).toArray, 59⟩]) rfl)) (RdL.none))))))))))))

theorem copyMember_all (ds : List D) (hfit : FitL sh by_ ds shMember) : CopyS Try.prog 23 ds := copyMember_step ds hfit

end Go.Proofs.Ythedokpgogopiaa
