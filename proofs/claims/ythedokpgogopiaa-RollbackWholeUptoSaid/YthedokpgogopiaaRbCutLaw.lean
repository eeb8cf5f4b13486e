/- The walk of the law RollbackCut, printed by a program of this repository (gen/rbcutlaw.py). -/
import Derived.Test.YthedokpgogopiaaRbRef
import Derived.Test.YthedokpgogopiaaRbCut
import Derived.Test.YthedokpgogopiaaRbCommon
import Derived.Test.YthedokpgogopiaaAwake
import Derived.Test.YthedokpgogopiaaLaw
namespace Go.Proofs.Ythedokpgogopiaa
open Go.RowKit Go.Sx
set_option linter.unusedVariables false
set_option linter.unusedSimpArgs false

theorem cut_law (n0 n1 n2 n3 n4 n5 n6 n7 n9 : Int) (rows8 rows10 rows11 : List (List D)) (a8 a10 a11 : Option Addr) (cap8 cap10 cap11 : Nat) (at_ : Int) (w : World) (S : Nat → Prop) (k : Nat) (hk : k = cutAt at_ n9 rows8.length)
    (hr8 : Rd S w (.sl rows8) (.slice a8 rows8.length cap8)) (hcap : rows8.length ≤ cap8) (hr10 : Rd S w (.sl rows10) (.slice a10 rows10.length cap10)) (hr11 : Rd S w (.sl rows11) (.slice a11 rows11.length cap11)) (fR8 : FitR sh by_ rows8 (sh 13)) (b8 : rows8.length * 1208 ≤ 140737488355328) (fR10 : FitR sh by_ rows10 (sh 3)) (b10 : rows10.length * 8 ≤ 140737488355328) (fR11 : FitR sh by_ rows11 (sh 3)) (b11 : rows11.length * 8 ≤ 140737488355328)
    (hn : ∀ x ∈ [n0, n1, n2, n3, n4, n5, n6, n7, n9], -9223372036854775808 ≤ x ∧ x ≤ 9223372036854775807) : Calls Try.prog 13 #[.agg #[.int .i64 n0, .int .i64 n1, .int .i64 n2, .int .i64 n3, .int .i64 n4, .int .i64 n5, .int .i64 n6, .int .i64 n7, .slice a8 rows8.length cap8, .int .i64 n9, .slice a10 rows10.length cap10, .slice a11 rows11.length cap11], .int .i64 at_] w (fun z w' => ∃ x : List Value × List Value, z = .returned (.tuple #[.agg x.1.toArray, .agg x.2.toArray]) ∧ (fun wa (y : List Value × List Value) wz => (RdL (fun k => wa.heap.size ≤ k) wz [.int n0, .int n1, .int n2, .int n3, .int n4, .int n5, .int n6, .int n7, .sl (rows8.take k), .int n9, .sl rows10, .sl rows11] y.1 ∧ RdL (fun k => wa.heap.size ≤ k) wz [.int n0, .int n2, .int (k : Int), .sl (rows8.drop k)] y.2) ∧ Below wa.heap.size wa wz) w x w') := by
  subst hk
  exact (cut_ok n0 n1 n2 n3 n4 n5 n6 n7 n9 rows8 rows10 rows11 a8 cap8 (.slice a10 rows10.length cap10) (.slice a11 rows11.length cap11) at_ w S hr8 hcap hr10 hr11 fR8 b8 fR10 b10 fR11 b11 hn).mono (fun e w' ⟨m, r, h1, h2, h3, h4⟩ => ⟨(m, r), h1, ⟨h2, h3⟩, h4⟩)

theorem refcut_law (n0 n1 n2 n3 n4 n5 n6 n7 n9 : Int) (rows8 rows10 rows11 : List (List D)) (a8 a10 a11 : Option Addr) (cap8 cap10 cap11 : Nat) (at_ : Int) (w : World) (S : Nat → Prop) (k : Nat) (hk : k = cutAt at_ n9 rows8.length)
    (hr8 : Rd S w (.sl rows8) (.slice a8 rows8.length cap8)) (hcap : rows8.length ≤ cap8) (hr10 : Rd S w (.sl rows10) (.slice a10 rows10.length cap10)) (hr11 : Rd S w (.sl rows11) (.slice a11 rows11.length cap11)) (fR8 : FitR sh by_ rows8 (sh 13)) (b8 : rows8.length * 1208 ≤ 140737488355328) (fR10 : FitR sh by_ rows10 (sh 3)) (b10 : rows10.length * 8 ≤ 140737488355328) (fR11 : FitR sh by_ rows11 (sh 3)) (b11 : rows11.length * 8 ≤ 140737488355328)
    (hn : ∀ x ∈ [n0, n1, n2, n3, n4, n5, n6, n7, n9], -9223372036854775808 ≤ x ∧ x ≤ 9223372036854775807) : Calls Try.prog 14 #[.agg #[.int .i64 n0, .int .i64 n1, .int .i64 n2, .int .i64 n3, .int .i64 n4, .int .i64 n5, .int .i64 n6, .int .i64 n7, .slice a8 rows8.length cap8, .int .i64 n9, .slice a10 rows10.length cap10, .slice a11 rows11.length cap11], .int .i64 at_] w (fun z w' => ∃ x : List Value × List Value, z = .returned (.tuple #[.agg x.1.toArray, .agg x.2.toArray]) ∧ (fun wa (y : List Value × List Value) wz => (RdL (fun _ => True) wz [.int n0, .int n1, .int n2, .int n3, .int n4, .int n5, .int n6, .int n7, .sl (rows8.take k), .int n9, .sl rows10, .sl rows11] y.1 ∧ RdL (fun _ => True) wz [.int n0, .int n2, .int (k : Int), .sl (rows8.drop k)] y.2) ∧ Below wa.heap.size wa wz) w x w') := by
  subst hk
  exact (refcut_ok n0 n1 n2 n3 n4 n5 n6 n7 n9 rows8 rows10 rows11 a8 a10 a11 cap8 cap10 cap11 at_ w S hr8 hcap hr10 hr11 fR8 b8 fR10 b10 fR11 b11).mono (fun e w' ⟨m, r, h1, h2, h3, h4⟩ => ⟨(m, r), h1, ⟨h2, h3⟩, h4⟩)

theorem walk_cut (ds : List D) (cs : List Value) (at_ : Int) (w : World) (hrd : RdL (Im w []) w ds cs) (hfit : FitL sh by_ ds shMember) (hsz : szL ds ≤ 2097152) (hcap0 : ∀ a n c, cs[8]? = some (.slice a n c) → n ≤ c) :
    Calls Try.prog 5 #[.agg cs.toArray, .int .i64 at_] w (fun e w' => e = .returned (.bool true) ∧ Below w.heap.size w w') := by
  obtain ⟨d0, e0, rfl, hf0, hft0⟩ := FitL.cons (k := .int) (ks := _) hfit
  obtain ⟨n0, rfl, hb0⟩ := Fit.int hf0
  obtain ⟨d1, e1, rfl, hf1, hft1⟩ := FitL.cons (k := .int) (ks := _) hft0
  obtain ⟨n1, rfl, hb1⟩ := Fit.int hf1
  obtain ⟨d2, e2, rfl, hf2, hft2⟩ := FitL.cons (k := .int) (ks := _) hft1
  obtain ⟨n2, rfl, hb2⟩ := Fit.int hf2
  obtain ⟨d3, e3, rfl, hf3, hft3⟩ := FitL.cons (k := .int) (ks := _) hft2
  obtain ⟨n3, rfl, hb3⟩ := Fit.int hf3
  obtain ⟨d4, e4, rfl, hf4, hft4⟩ := FitL.cons (k := .int) (ks := _) hft3
  obtain ⟨n4, rfl, hb4⟩ := Fit.int hf4
  obtain ⟨d5, e5, rfl, hf5, hft5⟩ := FitL.cons (k := .int) (ks := _) hft4
  obtain ⟨n5, rfl, hb5⟩ := Fit.int hf5
  obtain ⟨d6, e6, rfl, hf6, hft6⟩ := FitL.cons (k := .int) (ks := _) hft5
  obtain ⟨n6, rfl, hb6⟩ := Fit.int hf6
  obtain ⟨d7, e7, rfl, hf7, hft7⟩ := FitL.cons (k := .int) (ks := _) hft6
  obtain ⟨n7, rfl, hb7⟩ := Fit.int hf7
  obtain ⟨d8, e8, rfl, hf8, hft8⟩ := FitL.cons (k := .sl 13) (ks := _) hft7
  obtain ⟨rows8, rfl, b8, fR8⟩ := Fit.sl hf8
  have b8 : rows8.length * 1208 ≤ 140737488355328 := b8
  obtain ⟨d9, e9, rfl, hf9, hft9⟩ := FitL.cons (k := .int) (ks := _) hft8
  obtain ⟨n9, rfl, hb9⟩ := Fit.int hf9
  obtain ⟨d10, e10, rfl, hf10, hft10⟩ := FitL.cons (k := .sl 3) (ks := _) hft9
  obtain ⟨rows10, rfl, b10, fR10⟩ := Fit.sl hf10
  have b10 : rows10.length * 8 ≤ 140737488355328 := b10
  obtain ⟨d11, e11, rfl, hf11, hft11⟩ := FitL.cons (k := .sl 3) (ks := _) hft10
  obtain ⟨rows11, rfl, b11, fR11⟩ := Fit.sl hf11
  have b11 : rows11.length * 8 ≤ 140737488355328 := b11
  obtain rfl := FitL.nil hft11
  obtain ⟨c0, z0, rfl, h_c0, hrd0⟩ := RdL.cons hrd
  rw [Rd] at h_c0; subst h_c0
  obtain ⟨c1, z1, rfl, h_c1, hrd1⟩ := RdL.cons hrd0
  rw [Rd] at h_c1; subst h_c1
  obtain ⟨c2, z2, rfl, h_c2, hrd2⟩ := RdL.cons hrd1
  rw [Rd] at h_c2; subst h_c2
  obtain ⟨c3, z3, rfl, h_c3, hrd3⟩ := RdL.cons hrd2
  rw [Rd] at h_c3; subst h_c3
  obtain ⟨c4, z4, rfl, h_c4, hrd4⟩ := RdL.cons hrd3
  rw [Rd] at h_c4; subst h_c4
  obtain ⟨c5, z5, rfl, h_c5, hrd5⟩ := RdL.cons hrd4
  rw [Rd] at h_c5; subst h_c5
  obtain ⟨c6, z6, rfl, h_c6, hrd6⟩ := RdL.cons hrd5
  rw [Rd] at h_c6; subst h_c6
  obtain ⟨c7, z7, rfl, h_c7, hrd7⟩ := RdL.cons hrd6
  rw [Rd] at h_c7; subst h_c7
  obtain ⟨c8, z8, rfl, h_c8, hrd8⟩ := RdL.cons hrd7
  obtain ⟨a8, cap8, rfl⟩ := h_c8.slv
  obtain ⟨c9, z9, rfl, h_c9, hrd9⟩ := RdL.cons hrd8
  rw [Rd] at h_c9; subst h_c9
  obtain ⟨c10, z10, rfl, h_c10, hrd10⟩ := RdL.cons hrd9
  obtain ⟨a10, cap10, rfl⟩ := h_c10.slv
  obtain ⟨c11, z11, rfl, h_c11, hrd11⟩ := RdL.cons hrd10
  obtain ⟨a11, cap11, rfl⟩ := h_c11.slv
  obtain rfl := RdL.nil hrd11
  have hcap := hcap0 _ _ _ rfl
  have hn : ∀ x ∈ [n0, n1, n2, n3, n4, n5, n6, n7, n9], -9223372036854775808 ≤ x ∧ x ≤ 9223372036854775807 := by
    intro x hx
    simp only [List.mem_cons, List.not_mem_nil, or_false] at hx
    rcases hx with rfl | rfl | rfl | rfl | rfl | rfl | rfl | rfl | rfl <;> assumption
  have hz : ∀ r ∈ rows8, (encL r).size ≤ 9223372036854775807 := fun r hr => by
    have h8 := szR_mem hr
    have h9 := encL_size r
    simp only [szL, D.sz] at hsz
    omega
  obtain ⟨k, hk⟩ : ∃ k, k = cutAt at_ n9 rows8.length := ⟨_, rfl⟩
  have hkl : k ≤ rows8.length := by rw [hk]; exact cutAt_le _ _ _
  have hbel := Below.refl w.heap.size w
  refine Sx.enter (l := [.agg #[.int .i64 n0, .int .i64 n1, .int .i64 n2, .int .i64 n3, .int .i64 n4, .int .i64 n5, .int .i64 n6, .int .i64 n7, .slice a8 rows8.length cap8, .int .i64 n9, .slice a10 rows10.length cap10, .slice a11 rows11.length cap11], .int .i64 at_]) Try.func5 rfl (n := 37) rfl (by simp) ?_
  refine wc_eq (S := SH w []) (SH.refl _) ?_
  refine wc_seq ?_
  refine wc_region ?_
  refine wl_new (d := 2) #[.int .i64 n0, .int .i64 n1, .int .i64 n2, .int .i64 n3, .int .i64 n4, .int .i64 n5, .int .i64 n6, .int .i64 n7, .slice a8 rows8.length cap8, .int .i64 n9, .slice a10 rows10.length cap10, .slice a11 rows11.length cap11] 59 (fun r => .pointer (some ⟨r, 0, none⟩)) (by kernel_rfl) (fun r => by kernel_rfl) ?_
  intro r1 hr1
  have h_c8 := h_c8.stays (im_more (c := #[.int .i64 n0, .int .i64 n1, .int .i64 n2, .int .i64 n3, .int .i64 n4, .int .i64 n5, .int .i64 n6, .int .i64 n7, .slice a8 rows8.length cap8, .int .i64 n9, .slice a10 rows10.length cap10, .slice a11 rows11.length cap11]) (t := 59) hr1)
  have h_c10 := h_c10.stays (im_more (c := #[.int .i64 n0, .int .i64 n1, .int .i64 n2, .int .i64 n3, .int .i64 n4, .int .i64 n5, .int .i64 n6, .int .i64 n7, .slice a8 rows8.length cap8, .int .i64 n9, .slice a10 rows10.length cap10, .slice a11 rows11.length cap11]) (t := 59) hr1)
  have h_c11 := h_c11.stays (im_more (c := #[.int .i64 n0, .int .i64 n1, .int .i64 n2, .int .i64 n3, .int .i64 n4, .int .i64 n5, .int .i64 n6, .int .i64 n7, .slice a8 rows8.length cap8, .int .i64 n9, .slice a10 rows10.length cap10, .slice a11 rows11.length cap11]) (t := 59) hr1)
  have gr1 := Nat.le_trans hbel.size hr1
  refine wl_go 1 [(4, .bool false)] (by kernel_rfl) ?_
  refine nx_list ?_
  refine nx_then ?_
  refine wc_seq ?_
  refine wc_seq ?_
  refine wc_region ?_
  refine wl_go 1 [(9, .pointer (some ⟨r1, 8, none⟩))] (by kernel_rfl) ?_
  refine wl_yl (d := 10) (v := .slice a8 rows8.length cap8) (by kernel_rfl) (yl_load (b := r1) (off := 8) 0 rfl (by kernel_rfl) rfl (by kernel_rfl)) ?_
  refine wl_callK shK (d := 11) (v := .bool (decide ((rows8.length : Int) ≤ 60))) (by kernel_rfl) (by kernel_rfl) (fun w1 h1 => (short_ok a8 rows8.length cap8 w1).mono (fun e w' h => ⟨h.1, h.2 ▸ Below.refl _ _⟩)) ?_
  refine wl_go 1 [(12, .bool (!(decide ((rows8.length : Int) ≤ 60))))] (by kernel_rfl) ?_
  refine nx_list ?_
  refine nx_then ?_
  refine wc_cond (!(decide ((rows8.length : Int) ≤ 60))) (by kernel_rfl) (by kernel_rfl) (fun hc1 => ?_) (fun hc1 => ?_)
  · skip
    refine wc_seq ?_
    refine wc_region ?_
    refine wl_callK shK (d := 13) (v := .bool true) (by kernel_rfl) (by kernel_rfl) (fun w1 h1 => awake_ok w1) ?_
    refine wl_go 1 [(4, .bool true)] (by kernel_rfl) ?_
    refine nx_list ?_
    refine nx_then ?_
    refine nx_ret ?_
    refine nx_then_ret ?_
    refine ret_tmp (v := .bool true) rfl (by kernel_rfl) ?_
    intro w' hw'
    exact ⟨rfl, hw'.below hbel hbel.size (ge_cons gr1 (ge_nil _))⟩
  · skip
    refine nx_skip ?_
    refine nx_then ?_
    refine wc_seq ?_
    refine wc_region ?_
    refine wl_yl (d := 15) (v := .agg #[.int .i64 n0, .int .i64 n1, .int .i64 n2, .int .i64 n3, .int .i64 n4, .int .i64 n5, .int .i64 n6, .int .i64 n7, .slice a8 rows8.length cap8, .int .i64 n9, .slice a10 rows10.length cap10, .slice a11 rows11.length cap11]) (by kernel_rfl) (yl_load (b := r1) (off := 0) 0 rfl (by kernel_rfl) rfl (by kernel_rfl)) ?_
    refine wl_go 1 [(16, .int .i64 at_)] (by kernel_rfl) ?_
    refine wl_callB (X := List Value × List Value) (d := 17) (fun x => .tuple #[.agg x.1.toArray, .agg x.2.toArray]) (fun wa y wz => (RdL (fun k => wa.heap.size ≤ k) wz [.int n0, .int n1, .int n2, .int n3, .int n4, .int n5, .int n6, .int n7, .sl (rows8.take k), .int n9, .sl rows10, .sl rows11] y.1 ∧ RdL (fun k => wa.heap.size ≤ k) wz [.int n0, .int n2, .int (k : Int), .sl (rows8.drop k)] y.2) ∧ Below wa.heap.size wa wz) (by kernel_rfl) (by kernel_rfl) (fun w1 h1 => cut_law n0 n1 n2 n3 n4 n5 n6 n7 n9 rows8 rows10 rows11 a8 a10 a11 cap8 cap10 cap11 at_ w1 _ k hk (h_c8.stays (h1.staysC (L0 := (⟨r1, #[.int .i64 n0, .int .i64 n1, .int .i64 n2, .int .i64 n3, .int .i64 n4, .int .i64 n5, .int .i64 n6, .int .i64 n7, .slice a8 rows8.length cap8, .int .i64 n9, .slice a10 rows10.length cap10, .slice a11 rows11.length cap11], 59⟩ :: [])) rfl)) hcap (h_c10.stays (h1.staysC (L0 := (⟨r1, #[.int .i64 n0, .int .i64 n1, .int .i64 n2, .int .i64 n3, .int .i64 n4, .int .i64 n5, .int .i64 n6, .int .i64 n7, .slice a8 rows8.length cap8, .int .i64 n9, .slice a10 rows10.length cap10, .slice a11 rows11.length cap11], 59⟩ :: [])) rfl)) (h_c11.stays (h1.staysC (L0 := (⟨r1, #[.int .i64 n0, .int .i64 n1, .int .i64 n2, .int .i64 n3, .int .i64 n4, .int .i64 n5, .int .i64 n6, .int .i64 n7, .slice a8 rows8.length cap8, .int .i64 n9, .slice a10 rows10.length cap10, .slice a11 rows11.length cap11], 59⟩ :: [])) rfl)) fR8 b8 fR10 b10 fR11 b11 hn) ?_
    rintro wq1 ⟨m, r⟩ wq2 h1 ⟨hres, hb⟩
    simp only at hres
    have hT := (h1.tr hb).cong (L0 := (⟨r1, #[.int .i64 n0, .int .i64 n1, .int .i64 n2, .int .i64 n3, .int .i64 n4, .int .i64 n5, .int .i64 n6, .int .i64 n7, .slice a8 rows8.length cap8, .int .i64 n9, .slice a10 rows10.length cap10, .slice a11 rows11.length cap11], 59⟩ :: [])) rfl
    have h_c8 := h_c8.stays hT.stays
    have h_c10 := h_c10.stays hT.stays
    have h_c11 := h_c11.stays hT.stays
    have hbel := h1.belowCall hbel (ge_cons gr1 (ge_nil _)) hb
    have hnew : Stays (fun k => wq1.heap.size ≤ k) wq2 (Im wq2 [⟨r1, #[.int .i64 n0, .int .i64 n1, .int .i64 n2, .int .i64 n3, .int .i64 n4, .int .i64 n5, .int .i64 n6, .int .i64 n7, .slice a8 rows8.length cap8, .int .i64 n9, .slice a10 rows10.length cap10, .slice a11 rows11.length cap11], 59⟩]) wq2 := ⟨Nat.le_refl _, fun k hk h => ⟨hk, fun x hx => by have := h1.lt hx; omega⟩, fun _ _ _ => rfl⟩
    refine wl_eq (S := SH wq2 [⟨r1, #[.int .i64 n0, .int .i64 n1, .int .i64 n2, .int .i64 n3, .int .i64 n4, .int .i64 n5, .int .i64 n6, .int .i64 n7, .slice a8 rows8.length cap8, .int .i64 n9, .slice a10 rows10.length cap10, .slice a11 rows11.length cap11], 59⟩]) (h1.after hb) ?_
    obtain ⟨hm, hr⟩ := hres
    have hm := hm.stays hnew
    have hr := hr.stays hnew
    obtain ⟨c_m0, z_m0, rfl, h_m0, hr_m0⟩ := RdL.cons hm
    rw [Rd] at h_m0; subst h_m0
    obtain ⟨c_m1, z_m1, rfl, h_m1, hr_m1⟩ := RdL.cons hr_m0
    rw [Rd] at h_m1; subst h_m1
    obtain ⟨c_m2, z_m2, rfl, h_m2, hr_m2⟩ := RdL.cons hr_m1
    rw [Rd] at h_m2; subst h_m2
    obtain ⟨c_m3, z_m3, rfl, h_m3, hr_m3⟩ := RdL.cons hr_m2
    rw [Rd] at h_m3; subst h_m3
    obtain ⟨c_m4, z_m4, rfl, h_m4, hr_m4⟩ := RdL.cons hr_m3
    rw [Rd] at h_m4; subst h_m4
    obtain ⟨c_m5, z_m5, rfl, h_m5, hr_m5⟩ := RdL.cons hr_m4
    rw [Rd] at h_m5; subst h_m5
    obtain ⟨c_m6, z_m6, rfl, h_m6, hr_m6⟩ := RdL.cons hr_m5
    rw [Rd] at h_m6; subst h_m6
    obtain ⟨c_m7, z_m7, rfl, h_m7, hr_m7⟩ := RdL.cons hr_m6
    rw [Rd] at h_m7; subst h_m7
    obtain ⟨c_m8, z_m8, rfl, h_m8, hr_m8⟩ := RdL.cons hr_m7
    obtain ⟨a_m8, cap_m8, rfl⟩ := h_m8.slv
    obtain ⟨c_m9, z_m9, rfl, h_m9, hr_m9⟩ := RdL.cons hr_m8
    rw [Rd] at h_m9; subst h_m9
    obtain ⟨c_m10, z_m10, rfl, h_m10, hr_m10⟩ := RdL.cons hr_m9
    obtain ⟨a_m10, cap_m10, rfl⟩ := h_m10.slv
    obtain ⟨c_m11, z_m11, rfl, h_m11, hr_m11⟩ := RdL.cons hr_m10
    obtain ⟨a_m11, cap_m11, rfl⟩ := h_m11.slv
    obtain rfl := RdL.nil hr_m11
    obtain ⟨c_r0, z_r0, rfl, h_r0, hr_r0⟩ := RdL.cons hr
    rw [Rd] at h_r0; subst h_r0
    obtain ⟨c_r1, z_r1, rfl, h_r1, hr_r1⟩ := RdL.cons hr_r0
    rw [Rd] at h_r1; subst h_r1
    obtain ⟨c_r2, z_r2, rfl, h_r2, hr_r2⟩ := RdL.cons hr_r1
    rw [Rd] at h_r2; subst h_r2
    obtain ⟨c_r3, z_r3, rfl, h_r3, hr_r3⟩ := RdL.cons hr_r2
    obtain ⟨a_r3, cap_r3, rfl⟩ := h_r3.slv
    obtain rfl := RdL.nil hr_r3
    refine wl_go 3 [(19, .agg #[.int .i64 n0, .int .i64 n2, .int .i64 (k : Int), .slice a_r3 ((rows8.drop k).length) cap_r3]), (18, .agg #[.int .i64 n0, .int .i64 n1, .int .i64 n2, .int .i64 n3, .int .i64 n4, .int .i64 n5, .int .i64 n6, .int .i64 n7, .slice a_m8 ((rows8.take k).length) cap_m8, .int .i64 n9, .slice a_m10 rows10.length cap_m10, .slice a_m11 rows11.length cap_m11]), (14, .tuple #[.agg #[.int .i64 n0, .int .i64 n1, .int .i64 n2, .int .i64 n3, .int .i64 n4, .int .i64 n5, .int .i64 n6, .int .i64 n7, .slice a_m8 ((rows8.take k).length) cap_m8, .int .i64 n9, .slice a_m10 rows10.length cap_m10, .slice a_m11 rows11.length cap_m11], .agg #[.int .i64 n0, .int .i64 n2, .int .i64 (k : Int), .slice a_r3 ((rows8.drop k).length) cap_r3]])] (by kernel_rfl) ?_
    refine wl_new (d := 5) #[.int .i64 0, .int .i64 0, .int .i64 0, .int .i64 0, .int .i64 0, .int .i64 0, .int .i64 0, .int .i64 0, .slice none 0 0, .int .i64 0, .slice none 0 0, .slice none 0 0] 59 (fun r => .pointer (some ⟨r, 0, none⟩)) (by kernel_rfl) (fun r => by kernel_rfl) ?_
    intro r2 hr2
    have h_c8 := h_c8.stays (im_more (c := #[.int .i64 0, .int .i64 0, .int .i64 0, .int .i64 0, .int .i64 0, .int .i64 0, .int .i64 0, .int .i64 0, .slice none 0 0, .int .i64 0, .slice none 0 0, .slice none 0 0]) (t := 59) hr2)
    have h_c10 := h_c10.stays (im_more (c := #[.int .i64 0, .int .i64 0, .int .i64 0, .int .i64 0, .int .i64 0, .int .i64 0, .int .i64 0, .int .i64 0, .slice none 0 0, .int .i64 0, .slice none 0 0, .slice none 0 0]) (t := 59) hr2)
    have h_c11 := h_c11.stays (im_more (c := #[.int .i64 0, .int .i64 0, .int .i64 0, .int .i64 0, .int .i64 0, .int .i64 0, .int .i64 0, .int .i64 0, .slice none 0 0, .int .i64 0, .slice none 0 0, .slice none 0 0]) (t := 59) hr2)
    have h_m8 := h_m8.stays (im_more (c := #[.int .i64 0, .int .i64 0, .int .i64 0, .int .i64 0, .int .i64 0, .int .i64 0, .int .i64 0, .int .i64 0, .slice none 0 0, .int .i64 0, .slice none 0 0, .slice none 0 0]) (t := 59) hr2)
    have h_m10 := h_m10.stays (im_more (c := #[.int .i64 0, .int .i64 0, .int .i64 0, .int .i64 0, .int .i64 0, .int .i64 0, .int .i64 0, .int .i64 0, .slice none 0 0, .int .i64 0, .slice none 0 0, .slice none 0 0]) (t := 59) hr2)
    have h_m11 := h_m11.stays (im_more (c := #[.int .i64 0, .int .i64 0, .int .i64 0, .int .i64 0, .int .i64 0, .int .i64 0, .int .i64 0, .int .i64 0, .slice none 0 0, .int .i64 0, .slice none 0 0, .slice none 0 0]) (t := 59) hr2)
    have h_r3 := h_r3.stays (im_more (c := #[.int .i64 0, .int .i64 0, .int .i64 0, .int .i64 0, .int .i64 0, .int .i64 0, .int .i64 0, .int .i64 0, .slice none 0 0, .int .i64 0, .slice none 0 0, .slice none 0 0]) (t := 59) hr2)
    have gr2 := Nat.le_trans hbel.size hr2
    refine wl_new (d := 6) #[.int .i64 0, .int .i64 0, .int .i64 0, .slice none 0 0] 61 (fun r => .pointer (some ⟨r, 0, none⟩)) (by kernel_rfl) (fun r => by kernel_rfl) ?_
    intro r3 hr3
    have h_c8 := h_c8.stays (im_more (c := #[.int .i64 0, .int .i64 0, .int .i64 0, .slice none 0 0]) (t := 61) hr3)
    have h_c10 := h_c10.stays (im_more (c := #[.int .i64 0, .int .i64 0, .int .i64 0, .slice none 0 0]) (t := 61) hr3)
    have h_c11 := h_c11.stays (im_more (c := #[.int .i64 0, .int .i64 0, .int .i64 0, .slice none 0 0]) (t := 61) hr3)
    have h_m8 := h_m8.stays (im_more (c := #[.int .i64 0, .int .i64 0, .int .i64 0, .slice none 0 0]) (t := 61) hr3)
    have h_m10 := h_m10.stays (im_more (c := #[.int .i64 0, .int .i64 0, .int .i64 0, .slice none 0 0]) (t := 61) hr3)
    have h_m11 := h_m11.stays (im_more (c := #[.int .i64 0, .int .i64 0, .int .i64 0, .slice none 0 0]) (t := 61) hr3)
    have h_r3 := h_r3.stays (im_more (c := #[.int .i64 0, .int .i64 0, .int .i64 0, .slice none 0 0]) (t := 61) hr3)
    have gr3 := Nat.le_trans hbel.size hr3
    refine wl_store (b := r2) (off := 0) (v := .agg #[.int .i64 n0, .int .i64 n1, .int .i64 n2, .int .i64 n3, .int .i64 n4, .int .i64 n5, .int .i64 n6, .int .i64 n7, .slice a_m8 ((rows8.take k).length) cap_m8, .int .i64 n9, .slice a_m10 rows10.length cap_m10, .slice a_m11 rows11.length cap_m11]) (c' := #[.int .i64 n0, .int .i64 n1, .int .i64 n2, .int .i64 n3, .int .i64 n4, .int .i64 n5, .int .i64 n6, .int .i64 n7, .slice a_m8 ((rows8.take k).length) cap_m8, .int .i64 n9, .slice a_m10 rows10.length cap_m10, .slice a_m11 rows11.length cap_m11]) (L' := [⟨r3, #[.int .i64 0, .int .i64 0, .int .i64 0, .slice none 0 0], 61⟩, ⟨r2, #[.int .i64 n0, .int .i64 n1, .int .i64 n2, .int .i64 n3, .int .i64 n4, .int .i64 n5, .int .i64 n6, .int .i64 n7, .slice a_m8 ((rows8.take k).length) cap_m8, .int .i64 n9, .slice a_m10 rows10.length cap_m10, .slice a_m11 rows11.length cap_m11], 59⟩, ⟨r1, #[.int .i64 n0, .int .i64 n1, .int .i64 n2, .int .i64 n3, .int .i64 n4, .int .i64 n5, .int .i64 n6, .int .i64 n7, .slice a8 rows8.length cap8, .int .i64 n9, .slice a10 rows10.length cap10, .slice a11 rows11.length cap11], 59⟩]) 1 (by kernel_rfl) rfl (by kernel_rfl) (by kernel_rfl) rfl (by kernel_rfl) rfl ?_
    refine wl_store (b := r3) (off := 0) (v := .agg #[.int .i64 n0, .int .i64 n2, .int .i64 (k : Int), .slice a_r3 ((rows8.drop k).length) cap_r3]) (c' := #[.int .i64 n0, .int .i64 n2, .int .i64 (k : Int), .slice a_r3 ((rows8.drop k).length) cap_r3]) (L' := [⟨r3, #[.int .i64 n0, .int .i64 n2, .int .i64 (k : Int), .slice a_r3 ((rows8.drop k).length) cap_r3], 61⟩, ⟨r2, #[.int .i64 n0, .int .i64 n1, .int .i64 n2, .int .i64 n3, .int .i64 n4, .int .i64 n5, .int .i64 n6, .int .i64 n7, .slice a_m8 ((rows8.take k).length) cap_m8, .int .i64 n9, .slice a_m10 rows10.length cap_m10, .slice a_m11 rows11.length cap_m11], 59⟩, ⟨r1, #[.int .i64 n0, .int .i64 n1, .int .i64 n2, .int .i64 n3, .int .i64 n4, .int .i64 n5, .int .i64 n6, .int .i64 n7, .slice a8 rows8.length cap8, .int .i64 n9, .slice a10 rows10.length cap10, .slice a11 rows11.length cap11], 59⟩]) 0 (by kernel_rfl) rfl (by kernel_rfl) (by kernel_rfl) rfl (by kernel_rfl) rfl ?_
    refine nx_list ?_
    refine nx_then ?_
    refine wc_seq ?_
    refine wc_region ?_
    refine wl_yl (d := 21) (v := .agg #[.int .i64 n0, .int .i64 n1, .int .i64 n2, .int .i64 n3, .int .i64 n4, .int .i64 n5, .int .i64 n6, .int .i64 n7, .slice a8 rows8.length cap8, .int .i64 n9, .slice a10 rows10.length cap10, .slice a11 rows11.length cap11]) (by kernel_rfl) (yl_load (b := r1) (off := 0) 2 rfl (by kernel_rfl) rfl (by kernel_rfl)) ?_
    refine wl_go 1 [(22, .int .i64 at_)] (by kernel_rfl) ?_
    refine wl_callB (X := List Value × List Value) (d := 23) (fun x => .tuple #[.agg x.1.toArray, .agg x.2.toArray]) (fun wa y wz => (RdL (fun _ => True) wz [.int n0, .int n1, .int n2, .int n3, .int n4, .int n5, .int n6, .int n7, .sl (rows8.take k), .int n9, .sl rows10, .sl rows11] y.1 ∧ RdL (fun _ => True) wz [.int n0, .int n2, .int (k : Int), .sl (rows8.drop k)] y.2) ∧ Below wa.heap.size wa wz) (by kernel_rfl) (by kernel_rfl) (fun w1 h1 => refcut_law n0 n1 n2 n3 n4 n5 n6 n7 n9 rows8 rows10 rows11 a8 a10 a11 cap8 cap10 cap11 at_ w1 _ k hk (h_c8.stays (h1.staysC (L0 := (⟨r3, #[.int .i64 0, .int .i64 0, .int .i64 0, .slice none 0 0], 61⟩ :: (⟨r2, #[.int .i64 0, .int .i64 0, .int .i64 0, .int .i64 0, .int .i64 0, .int .i64 0, .int .i64 0, .int .i64 0, .slice none 0 0, .int .i64 0, .slice none 0 0, .slice none 0 0], 59⟩ :: [⟨r1, #[.int .i64 n0, .int .i64 n1, .int .i64 n2, .int .i64 n3, .int .i64 n4, .int .i64 n5, .int .i64 n6, .int .i64 n7, .slice a8 rows8.length cap8, .int .i64 n9, .slice a10 rows10.length cap10, .slice a11 rows11.length cap11], 59⟩]))) rfl)) hcap (h_c10.stays (h1.staysC (L0 := (⟨r3, #[.int .i64 0, .int .i64 0, .int .i64 0, .slice none 0 0], 61⟩ :: (⟨r2, #[.int .i64 0, .int .i64 0, .int .i64 0, .int .i64 0, .int .i64 0, .int .i64 0, .int .i64 0, .int .i64 0, .slice none 0 0, .int .i64 0, .slice none 0 0, .slice none 0 0], 59⟩ :: [⟨r1, #[.int .i64 n0, .int .i64 n1, .int .i64 n2, .int .i64 n3, .int .i64 n4, .int .i64 n5, .int .i64 n6, .int .i64 n7, .slice a8 rows8.length cap8, .int .i64 n9, .slice a10 rows10.length cap10, .slice a11 rows11.length cap11], 59⟩]))) rfl)) (h_c11.stays (h1.staysC (L0 := (⟨r3, #[.int .i64 0, .int .i64 0, .int .i64 0, .slice none 0 0], 61⟩ :: (⟨r2, #[.int .i64 0, .int .i64 0, .int .i64 0, .int .i64 0, .int .i64 0, .int .i64 0, .int .i64 0, .int .i64 0, .slice none 0 0, .int .i64 0, .slice none 0 0, .slice none 0 0], 59⟩ :: [⟨r1, #[.int .i64 n0, .int .i64 n1, .int .i64 n2, .int .i64 n3, .int .i64 n4, .int .i64 n5, .int .i64 n6, .int .i64 n7, .slice a8 rows8.length cap8, .int .i64 n9, .slice a10 rows10.length cap10, .slice a11 rows11.length cap11], 59⟩]))) rfl)) fR8 b8 fR10 b10 fR11 b11 hn) ?_
    rintro wq3 ⟨m, r⟩ wq4 h1 ⟨hres, hb⟩
    simp only at hres
    have hT := (h1.tr hb).cong (L0 := (⟨r3, #[.int .i64 0, .int .i64 0, .int .i64 0, .slice none 0 0], 61⟩ :: (⟨r2, #[.int .i64 0, .int .i64 0, .int .i64 0, .int .i64 0, .int .i64 0, .int .i64 0, .int .i64 0, .int .i64 0, .slice none 0 0, .int .i64 0, .slice none 0 0, .slice none 0 0], 59⟩ :: [⟨r1, #[.int .i64 n0, .int .i64 n1, .int .i64 n2, .int .i64 n3, .int .i64 n4, .int .i64 n5, .int .i64 n6, .int .i64 n7, .slice a8 rows8.length cap8, .int .i64 n9, .slice a10 rows10.length cap10, .slice a11 rows11.length cap11], 59⟩]))) rfl
    have h_c8 := h_c8.stays hT.stays
    have h_c10 := h_c10.stays hT.stays
    have h_c11 := h_c11.stays hT.stays
    have h_m8 := h_m8.stays hT.stays
    have h_m10 := h_m10.stays hT.stays
    have h_m11 := h_m11.stays hT.stays
    have h_r3 := h_r3.stays hT.stays
    have hbel := h1.belowCall hbel (ge_cons gr3 (ge_cons gr2 (ge_cons gr1 (ge_nil _)))) hb
    have hnew : Stays (fun k => wq3.heap.size ≤ k) wq4 (Im wq4 [⟨r3, #[.int .i64 n0, .int .i64 n2, .int .i64 (k : Int), .slice a_r3 ((rows8.drop k).length) cap_r3], 61⟩, ⟨r2, #[.int .i64 n0, .int .i64 n1, .int .i64 n2, .int .i64 n3, .int .i64 n4, .int .i64 n5, .int .i64 n6, .int .i64 n7, .slice a_m8 ((rows8.take k).length) cap_m8, .int .i64 n9, .slice a_m10 rows10.length cap_m10, .slice a_m11 rows11.length cap_m11], 59⟩, ⟨r1, #[.int .i64 n0, .int .i64 n1, .int .i64 n2, .int .i64 n3, .int .i64 n4, .int .i64 n5, .int .i64 n6, .int .i64 n7, .slice a8 rows8.length cap8, .int .i64 n9, .slice a10 rows10.length cap10, .slice a11 rows11.length cap11], 59⟩]) wq4 := ⟨Nat.le_refl _, fun k hk h => ⟨hk, fun x hx => by have := h1.lt hx; omega⟩, fun _ _ _ => rfl⟩
    refine wl_eq (S := SH wq4 [⟨r3, #[.int .i64 n0, .int .i64 n2, .int .i64 (k : Int), .slice a_r3 ((rows8.drop k).length) cap_r3], 61⟩, ⟨r2, #[.int .i64 n0, .int .i64 n1, .int .i64 n2, .int .i64 n3, .int .i64 n4, .int .i64 n5, .int .i64 n6, .int .i64 n7, .slice a_m8 ((rows8.take k).length) cap_m8, .int .i64 n9, .slice a_m10 rows10.length cap_m10, .slice a_m11 rows11.length cap_m11], 59⟩, ⟨r1, #[.int .i64 n0, .int .i64 n1, .int .i64 n2, .int .i64 n3, .int .i64 n4, .int .i64 n5, .int .i64 n6, .int .i64 n7, .slice a8 rows8.length cap8, .int .i64 n9, .slice a10 rows10.length cap10, .slice a11 rows11.length cap11], 59⟩]) (h1.after hb) ?_
    obtain ⟨hm, hr⟩ := hres
    have hany : SH wq4 [⟨r3, #[.int .i64 n0, .int .i64 n2, .int .i64 (k : Int), .slice a_r3 ((rows8.drop k).length) cap_r3], 61⟩, ⟨r2, #[.int .i64 n0, .int .i64 n1, .int .i64 n2, .int .i64 n3, .int .i64 n4, .int .i64 n5, .int .i64 n6, .int .i64 n7, .slice a_m8 ((rows8.take k).length) cap_m8, .int .i64 n9, .slice a_m10 rows10.length cap_m10, .slice a_m11 rows11.length cap_m11], 59⟩, ⟨r1, #[.int .i64 n0, .int .i64 n1, .int .i64 n2, .int .i64 n3, .int .i64 n4, .int .i64 n5, .int .i64 n6, .int .i64 n7, .slice a8 rows8.length cap8, .int .i64 n9, .slice a10 rows10.length cap10, .slice a11 rows11.length cap11], 59⟩] wq4 := h1.after hb
    obtain ⟨c_p0, z_p0, rfl, h_p0, hr_p0⟩ := RdL.cons hm
    rw [Rd] at h_p0; subst h_p0
    obtain ⟨c_p1, z_p1, rfl, h_p1, hr_p1⟩ := RdL.cons hr_p0
    rw [Rd] at h_p1; subst h_p1
    obtain ⟨c_p2, z_p2, rfl, h_p2, hr_p2⟩ := RdL.cons hr_p1
    rw [Rd] at h_p2; subst h_p2
    obtain ⟨c_p3, z_p3, rfl, h_p3, hr_p3⟩ := RdL.cons hr_p2
    rw [Rd] at h_p3; subst h_p3
    obtain ⟨c_p4, z_p4, rfl, h_p4, hr_p4⟩ := RdL.cons hr_p3
    rw [Rd] at h_p4; subst h_p4
    obtain ⟨c_p5, z_p5, rfl, h_p5, hr_p5⟩ := RdL.cons hr_p4
    rw [Rd] at h_p5; subst h_p5
    obtain ⟨c_p6, z_p6, rfl, h_p6, hr_p6⟩ := RdL.cons hr_p5
    rw [Rd] at h_p6; subst h_p6
    obtain ⟨c_p7, z_p7, rfl, h_p7, hr_p7⟩ := RdL.cons hr_p6
    rw [Rd] at h_p7; subst h_p7
    obtain ⟨c_p8, z_p8, rfl, h_p8, hr_p8⟩ := RdL.cons hr_p7
    obtain ⟨a_p8, cap_p8, rfl⟩ := h_p8.slv
    obtain ⟨c_p9, z_p9, rfl, h_p9, hr_p9⟩ := RdL.cons hr_p8
    rw [Rd] at h_p9; subst h_p9
    obtain ⟨c_p10, z_p10, rfl, h_p10, hr_p10⟩ := RdL.cons hr_p9
    obtain ⟨a_p10, cap_p10, rfl⟩ := h_p10.slv
    obtain ⟨c_p11, z_p11, rfl, h_p11, hr_p11⟩ := RdL.cons hr_p10
    obtain ⟨a_p11, cap_p11, rfl⟩ := h_p11.slv
    obtain rfl := RdL.nil hr_p11
    obtain ⟨c_q0, z_q0, rfl, h_q0, hr_q0⟩ := RdL.cons hr
    rw [Rd] at h_q0; subst h_q0
    obtain ⟨c_q1, z_q1, rfl, h_q1, hr_q1⟩ := RdL.cons hr_q0
    rw [Rd] at h_q1; subst h_q1
    obtain ⟨c_q2, z_q2, rfl, h_q2, hr_q2⟩ := RdL.cons hr_q1
    rw [Rd] at h_q2; subst h_q2
    obtain ⟨c_q3, z_q3, rfl, h_q3, hr_q3⟩ := RdL.cons hr_q2
    obtain ⟨a_q3, cap_q3, rfl⟩ := h_q3.slv
    obtain rfl := RdL.nil hr_q3
    refine wl_go 3 [(25, .agg #[.int .i64 n0, .int .i64 n2, .int .i64 (k : Int), .slice a_q3 ((rows8.drop k).length) cap_q3]), (24, .agg #[.int .i64 n0, .int .i64 n1, .int .i64 n2, .int .i64 n3, .int .i64 n4, .int .i64 n5, .int .i64 n6, .int .i64 n7, .slice a_p8 ((rows8.take k).length) cap_p8, .int .i64 n9, .slice a_p10 rows10.length cap_p10, .slice a_p11 rows11.length cap_p11]), (20, .tuple #[.agg #[.int .i64 n0, .int .i64 n1, .int .i64 n2, .int .i64 n3, .int .i64 n4, .int .i64 n5, .int .i64 n6, .int .i64 n7, .slice a_p8 ((rows8.take k).length) cap_p8, .int .i64 n9, .slice a_p10 rows10.length cap_p10, .slice a_p11 rows11.length cap_p11], .agg #[.int .i64 n0, .int .i64 n2, .int .i64 (k : Int), .slice a_q3 ((rows8.drop k).length) cap_q3]])] (by kernel_rfl) ?_
    refine wl_new (d := 7) #[.int .i64 0, .int .i64 0, .int .i64 0, .int .i64 0, .int .i64 0, .int .i64 0, .int .i64 0, .int .i64 0, .slice none 0 0, .int .i64 0, .slice none 0 0, .slice none 0 0] 59 (fun r => .pointer (some ⟨r, 0, none⟩)) (by kernel_rfl) (fun r => by kernel_rfl) ?_
    intro r4 hr4
    have h_c8 := h_c8.stays (im_more (c := #[.int .i64 0, .int .i64 0, .int .i64 0, .int .i64 0, .int .i64 0, .int .i64 0, .int .i64 0, .int .i64 0, .slice none 0 0, .int .i64 0, .slice none 0 0, .slice none 0 0]) (t := 59) hr4)
    have h_c10 := h_c10.stays (im_more (c := #[.int .i64 0, .int .i64 0, .int .i64 0, .int .i64 0, .int .i64 0, .int .i64 0, .int .i64 0, .int .i64 0, .slice none 0 0, .int .i64 0, .slice none 0 0, .slice none 0 0]) (t := 59) hr4)
    have h_c11 := h_c11.stays (im_more (c := #[.int .i64 0, .int .i64 0, .int .i64 0, .int .i64 0, .int .i64 0, .int .i64 0, .int .i64 0, .int .i64 0, .slice none 0 0, .int .i64 0, .slice none 0 0, .slice none 0 0]) (t := 59) hr4)
    have h_m8 := h_m8.stays (im_more (c := #[.int .i64 0, .int .i64 0, .int .i64 0, .int .i64 0, .int .i64 0, .int .i64 0, .int .i64 0, .int .i64 0, .slice none 0 0, .int .i64 0, .slice none 0 0, .slice none 0 0]) (t := 59) hr4)
    have h_m10 := h_m10.stays (im_more (c := #[.int .i64 0, .int .i64 0, .int .i64 0, .int .i64 0, .int .i64 0, .int .i64 0, .int .i64 0, .int .i64 0, .slice none 0 0, .int .i64 0, .slice none 0 0, .slice none 0 0]) (t := 59) hr4)
    have h_m11 := h_m11.stays (im_more (c := #[.int .i64 0, .int .i64 0, .int .i64 0, .int .i64 0, .int .i64 0, .int .i64 0, .int .i64 0, .int .i64 0, .slice none 0 0, .int .i64 0, .slice none 0 0, .slice none 0 0]) (t := 59) hr4)
    have h_r3 := h_r3.stays (im_more (c := #[.int .i64 0, .int .i64 0, .int .i64 0, .int .i64 0, .int .i64 0, .int .i64 0, .int .i64 0, .int .i64 0, .slice none 0 0, .int .i64 0, .slice none 0 0, .slice none 0 0]) (t := 59) hr4)
    have gr4 := Nat.le_trans hbel.size hr4
    refine wl_new (d := 8) #[.int .i64 0, .int .i64 0, .int .i64 0, .slice none 0 0] 61 (fun r => .pointer (some ⟨r, 0, none⟩)) (by kernel_rfl) (fun r => by kernel_rfl) ?_
    intro r5 hr5
    have h_c8 := h_c8.stays (im_more (c := #[.int .i64 0, .int .i64 0, .int .i64 0, .slice none 0 0]) (t := 61) hr5)
    have h_c10 := h_c10.stays (im_more (c := #[.int .i64 0, .int .i64 0, .int .i64 0, .slice none 0 0]) (t := 61) hr5)
    have h_c11 := h_c11.stays (im_more (c := #[.int .i64 0, .int .i64 0, .int .i64 0, .slice none 0 0]) (t := 61) hr5)
    have h_m8 := h_m8.stays (im_more (c := #[.int .i64 0, .int .i64 0, .int .i64 0, .slice none 0 0]) (t := 61) hr5)
    have h_m10 := h_m10.stays (im_more (c := #[.int .i64 0, .int .i64 0, .int .i64 0, .slice none 0 0]) (t := 61) hr5)
    have h_m11 := h_m11.stays (im_more (c := #[.int .i64 0, .int .i64 0, .int .i64 0, .slice none 0 0]) (t := 61) hr5)
    have h_r3 := h_r3.stays (im_more (c := #[.int .i64 0, .int .i64 0, .int .i64 0, .slice none 0 0]) (t := 61) hr5)
    have gr5 := Nat.le_trans hbel.size hr5
    refine wl_store (b := r4) (off := 0) (v := .agg #[.int .i64 n0, .int .i64 n1, .int .i64 n2, .int .i64 n3, .int .i64 n4, .int .i64 n5, .int .i64 n6, .int .i64 n7, .slice a_p8 ((rows8.take k).length) cap_p8, .int .i64 n9, .slice a_p10 rows10.length cap_p10, .slice a_p11 rows11.length cap_p11]) (c' := #[.int .i64 n0, .int .i64 n1, .int .i64 n2, .int .i64 n3, .int .i64 n4, .int .i64 n5, .int .i64 n6, .int .i64 n7, .slice a_p8 ((rows8.take k).length) cap_p8, .int .i64 n9, .slice a_p10 rows10.length cap_p10, .slice a_p11 rows11.length cap_p11]) (L' := [⟨r5, #[.int .i64 0, .int .i64 0, .int .i64 0, .slice none 0 0], 61⟩, ⟨r4, #[.int .i64 n0, .int .i64 n1, .int .i64 n2, .int .i64 n3, .int .i64 n4, .int .i64 n5, .int .i64 n6, .int .i64 n7, .slice a_p8 ((rows8.take k).length) cap_p8, .int .i64 n9, .slice a_p10 rows10.length cap_p10, .slice a_p11 rows11.length cap_p11], 59⟩, ⟨r3, #[.int .i64 n0, .int .i64 n2, .int .i64 (k : Int), .slice a_r3 ((rows8.drop k).length) cap_r3], 61⟩, ⟨r2, #[.int .i64 n0, .int .i64 n1, .int .i64 n2, .int .i64 n3, .int .i64 n4, .int .i64 n5, .int .i64 n6, .int .i64 n7, .slice a_m8 ((rows8.take k).length) cap_m8, .int .i64 n9, .slice a_m10 rows10.length cap_m10, .slice a_m11 rows11.length cap_m11], 59⟩, ⟨r1, #[.int .i64 n0, .int .i64 n1, .int .i64 n2, .int .i64 n3, .int .i64 n4, .int .i64 n5, .int .i64 n6, .int .i64 n7, .slice a8 rows8.length cap8, .int .i64 n9, .slice a10 rows10.length cap10, .slice a11 rows11.length cap11], 59⟩]) 1 (by kernel_rfl) rfl (by kernel_rfl) (by kernel_rfl) rfl (by kernel_rfl) rfl ?_
    refine wl_store (b := r5) (off := 0) (v := .agg #[.int .i64 n0, .int .i64 n2, .int .i64 (k : Int), .slice a_q3 ((rows8.drop k).length) cap_q3]) (c' := #[.int .i64 n0, .int .i64 n2, .int .i64 (k : Int), .slice a_q3 ((rows8.drop k).length) cap_q3]) (L' := [⟨r5, #[.int .i64 n0, .int .i64 n2, .int .i64 (k : Int), .slice a_q3 ((rows8.drop k).length) cap_q3], 61⟩, ⟨r4, #[.int .i64 n0, .int .i64 n1, .int .i64 n2, .int .i64 n3, .int .i64 n4, .int .i64 n5, .int .i64 n6, .int .i64 n7, .slice a_p8 ((rows8.take k).length) cap_p8, .int .i64 n9, .slice a_p10 rows10.length cap_p10, .slice a_p11 rows11.length cap_p11], 59⟩, ⟨r3, #[.int .i64 n0, .int .i64 n2, .int .i64 (k : Int), .slice a_r3 ((rows8.drop k).length) cap_r3], 61⟩, ⟨r2, #[.int .i64 n0, .int .i64 n1, .int .i64 n2, .int .i64 n3, .int .i64 n4, .int .i64 n5, .int .i64 n6, .int .i64 n7, .slice a_m8 ((rows8.take k).length) cap_m8, .int .i64 n9, .slice a_m10 rows10.length cap_m10, .slice a_m11 rows11.length cap_m11], 59⟩, ⟨r1, #[.int .i64 n0, .int .i64 n1, .int .i64 n2, .int .i64 n3, .int .i64 n4, .int .i64 n5, .int .i64 n6, .int .i64 n7, .slice a8 rows8.length cap8, .int .i64 n9, .slice a10 rows10.length cap10, .slice a11 rows11.length cap11], 59⟩]) 0 (by kernel_rfl) rfl (by kernel_rfl) (by kernel_rfl) rfl (by kernel_rfl) rfl ?_
    refine nx_list ?_
    refine nx_then ?_
    refine wc_seq ?_
    refine wc_region ?_
    refine wl_yl (d := 26) (v := .agg #[.int .i64 n0, .int .i64 n1, .int .i64 n2, .int .i64 n3, .int .i64 n4, .int .i64 n5, .int .i64 n6, .int .i64 n7, .slice a_m8 ((rows8.take k).length) cap_m8, .int .i64 n9, .slice a_m10 rows10.length cap_m10, .slice a_m11 rows11.length cap_m11]) (by kernel_rfl) (yl_load (b := r2) (off := 0) 3 rfl (by kernel_rfl) rfl (by kernel_rfl)) ?_
    refine wl_yl (d := 27) (v := .agg #[.int .i64 n0, .int .i64 n1, .int .i64 n2, .int .i64 n3, .int .i64 n4, .int .i64 n5, .int .i64 n6, .int .i64 n7, .slice a_p8 ((rows8.take k).length) cap_p8, .int .i64 n9, .slice a_p10 rows10.length cap_p10, .slice a_p11 rows11.length cap_p11]) (by kernel_rfl) (yl_load (b := r4) (off := 0) 1 rfl (by kernel_rfl) rfl (by kernel_rfl)) ?_
    refine wl_callK shK (d := 28) (v := .bool true) (by kernel_rfl) (by kernel_rfl) (fun w1 h1 => sameMember_ok n0 n1 n2 n3 n4 n5 n6 n7 n9 (rows8.take k) rows10 rows11 (FitR.take fR8 k) (takeB b8) fR10 b10 fR11 b11 (fun r hr => hz r (List.mem_of_mem_take hr)) w1 _ _ _ _ (show RdL (fun _ => True) _ _ [.int .i64 n0, .int .i64 n1, .int .i64 n2, .int .i64 n3, .int .i64 n4, .int .i64 n5, .int .i64 n6, .int .i64 n7, .slice a_m8 ((rows8.take k).length) cap_m8, .int .i64 n9, .slice a_m10 rows10.length cap_m10, .slice a_m11 rows11.length cap_m11] from RdL.mk (by rw [Rd]) (RdL.mk (by rw [Rd]) (RdL.mk (by rw [Rd]) (RdL.mk (by rw [Rd]) (RdL.mk (by rw [Rd]) (RdL.mk (by rw [Rd]) (RdL.mk (by rw [Rd]) (RdL.mk (by rw [Rd]) (RdL.mk (h_m8.stays (h1.staysC (L0 := (⟨r5, #[.int .i64 0, .int .i64 0, .int .i64 0, .slice none 0 0], 61⟩ :: (⟨r4, #[.int .i64 0, .int .i64 0, .int .i64 0, .int .i64 0, .int .i64 0, .int .i64 0, .int .i64 0, .int .i64 0, .slice none 0 0, .int .i64 0, .slice none 0 0, .slice none 0 0], 59⟩ :: [⟨r3, #[.int .i64 n0, .int .i64 n2, .int .i64 (k : Int), .slice a_r3 ((rows8.drop k).length) cap_r3], 61⟩, ⟨r2, #[.int .i64 n0, .int .i64 n1, .int .i64 n2, .int .i64 n3, .int .i64 n4, .int .i64 n5, .int .i64 n6, .int .i64 n7, .slice a_m8 ((rows8.take k).length) cap_m8, .int .i64 n9, .slice a_m10 rows10.length cap_m10, .slice a_m11 rows11.length cap_m11], 59⟩, ⟨r1, #[.int .i64 n0, .int .i64 n1, .int .i64 n2, .int .i64 n3, .int .i64 n4, .int .i64 n5, .int .i64 n6, .int .i64 n7, .slice a8 rows8.length cap8, .int .i64 n9, .slice a10 rows10.length cap10, .slice a11 rows11.length cap11], 59⟩]))) rfl)).any (RdL.mk (by rw [Rd]) (RdL.mk (h_m10.stays (h1.staysC (L0 := (⟨r5, #[.int .i64 0, .int .i64 0, .int .i64 0, .slice none 0 0], 61⟩ :: (⟨r4, #[.int .i64 0, .int .i64 0, .int .i64 0, .int .i64 0, .int .i64 0, .int .i64 0, .int .i64 0, .int .i64 0, .slice none 0 0, .int .i64 0, .slice none 0 0, .slice none 0 0], 59⟩ :: [⟨r3, #[.int .i64 n0, .int .i64 n2, .int .i64 (k : Int), .slice a_r3 ((rows8.drop k).length) cap_r3], 61⟩, ⟨r2, #[.int .i64 n0, .int .i64 n1, .int .i64 n2, .int .i64 n3, .int .i64 n4, .int .i64 n5, .int .i64 n6, .int .i64 n7, .slice a_m8 ((rows8.take k).length) cap_m8, .int .i64 n9, .slice a_m10 rows10.length cap_m10, .slice a_m11 rows11.length cap_m11], 59⟩, ⟨r1, #[.int .i64 n0, .int .i64 n1, .int .i64 n2, .int .i64 n3, .int .i64 n4, .int .i64 n5, .int .i64 n6, .int .i64 n7, .slice a8 rows8.length cap8, .int .i64 n9, .slice a10 rows10.length cap10, .slice a11 rows11.length cap11], 59⟩]))) rfl)).any (RdL.mk (h_m11.stays (h1.staysC (L0 := (⟨r5, #[.int .i64 0, .int .i64 0, .int .i64 0, .slice none 0 0], 61⟩ :: (⟨r4, #[.int .i64 0, .int .i64 0, .int .i64 0, .int .i64 0, .int .i64 0, .int .i64 0, .int .i64 0, .int .i64 0, .slice none 0 0, .int .i64 0, .slice none 0 0, .slice none 0 0], 59⟩ :: [⟨r3, #[.int .i64 n0, .int .i64 n2, .int .i64 (k : Int), .slice a_r3 ((rows8.drop k).length) cap_r3], 61⟩, ⟨r2, #[.int .i64 n0, .int .i64 n1, .int .i64 n2, .int .i64 n3, .int .i64 n4, .int .i64 n5, .int .i64 n6, .int .i64 n7, .slice a_m8 ((rows8.take k).length) cap_m8, .int .i64 n9, .slice a_m10 rows10.length cap_m10, .slice a_m11 rows11.length cap_m11], 59⟩, ⟨r1, #[.int .i64 n0, .int .i64 n1, .int .i64 n2, .int .i64 n3, .int .i64 n4, .int .i64 n5, .int .i64 n6, .int .i64 n7, .slice a8 rows8.length cap8, .int .i64 n9, .slice a10 rows10.length cap10, .slice a11 rows11.length cap11], 59⟩]))) rfl)).any (RdL.none))))))))))))) (show RdL (fun _ => True) _ _ [.int .i64 n0, .int .i64 n1, .int .i64 n2, .int .i64 n3, .int .i64 n4, .int .i64 n5, .int .i64 n6, .int .i64 n7, .slice a_p8 ((rows8.take k).length) cap_p8, .int .i64 n9, .slice a_p10 rows10.length cap_p10, .slice a_p11 rows11.length cap_p11] from RdL.mk (by rw [Rd]) (RdL.mk (by rw [Rd]) (RdL.mk (by rw [Rd]) (RdL.mk (by rw [Rd]) (RdL.mk (by rw [Rd]) (RdL.mk (by rw [Rd]) (RdL.mk (by rw [Rd]) (RdL.mk (by rw [Rd]) (RdL.mk (h_p8.stays (SH.staysAll (N := [⟨r5, #[.int .i64 n0, .int .i64 n2, .int .i64 (k : Int), .slice a_q3 ((rows8.drop k).length) cap_q3], 61⟩, ⟨r4, #[.int .i64 n0, .int .i64 n1, .int .i64 n2, .int .i64 n3, .int .i64 n4, .int .i64 n5, .int .i64 n6, .int .i64 n7, .slice a_p8 ((rows8.take k).length) cap_p8, .int .i64 n9, .slice a_p10 rows10.length cap_p10, .slice a_p11 rows11.length cap_p11], 59⟩]) (L := [⟨r3, #[.int .i64 n0, .int .i64 n2, .int .i64 (k : Int), .slice a_r3 ((rows8.drop k).length) cap_r3], 61⟩, ⟨r2, #[.int .i64 n0, .int .i64 n1, .int .i64 n2, .int .i64 n3, .int .i64 n4, .int .i64 n5, .int .i64 n6, .int .i64 n7, .slice a_m8 ((rows8.take k).length) cap_m8, .int .i64 n9, .slice a_m10 rows10.length cap_m10, .slice a_m11 rows11.length cap_m11], 59⟩, ⟨r1, #[.int .i64 n0, .int .i64 n1, .int .i64 n2, .int .i64 n3, .int .i64 n4, .int .i64 n5, .int .i64 n6, .int .i64 n7, .slice a8 rows8.length cap8, .int .i64 n9, .slice a10 rows10.length cap10, .slice a11 rows11.length cap11], 59⟩]) hany h1 (ge_cons hr5 (ge_cons hr4 (ge_nil _))))).any (RdL.mk (by rw [Rd]) (RdL.mk (h_p10.stays (SH.staysAll (N := [⟨r5, #[.int .i64 n0, .int .i64 n2, .int .i64 (k : Int), .slice a_q3 ((rows8.drop k).length) cap_q3], 61⟩, ⟨r4, #[.int .i64 n0, .int .i64 n1, .int .i64 n2, .int .i64 n3, .int .i64 n4, .int .i64 n5, .int .i64 n6, .int .i64 n7, .slice a_p8 ((rows8.take k).length) cap_p8, .int .i64 n9, .slice a_p10 rows10.length cap_p10, .slice a_p11 rows11.length cap_p11], 59⟩]) (L := [⟨r3, #[.int .i64 n0, .int .i64 n2, .int .i64 (k : Int), .slice a_r3 ((rows8.drop k).length) cap_r3], 61⟩, ⟨r2, #[.int .i64 n0, .int .i64 n1, .int .i64 n2, .int .i64 n3, .int .i64 n4, .int .i64 n5, .int .i64 n6, .int .i64 n7, .slice a_m8 ((rows8.take k).length) cap_m8, .int .i64 n9, .slice a_m10 rows10.length cap_m10, .slice a_m11 rows11.length cap_m11], 59⟩, ⟨r1, #[.int .i64 n0, .int .i64 n1, .int .i64 n2, .int .i64 n3, .int .i64 n4, .int .i64 n5, .int .i64 n6, .int .i64 n7, .slice a8 rows8.length cap8, .int .i64 n9, .slice a10 rows10.length cap10, .slice a11 rows11.length cap11], 59⟩]) hany h1 (ge_cons hr5 (ge_cons hr4 (ge_nil _))))).any (RdL.mk (h_p11.stays (SH.staysAll (N := [⟨r5, #[.int .i64 n0, .int .i64 n2, .int .i64 (k : Int), .slice a_q3 ((rows8.drop k).length) cap_q3], 61⟩, ⟨r4, #[.int .i64 n0, .int .i64 n1, .int .i64 n2, .int .i64 n3, .int .i64 n4, .int .i64 n5, .int .i64 n6, .int .i64 n7, .slice a_p8 ((rows8.take k).length) cap_p8, .int .i64 n9, .slice a_p10 rows10.length cap_p10, .slice a_p11 rows11.length cap_p11], 59⟩]) (L := [⟨r3, #[.int .i64 n0, .int .i64 n2, .int .i64 (k : Int), .slice a_r3 ((rows8.drop k).length) cap_r3], 61⟩, ⟨r2, #[.int .i64 n0, .int .i64 n1, .int .i64 n2, .int .i64 n3, .int .i64 n4, .int .i64 n5, .int .i64 n6, .int .i64 n7, .slice a_m8 ((rows8.take k).length) cap_m8, .int .i64 n9, .slice a_m10 rows10.length cap_m10, .slice a_m11 rows11.length cap_m11], 59⟩, ⟨r1, #[.int .i64 n0, .int .i64 n1, .int .i64 n2, .int .i64 n3, .int .i64 n4, .int .i64 n5, .int .i64 n6, .int .i64 n7, .slice a8 rows8.length cap8, .int .i64 n9, .slice a10 rows10.length cap10, .slice a11 rows11.length cap11], 59⟩]) hany h1 (ge_cons hr5 (ge_cons hr4 (ge_nil _))))).any (RdL.none)))))))))))))) ?_
    refine wl_go 1 [(29, .bool true)] (by kernel_rfl) ?_
    refine wl_yl (d := 30) (v := .agg #[.int .i64 n0, .int .i64 n2, .int .i64 (k : Int), .slice a_r3 ((rows8.drop k).length) cap_r3]) (by kernel_rfl) (yl_load (b := r3) (off := 0) 2 rfl (by kernel_rfl) rfl (by kernel_rfl)) ?_
    refine wl_yl (d := 31) (v := .agg #[.int .i64 n0, .int .i64 n2, .int .i64 (k : Int), .slice a_q3 ((rows8.drop k).length) cap_q3]) (by kernel_rfl) (yl_load (b := r5) (off := 0) 0 rfl (by kernel_rfl) rfl (by kernel_rfl)) ?_
    refine wl_callK shK (d := 32) (v := .bool true) (by kernel_rfl) (by kernel_rfl) (fun w1 h1 => sameReport_ok n0 n2 (k : Int) (rows8.drop k) (FitR.drop fR8 k) (dropB b8) (fun r hr => hz r (List.mem_of_mem_drop hr)) w1 _ _ _ _ (show RdL (fun _ => True) _ _ [.int .i64 n0, .int .i64 n2, .int .i64 (k : Int), .slice a_r3 ((rows8.drop k).length) cap_r3] from RdL.mk (by rw [Rd]) (RdL.mk (by rw [Rd]) (RdL.mk (by rw [Rd]) (RdL.mk (h_r3.stays (h1.staysC (L0 := (⟨r5, #[.int .i64 0, .int .i64 0, .int .i64 0, .slice none 0 0], 61⟩ :: (⟨r4, #[.int .i64 0, .int .i64 0, .int .i64 0, .int .i64 0, .int .i64 0, .int .i64 0, .int .i64 0, .int .i64 0, .slice none 0 0, .int .i64 0, .slice none 0 0, .slice none 0 0], 59⟩ :: [⟨r3, #[.int .i64 n0, .int .i64 n2, .int .i64 (k : Int), .slice a_r3 ((rows8.drop k).length) cap_r3], 61⟩, ⟨r2, #[.int .i64 n0, .int .i64 n1, .int .i64 n2, .int .i64 n3, .int .i64 n4, .int .i64 n5, .int .i64 n6, .int .i64 n7, .slice a_m8 ((rows8.take k).length) cap_m8, .int .i64 n9, .slice a_m10 rows10.length cap_m10, .slice a_m11 rows11.length cap_m11], 59⟩, ⟨r1, #[.int .i64 n0, .int .i64 n1, .int .i64 n2, .int .i64 n3, .int .i64 n4, .int .i64 n5, .int .i64 n6, .int .i64 n7, .slice a8 rows8.length cap8, .int .i64 n9, .slice a10 rows10.length cap10, .slice a11 rows11.length cap11], 59⟩]))) rfl)).any (RdL.none))))) (show RdL (fun _ => True) _ _ [.int .i64 n0, .int .i64 n2, .int .i64 (k : Int), .slice a_q3 ((rows8.drop k).length) cap_q3] from RdL.mk (by rw [Rd]) (RdL.mk (by rw [Rd]) (RdL.mk (by rw [Rd]) (RdL.mk (h_q3.stays (SH.staysAll (N := [⟨r5, #[.int .i64 n0, .int .i64 n2, .int .i64 (k : Int), .slice a_q3 ((rows8.drop k).length) cap_q3], 61⟩, ⟨r4, #[.int .i64 n0, .int .i64 n1, .int .i64 n2, .int .i64 n3, .int .i64 n4, .int .i64 n5, .int .i64 n6, .int .i64 n7, .slice a_p8 ((rows8.take k).length) cap_p8, .int .i64 n9, .slice a_p10 rows10.length cap_p10, .slice a_p11 rows11.length cap_p11], 59⟩]) (L := [⟨r3, #[.int .i64 n0, .int .i64 n2, .int .i64 (k : Int), .slice a_r3 ((rows8.drop k).length) cap_r3], 61⟩, ⟨r2, #[.int .i64 n0, .int .i64 n1, .int .i64 n2, .int .i64 n3, .int .i64 n4, .int .i64 n5, .int .i64 n6, .int .i64 n7, .slice a_m8 ((rows8.take k).length) cap_m8, .int .i64 n9, .slice a_m10 rows10.length cap_m10, .slice a_m11 rows11.length cap_m11], 59⟩, ⟨r1, #[.int .i64 n0, .int .i64 n1, .int .i64 n2, .int .i64 n3, .int .i64 n4, .int .i64 n5, .int .i64 n6, .int .i64 n7, .slice a8 rows8.length cap8, .int .i64 n9, .slice a10 rows10.length cap10, .slice a11 rows11.length cap11], 59⟩]) hany h1 (ge_cons hr5 (ge_cons hr4 (ge_nil _))))).any (RdL.none)))))) ?_
    refine wl_go 2 [(34, .bool true), (33, .bool true)] (by kernel_rfl) ?_
    refine wl_callK shK (d := 35) (v := .bool true) (by kernel_rfl) (by kernel_rfl) (fun w1 h1 => awake_ok w1) ?_
    refine wl_go 2 [(4, .bool true), (36, .bool true)] (by kernel_rfl) ?_
    refine nx_list ?_
    refine nx_then ?_
    refine nx_ret ?_
    refine ret_tmp (v := .bool true) rfl (by kernel_rfl) ?_
    intro w' hw'
    exact ⟨rfl, hw'.below hbel hbel.size (ge_cons gr5 (ge_cons gr4 (ge_cons gr3 (ge_cons gr2 (ge_cons gr1 (ge_nil _))))))⟩

end Go.Proofs.Ythedokpgogopiaa
