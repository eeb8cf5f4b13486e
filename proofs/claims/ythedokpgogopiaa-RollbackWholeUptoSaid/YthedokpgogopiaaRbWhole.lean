/- The walk of the law RollbackWhole, printed by a program of this repository (gen/rbwhole.py). -/
import Derived.Test.YthedokpgogopiaaRbCutLaw
import Derived.Test.YthedokpgogopiaaAo
namespace Go.Proofs.Ythedokpgogopiaa
open Go.RowKit Go.Sx
set_option linter.unusedVariables false
set_option linter.unusedSimpArgs false

theorem clone_own (rows : List (List D)) (S : Nat → Prop) (v : Value) (w : World) (hr : Rd S w (.sl rows) v) (hes : ∀ r ∈ rows, r.length = 82) (hby : rows.length * 1208 ≤ 140737488355328) : Calls Try.prog 18 #[v] w (fun e w' => ∃ v' R rv, e = .returned v' ∧ Own 55 82 v' rows.length rv.flatten R ∧ RdR S w rows rv ∧ SH w' R w' ∧ (∀ x ∈ R, w.heap.size ≤ x.b) ∧ Below w.heap.size w w') := by
  rw [Rd] at hr
  obtain ⟨a, cap, rfl, hrows⟩ := hr
  have hml : rows.length ≤ maxLen := by simp only [maxLen]; omega
  cases a with
  | none =>
    have hn : rows = [] := by
      rcases hrows with h | ⟨g, off, h, _⟩
      · exact h
      · cases h
    subst hn
    refine Sx.enter (l := [.slice none (([] : List (List D)).length) cap]) Try.func18 rfl (n := 8) rfl (by simp) ?_
    refine wc_eq (S := SH w []) (SH.refl _) ?_
    refine wc_seq ?_
    refine wc_region ?_
    refine wl_go 1 [(2, .slice none 0 0)] (by kernel_rfl) ?_
    refine nx_list ?_
    refine nx_then ?_
    refine wc_seq ?_
    refine wc_seq ?_
    refine wc_region ?_
    refine wl_go 2 [(4, .bool true), (3, .slice none (([] : List (List D)).length) cap)] (by kernel_rfl) ?_
    refine nx_list ?_
    refine nx_then ?_
    refine wc_cond true (by kernel_rfl) (by kernel_rfl) (fun _ => ?_) (fun h => by cases h)
    refine wc_seq ?_
    refine wc_region ?_
    refine wl_go 1 [(2, .slice none 0 0)] (by kernel_rfl) ?_
    refine nx_list ?_
    refine nx_then ?_
    refine nx_ret ?_
    refine nx_then_ret ?_
    refine ret_tmp (v := .slice none 0 0) rfl (by kernel_rfl) ?_
    intro w' hw'
    exact ⟨_, [], [], rfl, Own.nil _ _, trivial, SH.refl _, by simp, hw'.below (Below.refl _ _) (Nat.le_refl _) (ge_nil _)⟩
  | some ad =>
    have hex : ∃ rv, RdR S w rows rv ∧ ∀ w1 r1, w.heap.size ≤ r1 → SH w ([⟨r1, #[], 55⟩] ++ []) w1 → ∀ j u, rv.flatten[j]? = some u → w1.cell? (ad.add j) = some u := by
      rcases hrows with h | ⟨g, off, h, hS, hg, hR⟩
      · subst h; exact ⟨[], trivial, fun _ _ _ _ j u h => by simp at h⟩
      · cases h
        obtain ⟨vs, h1, h2⟩ := RdRows.vals hR
        refine ⟨vs, h1, fun w1 r1 hr1 hw1 j u hj => ?_⟩
        rw [Addr.add_mid, hw1.cellIm ⟨hg, by simp; omega⟩]
        exact h2 j u hj
    obtain ⟨rv, hrv, hnews⟩ := hex
    have hfl := (hrv.flat hes).2
    refine Sx.enter (l := [.slice (some ad) rows.length cap]) Try.func18 rfl (n := 8) rfl (by simp) ?_
    refine wc_eq (S := SH w []) (SH.refl _) ?_
    refine wc_seq ?_
    refine wc_region ?_
    refine wl_go 1 [(2, .slice none 0 0)] (by kernel_rfl) ?_
    refine nx_list ?_
    refine nx_then ?_
    refine wc_seq ?_
    refine wc_seq ?_
    refine wc_region ?_
    refine wl_go 2 [(4, .bool false), (3, .slice (some ad) rows.length cap)] (by kernel_rfl) ?_
    refine nx_list ?_
    refine nx_then ?_
    refine wc_cond false (by kernel_rfl) (by kernel_rfl) (fun h => by cases h) (fun _ => ?_)
    refine nx_skip ?_
    refine nx_then ?_
    refine wc_seq ?_
    refine wc_region ?_
    refine wl_new (d := 5) #[] 55 (fun r => .slice (some ⟨r, 0, none⟩) 0 0) (by kernel_rfl) (fun r => by kernel_rfl) ?_
    intro r1 hr1
    refine wl_go 1 [(6, .slice (some ad) rows.length cap)] (by kernel_rfl) ?_
    refine wl_append (R := [⟨r1, #[], 55⟩]) (L := []) (d := 7) 55 zv55 82 1208 (v := .slice (some ⟨r1, 0, none⟩) 0 0) (k := 0) (xs := []) (a := ad) (m := rows.length) (c := cap) rv.flatten (by kernel_rfl) rfl (by kernel_rfl) (by kernel_rfl) (by decide) (by kernel_rfl) ⟨rfl, .inr ⟨r1, 0, #[], rfl, rfl, Nat.le_refl _, Nat.zero_le _, rfl, rfl⟩⟩ (by kernel_rfl) hfl (fun w1 hw1 => hnews w1 _ hr1 hw1) hrv.oneCell (by rw [Nat.zero_add]; exact hml) (by rw [Nat.zero_add]; exact hby) ?_
    intro w1 v1 R1 hown htr
    simp only [List.append_nil] at htr
    rw [show R1 ++ ([] : List Blk) = R1 from List.append_nil _]
    refine wl_go 1 [(2, v1)] (by kernel_rfl) ?_
    refine nx_list ?_
    refine nx_then ?_
    refine nx_ret ?_
    refine ret_tmp (v := v1) rfl (by kernel_rfl) ?_
    intro w2 hw2
    have htr2 := htr.trans hw2.trHere
    refine ⟨v1, R1, rv, rfl, ?_, hrv, hw2.here, fun x hx => ?_, htr2.below (Nat.le_refl _) (by simp; exact hr1)⟩
    · rw [Nat.zero_add, List.nil_append] at hown; exact hown
    · rcases htr.new hx with h | ⟨y, hy, he⟩
      · exact h
      · simp only [List.mem_singleton] at hy; subst hy; rw [← he]; exact hr1

theorem walk_whole (ds : List D) (cs : List Value) (at_ : Int) (w : World) (hrd : RdL (Im w []) w ds cs) (hfit : FitL sh by_ ds shMember) (hsz : szL ds ≤ 2097152) (hcap0 : ∀ a n c, cs[8]? = some (.slice a n c) → n ≤ c) :
    Calls Try.prog 6 #[.agg cs.toArray, .int .i64 at_] w (fun e w' => e = .returned (.bool true) ∧ Below w.heap.size w w') := by
  obtain ⟨d0, e0, rfl, hf0, hft0⟩ := FitL.cons (k := .int) (ks := _) hfit
  obtain ⟨n0, rfl, hb0⟩ := Fit.int hf0
  obtain ⟨d1, e1, rfl, hf1, hft1⟩ := FitL.cons (k := .int) (ks := _) hft0
  obtain ⟨n1, rfl, hb1⟩ := Fit.int hf1
  obtain ⟨d2, e2, rfl, hf2, hft2⟩ := FitL.cons (k := .int) (ks := _) hft1
  obtain ⟨n2, rfl, hb2⟩ := Fit.int hf2
  obtain ⟨d3, e3, rfl, hf3, hft3⟩ := FitL.cons (k := .int) (ks := _) hft2
  obtain ⟨n3, rfl, hb3⟩ := Fit.int hf3
  obtain ⟨d4, e4, rfl, hf4, hft4⟩ := FitL.cons (k := .int) (ks := _) hft3
  obtain ⟨n4, rfl, hb4⟩ := Fit.int hf4
  obtain ⟨d5, e5, rfl, hf5, hft5⟩ := FitL.cons (k := .int) (ks := _) hft4
  obtain ⟨n5, rfl, hb5⟩ := Fit.int hf5
  obtain ⟨d6, e6, rfl, hf6, hft6⟩ := FitL.cons (k := .int) (ks := _) hft5
  obtain ⟨n6, rfl, hb6⟩ := Fit.int hf6
  obtain ⟨d7, e7, rfl, hf7, hft7⟩ := FitL.cons (k := .int) (ks := _) hft6
  obtain ⟨n7, rfl, hb7⟩ := Fit.int hf7
  obtain ⟨d8, e8, rfl, hf8, hft8⟩ := FitL.cons (k := .sl 13) (ks := _) hft7
  obtain ⟨rows8, rfl, b8, fR8⟩ := Fit.sl hf8
  have b8 : rows8.length * 1208 ≤ 140737488355328 := b8
  obtain ⟨d9, e9, rfl, hf9, hft9⟩ := FitL.cons (k := .int) (ks := _) hft8
  obtain ⟨n9, rfl, hb9⟩ := Fit.int hf9
  obtain ⟨d10, e10, rfl, hf10, hft10⟩ := FitL.cons (k := .sl 3) (ks := _) hft9
  obtain ⟨rows10, rfl, b10, fR10⟩ := Fit.sl hf10
  have b10 : rows10.length * 8 ≤ 140737488355328 := b10
  obtain ⟨d11, e11, rfl, hf11, hft11⟩ := FitL.cons (k := .sl 3) (ks := _) hft10
  obtain ⟨rows11, rfl, b11, fR11⟩ := Fit.sl hf11
  have b11 : rows11.length * 8 ≤ 140737488355328 := b11
  obtain rfl := FitL.nil hft11
  obtain ⟨c0, z0, rfl, h_c0, hrd0⟩ := RdL.cons hrd
  rw [Rd] at h_c0; subst h_c0
  obtain ⟨c1, z1, rfl, h_c1, hrd1⟩ := RdL.cons hrd0
  rw [Rd] at h_c1; subst h_c1
  obtain ⟨c2, z2, rfl, h_c2, hrd2⟩ := RdL.cons hrd1
  rw [Rd] at h_c2; subst h_c2
  obtain ⟨c3, z3, rfl, h_c3, hrd3⟩ := RdL.cons hrd2
  rw [Rd] at h_c3; subst h_c3
  obtain ⟨c4, z4, rfl, h_c4, hrd4⟩ := RdL.cons hrd3
  rw [Rd] at h_c4; subst h_c4
  obtain ⟨c5, z5, rfl, h_c5, hrd5⟩ := RdL.cons hrd4
  rw [Rd] at h_c5; subst h_c5
  obtain ⟨c6, z6, rfl, h_c6, hrd6⟩ := RdL.cons hrd5
  rw [Rd] at h_c6; subst h_c6
  obtain ⟨c7, z7, rfl, h_c7, hrd7⟩ := RdL.cons hrd6
  rw [Rd] at h_c7; subst h_c7
  obtain ⟨c8, z8, rfl, h_c8, hrd8⟩ := RdL.cons hrd7
  obtain ⟨a8, cap8, rfl⟩ := h_c8.slv
  obtain ⟨c9, z9, rfl, h_c9, hrd9⟩ := RdL.cons hrd8
  rw [Rd] at h_c9; subst h_c9
  obtain ⟨c10, z10, rfl, h_c10, hrd10⟩ := RdL.cons hrd9
  obtain ⟨a10, cap10, rfl⟩ := h_c10.slv
  obtain ⟨c11, z11, rfl, h_c11, hrd11⟩ := RdL.cons hrd10
  obtain ⟨a11, cap11, rfl⟩ := h_c11.slv
  obtain rfl := RdL.nil hrd11
  have hcap := hcap0 _ _ _ rfl
  have hn : ∀ x ∈ [n0, n1, n2, n3, n4, n5, n6, n7, n9], -9223372036854775808 ≤ x ∧ x ≤ 9223372036854775807 := by
    intro x hx
    simp only [List.mem_cons, List.not_mem_nil, or_false] at hx
    rcases hx with rfl | rfl | rfl | rfl | rfl | rfl | rfl | rfl | rfl <;> assumption
  have hz : ∀ r ∈ rows8, (encL r).size ≤ 9223372036854775807 := fun r hr => by
    have h8 := szR_mem hr
    have h9 := encL_size r
    simp only [szL, D.sz] at hsz
    omega
  obtain ⟨k, hk⟩ : ∃ k, k = cutAt at_ n9 rows8.length := ⟨_, rfl⟩
  have hkl : k ≤ rows8.length := by rw [hk]; exact cutAt_le _ _ _
  have hbel := Below.refl w.heap.size w
  have hes8 : ∀ r ∈ rows8, r.length = 82 := fun r hr => fR8.length r hr
  refine Sx.enter (l := [.agg #[.int .i64 n0, .int .i64 n1, .int .i64 n2, .int .i64 n3, .int .i64 n4, .int .i64 n5, .int .i64 n6, .int .i64 n7, .slice a8 rows8.length cap8, .int .i64 n9, .slice a10 rows10.length cap10, .slice a11 rows11.length cap11], .int .i64 at_]) Try.func6 rfl (n := 60) rfl (by simp) ?_
  refine wc_eq (S := SH w []) (SH.refl _) ?_
  refine wc_seq ?_
  refine wc_region ?_
  refine wl_new (d := 2) #[.int .i64 n0, .int .i64 n1, .int .i64 n2, .int .i64 n3, .int .i64 n4, .int .i64 n5, .int .i64 n6, .int .i64 n7, .slice a8 rows8.length cap8, .int .i64 n9, .slice a10 rows10.length cap10, .slice a11 rows11.length cap11] 59 (fun r => .pointer (some ⟨r, 0, none⟩)) (by kernel_rfl) (fun r => by kernel_rfl) ?_
  intro r1 hr1
  have h_c8 := h_c8.stays (im_more (c := #[.int .i64 n0, .int .i64 n1, .int .i64 n2, .int .i64 n3, .int .i64 n4, .int .i64 n5, .int .i64 n6, .int .i64 n7, .slice a8 rows8.length cap8, .int .i64 n9, .slice a10 rows10.length cap10, .slice a11 rows11.length cap11]) (t := 59) hr1)
  have h_c10 := h_c10.stays (im_more (c := #[.int .i64 n0, .int .i64 n1, .int .i64 n2, .int .i64 n3, .int .i64 n4, .int .i64 n5, .int .i64 n6, .int .i64 n7, .slice a8 rows8.length cap8, .int .i64 n9, .slice a10 rows10.length cap10, .slice a11 rows11.length cap11]) (t := 59) hr1)
  have h_c11 := h_c11.stays (im_more (c := #[.int .i64 n0, .int .i64 n1, .int .i64 n2, .int .i64 n3, .int .i64 n4, .int .i64 n5, .int .i64 n6, .int .i64 n7, .slice a8 rows8.length cap8, .int .i64 n9, .slice a10 rows10.length cap10, .slice a11 rows11.length cap11]) (t := 59) hr1)
  have gr1 := Nat.le_trans hbel.size hr1
  refine wl_go 1 [(4, .bool false)] (by kernel_rfl) ?_
  refine nx_list ?_
  refine nx_then ?_
  refine wc_seq ?_
  refine wc_seq ?_
  refine wc_region ?_
  refine wl_go 1 [(7, .pointer (some ⟨r1, 8, none⟩))] (by kernel_rfl) ?_
  refine wl_yl (d := 8) (v := .slice a8 rows8.length cap8) (by kernel_rfl) (yl_load (b := r1) (off := 8) 0 rfl (by kernel_rfl) rfl (by kernel_rfl)) ?_
  refine wl_callK shK (d := 9) (v := .bool (decide ((rows8.length : Int) ≤ 60))) (by kernel_rfl) (by kernel_rfl) (fun w1 h1 => (short_ok a8 rows8.length cap8 w1).mono (fun e w' h => ⟨h.1, h.2 ▸ Below.refl _ _⟩)) ?_
  refine wl_go 1 [(10, .bool (!(decide ((rows8.length : Int) ≤ 60))))] (by kernel_rfl) ?_
  refine nx_list ?_
  refine nx_then ?_
  refine wc_cond (!(decide ((rows8.length : Int) ≤ 60))) (by kernel_rfl) (by kernel_rfl) (fun hc1 => ?_) (fun hc1 => ?_)
  · skip
    refine wc_seq ?_
    refine wc_region ?_
    refine wl_callK shK (d := 11) (v := .bool true) (by kernel_rfl) (by kernel_rfl) (fun w1 h1 => awake_ok w1) ?_
    refine wl_go 1 [(4, .bool true)] (by kernel_rfl) ?_
    refine nx_list ?_
    refine nx_then ?_
    refine nx_ret ?_
    refine nx_then_ret ?_
    refine ret_tmp (v := .bool true) rfl (by kernel_rfl) ?_
    intro w' hw'
    exact ⟨rfl, hw'.below hbel hbel.size (ge_cons gr1 (ge_nil _))⟩
  · skip
    refine nx_skip ?_
    refine nx_then ?_
    refine wc_seq ?_
    refine wc_region ?_
    refine wl_yl (d := 13) (v := .agg #[.int .i64 n0, .int .i64 n1, .int .i64 n2, .int .i64 n3, .int .i64 n4, .int .i64 n5, .int .i64 n6, .int .i64 n7, .slice a8 rows8.length cap8, .int .i64 n9, .slice a10 rows10.length cap10, .slice a11 rows11.length cap11]) (by kernel_rfl) (yl_load (b := r1) (off := 0) 0 rfl (by kernel_rfl) rfl (by kernel_rfl)) ?_
    refine wl_go 1 [(14, .int .i64 at_)] (by kernel_rfl) ?_
    refine wl_callB (X := List Value × List Value) (d := 15) (fun x => .tuple #[.agg x.1.toArray, .agg x.2.toArray]) (fun wa y wz => (RdL (fun k => wa.heap.size ≤ k) wz [.int n0, .int n1, .int n2, .int n3, .int n4, .int n5, .int n6, .int n7, .sl (rows8.take k), .int n9, .sl rows10, .sl rows11] y.1 ∧ RdL (fun k => wa.heap.size ≤ k) wz [.int n0, .int n2, .int (k : Int), .sl (rows8.drop k)] y.2) ∧ Below wa.heap.size wa wz) (by kernel_rfl) (by kernel_rfl) (fun w1 h1 => cut_law n0 n1 n2 n3 n4 n5 n6 n7 n9 rows8 rows10 rows11 a8 a10 a11 cap8 cap10 cap11 at_ w1 _ k hk (h_c8.stays (h1.staysC (L0 := (⟨r1, #[.int .i64 n0, .int .i64 n1, .int .i64 n2, .int .i64 n3, .int .i64 n4, .int .i64 n5, .int .i64 n6, .int .i64 n7, .slice a8 rows8.length cap8, .int .i64 n9, .slice a10 rows10.length cap10, .slice a11 rows11.length cap11], 59⟩ :: [])) rfl)) hcap (h_c10.stays (h1.staysC (L0 := (⟨r1, #[.int .i64 n0, .int .i64 n1, .int .i64 n2, .int .i64 n3, .int .i64 n4, .int .i64 n5, .int .i64 n6, .int .i64 n7, .slice a8 rows8.length cap8, .int .i64 n9, .slice a10 rows10.length cap10, .slice a11 rows11.length cap11], 59⟩ :: [])) rfl)) (h_c11.stays (h1.staysC (L0 := (⟨r1, #[.int .i64 n0, .int .i64 n1, .int .i64 n2, .int .i64 n3, .int .i64 n4, .int .i64 n5, .int .i64 n6, .int .i64 n7, .slice a8 rows8.length cap8, .int .i64 n9, .slice a10 rows10.length cap10, .slice a11 rows11.length cap11], 59⟩ :: [])) rfl)) fR8 b8 fR10 b10 fR11 b11 hn) ?_
    rintro wq1 ⟨m, r⟩ wq2 h1 ⟨hres, hb⟩
    simp only at hres
    have hT := (h1.tr hb).cong (L0 := (⟨r1, #[.int .i64 n0, .int .i64 n1, .int .i64 n2, .int .i64 n3, .int .i64 n4, .int .i64 n5, .int .i64 n6, .int .i64 n7, .slice a8 rows8.length cap8, .int .i64 n9, .slice a10 rows10.length cap10, .slice a11 rows11.length cap11], 59⟩ :: [])) rfl
    have h_c8 := h_c8.stays hT.stays
    have h_c10 := h_c10.stays hT.stays
    have h_c11 := h_c11.stays hT.stays
    have hbel := h1.belowCall hbel (ge_cons gr1 (ge_nil _)) hb
    have hnew : Stays (fun k => wq1.heap.size ≤ k) wq2 (Im wq2 [⟨r1, #[.int .i64 n0, .int .i64 n1, .int .i64 n2, .int .i64 n3, .int .i64 n4, .int .i64 n5, .int .i64 n6, .int .i64 n7, .slice a8 rows8.length cap8, .int .i64 n9, .slice a10 rows10.length cap10, .slice a11 rows11.length cap11], 59⟩]) wq2 := ⟨Nat.le_refl _, fun k hk h => ⟨hk, fun x hx => by have := h1.lt hx; omega⟩, fun _ _ _ => rfl⟩
    refine wl_eq (S := SH wq2 [⟨r1, #[.int .i64 n0, .int .i64 n1, .int .i64 n2, .int .i64 n3, .int .i64 n4, .int .i64 n5, .int .i64 n6, .int .i64 n7, .slice a8 rows8.length cap8, .int .i64 n9, .slice a10 rows10.length cap10, .slice a11 rows11.length cap11], 59⟩]) (h1.after hb) ?_
    obtain ⟨hm, hr⟩ := hres
    have hm := hm.stays hnew
    have hr := hr.stays hnew
    obtain ⟨c_m0, z_m0, rfl, h_m0, hr_m0⟩ := RdL.cons hm
    rw [Rd] at h_m0; subst h_m0
    obtain ⟨c_m1, z_m1, rfl, h_m1, hr_m1⟩ := RdL.cons hr_m0
    rw [Rd] at h_m1; subst h_m1
    obtain ⟨c_m2, z_m2, rfl, h_m2, hr_m2⟩ := RdL.cons hr_m1
    rw [Rd] at h_m2; subst h_m2
    obtain ⟨c_m3, z_m3, rfl, h_m3, hr_m3⟩ := RdL.cons hr_m2
    rw [Rd] at h_m3; subst h_m3
    obtain ⟨c_m4, z_m4, rfl, h_m4, hr_m4⟩ := RdL.cons hr_m3
    rw [Rd] at h_m4; subst h_m4
    obtain ⟨c_m5, z_m5, rfl, h_m5, hr_m5⟩ := RdL.cons hr_m4
    rw [Rd] at h_m5; subst h_m5
    obtain ⟨c_m6, z_m6, rfl, h_m6, hr_m6⟩ := RdL.cons hr_m5
    rw [Rd] at h_m6; subst h_m6
    obtain ⟨c_m7, z_m7, rfl, h_m7, hr_m7⟩ := RdL.cons hr_m6
    rw [Rd] at h_m7; subst h_m7
    obtain ⟨c_m8, z_m8, rfl, h_m8, hr_m8⟩ := RdL.cons hr_m7
    obtain ⟨a_m8, cap_m8, rfl⟩ := h_m8.slv
    obtain ⟨c_m9, z_m9, rfl, h_m9, hr_m9⟩ := RdL.cons hr_m8
    rw [Rd] at h_m9; subst h_m9
    obtain ⟨c_m10, z_m10, rfl, h_m10, hr_m10⟩ := RdL.cons hr_m9
    obtain ⟨a_m10, cap_m10, rfl⟩ := h_m10.slv
    obtain ⟨c_m11, z_m11, rfl, h_m11, hr_m11⟩ := RdL.cons hr_m10
    obtain ⟨a_m11, cap_m11, rfl⟩ := h_m11.slv
    obtain rfl := RdL.nil hr_m11
    obtain ⟨c_r0, z_r0, rfl, h_r0, hr_r0⟩ := RdL.cons hr
    rw [Rd] at h_r0; subst h_r0
    obtain ⟨c_r1, z_r1, rfl, h_r1, hr_r1⟩ := RdL.cons hr_r0
    rw [Rd] at h_r1; subst h_r1
    obtain ⟨c_r2, z_r2, rfl, h_r2, hr_r2⟩ := RdL.cons hr_r1
    rw [Rd] at h_r2; subst h_r2
    obtain ⟨c_r3, z_r3, rfl, h_r3, hr_r3⟩ := RdL.cons hr_r2
    obtain ⟨a_r3, cap_r3, rfl⟩ := h_r3.slv
    obtain rfl := RdL.nil hr_r3
    refine wl_go 3 [(17, .agg #[.int .i64 n0, .int .i64 n2, .int .i64 (k : Int), .slice a_r3 ((rows8.drop k).length) cap_r3]), (16, .agg #[.int .i64 n0, .int .i64 n1, .int .i64 n2, .int .i64 n3, .int .i64 n4, .int .i64 n5, .int .i64 n6, .int .i64 n7, .slice a_m8 ((rows8.take k).length) cap_m8, .int .i64 n9, .slice a_m10 rows10.length cap_m10, .slice a_m11 rows11.length cap_m11]), (12, .tuple #[.agg #[.int .i64 n0, .int .i64 n1, .int .i64 n2, .int .i64 n3, .int .i64 n4, .int .i64 n5, .int .i64 n6, .int .i64 n7, .slice a_m8 ((rows8.take k).length) cap_m8, .int .i64 n9, .slice a_m10 rows10.length cap_m10, .slice a_m11 rows11.length cap_m11], .agg #[.int .i64 n0, .int .i64 n2, .int .i64 (k : Int), .slice a_r3 ((rows8.drop k).length) cap_r3]])] (by kernel_rfl) ?_
    refine wl_new (d := 5) #[.int .i64 0, .int .i64 0, .int .i64 0, .int .i64 0, .int .i64 0, .int .i64 0, .int .i64 0, .int .i64 0, .slice none 0 0, .int .i64 0, .slice none 0 0, .slice none 0 0] 59 (fun r => .pointer (some ⟨r, 0, none⟩)) (by kernel_rfl) (fun r => by kernel_rfl) ?_
    intro r2 hr2
    have h_c8 := h_c8.stays (im_more (c := #[.int .i64 0, .int .i64 0, .int .i64 0, .int .i64 0, .int .i64 0, .int .i64 0, .int .i64 0, .int .i64 0, .slice none 0 0, .int .i64 0, .slice none 0 0, .slice none 0 0]) (t := 59) hr2)
    have h_c10 := h_c10.stays (im_more (c := #[.int .i64 0, .int .i64 0, .int .i64 0, .int .i64 0, .int .i64 0, .int .i64 0, .int .i64 0, .int .i64 0, .slice none 0 0, .int .i64 0, .slice none 0 0, .slice none 0 0]) (t := 59) hr2)
    have h_c11 := h_c11.stays (im_more (c := #[.int .i64 0, .int .i64 0, .int .i64 0, .int .i64 0, .int .i64 0, .int .i64 0, .int .i64 0, .int .i64 0, .slice none 0 0, .int .i64 0, .slice none 0 0, .slice none 0 0]) (t := 59) hr2)
    have h_m8 := h_m8.stays (im_more (c := #[.int .i64 0, .int .i64 0, .int .i64 0, .int .i64 0, .int .i64 0, .int .i64 0, .int .i64 0, .int .i64 0, .slice none 0 0, .int .i64 0, .slice none 0 0, .slice none 0 0]) (t := 59) hr2)
    have h_m10 := h_m10.stays (im_more (c := #[.int .i64 0, .int .i64 0, .int .i64 0, .int .i64 0, .int .i64 0, .int .i64 0, .int .i64 0, .int .i64 0, .slice none 0 0, .int .i64 0, .slice none 0 0, .slice none 0 0]) (t := 59) hr2)
    have h_m11 := h_m11.stays (im_more (c := #[.int .i64 0, .int .i64 0, .int .i64 0, .int .i64 0, .int .i64 0, .int .i64 0, .int .i64 0, .int .i64 0, .slice none 0 0, .int .i64 0, .slice none 0 0, .slice none 0 0]) (t := 59) hr2)
    have h_r3 := h_r3.stays (im_more (c := #[.int .i64 0, .int .i64 0, .int .i64 0, .int .i64 0, .int .i64 0, .int .i64 0, .int .i64 0, .int .i64 0, .slice none 0 0, .int .i64 0, .slice none 0 0, .slice none 0 0]) (t := 59) hr2)
    have gr2 := Nat.le_trans hbel.size hr2
    refine wl_new (d := 6) #[.int .i64 0, .int .i64 0, .int .i64 0, .slice none 0 0] 61 (fun r => .pointer (some ⟨r, 0, none⟩)) (by kernel_rfl) (fun r => by kernel_rfl) ?_
    intro r3 hr3
    have h_c8 := h_c8.stays (im_more (c := #[.int .i64 0, .int .i64 0, .int .i64 0, .slice none 0 0]) (t := 61) hr3)
    have h_c10 := h_c10.stays (im_more (c := #[.int .i64 0, .int .i64 0, .int .i64 0, .slice none 0 0]) (t := 61) hr3)
    have h_c11 := h_c11.stays (im_more (c := #[.int .i64 0, .int .i64 0, .int .i64 0, .slice none 0 0]) (t := 61) hr3)
    have h_m8 := h_m8.stays (im_more (c := #[.int .i64 0, .int .i64 0, .int .i64 0, .slice none 0 0]) (t := 61) hr3)
    have h_m10 := h_m10.stays (im_more (c := #[.int .i64 0, .int .i64 0, .int .i64 0, .slice none 0 0]) (t := 61) hr3)
    have h_m11 := h_m11.stays (im_more (c := #[.int .i64 0, .int .i64 0, .int .i64 0, .slice none 0 0]) (t := 61) hr3)
    have h_r3 := h_r3.stays (im_more (c := #[.int .i64 0, .int .i64 0, .int .i64 0, .slice none 0 0]) (t := 61) hr3)
    have gr3 := Nat.le_trans hbel.size hr3
    refine wl_store (b := r2) (off := 0) (v := .agg #[.int .i64 n0, .int .i64 n1, .int .i64 n2, .int .i64 n3, .int .i64 n4, .int .i64 n5, .int .i64 n6, .int .i64 n7, .slice a_m8 ((rows8.take k).length) cap_m8, .int .i64 n9, .slice a_m10 rows10.length cap_m10, .slice a_m11 rows11.length cap_m11]) (c' := #[.int .i64 n0, .int .i64 n1, .int .i64 n2, .int .i64 n3, .int .i64 n4, .int .i64 n5, .int .i64 n6, .int .i64 n7, .slice a_m8 ((rows8.take k).length) cap_m8, .int .i64 n9, .slice a_m10 rows10.length cap_m10, .slice a_m11 rows11.length cap_m11]) (L' := [⟨r3, #[.int .i64 0, .int .i64 0, .int .i64 0, .slice none 0 0], 61⟩, ⟨r2, #[.int .i64 n0, .int .i64 n1, .int .i64 n2, .int .i64 n3, .int .i64 n4, .int .i64 n5, .int .i64 n6, .int .i64 n7, .slice a_m8 ((rows8.take k).length) cap_m8, .int .i64 n9, .slice a_m10 rows10.length cap_m10, .slice a_m11 rows11.length cap_m11], 59⟩, ⟨r1, #[.int .i64 n0, .int .i64 n1, .int .i64 n2, .int .i64 n3, .int .i64 n4, .int .i64 n5, .int .i64 n6, .int .i64 n7, .slice a8 rows8.length cap8, .int .i64 n9, .slice a10 rows10.length cap10, .slice a11 rows11.length cap11], 59⟩]) 1 (by kernel_rfl) rfl (by kernel_rfl) (by kernel_rfl) rfl (by kernel_rfl) rfl ?_
    refine wl_store (b := r3) (off := 0) (v := .agg #[.int .i64 n0, .int .i64 n2, .int .i64 (k : Int), .slice a_r3 ((rows8.drop k).length) cap_r3]) (c' := #[.int .i64 n0, .int .i64 n2, .int .i64 (k : Int), .slice a_r3 ((rows8.drop k).length) cap_r3]) (L' := [⟨r3, #[.int .i64 n0, .int .i64 n2, .int .i64 (k : Int), .slice a_r3 ((rows8.drop k).length) cap_r3], 61⟩, ⟨r2, #[.int .i64 n0, .int .i64 n1, .int .i64 n2, .int .i64 n3, .int .i64 n4, .int .i64 n5, .int .i64 n6, .int .i64 n7, .slice a_m8 ((rows8.take k).length) cap_m8, .int .i64 n9, .slice a_m10 rows10.length cap_m10, .slice a_m11 rows11.length cap_m11], 59⟩, ⟨r1, #[.int .i64 n0, .int .i64 n1, .int .i64 n2, .int .i64 n3, .int .i64 n4, .int .i64 n5, .int .i64 n6, .int .i64 n7, .slice a8 rows8.length cap8, .int .i64 n9, .slice a10 rows10.length cap10, .slice a11 rows11.length cap11], 59⟩]) 0 (by kernel_rfl) rfl (by kernel_rfl) (by kernel_rfl) rfl (by kernel_rfl) rfl ?_
    refine nx_list ?_
    refine nx_then ?_
    refine wc_seq ?_
    refine wc_seq ?_
    refine wc_draw 18 (SH wq2 [⟨r3, #[.int .i64 n0, .int .i64 n2, .int .i64 (k : Int), .slice a_r3 ((rows8.drop k).length) cap_r3], 61⟩, ⟨r2, #[.int .i64 n0, .int .i64 n1, .int .i64 n2, .int .i64 n3, .int .i64 n4, .int .i64 n5, .int .i64 n6, .int .i64 n7, .slice a_m8 ((rows8.take k).length) cap_m8, .int .i64 n9, .slice a_m10 rows10.length cap_m10, .slice a_m11 rows11.length cap_m11], 59⟩, ⟨r1, #[.int .i64 n0, .int .i64 n1, .int .i64 n2, .int .i64 n3, .int .i64 n4, .int .i64 n5, .int .i64 n6, .int .i64 n7, .slice a8 rows8.length cap8, .int .i64 n9, .slice a10 rows10.length cap10, .slice a11 rows11.length cap11], 59⟩]) rfl (by decide) (fun w h => SH.drew h) ?_
    refine wd_go [0] [(18, .pointer (some ⟨r2, 8, none⟩))] #[true, false, false, false, false, false, false, false, false, false, false, false, false, false, false, false, false, false] (f := 17) rfl (by kernel_rfl) (fun w h => h) ?_
    refine wd_yl 1 (d := 19) (v := .slice a_m8 ((rows8.take k).length) cap_m8) (f := 16) rfl (by kernel_rfl) (by kernel_rfl) (fun w h => h) (yl_load (b := r2) (off := 8) 1 rfl (by kernel_rfl) rfl (by kernel_rfl)) ?_
    refine wd_go [3] [(21, .pointer (some ⟨r3, 3, none⟩))] #[true, true, false, true, false, false, false, false, false, false, false, false, false, false, false, false, false, false] (f := 15) rfl (by kernel_rfl) (fun w h => h) ?_
    refine wd_yl 4 (d := 22) (v := .slice a_r3 ((rows8.drop k).length) cap_r3) (f := 14) rfl (by kernel_rfl) (by kernel_rfl) (fun w h => h) (yl_load (b := r3) (off := 3) 0 rfl (by kernel_rfl) rfl (by kernel_rfl)) ?_
    refine wd_go [6] [(24, .pointer (some ⟨r1, 8, none⟩))] #[true, true, false, true, true, false, true, false, false, false, false, false, false, false, false, false, false, false] (f := 13) rfl (by kernel_rfl) (fun w h => h) ?_
    refine wd_yl 7 (d := 25) (v := .slice a8 rows8.length cap8) (f := 12) rfl (by kernel_rfl) (by kernel_rfl) (fun w h => h) (yl_load (b := r1) (off := 8) 2 rfl (by kernel_rfl) rfl (by kernel_rfl)) ?_
    refine wd_callB 2 (X := Value × List Blk × List (List Value)) (d := 20) (fu := 11) (fun x => x.1) (fun wa y wz => Own 55 82 y.1 (rows8.take k).length y.2.2.flatten y.2.1 ∧ RdR (Im wq2 [⟨r3, #[.int .i64 n0, .int .i64 n2, .int .i64 (k : Int), .slice a_r3 ((rows8.drop k).length) cap_r3], 61⟩, ⟨r2, #[.int .i64 n0, .int .i64 n1, .int .i64 n2, .int .i64 n3, .int .i64 n4, .int .i64 n5, .int .i64 n6, .int .i64 n7, .slice a_m8 ((rows8.take k).length) cap_m8, .int .i64 n9, .slice a_m10 rows10.length cap_m10, .slice a_m11 rows11.length cap_m11], 59⟩, ⟨r1, #[.int .i64 n0, .int .i64 n1, .int .i64 n2, .int .i64 n3, .int .i64 n4, .int .i64 n5, .int .i64 n6, .int .i64 n7, .slice a8 rows8.length cap8, .int .i64 n9, .slice a10 rows10.length cap10, .slice a11 rows11.length cap11], 59⟩]) wa (rows8.take k) y.2.2 ∧ SH wz y.2.1 wz ∧ (∀ x ∈ y.2.1, wa.heap.size ≤ x.b) ∧ Below wa.heap.size wa wz) rfl (by decide) (by kernel_rfl) (by kernel_rfl) (by kernel_rfl) (fun w1 h1 => (clone_own (rows8.take k) _ _ w1 (h_m8.stays (h1.staysC (L0 := (⟨r3, #[.int .i64 0, .int .i64 0, .int .i64 0, .slice none 0 0], 61⟩ :: (⟨r2, #[.int .i64 0, .int .i64 0, .int .i64 0, .int .i64 0, .int .i64 0, .int .i64 0, .int .i64 0, .int .i64 0, .slice none 0 0, .int .i64 0, .slice none 0 0, .slice none 0 0], 59⟩ :: [⟨r1, #[.int .i64 n0, .int .i64 n1, .int .i64 n2, .int .i64 n3, .int .i64 n4, .int .i64 n5, .int .i64 n6, .int .i64 n7, .slice a8 rows8.length cap8, .int .i64 n9, .slice a10 rows10.length cap10, .slice a11 rows11.length cap11], 59⟩]))) rfl)) (fun r hr => hes8 r (List.mem_of_mem_take hr)) (takeB b8)).mono (fun e w' ⟨v', R, rv, h1, h2, h3, h4, h5, h6⟩ => ⟨(v', R, rv), h1, h2, h3, h4, h5, h6⟩)) ?_
    rintro wq3 ⟨v1, R, rv⟩ wq4 h1 ⟨hown, hrv, hshR, hRn, hb⟩
    simp only at hown hrv hshR hRn
    obtain ⟨hj1, hj2, hj3⟩ := h1.joined hb hshR hRn
    have hS2 : SH wq2 [⟨r3, #[.int .i64 n0, .int .i64 n2, .int .i64 (k : Int), .slice a_r3 ((rows8.drop k).length) cap_r3], 61⟩, ⟨r2, #[.int .i64 n0, .int .i64 n1, .int .i64 n2, .int .i64 n3, .int .i64 n4, .int .i64 n5, .int .i64 n6, .int .i64 n7, .slice a_m8 ((rows8.take k).length) cap_m8, .int .i64 n9, .slice a_m10 rows10.length cap_m10, .slice a_m11 rows11.length cap_m11], 59⟩, ⟨r1, #[.int .i64 n0, .int .i64 n1, .int .i64 n2, .int .i64 n3, .int .i64 n4, .int .i64 n5, .int .i64 n6, .int .i64 n7, .slice a8 rows8.length cap8, .int .i64 n9, .slice a10 rows10.length cap10, .slice a11 rows11.length cap11], 59⟩] wq4 := h1.keep hb
    refine ⟨hS2, ?_⟩
    have hrv := hrv.stays hj3
    have h_c8 := h_c8.stays (hj2.cong (L0 := (⟨r3, #[.int .i64 0, .int .i64 0, .int .i64 0, .slice none 0 0], 61⟩ :: (⟨r2, #[.int .i64 0, .int .i64 0, .int .i64 0, .int .i64 0, .int .i64 0, .int .i64 0, .int .i64 0, .int .i64 0, .slice none 0 0, .int .i64 0, .slice none 0 0, .slice none 0 0], 59⟩ :: [⟨r1, #[.int .i64 n0, .int .i64 n1, .int .i64 n2, .int .i64 n3, .int .i64 n4, .int .i64 n5, .int .i64 n6, .int .i64 n7, .slice a8 rows8.length cap8, .int .i64 n9, .slice a10 rows10.length cap10, .slice a11 rows11.length cap11], 59⟩]))) rfl).stays
    have h_c10 := h_c10.stays (hj2.cong (L0 := (⟨r3, #[.int .i64 0, .int .i64 0, .int .i64 0, .slice none 0 0], 61⟩ :: (⟨r2, #[.int .i64 0, .int .i64 0, .int .i64 0, .int .i64 0, .int .i64 0, .int .i64 0, .int .i64 0, .int .i64 0, .slice none 0 0, .int .i64 0, .slice none 0 0, .slice none 0 0], 59⟩ :: [⟨r1, #[.int .i64 n0, .int .i64 n1, .int .i64 n2, .int .i64 n3, .int .i64 n4, .int .i64 n5, .int .i64 n6, .int .i64 n7, .slice a8 rows8.length cap8, .int .i64 n9, .slice a10 rows10.length cap10, .slice a11 rows11.length cap11], 59⟩]))) rfl).stays
    have h_c11 := h_c11.stays (hj2.cong (L0 := (⟨r3, #[.int .i64 0, .int .i64 0, .int .i64 0, .slice none 0 0], 61⟩ :: (⟨r2, #[.int .i64 0, .int .i64 0, .int .i64 0, .int .i64 0, .int .i64 0, .int .i64 0, .int .i64 0, .int .i64 0, .slice none 0 0, .int .i64 0, .slice none 0 0, .slice none 0 0], 59⟩ :: [⟨r1, #[.int .i64 n0, .int .i64 n1, .int .i64 n2, .int .i64 n3, .int .i64 n4, .int .i64 n5, .int .i64 n6, .int .i64 n7, .slice a8 rows8.length cap8, .int .i64 n9, .slice a10 rows10.length cap10, .slice a11 rows11.length cap11], 59⟩]))) rfl).stays
    have h_m8 := h_m8.stays (hj2.cong (L0 := (⟨r3, #[.int .i64 0, .int .i64 0, .int .i64 0, .slice none 0 0], 61⟩ :: (⟨r2, #[.int .i64 0, .int .i64 0, .int .i64 0, .int .i64 0, .int .i64 0, .int .i64 0, .int .i64 0, .int .i64 0, .slice none 0 0, .int .i64 0, .slice none 0 0, .slice none 0 0], 59⟩ :: [⟨r1, #[.int .i64 n0, .int .i64 n1, .int .i64 n2, .int .i64 n3, .int .i64 n4, .int .i64 n5, .int .i64 n6, .int .i64 n7, .slice a8 rows8.length cap8, .int .i64 n9, .slice a10 rows10.length cap10, .slice a11 rows11.length cap11], 59⟩]))) rfl).stays
    have h_m10 := h_m10.stays (hj2.cong (L0 := (⟨r3, #[.int .i64 0, .int .i64 0, .int .i64 0, .slice none 0 0], 61⟩ :: (⟨r2, #[.int .i64 0, .int .i64 0, .int .i64 0, .int .i64 0, .int .i64 0, .int .i64 0, .int .i64 0, .int .i64 0, .slice none 0 0, .int .i64 0, .slice none 0 0, .slice none 0 0], 59⟩ :: [⟨r1, #[.int .i64 n0, .int .i64 n1, .int .i64 n2, .int .i64 n3, .int .i64 n4, .int .i64 n5, .int .i64 n6, .int .i64 n7, .slice a8 rows8.length cap8, .int .i64 n9, .slice a10 rows10.length cap10, .slice a11 rows11.length cap11], 59⟩]))) rfl).stays
    have h_m11 := h_m11.stays (hj2.cong (L0 := (⟨r3, #[.int .i64 0, .int .i64 0, .int .i64 0, .slice none 0 0], 61⟩ :: (⟨r2, #[.int .i64 0, .int .i64 0, .int .i64 0, .int .i64 0, .int .i64 0, .int .i64 0, .int .i64 0, .int .i64 0, .slice none 0 0, .int .i64 0, .slice none 0 0, .slice none 0 0], 59⟩ :: [⟨r1, #[.int .i64 n0, .int .i64 n1, .int .i64 n2, .int .i64 n3, .int .i64 n4, .int .i64 n5, .int .i64 n6, .int .i64 n7, .slice a8 rows8.length cap8, .int .i64 n9, .slice a10 rows10.length cap10, .slice a11 rows11.length cap11], 59⟩]))) rfl).stays
    have h_r3 := h_r3.stays (hj2.cong (L0 := (⟨r3, #[.int .i64 0, .int .i64 0, .int .i64 0, .slice none 0 0], 61⟩ :: (⟨r2, #[.int .i64 0, .int .i64 0, .int .i64 0, .int .i64 0, .int .i64 0, .int .i64 0, .int .i64 0, .int .i64 0, .slice none 0 0, .int .i64 0, .slice none 0 0, .slice none 0 0], 59⟩ :: [⟨r1, #[.int .i64 n0, .int .i64 n1, .int .i64 n2, .int .i64 n3, .int .i64 n4, .int .i64 n5, .int .i64 n6, .int .i64 n7, .slice a8 rows8.length cap8, .int .i64 n9, .slice a10 rows10.length cap10, .slice a11 rows11.length cap11], 59⟩]))) rfl).stays
    have hbel0 := h1.belowCall hbel (ge_cons gr3 (ge_cons gr2 (ge_cons gr1 (ge_nil _)))) hb
    refine wd_eq (T := SH wq4 ([⟨r3, #[.int .i64 n0, .int .i64 n2, .int .i64 (k : Int), .slice a_r3 ((rows8.drop k).length) cap_r3], 61⟩, ⟨r2, #[.int .i64 n0, .int .i64 n1, .int .i64 n2, .int .i64 n3, .int .i64 n4, .int .i64 n5, .int .i64 n6, .int .i64 n7, .slice a_m8 ((rows8.take k).length) cap_m8, .int .i64 n9, .slice a_m10 rows10.length cap_m10, .slice a_m11 rows11.length cap_m11], 59⟩, ⟨r1, #[.int .i64 n0, .int .i64 n1, .int .i64 n2, .int .i64 n3, .int .i64 n4, .int .i64 n5, .int .i64 n6, .int .i64 n7, .slice a8 rows8.length cap8, .int .i64 n9, .slice a10 rows10.length cap10, .slice a11 rows11.length cap11], 59⟩] ++ R)) hj1 ?_
    refine wd_appendG (L := [⟨r3, #[.int .i64 n0, .int .i64 n2, .int .i64 (k : Int), .slice a_r3 ((rows8.drop k).length) cap_r3], 61⟩, ⟨r2, #[.int .i64 n0, .int .i64 n1, .int .i64 n2, .int .i64 n3, .int .i64 n4, .int .i64 n5, .int .i64 n6, .int .i64 n7, .slice a_m8 ((rows8.take k).length) cap_m8, .int .i64 n9, .slice a_m10 rows10.length cap_m10, .slice a_m11 rows11.length cap_m11], 59⟩, ⟨r1, #[.int .i64 n0, .int .i64 n1, .int .i64 n2, .int .i64 n3, .int .i64 n4, .int .i64 n5, .int .i64 n6, .int .i64 n7, .slice a8 rows8.length cap8, .int .i64 n9, .slice a10 rows10.length cap10, .slice a11 rows11.length cap11], 59⟩]) (R := R) (d := 23) (f := 10) 5 55 zv55 82 1208 (rows8.take k) (rows8.drop k) rv rfl (by decide) (by kernel_rfl) (by kernel_rfl) rfl (by kernel_rfl) (by kernel_rfl) (by decide) (by kernel_rfl) (by kernel_rfl) hown hrv h_r3 (fun r hr => hes8 r (List.mem_of_mem_drop hr)) ?_ ?_ (fun R1 q hm h => hS2.transN h (map_ge hm (fun x hx => Nat.le_trans h1.size (hRn x hx)))) (fun w' q hS' h => SH.trans hS' h) ?_
    · rw [← List.length_append, List.take_append_drop]; simp only [maxLen]; omega
    · rw [← List.length_append, List.take_append_drop]; exact b8
    intro wq5 v3 h_all hT hsubq2
    rw [List.take_append_drop] at h_all
    have h_c8 := h_c8.stays hT.stays
    have h_c10 := h_c10.stays hT.stays
    have h_c11 := h_c11.stays hT.stays
    have h_m8 := h_m8.stays hT.stays
    have h_m10 := h_m10.stays hT.stays
    have h_m11 := h_m11.stays hT.stays
    have h_r3 := h_r3.stays hT.stays
    have hbel := hbel0.trans (hT.below hbel0.size (fun x hx => by
      rcases List.mem_append.1 hx with hx | hx
      · exact (ge_cons gr3 (ge_cons gr2 (ge_cons gr1 (ge_nil _)))) x hx
      · exact Nat.le_trans (Nat.le_trans hbel.size h1.size) (hRn x hx)))
    obtain ⟨a_all, cap_all, rfl⟩ := h_all.slv
    refine wd_callB 8 (X := Unit) (d := 26) (fu := 9) (fun _ => .bool true) (fun wa _ wz => Below wa.heap.size wa wz) rfl (by decide) (by kernel_rfl) (by kernel_rfl) (by kernel_rfl) (fun w1 h1 => (sameEntries_ok rows8 fR8 b8 hz w1 _ _ _ _ _ _ (h_all.stays (h1.staysC (L0 := [⟨r3, #[.int .i64 n0, .int .i64 n2, .int .i64 (k : Int), .slice a_r3 ((rows8.drop k).length) cap_r3], 61⟩, ⟨r2, #[.int .i64 n0, .int .i64 n1, .int .i64 n2, .int .i64 n3, .int .i64 n4, .int .i64 n5, .int .i64 n6, .int .i64 n7, .slice a_m8 ((rows8.take k).length) cap_m8, .int .i64 n9, .slice a_m10 rows10.length cap_m10, .slice a_m11 rows11.length cap_m11], 59⟩, ⟨r1, #[.int .i64 n0, .int .i64 n1, .int .i64 n2, .int .i64 n3, .int .i64 n4, .int .i64 n5, .int .i64 n6, .int .i64 n7, .slice a8 rows8.length cap8, .int .i64 n9, .slice a10 rows10.length cap10, .slice a11 rows11.length cap11], 59⟩]) rfl)) (h_c8.stays (h1.staysC (L0 := [⟨r3, #[.int .i64 n0, .int .i64 n2, .int .i64 (k : Int), .slice a_r3 ((rows8.drop k).length) cap_r3], 61⟩, ⟨r2, #[.int .i64 n0, .int .i64 n1, .int .i64 n2, .int .i64 n3, .int .i64 n4, .int .i64 n5, .int .i64 n6, .int .i64 n7, .slice a_m8 ((rows8.take k).length) cap_m8, .int .i64 n9, .slice a_m10 rows10.length cap_m10, .slice a_m11 rows11.length cap_m11], 59⟩, ⟨r1, #[.int .i64 n0, .int .i64 n1, .int .i64 n2, .int .i64 n3, .int .i64 n4, .int .i64 n5, .int .i64 n6, .int .i64 n7, .slice a8 rows8.length cap8, .int .i64 n9, .slice a10 rows10.length cap10, .slice a11 rows11.length cap11], 59⟩]) rfl))).mono (fun e w' h => ⟨(), h⟩)) ?_
    rintro wq6 _ wq7 h1 hb
    have hsubq3 : ∀ q, SH wq7 [⟨r3, #[.int .i64 n0, .int .i64 n2, .int .i64 (k : Int), .slice a_r3 ((rows8.drop k).length) cap_r3], 61⟩, ⟨r2, #[.int .i64 n0, .int .i64 n1, .int .i64 n2, .int .i64 n3, .int .i64 n4, .int .i64 n5, .int .i64 n6, .int .i64 n7, .slice a_m8 ((rows8.take k).length) cap_m8, .int .i64 n9, .slice a_m10 rows10.length cap_m10, .slice a_m11 rows11.length cap_m11], 59⟩, ⟨r1, #[.int .i64 n0, .int .i64 n1, .int .i64 n2, .int .i64 n3, .int .i64 n4, .int .i64 n5, .int .i64 n6, .int .i64 n7, .slice a8 rows8.length cap8, .int .i64 n9, .slice a10 rows10.length cap10, .slice a11 rows11.length cap11], 59⟩] q → (SH wq2 [⟨r3, #[.int .i64 n0, .int .i64 n2, .int .i64 (k : Int), .slice a_r3 ((rows8.drop k).length) cap_r3], 61⟩, ⟨r2, #[.int .i64 n0, .int .i64 n1, .int .i64 n2, .int .i64 n3, .int .i64 n4, .int .i64 n5, .int .i64 n6, .int .i64 n7, .slice a_m8 ((rows8.take k).length) cap_m8, .int .i64 n9, .slice a_m10 rows10.length cap_m10, .slice a_m11 rows11.length cap_m11], 59⟩, ⟨r1, #[.int .i64 n0, .int .i64 n1, .int .i64 n2, .int .i64 n3, .int .i64 n4, .int .i64 n5, .int .i64 n6, .int .i64 n7, .slice a8 rows8.length cap8, .int .i64 n9, .slice a10 rows10.length cap10, .slice a11 rows11.length cap11], 59⟩]) q := fun q h => (hsubq2) _ ((h1.keep hb).trans h)
    refine ⟨hsubq3 _ (h1.after hb), ?_⟩
    have hT := (h1.tr hb).cong (L0 := [⟨r3, #[.int .i64 n0, .int .i64 n2, .int .i64 (k : Int), .slice a_r3 ((rows8.drop k).length) cap_r3], 61⟩, ⟨r2, #[.int .i64 n0, .int .i64 n1, .int .i64 n2, .int .i64 n3, .int .i64 n4, .int .i64 n5, .int .i64 n6, .int .i64 n7, .slice a_m8 ((rows8.take k).length) cap_m8, .int .i64 n9, .slice a_m10 rows10.length cap_m10, .slice a_m11 rows11.length cap_m11], 59⟩, ⟨r1, #[.int .i64 n0, .int .i64 n1, .int .i64 n2, .int .i64 n3, .int .i64 n4, .int .i64 n5, .int .i64 n6, .int .i64 n7, .slice a8 rows8.length cap8, .int .i64 n9, .slice a10 rows10.length cap10, .slice a11 rows11.length cap11], 59⟩]) rfl
    have h_c8 := h_c8.stays hT.stays
    have h_c10 := h_c10.stays hT.stays
    have h_c11 := h_c11.stays hT.stays
    have h_m8 := h_m8.stays hT.stays
    have h_m10 := h_m10.stays hT.stays
    have h_m11 := h_m11.stays hT.stays
    have h_r3 := h_r3.stays hT.stays
    have h_all := h_all.stays hT.stays
    have hbel := h1.belowCall hbel (ge_cons gr3 (ge_cons gr2 (ge_cons gr1 (ge_nil _)))) hb
    refine wd_eq (T := SH wq7 [⟨r3, #[.int .i64 n0, .int .i64 n2, .int .i64 (k : Int), .slice a_r3 ((rows8.drop k).length) cap_r3], 61⟩, ⟨r2, #[.int .i64 n0, .int .i64 n1, .int .i64 n2, .int .i64 n3, .int .i64 n4, .int .i64 n5, .int .i64 n6, .int .i64 n7, .slice a_m8 ((rows8.take k).length) cap_m8, .int .i64 n9, .slice a_m10 rows10.length cap_m10, .slice a_m11 rows11.length cap_m11], 59⟩, ⟨r1, #[.int .i64 n0, .int .i64 n1, .int .i64 n2, .int .i64 n3, .int .i64 n4, .int .i64 n5, .int .i64 n6, .int .i64 n7, .slice a8 rows8.length cap8, .int .i64 n9, .slice a10 rows10.length cap10, .slice a11 rows11.length cap11], 59⟩]) (h1.after hb) ?_
    refine wd_go [9, 10, 11] [(29, .pointer (some ⟨r3, 2, none⟩)), (28, .bool false), (27, .bool false)] #[true, true, true, true, true, true, true, true, true, true, true, true, false, false, false, false, false, false] (f := 6) rfl (by kernel_rfl) (hsubq3) ?_
    refine wd_yl 12 (d := 30) (v := .int .i64 (k : Int)) (f := 5) rfl (by kernel_rfl) (by kernel_rfl) (hsubq3) (yl_load (b := r3) (off := 2) 0 rfl (by kernel_rfl) rfl (by kernel_rfl)) ?_
    refine wd_go [13] [(31, .pointer (some ⟨r2, 8, none⟩))] #[true, true, true, true, true, true, true, true, true, true, true, true, true, true, false, false, false, false] (f := 4) rfl (by kernel_rfl) (hsubq3) ?_
    refine wd_yl 14 (d := 32) (v := .slice a_m8 ((rows8.take k).length) cap_m8) (f := 3) rfl (by kernel_rfl) (by kernel_rfl) (hsubq3) (yl_load (b := r2) (off := 8) 1 rfl (by kernel_rfl) rfl (by kernel_rfl)) ?_
    refine wd_go [15, 16] [(34, .bool ((k : Int) != ((rows8.take k).length : Int))), (33, .int .i64 ((rows8.take k).length : Int))] #[true, true, true, true, true, true, true, true, true, true, true, true, true, true, true, true, true, false] (f := 1) rfl (by kernel_rfl) (hsubq3) ?_
    rw [show ((k : Int) != ((rows8.take k).length : Int)) = false from by rw [List.length_take, Nat.min_eq_left hkl]; simp]
    refine wd_go [17] [(35, .bool false)] #[true, true, true, true, true, true, true, true, true, true, true, true, true, true, true, true, true, true] (f := 0) rfl (by kernel_rfl) (hsubq3) ?_
    refine wd_done (by kernel_rfl) ?_
    refine nx_list ?_
    refine nx_on ?_
    refine nx_then ?_
    refine wc_cond false (by kernel_rfl) (by kernel_rfl) (fun h => by cases h) (fun _ => ?_)
    refine nx_skip ?_
    refine nx_then ?_
    refine wc_seq ?_
    refine wc_region ?_
    refine wl_go 1 [(36, .pointer (some ⟨r1, 8, none⟩))] (by kernel_rfl) ?_
    refine wl_yl (d := 37) (v := .slice a8 rows8.length cap8) (by kernel_rfl) (yl_load (b := r1) (off := 8) 2 rfl (by kernel_rfl) rfl (by kernel_rfl)) ?_
    refine wl_go 1 [(38, .pointer (some ⟨r2, 8, none⟩))] (by kernel_rfl) ?_
    refine wl_store (b := r2) (off := 8) (v := .slice a8 rows8.length cap8) (c' := #[.int .i64 n0, .int .i64 n1, .int .i64 n2, .int .i64 n3, .int .i64 n4, .int .i64 n5, .int .i64 n6, .int .i64 n7, .slice a8 rows8.length cap8, .int .i64 n9, .slice a_m10 rows10.length cap_m10, .slice a_m11 rows11.length cap_m11]) (L' := [⟨r3, #[.int .i64 n0, .int .i64 n2, .int .i64 (k : Int), .slice a_r3 ((rows8.drop k).length) cap_r3], 61⟩, ⟨r2, #[.int .i64 n0, .int .i64 n1, .int .i64 n2, .int .i64 n3, .int .i64 n4, .int .i64 n5, .int .i64 n6, .int .i64 n7, .slice a8 rows8.length cap8, .int .i64 n9, .slice a_m10 rows10.length cap_m10, .slice a_m11 rows11.length cap_m11], 59⟩, ⟨r1, #[.int .i64 n0, .int .i64 n1, .int .i64 n2, .int .i64 n3, .int .i64 n4, .int .i64 n5, .int .i64 n6, .int .i64 n7, .slice a8 rows8.length cap8, .int .i64 n9, .slice a10 rows10.length cap10, .slice a11 rows11.length cap11], 59⟩]) 1 (by kernel_rfl) rfl (by kernel_rfl) (by kernel_rfl) rfl (by kernel_rfl) rfl ?_
    refine nx_list ?_
    refine nx_then ?_
    refine wc_seq ?_
    refine wc_region ?_
    refine wl_yl (d := 39) (v := .agg #[.int .i64 n0, .int .i64 n1, .int .i64 n2, .int .i64 n3, .int .i64 n4, .int .i64 n5, .int .i64 n6, .int .i64 n7, .slice a8 rows8.length cap8, .int .i64 n9, .slice a_m10 rows10.length cap_m10, .slice a_m11 rows11.length cap_m11]) (by kernel_rfl) (yl_load (b := r2) (off := 0) 1 rfl (by kernel_rfl) rfl (by kernel_rfl)) ?_
    refine wl_yl (d := 40) (v := .agg #[.int .i64 n0, .int .i64 n1, .int .i64 n2, .int .i64 n3, .int .i64 n4, .int .i64 n5, .int .i64 n6, .int .i64 n7, .slice a8 rows8.length cap8, .int .i64 n9, .slice a10 rows10.length cap10, .slice a11 rows11.length cap11]) (by kernel_rfl) (yl_load (b := r1) (off := 0) 2 rfl (by kernel_rfl) rfl (by kernel_rfl)) ?_
    refine wl_callK shK (d := 41) (v := .bool true) (by kernel_rfl) (by kernel_rfl) (fun w1 h1 => sameMember_ok n0 n1 n2 n3 n4 n5 n6 n7 n9 rows8 rows10 rows11 fR8 b8 fR10 b10 fR11 b11 hz w1 _ _ _ _ (show RdL (fun _ => True) _ _ [.int .i64 n0, .int .i64 n1, .int .i64 n2, .int .i64 n3, .int .i64 n4, .int .i64 n5, .int .i64 n6, .int .i64 n7, .slice a8 rows8.length cap8, .int .i64 n9, .slice a_m10 rows10.length cap_m10, .slice a_m11 rows11.length cap_m11] from RdL.mk (by rw [Rd]) (RdL.mk (by rw [Rd]) (RdL.mk (by rw [Rd]) (RdL.mk (by rw [Rd]) (RdL.mk (by rw [Rd]) (RdL.mk (by rw [Rd]) (RdL.mk (by rw [Rd]) (RdL.mk (by rw [Rd]) (RdL.mk (h_c8.stays (h1.staysC (L0 := [⟨r3, #[.int .i64 n0, .int .i64 n2, .int .i64 (k : Int), .slice a_r3 ((rows8.drop k).length) cap_r3], 61⟩, ⟨r2, #[.int .i64 n0, .int .i64 n1, .int .i64 n2, .int .i64 n3, .int .i64 n4, .int .i64 n5, .int .i64 n6, .int .i64 n7, .slice a_m8 ((rows8.take k).length) cap_m8, .int .i64 n9, .slice a_m10 rows10.length cap_m10, .slice a_m11 rows11.length cap_m11], 59⟩, ⟨r1, #[.int .i64 n0, .int .i64 n1, .int .i64 n2, .int .i64 n3, .int .i64 n4, .int .i64 n5, .int .i64 n6, .int .i64 n7, .slice a8 rows8.length cap8, .int .i64 n9, .slice a10 rows10.length cap10, .slice a11 rows11.length cap11], 59⟩]) rfl)).any (RdL.mk (by rw [Rd]) (RdL.mk (h_m10.stays (h1.staysC (L0 := [⟨r3, #[.int .i64 n0, .int .i64 n2, .int .i64 (k : Int), .slice a_r3 ((rows8.drop k).length) cap_r3], 61⟩, ⟨r2, #[.int .i64 n0, .int .i64 n1, .int .i64 n2, .int .i64 n3, .int .i64 n4, .int .i64 n5, .int .i64 n6, .int .i64 n7, .slice a_m8 ((rows8.take k).length) cap_m8, .int .i64 n9, .slice a_m10 rows10.length cap_m10, .slice a_m11 rows11.length cap_m11], 59⟩, ⟨r1, #[.int .i64 n0, .int .i64 n1, .int .i64 n2, .int .i64 n3, .int .i64 n4, .int .i64 n5, .int .i64 n6, .int .i64 n7, .slice a8 rows8.length cap8, .int .i64 n9, .slice a10 rows10.length cap10, .slice a11 rows11.length cap11], 59⟩]) rfl)).any (RdL.mk (h_m11.stays (h1.staysC (L0 := [⟨r3, #[.int .i64 n0, .int .i64 n2, .int .i64 (k : Int), .slice a_r3 ((rows8.drop k).length) cap_r3], 61⟩, ⟨r2, #[.int .i64 n0, .int .i64 n1, .int .i64 n2, .int .i64 n3, .int .i64 n4, .int .i64 n5, .int .i64 n6, .int .i64 n7, .slice a_m8 ((rows8.take k).length) cap_m8, .int .i64 n9, .slice a_m10 rows10.length cap_m10, .slice a_m11 rows11.length cap_m11], 59⟩, ⟨r1, #[.int .i64 n0, .int .i64 n1, .int .i64 n2, .int .i64 n3, .int .i64 n4, .int .i64 n5, .int .i64 n6, .int .i64 n7, .slice a8 rows8.length cap8, .int .i64 n9, .slice a10 rows10.length cap10, .slice a11 rows11.length cap11], 59⟩]) rfl)).any (RdL.none))))))))))))) (show RdL (fun _ => True) _ _ [.int .i64 n0, .int .i64 n1, .int .i64 n2, .int .i64 n3, .int .i64 n4, .int .i64 n5, .int .i64 n6, .int .i64 n7, .slice a8 rows8.length cap8, .int .i64 n9, .slice a10 rows10.length cap10, .slice a11 rows11.length cap11] from RdL.mk (by rw [Rd]) (RdL.mk (by rw [Rd]) (RdL.mk (by rw [Rd]) (RdL.mk (by rw [Rd]) (RdL.mk (by rw [Rd]) (RdL.mk (by rw [Rd]) (RdL.mk (by rw [Rd]) (RdL.mk (by rw [Rd]) (RdL.mk (h_c8.stays (h1.staysC (L0 := [⟨r3, #[.int .i64 n0, .int .i64 n2, .int .i64 (k : Int), .slice a_r3 ((rows8.drop k).length) cap_r3], 61⟩, ⟨r2, #[.int .i64 n0, .int .i64 n1, .int .i64 n2, .int .i64 n3, .int .i64 n4, .int .i64 n5, .int .i64 n6, .int .i64 n7, .slice a_m8 ((rows8.take k).length) cap_m8, .int .i64 n9, .slice a_m10 rows10.length cap_m10, .slice a_m11 rows11.length cap_m11], 59⟩, ⟨r1, #[.int .i64 n0, .int .i64 n1, .int .i64 n2, .int .i64 n3, .int .i64 n4, .int .i64 n5, .int .i64 n6, .int .i64 n7, .slice a8 rows8.length cap8, .int .i64 n9, .slice a10 rows10.length cap10, .slice a11 rows11.length cap11], 59⟩]) rfl)).any (RdL.mk (by rw [Rd]) (RdL.mk (h_c10.stays (h1.staysC (L0 := [⟨r3, #[.int .i64 n0, .int .i64 n2, .int .i64 (k : Int), .slice a_r3 ((rows8.drop k).length) cap_r3], 61⟩, ⟨r2, #[.int .i64 n0, .int .i64 n1, .int .i64 n2, .int .i64 n3, .int .i64 n4, .int .i64 n5, .int .i64 n6, .int .i64 n7, .slice a_m8 ((rows8.take k).length) cap_m8, .int .i64 n9, .slice a_m10 rows10.length cap_m10, .slice a_m11 rows11.length cap_m11], 59⟩, ⟨r1, #[.int .i64 n0, .int .i64 n1, .int .i64 n2, .int .i64 n3, .int .i64 n4, .int .i64 n5, .int .i64 n6, .int .i64 n7, .slice a8 rows8.length cap8, .int .i64 n9, .slice a10 rows10.length cap10, .slice a11 rows11.length cap11], 59⟩]) rfl)).any (RdL.mk (h_c11.stays (h1.staysC (L0 := [⟨r3, #[.int .i64 n0, .int .i64 n2, .int .i64 (k : Int), .slice a_r3 ((rows8.drop k).length) cap_r3], 61⟩, ⟨r2, #[.int .i64 n0, .int .i64 n1, .int .i64 n2, .int .i64 n3, .int .i64 n4, .int .i64 n5, .int .i64 n6, .int .i64 n7, .slice a_m8 ((rows8.take k).length) cap_m8, .int .i64 n9, .slice a_m10 rows10.length cap_m10, .slice a_m11 rows11.length cap_m11], 59⟩, ⟨r1, #[.int .i64 n0, .int .i64 n1, .int .i64 n2, .int .i64 n3, .int .i64 n4, .int .i64 n5, .int .i64 n6, .int .i64 n7, .slice a8 rows8.length cap8, .int .i64 n9, .slice a10 rows10.length cap10, .slice a11 rows11.length cap11], 59⟩]) rfl)).any (RdL.none)))))))))))))) ?_
    refine wl_go 2 [(43, .pointer (some ⟨r1, 9, none⟩)), (42, .bool true)] (by kernel_rfl) ?_
    refine wl_yl (d := 44) (v := .int .i64 n9) (by kernel_rfl) (yl_load (b := r1) (off := 9) 2 rfl (by kernel_rfl) rfl (by kernel_rfl)) ?_
    refine wl_go 1 [(45, .pointer (some ⟨r1, 8, none⟩))] (by kernel_rfl) ?_
    refine wl_yl (d := 46) (v := .slice a8 rows8.length cap8) (by kernel_rfl) (yl_load (b := r1) (off := 8) 2 rfl (by kernel_rfl) rfl (by kernel_rfl)) ?_
    refine wl_go 3 [(49, .bool (decide (n9 > (rows8.length : Int)))), (48, .bool (decide (n9 > (rows8.length : Int)))), (47, .int .i64 (rows8.length : Int))] (by kernel_rfl) ?_
    cases hcm : (decide (n9 > (rows8.length : Int)))
    · skip
      refine wl_go 1 [(50, .pointer (some ⟨r3, 2, none⟩))] (by kernel_rfl) ?_
      refine wl_yl (d := 51) (v := .int .i64 (k : Int)) (by kernel_rfl) (yl_load (b := r3) (off := 2) 0 rfl (by kernel_rfl) rfl (by kernel_rfl)) ?_
      refine wl_go 1 [(52, .pointer (some ⟨r1, 9, none⟩))] (by kernel_rfl) ?_
      refine wl_yl (d := 53) (v := .int .i64 n9) (by kernel_rfl) (yl_load (b := r1) (off := 9) 2 rfl (by kernel_rfl) rfl (by kernel_rfl)) ?_
      refine wl_go 1 [(54, .bool (decide ((k : Int) ≥ n9)))] (by kernel_rfl) ?_
      rw [show decide ((k : Int) ≥ n9) = true from by rw [hk]; exact decide_eq_true (cutAt_com _ _ _ (by have h9 := of_decide_eq_false hcm; omega))]
      refine wl_go 3 [(57, .bool true), (56, .bool true), (55, .bool true)] (by kernel_rfl) ?_
      refine wl_callK shK (d := 58) (v := .bool true) (by kernel_rfl) (by kernel_rfl) (fun w1 h1 => awake_ok w1) ?_
      refine wl_go 2 [(4, .bool true), (59, .bool true)] (by kernel_rfl) ?_
      refine nx_list ?_
      refine nx_then ?_
      refine nx_ret ?_
      refine ret_tmp (v := .bool true) rfl (by kernel_rfl) ?_
      intro w' hw'
      exact ⟨rfl, hw'.below hbel hbel.size (ge_cons gr3 (ge_cons gr2 (ge_cons gr1 (ge_nil _))))⟩
    · skip
      refine wl_go 8 [(57, .bool true), (56, .bool true), (55, .bool true), (54, undef), (53, undef), (52, undef), (51, undef), (50, undef)] (by kernel_rfl) ?_
      refine wl_callK shK (d := 58) (v := .bool true) (by kernel_rfl) (by kernel_rfl) (fun w1 h1 => awake_ok w1) ?_
      refine wl_go 2 [(4, .bool true), (59, .bool true)] (by kernel_rfl) ?_
      refine nx_list ?_
      refine nx_then ?_
      refine nx_ret ?_
      refine ret_tmp (v := .bool true) rfl (by kernel_rfl) ?_
      intro w' hw'
      exact ⟨rfl, hw'.below hbel hbel.size (ge_cons gr3 (ge_cons gr2 (ge_cons gr1 (ge_nil _))))⟩

end Go.Proofs.Ythedokpgogopiaa
