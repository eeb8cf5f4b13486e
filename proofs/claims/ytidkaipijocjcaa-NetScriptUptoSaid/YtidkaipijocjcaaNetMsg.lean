/- Contracts of docstorelaw46.Same, SameMessages and (*Net).Clear, printed by a program of this repository (gen/netmsg.py). -/
import Derived.Test.YtidkaipijocjcaaNetFns
import Derived.Test.YtidkaipijocjcaaWr4
import Derived.Test.YtidkaipijocjcaaBk
namespace Go.Proofs.Ytidkaipijocjcaa
open Go.RowKit Go.Sx
set_option linter.unusedVariables false
set_option linter.unusedSimpArgs false

theorem encR_mem {rows : List (List D)} {r : List D} (h : r ∈ rows) : (encL r).size ≤ (encR rows).size := by
  obtain ⟨i, hi⟩ := List.getElem?_of_mem h
  have := encR_room hi
  omega
theorem sameMsg_ok (ds : List D) (hfit : FitL sh by_ ds (sh 14)) (hz : (encL ds).size ≤ 9223372036854775807) (w : World) (S S' : Nat → Prop) (ca cb : List Value) (hra : RdL S w ds ca) (hrb : RdL S' w ds cb) : Calls Try.prog 21 #[.agg ca.toArray, .agg cb.toArray] w (fun e w' => e = .returned (.bool true) ∧ Below w.heap.size w w') := by
  have hra := hra.im
  have hrb := hrb.im
  have hbel := Below.refl w.heap.size w
  obtain ⟨d0, e0, rfl, hf0, hft0⟩ := FitL.cons (k := .int) (ks := _) hfit
  obtain ⟨n0, rfl, _⟩ := Fit.int hf0
  obtain ⟨d1, e1, rfl, hf1, hft1⟩ := FitL.cons (k := .int) (ks := _) hft0
  obtain ⟨n1, rfl, _⟩ := Fit.int hf1
  obtain ⟨d2, e2, rfl, hf2, hft2⟩ := FitL.cons (k := .int) (ks := _) hft1
  obtain ⟨n2, rfl, _⟩ := Fit.int hf2
  obtain ⟨d3, e3, rfl, hf3, hft3⟩ := FitL.cons (k := .int) (ks := _) hft2
  obtain ⟨n3, rfl, _⟩ := Fit.int hf3
  obtain ⟨d4, e4, rfl, hf4, hft4⟩ := FitL.cons (k := .int) (ks := _) hft3
  obtain ⟨n4, rfl, _⟩ := Fit.int hf4
  obtain ⟨d5, e5, rfl, hf5, hft5⟩ := FitL.cons (k := .int) (ks := _) hft4
  obtain ⟨n5, rfl, _⟩ := Fit.int hf5
  obtain ⟨d6, e6, rfl, hf6, hft6⟩ := FitL.cons (k := .int) (ks := _) hft5
  obtain ⟨n6, rfl, _⟩ := Fit.int hf6
  obtain ⟨d7, e7, rfl, hf7, hft7⟩ := FitL.cons (k := .sl 13) (ks := _) hft6
  obtain ⟨rows7, rfl, b7, fR7⟩ := Fit.sl hf7
  have b7 : rows7.length * 1208 ≤ 140737488355328 := b7
  obtain ⟨d8, e8, rfl, hf8, hft8⟩ := FitL.cons (k := .bool) (ks := _) hft7
  obtain ⟨n8, rfl⟩ := Fit.bool hf8
  obtain rfl := FitL.nil hft8
  have hz7 : ∀ r ∈ rows7, (encL r).size ≤ 9223372036854775807 := fun r hr => by
    have h8 := encR_mem hr
    simp only [encLs_cons, encDs_sl] at hz
    omega
  obtain ⟨c_a0, z_a0, rfl, h_a0, hr_a0⟩ := RdL.cons hra
  rw [Rd] at h_a0; subst h_a0
  obtain ⟨c_a1, z_a1, rfl, h_a1, hr_a1⟩ := RdL.cons hr_a0
  rw [Rd] at h_a1; subst h_a1
  obtain ⟨c_a2, z_a2, rfl, h_a2, hr_a2⟩ := RdL.cons hr_a1
  rw [Rd] at h_a2; subst h_a2
  obtain ⟨c_a3, z_a3, rfl, h_a3, hr_a3⟩ := RdL.cons hr_a2
  rw [Rd] at h_a3; subst h_a3
  obtain ⟨c_a4, z_a4, rfl, h_a4, hr_a4⟩ := RdL.cons hr_a3
  rw [Rd] at h_a4; subst h_a4
  obtain ⟨c_a5, z_a5, rfl, h_a5, hr_a5⟩ := RdL.cons hr_a4
  rw [Rd] at h_a5; subst h_a5
  obtain ⟨c_a6, z_a6, rfl, h_a6, hr_a6⟩ := RdL.cons hr_a5
  rw [Rd] at h_a6; subst h_a6
  obtain ⟨c_a7, z_a7, rfl, h_a7, hr_a7⟩ := RdL.cons hr_a6
  obtain ⟨a_a7, cap_a7, rfl⟩ := h_a7.slv
  obtain ⟨c_a8, z_a8, rfl, h_a8, hr_a8⟩ := RdL.cons hr_a7
  rw [Rd] at h_a8; subst h_a8
  obtain rfl := RdL.nil hr_a8
  obtain ⟨c_b0, z_b0, rfl, h_b0, hr_b0⟩ := RdL.cons hrb
  rw [Rd] at h_b0; subst h_b0
  obtain ⟨c_b1, z_b1, rfl, h_b1, hr_b1⟩ := RdL.cons hr_b0
  rw [Rd] at h_b1; subst h_b1
  obtain ⟨c_b2, z_b2, rfl, h_b2, hr_b2⟩ := RdL.cons hr_b1
  rw [Rd] at h_b2; subst h_b2
  obtain ⟨c_b3, z_b3, rfl, h_b3, hr_b3⟩ := RdL.cons hr_b2
  rw [Rd] at h_b3; subst h_b3
  obtain ⟨c_b4, z_b4, rfl, h_b4, hr_b4⟩ := RdL.cons hr_b3
  rw [Rd] at h_b4; subst h_b4
  obtain ⟨c_b5, z_b5, rfl, h_b5, hr_b5⟩ := RdL.cons hr_b4
  rw [Rd] at h_b5; subst h_b5
  obtain ⟨c_b6, z_b6, rfl, h_b6, hr_b6⟩ := RdL.cons hr_b5
  rw [Rd] at h_b6; subst h_b6
  obtain ⟨c_b7, z_b7, rfl, h_b7, hr_b7⟩ := RdL.cons hr_b6
  obtain ⟨a_b7, cap_b7, rfl⟩ := h_b7.slv
  obtain ⟨c_b8, z_b8, rfl, h_b8, hr_b8⟩ := RdL.cons hr_b7
  rw [Rd] at h_b8; subst h_b8
  obtain rfl := RdL.nil hr_b8
  refine Sx.enter (l := [.agg #[.int .i64 n0, .int .i64 n1, .int .i64 n2, .int .i64 n3, .int .i64 n4, .int .i64 n5, .int .i64 n6, .slice a_a7 rows7.length cap_a7, .bool n8], .agg #[.int .i64 n0, .int .i64 n1, .int .i64 n2, .int .i64 n3, .int .i64 n4, .int .i64 n5, .int .i64 n6, .slice a_b7 rows7.length cap_b7, .bool n8]]) Try.func21 rfl (n := 66) rfl (by simp) ?_
  refine wc_eq (S := SH w []) (SH.refl _) ?_
  refine wc_seq ?_
  refine wc_region ?_
  refine wl_new (d := 2) #[.int .i64 n0, .int .i64 n1, .int .i64 n2, .int .i64 n3, .int .i64 n4, .int .i64 n5, .int .i64 n6, .slice a_a7 rows7.length cap_a7, .bool n8] 59 (fun r => .pointer (some ⟨r, 0, none⟩)) (by kernel_rfl) (fun r => by kernel_rfl) ?_
  intro r1 hr1
  have h_a7 := h_a7.stays (im_more (c := #[.int .i64 n0, .int .i64 n1, .int .i64 n2, .int .i64 n3, .int .i64 n4, .int .i64 n5, .int .i64 n6, .slice a_a7 rows7.length cap_a7, .bool n8]) (t := 59) hr1)
  have h_b7 := h_b7.stays (im_more (c := #[.int .i64 n0, .int .i64 n1, .int .i64 n2, .int .i64 n3, .int .i64 n4, .int .i64 n5, .int .i64 n6, .slice a_a7 rows7.length cap_a7, .bool n8]) (t := 59) hr1)
  have gr1 := Nat.le_trans hbel.size hr1
  refine wl_new (d := 3) #[.int .i64 n0, .int .i64 n1, .int .i64 n2, .int .i64 n3, .int .i64 n4, .int .i64 n5, .int .i64 n6, .slice a_b7 rows7.length cap_b7, .bool n8] 59 (fun r => .pointer (some ⟨r, 0, none⟩)) (by kernel_rfl) (fun r => by kernel_rfl) ?_
  intro r2 hr2
  have h_a7 := h_a7.stays (im_more (c := #[.int .i64 n0, .int .i64 n1, .int .i64 n2, .int .i64 n3, .int .i64 n4, .int .i64 n5, .int .i64 n6, .slice a_b7 rows7.length cap_b7, .bool n8]) (t := 59) hr2)
  have h_b7 := h_b7.stays (im_more (c := #[.int .i64 n0, .int .i64 n1, .int .i64 n2, .int .i64 n3, .int .i64 n4, .int .i64 n5, .int .i64 n6, .slice a_b7 rows7.length cap_b7, .bool n8]) (t := 59) hr2)
  have gr2 := Nat.le_trans hbel.size hr2
  refine wl_go 1 [(4, .bool false)] (by kernel_rfl) ?_
  refine nx_list ?_
  refine nx_then ?_
  refine wc_seq ?_
  refine wc_region ?_
  refine wl_go 1 [(5, .pointer (some ⟨r1, 0, none⟩))] (by kernel_rfl) ?_
  refine wl_yl (d := 6) (v := .int .i64 n0) (by kernel_rfl) (yl_load (b := r1) (off := 0) 1 rfl (by kernel_rfl) rfl (by kernel_rfl)) ?_
  refine wl_go 1 [(7, .pointer (some ⟨r2, 0, none⟩))] (by kernel_rfl) ?_
  refine wl_yl (d := 8) (v := .int .i64 n0) (by kernel_rfl) (yl_load (b := r2) (off := 0) 0 rfl (by kernel_rfl) rfl (by kernel_rfl)) ?_
  refine wl_go 1 [(9, .bool (n0 == n0))] (by kernel_rfl) ?_
  rw [show (n0 == n0) = true from by simp]
  refine wl_go 2 [(11, .pointer (some ⟨r1, 1, none⟩)), (10, .bool true)] (by kernel_rfl) ?_
  refine wl_yl (d := 12) (v := .int .i64 n1) (by kernel_rfl) (yl_load (b := r1) (off := 1) 1 rfl (by kernel_rfl) rfl (by kernel_rfl)) ?_
  refine wl_go 1 [(13, .pointer (some ⟨r2, 1, none⟩))] (by kernel_rfl) ?_
  refine wl_yl (d := 14) (v := .int .i64 n1) (by kernel_rfl) (yl_load (b := r2) (off := 1) 0 rfl (by kernel_rfl) rfl (by kernel_rfl)) ?_
  refine wl_go 1 [(15, .bool (n1 == n1))] (by kernel_rfl) ?_
  rw [show (n1 == n1) = true from by simp]
  refine wl_go 3 [(18, .pointer (some ⟨r1, 2, none⟩)), (17, .bool true), (16, .bool true)] (by kernel_rfl) ?_
  refine wl_yl (d := 19) (v := .int .i64 n2) (by kernel_rfl) (yl_load (b := r1) (off := 2) 1 rfl (by kernel_rfl) rfl (by kernel_rfl)) ?_
  refine wl_go 1 [(20, .pointer (some ⟨r2, 2, none⟩))] (by kernel_rfl) ?_
  refine wl_yl (d := 21) (v := .int .i64 n2) (by kernel_rfl) (yl_load (b := r2) (off := 2) 0 rfl (by kernel_rfl) rfl (by kernel_rfl)) ?_
  refine wl_go 1 [(22, .bool (n2 == n2))] (by kernel_rfl) ?_
  rw [show (n2 == n2) = true from by simp]
  refine wl_go 3 [(25, .pointer (some ⟨r1, 3, none⟩)), (24, .bool true), (23, .bool true)] (by kernel_rfl) ?_
  refine wl_yl (d := 26) (v := .int .i64 n3) (by kernel_rfl) (yl_load (b := r1) (off := 3) 1 rfl (by kernel_rfl) rfl (by kernel_rfl)) ?_
  refine wl_go 1 [(27, .pointer (some ⟨r2, 3, none⟩))] (by kernel_rfl) ?_
  refine wl_yl (d := 28) (v := .int .i64 n3) (by kernel_rfl) (yl_load (b := r2) (off := 3) 0 rfl (by kernel_rfl) rfl (by kernel_rfl)) ?_
  refine wl_go 1 [(29, .bool (n3 == n3))] (by kernel_rfl) ?_
  rw [show (n3 == n3) = true from by simp]
  refine wl_go 3 [(32, .pointer (some ⟨r1, 4, none⟩)), (31, .bool true), (30, .bool true)] (by kernel_rfl) ?_
  refine wl_yl (d := 33) (v := .int .i64 n4) (by kernel_rfl) (yl_load (b := r1) (off := 4) 1 rfl (by kernel_rfl) rfl (by kernel_rfl)) ?_
  refine wl_go 1 [(34, .pointer (some ⟨r2, 4, none⟩))] (by kernel_rfl) ?_
  refine wl_yl (d := 35) (v := .int .i64 n4) (by kernel_rfl) (yl_load (b := r2) (off := 4) 0 rfl (by kernel_rfl) rfl (by kernel_rfl)) ?_
  refine wl_go 1 [(36, .bool (n4 == n4))] (by kernel_rfl) ?_
  rw [show (n4 == n4) = true from by simp]
  refine wl_go 3 [(39, .pointer (some ⟨r1, 5, none⟩)), (38, .bool true), (37, .bool true)] (by kernel_rfl) ?_
  refine wl_yl (d := 40) (v := .int .i64 n5) (by kernel_rfl) (yl_load (b := r1) (off := 5) 1 rfl (by kernel_rfl) rfl (by kernel_rfl)) ?_
  refine wl_go 1 [(41, .pointer (some ⟨r2, 5, none⟩))] (by kernel_rfl) ?_
  refine wl_yl (d := 42) (v := .int .i64 n5) (by kernel_rfl) (yl_load (b := r2) (off := 5) 0 rfl (by kernel_rfl) rfl (by kernel_rfl)) ?_
  refine wl_go 1 [(43, .bool (n5 == n5))] (by kernel_rfl) ?_
  rw [show (n5 == n5) = true from by simp]
  refine wl_go 3 [(46, .pointer (some ⟨r1, 6, none⟩)), (45, .bool true), (44, .bool true)] (by kernel_rfl) ?_
  refine wl_yl (d := 47) (v := .int .i64 n6) (by kernel_rfl) (yl_load (b := r1) (off := 6) 1 rfl (by kernel_rfl) rfl (by kernel_rfl)) ?_
  refine wl_go 1 [(48, .pointer (some ⟨r2, 6, none⟩))] (by kernel_rfl) ?_
  refine wl_yl (d := 49) (v := .int .i64 n6) (by kernel_rfl) (yl_load (b := r2) (off := 6) 0 rfl (by kernel_rfl) rfl (by kernel_rfl)) ?_
  refine wl_go 1 [(50, .bool (n6 == n6))] (by kernel_rfl) ?_
  rw [show (n6 == n6) = true from by simp]
  refine wl_go 3 [(53, .pointer (some ⟨r1, 8, none⟩)), (52, .bool true), (51, .bool true)] (by kernel_rfl) ?_
  refine wl_yl (d := 54) (v := .bool n8) (by kernel_rfl) (yl_load (b := r1) (off := 8) 1 rfl (by kernel_rfl) rfl (by kernel_rfl)) ?_
  refine wl_go 1 [(55, .pointer (some ⟨r2, 8, none⟩))] (by kernel_rfl) ?_
  refine wl_yl (d := 56) (v := .bool n8) (by kernel_rfl) (yl_load (b := r2) (off := 8) 0 rfl (by kernel_rfl) rfl (by kernel_rfl)) ?_
  refine wl_go 1 [(57, .bool (n8 == n8))] (by kernel_rfl) ?_
  rw [show (n8 == n8) = true from by simp]
  refine wl_go 3 [(60, .pointer (some ⟨r1, 7, none⟩)), (59, .bool true), (58, .bool true)] (by kernel_rfl) ?_
  refine wl_yl (d := 61) (v := .slice a_a7 rows7.length cap_a7) (by kernel_rfl) (yl_load (b := r1) (off := 7) 1 rfl (by kernel_rfl) rfl (by kernel_rfl)) ?_
  refine wl_go 1 [(62, .pointer (some ⟨r2, 7, none⟩))] (by kernel_rfl) ?_
  refine wl_yl (d := 63) (v := .slice a_b7 rows7.length cap_b7) (by kernel_rfl) (yl_load (b := r2) (off := 7) 0 rfl (by kernel_rfl) rfl (by kernel_rfl)) ?_
  refine wl_callK shK (d := 64) (v := .bool true) (by kernel_rfl) (by kernel_rfl) (fun w1 h1 => sameEntries_ok rows7 fR7 b7 hz7 w1 _ _ _ _ _ _ (h_a7.stays (h1.staysC (L0 := (⟨r2, #[.int .i64 n0, .int .i64 n1, .int .i64 n2, .int .i64 n3, .int .i64 n4, .int .i64 n5, .int .i64 n6, .slice a_b7 rows7.length cap_b7, .bool n8], 59⟩ :: (⟨r1, #[.int .i64 n0, .int .i64 n1, .int .i64 n2, .int .i64 n3, .int .i64 n4, .int .i64 n5, .int .i64 n6, .slice a_a7 rows7.length cap_a7, .bool n8], 59⟩ :: []))) rfl)) (h_b7.stays (h1.staysC (L0 := (⟨r2, #[.int .i64 n0, .int .i64 n1, .int .i64 n2, .int .i64 n3, .int .i64 n4, .int .i64 n5, .int .i64 n6, .slice a_b7 rows7.length cap_b7, .bool n8], 59⟩ :: (⟨r1, #[.int .i64 n0, .int .i64 n1, .int .i64 n2, .int .i64 n3, .int .i64 n4, .int .i64 n5, .int .i64 n6, .slice a_a7 rows7.length cap_a7, .bool n8], 59⟩ :: []))) rfl))) ?_
  refine wl_go 2 [(4, .bool true), (65, .bool true)] (by kernel_rfl) ?_
  refine nx_list ?_
  refine nx_then ?_
  refine nx_ret ?_
  refine ret_tmp (v := .bool true) rfl (by kernel_rfl) ?_
  intro w' hw'
  exact ⟨rfl, hw'.below hbel hbel.size (ge_cons gr2 (ge_cons gr1 (ge_nil _)))⟩

theorem equalMsg_ok (rows : List (List D)) (fR : FitR sh by_ rows (sh 14)) (hl : rows.length * 88 ≤ 140737488355328) (hz : ∀ r ∈ rows, (encL r).size ≤ 9223372036854775807) (w : World) (S S' : Nat → Prop) (aa ab : Option Addr) (na nb : Nat) (ha : Rd S w (.sl rows) (.slice aa rows.length na)) (hb : Rd S' w (.sl rows) (.slice ab rows.length nb)) : Calls Try.prog 38 #[.slice aa rows.length na, .slice ab rows.length nb, .func (.func 21) #[] #[]] w (fun e w' => e = .returned (.bool true) ∧ Below w.heap.size w w') := by
  have h_a := ha.any
  have h_b := hb.any
  have bb : rows.length ≤ 140737488355328 := by omega
  refine Sx.enter (l := [.slice aa rows.length na, .slice ab rows.length nb, .func (.func 21) #[] #[]]) Try.func38 rfl (n := 32) rfl (by simp) ?_
  refine wc_eq (S := SH w []) (SH.refl _) ?_
  refine wc_seq ?_
  refine wc_region ?_
  refine wl_go 1 [(6, .bool false)] (by kernel_rfl) ?_
  refine nx_list ?_
  refine nx_then ?_
  refine wc_seq ?_
  refine wc_seq ?_
  refine wc_region ?_
  refine wl_go 5 [(14, .bool ((rows.length : Int) != (rows.length : Int))), (13, .int .i64 (rows.length : Int)), (12, .slice ab rows.length nb), (11, .int .i64 (rows.length : Int)), (10, .slice aa rows.length na)] (by kernel_rfl) ?_
  rw [show ((rows.length : Int) != (rows.length : Int)) = false from by simp]
  refine nx_list ?_
  refine nx_then ?_
  refine wc_cond false (by kernel_rfl) (by kernel_rfl) (fun h => by cases h) (fun _ => ?_)
  refine nx_skip ?_
  refine nx_then ?_
  refine wc_seq ?_
  refine wc_seq ?_
  refine wc_region ?_
  refine wl_go 3 [(17, .int .i64 0), (16, .int .i64 (rows.length : Int)), (15, .slice aa rows.length na)] (by kernel_rfl) ?_
  refine nx_list ?_
  refine nx_then ?_
  refine wc_block ?_
  refine wc_loop (σ := { i : Nat // i ≤ rows.length }) (fun x => [(1, .slice ab rows.length nb), (2, .func (.func 21) #[] #[]), (15, .slice aa rows.length na), (16, .int .i64 (rows.length : Int)), (17, .int .i64 (x.1 : Int))]) (fun _ => Bl w) (fun x => rows.length - x.1) (fun w3 h3 => ⟨⟨0, Nat.zero_le _⟩, h3.below (Below.refl _ _) (Nat.le_refl _) (ge_nil _), (subEnv_cons (by kernel_rfl) (subEnv_cons (by kernel_rfl) (subEnv_cons (by kernel_rfl) (subEnv_cons (by kernel_rfl) (subEnv_cons (by kernel_rfl) (subEnv_nil _))))))⟩) (fun x => ?_)
  refine wc_open (fun w3 h3 => ?_)
  refine wc_eq (S := SH w3 []) (SH.refl _) ?_
  refine wc_seq ?_
  refine wc_region ?_
  refine wl_go 1 [(18, .bool (decide ((x.1 : Int) < (rows.length : Int))))] (by kernel_rfl) ?_
  refine nx_list ?_
  refine nx_then ?_
  refine wc_seq ?_
  refine wc_cond (decide ((x.1 : Int) < (rows.length : Int))) (by kernel_rfl) (by kernel_rfl) (fun hc => ?_) (fun hc => ?_)
  · skip
    have hlt : x.1 < rows.length := by simpa using hc
    obtain ⟨r, hrow⟩ : ∃ r, rows[x.1]? = some r := ⟨_, List.getElem?_eq_getElem hlt⟩
    obtain ⟨ga, oa, ca, rfl, hIa, h_ca, l_ca, hga⟩ := Rd.row_at (es := 9) (h_a.stays (Bl.stays h3)).im (fun r hr => fR.length r hr) hrow
    obtain ⟨gb, ob, cb, rfl, hIb, h_cb, l_cb, hgb⟩ := Rd.row_at (es := 9) (h_b.stays (Bl.stays h3)).im (fun r hr => fR.length r hr) hrow
    have hmem := List.mem_of_getElem? hrow
    refine nx_skip ?_
    refine nx_then ?_
    refine wc_seq ?_
    refine wc_block ?_
    refine wc_seq ?_
    refine wc_region ?_
    refine wl_go 1 [(19, .int .i64 (x.1 : Int))] (by kernel_rfl) ?_
    refine wl_yl (d := 20) (v := .pointer (some ⟨ga, oa + x.1 * 9, none⟩)) (by kernel_rfl) (yl_index (E := 59) (b := ga) (off := oa) (len := rows.length) (cap := na) (k := x.1) (es := 9) rfl (by kernel_rfl) (by kernel_rfl) (by kernel_rfl) (by omega)) ?_
    refine wl_yl (d := 21) (v := .agg (ca).toArray) (by kernel_rfl) (yl_loads_im (b := ga) (off := oa + x.1 * 9) (cs := ca) rfl (by kernel_rfl) (im_new hIa.1 (ge_nil _)) (by rw [l_ca]; kernel_rfl) hga) ?_
    refine wl_new (d := 8) #[.int .i64 0, .int .i64 0, .int .i64 0, .int .i64 0, .int .i64 0, .int .i64 0, .int .i64 0, .slice none 0 0, .bool false] 59 (fun r => .pointer (some ⟨r, 0, none⟩)) (by kernel_rfl) (fun r => by kernel_rfl) ?_
    intro r1 hr1
    refine wl_go 1 [(7, .int .i64 (x.1 : Int))] (by kernel_rfl) ?_
    refine wl_store (b := r1) (off := 0) (v := .agg (ca).toArray) (c' := ca.toArray) (L' := [⟨r1, ca.toArray, 59⟩]) 0 (by kernel_rfl) rfl (by kernel_rfl) (by kernel_rfl) rfl (writeAt_all (by rw [l_ca]; kernel_rfl) (by rw [l_ca]; kernel_rfl) (RdL.oneCell h_ca)) rfl ?_
    refine nx_list ?_
    refine nx_then ?_
    refine wc_seq ?_
    refine wc_region ?_
    refine wl_go 2 [(23, .int .i64 (x.1 : Int)), (22, .slice (some ⟨gb, ob, none⟩) rows.length nb)] (by kernel_rfl) ?_
    refine wl_yl (d := 24) (v := .pointer (some ⟨gb, ob + x.1 * 9, none⟩)) (by kernel_rfl) (yl_index (E := 59) (b := gb) (off := ob) (len := rows.length) (cap := nb) (k := x.1) (es := 9) rfl (by kernel_rfl) (by kernel_rfl) (by kernel_rfl) (by omega)) ?_
    refine wl_yl (d := 25) (v := .agg (cb).toArray) (by kernel_rfl) (yl_loads_im (b := gb) (off := ob + x.1 * 9) (cs := cb) rfl (by kernel_rfl) (im_new hIb.1 (ge_cons hr1 (ge_nil _))) (by rw [l_cb]; kernel_rfl) hgb) ?_
    refine wl_new (d := 9) #[.int .i64 0, .int .i64 0, .int .i64 0, .int .i64 0, .int .i64 0, .int .i64 0, .int .i64 0, .slice none 0 0, .bool false] 59 (fun r => .pointer (some ⟨r, 0, none⟩)) (by kernel_rfl) (fun r => by kernel_rfl) ?_
    intro r2 hr2
    refine wl_store (b := r2) (off := 0) (v := .agg (cb).toArray) (c' := cb.toArray) (L' := [⟨r2, cb.toArray, 59⟩, ⟨r1, ca.toArray, 59⟩]) 0 (by kernel_rfl) rfl (by kernel_rfl) (by kernel_rfl) rfl (writeAt_all (by rw [l_cb]; kernel_rfl) (by rw [l_cb]; kernel_rfl) (RdL.oneCell h_cb)) rfl ?_
    refine nx_list ?_
    refine nx_then ?_
    refine wc_seq ?_
    refine wc_region ?_
    refine wl_go 1 [(26, .func (.func 21) #[] #[])] (by kernel_rfl) ?_
    refine wl_yl (d := 27) (v := .agg (ca).toArray) (by kernel_rfl) (yl_load (b := r1) (off := 0) 1 rfl (by kernel_rfl) rfl (readAt_all (by rw [l_ca]; kernel_rfl))) ?_
    refine wl_yl (d := 28) (v := .agg (cb).toArray) (by kernel_rfl) (yl_load (b := r2) (off := 0) 0 rfl (by kernel_rfl) rfl (readAt_all (by rw [l_cb]; kernel_rfl))) ?_
    refine wl_callK shK (d := 29) (v := .bool true) (by kernel_rfl) (by kernel_rfl) (fun w1 h1 => sameMsg_ok r (fR.mem hmem) (hz r hmem) w1 (fun _ => True) (fun _ => True) ca cb (h_ca.stays ⟨h1.size, fun k hk hI => trivial, fun k hk hI => h1.kept k hk (im_new hk (ge_cons hr2 (ge_cons hr1 (ge_nil _)))).2⟩) (h_cb.stays ⟨h1.size, fun k hk hI => trivial, fun k hk hI => h1.kept k hk (im_new hk (ge_cons hr2 (ge_cons hr1 (ge_nil _)))).2⟩)) ?_
    refine wl_go 1 [(30, .bool false)] (by kernel_rfl) ?_
    refine nx_list ?_
    refine nx_then ?_
    refine wc_cond false (by kernel_rfl) (by kernel_rfl) (fun h => by cases h) (fun _ => ?_)
    refine nx_skip ?_
    refine nx_block ?_
    refine nx_then ?_
    refine wc_region ?_
    refine wl_yl (d := 31) (v := .int .i64 ((x.1 : Int) + 1)) (by kernel_rfl) (yl_int (t := (x.1 : Int) + 1) (r := (x.1 : Int) + 1) (by kernel_rfl) (i64w (by omega) (by omega))) ?_
    refine wl_go 1 [(17, .int .i64 ((x.1 : Int) + 1))] (by kernel_rfl) ?_
    refine nx_list ?_
    refine nx_round_w (fun w4 hw' => ⟨⟨x.1 + 1, hlt⟩, (show rows.length - (x.1 + 1) < rows.length - x.1 by omega), (subEnv_cons (by kernel_rfl) (subEnv_cons (by kernel_rfl) (subEnv_cons (by kernel_rfl) (subEnv_cons (by kernel_rfl) (subEnv_cons (by kernel_rfl) (subEnv_nil _)))))), hw'.below h3 h3.size (ge_cons (Nat.le_trans h3.size hr2) (ge_cons (Nat.le_trans h3.size hr1) (ge_nil _)))⟩)
  · skip
    refine nx_exit ?_
    refine nx_then_exit ?_
    refine nx_then_exit ?_
    refine nx_block_here ?_
    refine nx_then ?_
    refine wc_seq ?_
    refine wc_region ?_
    refine wl_go 1 [(6, .bool true)] (by kernel_rfl) ?_
    refine nx_list ?_
    refine nx_then ?_
    refine nx_ret ?_
    refine ret_tmp (v := .bool true) rfl (by kernel_rfl) ?_
    intro w' hw'
    exact ⟨rfl, hw'.below h3 h3.size (ge_nil _)⟩

theorem sameMessages_ok (rows : List (List D)) (fR : FitR sh by_ rows (sh 14)) (hl : rows.length * 88 ≤ 140737488355328) (hz : ∀ r ∈ rows, (encL r).size ≤ 9223372036854775807) (w : World) (S S' : Nat → Prop) (aa ab : Option Addr) (na nb : Nat) (ha : Rd S w (.sl rows) (.slice aa rows.length na)) (hb : Rd S' w (.sl rows) (.slice ab rows.length nb)) : Calls Try.prog 25 #[.slice aa rows.length na, .slice ab rows.length nb] w (fun e w' => e = .returned (.bool true) ∧ Below w.heap.size w w') := by
  have h_a := ha.any
  have h_b := hb.any
  refine Sx.enter (l := [.slice aa rows.length na, .slice ab rows.length nb]) Try.func25 rfl (n := 8) rfl (by simp) ?_
  refine wc_eq (S := SH w []) (SH.refl _) ?_
  refine wc_seq ?_
  refine wc_region ?_
  refine wl_go 1 [(4, .bool false)] (by kernel_rfl) ?_
  refine nx_list ?_
  refine nx_then ?_
  refine wc_seq ?_
  refine wc_region ?_
  refine wl_go 2 [(6, .slice ab rows.length nb), (5, .slice aa rows.length na)] (by kernel_rfl) ?_
  refine wl_callK shK (d := 7) (v := .bool true) (by kernel_rfl) (by kernel_rfl) (fun w1 h1 => equalMsg_ok rows fR hl hz w1 (fun _ => True) (fun _ => True) aa ab na nb (h_a.stays (Bl.stays (h1.below (Below.refl _ _) (Nat.le_refl _) (ge_nil _)))) (h_b.stays (Bl.stays (h1.below (Below.refl _ _) (Nat.le_refl _) (ge_nil _))))) ?_
  refine wl_go 1 [(4, .bool true)] (by kernel_rfl) ?_
  refine nx_list ?_
  refine nx_then ?_
  refine nx_ret ?_
  refine ret_tmp (v := .bool true) rfl (by kernel_rfl) ?_
  intro w' hw'
  exact ⟨rfl, hw'.below (Below.refl _ _) (Nat.le_refl _) (ge_nil _)⟩

def keepM (mb : Int) (p : Int × Msg) : Bool := (p.2.fr != mb) && (p.2.to != mb)
def clearP (mb : Int) (ps : List (Int × Msg)) : List (Int × Msg) := ps.filter (keepM mb)
theorem clearP_le (mb : Int) (l : List (Int × Msg)) : (clearP mb l).length ≤ l.length := List.length_filter_le _ _
structure Ck (w : World) (mb : Int) (N : NetS) (n0 : Blk) where
  i : Nat
  wb : World
  v : Value
  R : List Blk
  hi : i ≤ N.ps.length
  own : Own 100 10 v (clearP mb (N.ps.take i)).length (flat (clearP mb (N.ps.take i))) R
  htr : Tr w [n0] wb ([n0] ++ R)
def Ck.nextA {w : World} {mb : Int} {N : NetS} {n0 : Blk} (x : Ck w mb N n0) {p : Int × Msg} (hp : N.ps[x.i]? = some p) (hd : keepM mb p = true) {w' : World} {v : Value} {R : List Blk}
    (own : Own 100 10 v ((clearP mb (N.ps.take x.i)).length + 1) (flat (clearP mb (N.ps.take x.i)) ++ parC p) R) (htr : Tr w [n0] w' ([n0] ++ R)) : Ck w mb N n0 where
  i := x.i + 1
  wb := w'
  v := v
  R := R
  hi := (List.getElem?_eq_some_iff.1 hp).1
  own := by
    have : clearP mb (N.ps.take (x.i + 1)) = clearP mb (N.ps.take x.i) ++ [p] := by rw [take_snoc_p hp]; simp [clearP, hd]
    rw [this, flat_snoc, List.length_append]; exact own
  htr := htr
def Ck.nextC {w : World} {mb : Int} {N : NetS} {n0 : Blk} (x : Ck w mb N n0) {p : Int × Msg} (hp : N.ps[x.i]? = some p) (hd : keepM mb p = false) {w' : World} (htr : Tr w [n0] w' ([n0] ++ x.R)) : Ck w mb N n0 where
  i := x.i + 1
  wb := w'
  v := x.v
  R := x.R
  hi := (List.getElem?_eq_some_iff.1 hp).1
  own := by
    have : clearP mb (N.ps.take (x.i + 1)) = clearP mb (N.ps.take x.i) := by rw [take_snoc_p hp]; simp [clearP, hd]
    rw [this]; exact x.own
  htr := htr
def Ck.begin {w : World} {mb : Int} {N : NetS} {n0 : Blk} {w' : World} (h : Tr w [n0] w' [n0]) : Ck w mb N n0 where
  i := 0
  wb := w'
  v := .slice none 0 0
  R := []
  hi := Nat.zero_le _
  own := Own.nil _ _
  htr := h
theorem Ck.row {w : World} {mb : Int} {N : NetS} {n0 : Blk} (x : Ck w mb N n0) {wa : Option Addr} {wc : Nat} (hrow : RowV w [n0] 0 (.slice wa N.ps.length wc) (N.ps.map parC)) (hok : ∀ p ∈ N.ps, okP p) (hlt : x.i < N.ps.length) :
    ∃ (g f t : Nat) (due kind term index last commit : Int) (ea : Option Addr) (en ec : Nat) (ok : Bool), wa = some ⟨g, 0, none⟩ ∧ f < 7 ∧ t < 7 ∧ N.ps[x.i]? = some (due, ⟨(f : Int), (t : Int), kind, term, index, last, commit, .slice ea en ec, ok⟩) ∧
      Im x.wb ([n0] ++ x.R) g ∧ x.wb.rangeAt g (0 + x.i * 10) [.int .i64 due, .int .i64 (f : Int), .int .i64 (t : Int), .int .i64 kind, .int .i64 term, .int .i64 index, .int .i64 last, .int .i64 commit, .slice ea en ec, .bool ok] := by
  obtain ⟨p, hp⟩ : ∃ p, N.ps[x.i]? = some p := ⟨_, List.getElem?_eq_getElem hlt⟩
  obtain ⟨f, t, ea, en, ec, hf, ht, e1, e2, e3⟩ := hok p (List.mem_of_getElem? hp)
  obtain ⟨due, fr, to, kind, term, index, last, commit, ents, ok⟩ := p
  simp only at e1 e2 e3
  subst e1 e2 e3
  obtain ⟨a, cap, he, h⟩ := hrow
  simp only [Value.slice.injEq] at he
  obtain ⟨rfl, _, _⟩ := he
  rcases h with h | ⟨g, ha, _, hI, hr⟩
  · have := congrArg List.length h
    simp at this
    rw [this] at hlt
    simp at hlt
  · refine ⟨g, f, t, due, kind, term, index, last, commit, ea, en, ec, ok, ha, hf, ht, hp, x.htr.im g hI, ?_⟩
    have := Go.Proofs.Ytidkaipijocjcaa.range_row (es := 10) (i := x.i) (x.htr.range hI hr) (fun y hy => by obtain ⟨q, _, rfl⟩ := List.mem_map.1 hy; rfl) (r := parC (due, ⟨(f : Int), (t : Int), kind, term, index, last, commit, .slice ea en ec, ok⟩)) (by simp [hp])
    exact this

theorem clear_ok (b : Nat) (N : NetS) (A : List Blk) (mb : Int) (w : World) (hsh : SH w A w) (hnet : IsNet b N A) (hok : ∀ p ∈ N.ps, okP p) (hps : N.ps.length ≤ 1000000) :
    Calls Try.prog 29 #[.pointer (some ⟨b, 0, none⟩), .int .i64 mb] w fun e w' => ∃ A', e = .returned (.tuple #[]) ∧ IsNet b { N with ps := clearP mb N.ps } A' ∧ SH w' A' w' ∧ Tr w A w' A' := by
  obtain ⟨way, R, rfl, hown⟩ := hnet
  obtain ⟨wa, wc, rfl⟩ := hown.val
  have hrow : RowV w [⟨b, netC N.size N.delay N.now N.cut (.slice wa N.ps.length wc), 97⟩] 0 (.slice wa N.ps.length wc) (N.ps.map parC) := RowV.of_own (E := 100) (es := 10) (R := R) (by simpa [flat] using hown) hsh (by simp)
  refine Sx.enter (l := [.pointer (some ⟨b, 0, none⟩), .int .i64 mb]) Try.func29 rfl (n := 39) rfl (by simp) ?_
  refine wc_eq (S := SH w [⟨b, (netC N.size N.delay N.now N.cut (.slice wa N.ps.length wc)), 97⟩]) (SH.part (A := [⟨b, (netC N.size N.delay N.now N.cut (.slice wa N.ps.length wc)), 97⟩]) (L := R) hsh) ?_
  refine wc_seq ?_
  refine wc_seq ?_
  refine wc_region ?_
  refine wl_go 2 [(8, .bool false), (7, .pointer (some ⟨b, 0, none⟩))] (by kernel_rfl) ?_
  refine nx_list ?_
  refine nx_then ?_
  refine wc_cond false (by kernel_rfl) (by kernel_rfl) (fun h => by cases h) (fun _ => ?_)
  refine nx_skip ?_
  refine nx_then ?_
  refine wc_seq ?_
  refine wc_region ?_
  refine wl_go 1 [(4, .slice none 0 0)] (by kernel_rfl) ?_
  refine nx_list ?_
  refine nx_then ?_
  refine wc_seq ?_
  refine wc_seq ?_
  refine wc_region ?_
  refine wl_go 3 [(11, .pointer (some ⟨b, 52, none⟩)), (10, .pointer (some ⟨b, 0, none⟩)), (9, .pointer (some ⟨b, 0, none⟩))] (by kernel_rfl) ?_
  refine wl_yl (d := 12) (v := .slice wa N.ps.length wc) (by kernel_rfl) (yl_load (b := b) (off := 52) 0 rfl (by kernel_rfl) rfl (by kernel_rfl)) ?_
  refine wl_go 2 [(14, .int .i64 0), (13, .int .i64 (N.ps.length : Int))] (by kernel_rfl) ?_
  refine nx_list ?_
  refine nx_then ?_
  refine wc_block ?_
  refine wc_loop (σ := Ck w mb N ⟨b, netC N.size N.delay N.now N.cut (.slice wa N.ps.length wc), 97⟩) (fun x => [(0, .pointer (some ⟨b, 0, none⟩)), (1, .int .i64 mb), (4, x.v), (12, .slice wa N.ps.length wc), (13, .int .i64 (N.ps.length : Int)), (14, .int .i64 (x.i : Int))]) (fun x => SH x.wb (([⟨b, netC N.size N.delay N.now N.cut (.slice wa N.ps.length wc), 97⟩] : List Blk) ++ x.R)) (fun x => N.ps.length - x.i) (fun w3 h3 => ⟨Ck.begin (Tr.refl w [⟨b, netC N.size N.delay N.now N.cut (.slice wa N.ps.length wc), 97⟩]), h3, (subEnv_cons (by kernel_rfl) (subEnv_cons (by kernel_rfl) (subEnv_cons (by kernel_rfl) (subEnv_cons (by kernel_rfl) (subEnv_cons (by kernel_rfl) (subEnv_cons (by kernel_rfl) (subEnv_nil _)))))))⟩) (fun x => ?_)
  have htr := x.htr
  refine wc_seq ?_
  refine wc_region ?_
  refine wl_go 1 [(15, .bool (decide ((x.i : Int) < (N.ps.length : Int))))] (by kernel_rfl) ?_
  refine nx_list ?_
  refine nx_then ?_
  refine wc_seq ?_
  refine wc_cond (decide ((x.i : Int) < (N.ps.length : Int))) (by kernel_rfl) (by kernel_rfl) (fun hcl => ?_) (fun hcl => ?_)
  · skip
    have hlt : x.i < N.ps.length := by simpa using hcl
    obtain ⟨g, f, t, due, kind, term, index, last, commit, ea, en, ec, ok, rfl, hf, ht, hp, hI, hrg⟩ := x.row hrow hok hlt
    refine nx_skip ?_
    refine nx_then ?_
    refine wc_seq ?_
    refine wc_block ?_
    refine wc_seq ?_
    refine wc_region ?_
    refine wl_yl (d := 16) (v := .pointer (some ⟨g, 0 + x.i * 10, none⟩)) (by kernel_rfl) (yl_index (E := 100) (b := g) (off := 0) (len := N.ps.length) (cap := wc) (k := x.i) (es := 10) rfl (by kernel_rfl) (by kernel_rfl) (by kernel_rfl) (by omega)) ?_
    refine wl_yl (d := 17) (v := .agg #[.int .i64 due, .int .i64 (f : Int), .int .i64 (t : Int), .int .i64 kind, .int .i64 term, .int .i64 index, .int .i64 last, .int .i64 commit, .slice ea en ec, .bool ok]) (by kernel_rfl) (yl_loads_im (b := g) (off := 0 + x.i * 10) (cs := [.int .i64 due, .int .i64 (f : Int), .int .i64 (t : Int), .int .i64 kind, .int .i64 term, .int .i64 index, .int .i64 last, .int .i64 commit, .slice ea en ec, .bool ok]) rfl (by kernel_rfl) hI (by kernel_rfl) hrg) ?_
    refine wl_new (d := 6) #[.int .i64 0, .int .i64 0, .int .i64 0, .int .i64 0, .int .i64 0, .int .i64 0, .int .i64 0, .int .i64 0, .slice none 0 0, .bool false] 100 (fun r => .pointer (some ⟨r, 0, none⟩)) (by kernel_rfl) (fun r => by kernel_rfl) ?_
    intro r1 hr1
    have htr := htr.more (c := #[.int .i64 0, .int .i64 0, .int .i64 0, .int .i64 0, .int .i64 0, .int .i64 0, .int .i64 0, .int .i64 0, .slice none 0 0, .bool false]) (t := 100) hr1
    refine wl_store (b := r1) (off := 0) (v := .agg #[.int .i64 due, .int .i64 (f : Int), .int .i64 (t : Int), .int .i64 kind, .int .i64 term, .int .i64 index, .int .i64 last, .int .i64 commit, .slice ea en ec, .bool ok]) (c' := #[.int .i64 due, .int .i64 (f : Int), .int .i64 (t : Int), .int .i64 kind, .int .i64 term, .int .i64 index, .int .i64 last, .int .i64 commit, .slice ea en ec, .bool ok]) (L' := (([⟨r1, #[.int .i64 due, .int .i64 (f : Int), .int .i64 (t : Int), .int .i64 kind, .int .i64 term, .int .i64 index, .int .i64 last, .int .i64 commit, .slice ea en ec, .bool ok], 100⟩, ⟨b, (netC N.size N.delay N.now N.cut (.slice (some ⟨g, 0, none⟩) N.ps.length wc)), 97⟩] : List Blk) ++ x.R)) 0 (by kernel_rfl) rfl (by kernel_rfl) (by kernel_rfl) rfl (by kernel_rfl) rfl ?_
    refine nx_list ?_
    refine nx_then ?_
    refine wc_seq ?_
    refine wc_region ?_
    refine wl_go 2 [(19, .pointer (some ⟨r1, 1, none⟩)), (18, .pointer (some ⟨r1, 1, none⟩))] (by kernel_rfl) ?_
    refine wl_yl (d := 20) (v := .int .i64 (f : Int)) (by kernel_rfl) (yl_load (b := r1) (off := 1) 0 rfl (by kernel_rfl) rfl (by kernel_rfl)) ?_
    refine wl_go 3 [(23, .bool ((f : Int) != mb)), (22, .bool ((f : Int) != mb)), (21, .int .i64 mb)] (by kernel_rfl) ?_
    cases hcf : ((f : Int) != mb)
    · skip
      refine wl_go 6 [(29, .bool false), (28, undef), (27, undef), (26, undef), (25, undef), (24, undef)] (by kernel_rfl) ?_
      refine nx_list ?_
      refine nx_then ?_
      refine wc_cond false (by kernel_rfl) (by kernel_rfl) (fun h => by cases h) (fun _ => ?_)
      refine nx_skip ?_
      refine nx_block ?_
      refine nx_then ?_
      refine wc_region ?_
      refine wl_yl (d := 34) (v := .int .i64 ((x.i : Int) + 1)) (by kernel_rfl) (yl_int (t := (x.i : Int) + 1) (r := (x.i : Int) + 1) (by kernel_rfl) (i64w (by omega) (by omega))) ?_
      refine wl_go 1 [(14, .int .i64 ((x.i : Int) + 1))] (by kernel_rfl) ?_
      refine nx_list ?_
      refine nx_round_w (fun w9 h9 => ?_)
      have hs9 := (h9).drop1
      have htr9 := ((htr.trans (h9.trHere.cong rfl))).drop1
      exact ⟨x.nextC hp (by simp only [keepM]; first | (rw [hcf]; rfl) | (rw [hct, Bool.and_false])) htr9, (show N.ps.length - (x.i + 1) < N.ps.length - x.i by omega), (subEnv_cons (by kernel_rfl) (subEnv_cons (by kernel_rfl) (subEnv_cons (by kernel_rfl) (subEnv_cons (by kernel_rfl) (subEnv_cons (by kernel_rfl) (subEnv_cons (by kernel_rfl) (subEnv_nil _))))))), hs9⟩
    · skip
      refine wl_go 2 [(25, .pointer (some ⟨r1, 2, none⟩)), (24, .pointer (some ⟨r1, 1, none⟩))] (by kernel_rfl) ?_
      refine wl_yl (d := 26) (v := .int .i64 (t : Int)) (by kernel_rfl) (yl_load (b := r1) (off := 2) 0 rfl (by kernel_rfl) rfl (by kernel_rfl)) ?_
      refine wl_go 3 [(29, .bool ((t : Int) != mb)), (28, .bool ((t : Int) != mb)), (27, .int .i64 mb)] (by kernel_rfl) ?_
      refine nx_list ?_
      refine nx_then ?_
      refine wc_cond ((t : Int) != mb) (by kernel_rfl) (by kernel_rfl) (fun hct => ?_) (fun hct => ?_)
      · skip
        refine wc_region ?_
        refine wl_go 1 [(30, x.v)] (by kernel_rfl) ?_
        refine wl_yl (d := 31) (v := .agg #[.int .i64 due, .int .i64 (f : Int), .int .i64 (t : Int), .int .i64 kind, .int .i64 term, .int .i64 index, .int .i64 last, .int .i64 commit, .slice ea en ec, .bool ok]) (by kernel_rfl) (yl_load (b := r1) (off := 0) 0 rfl (by kernel_rfl) rfl (by kernel_rfl)) ?_
        refine wl_new (d := 32) #[.int .i64 due, .int .i64 (f : Int), .int .i64 (t : Int), .int .i64 kind, .int .i64 term, .int .i64 index, .int .i64 last, .int .i64 commit, .slice ea en ec, .bool ok] 100 (fun r => .slice (some ⟨r, 0, none⟩) 1 1) (by kernel_rfl) (fun r => by kernel_rfl) ?_
        intro r2 hr2
        have htr := htr.more (c := #[.int .i64 due, .int .i64 (f : Int), .int .i64 (t : Int), .int .i64 kind, .int .i64 term, .int .i64 index, .int .i64 last, .int .i64 commit, .slice ea en ec, .bool ok]) (t := 100) hr2
        have hkl := clearP_le mb (N.ps.take x.i)
        have htk := List.length_take_le x.i N.ps
        have htr := htr.congR (L0 := (([⟨r2, #[.int .i64 due, .int .i64 (f : Int), .int .i64 (t : Int), .int .i64 kind, .int .i64 term, .int .i64 index, .int .i64 last, .int .i64 commit, .slice ea en ec, .bool ok], 100⟩, ⟨r1, #[.int .i64 due, .int .i64 (f : Int), .int .i64 (t : Int), .int .i64 kind, .int .i64 term, .int .i64 index, .int .i64 last, .int .i64 commit, .slice ea en ec, .bool ok], 100⟩, ⟨b, (netC N.size N.delay N.now N.cut (.slice (some ⟨g, 0, none⟩) N.ps.length wc)), 97⟩] : List Blk) ++ x.R)) rfl
        refine wl_append' (L := ([⟨r2, #[.int .i64 due, .int .i64 (f : Int), .int .i64 (t : Int), .int .i64 kind, .int .i64 term, .int .i64 index, .int .i64 last, .int .i64 commit, .slice ea en ec, .bool ok], 100⟩, ⟨r1, #[.int .i64 due, .int .i64 (f : Int), .int .i64 (t : Int), .int .i64 kind, .int .i64 term, .int .i64 index, .int .i64 last, .int .i64 commit, .slice ea en ec, .bool ok], 100⟩, ⟨b, (netC N.size N.delay N.now N.cut (.slice (some ⟨g, 0, none⟩) N.ps.length wc)), 97⟩] : List Blk)) (R := x.R) (d := 33) 100 (.agg #[.int .i64 0, .int .i64 0, .int .i64 0, .int .i64 0, .int .i64 0, .int .i64 0, .int .i64 0, .int .i64 0, .slice none 0 0, .bool false]) 10 96 (v := x.v) (k := (clearP mb (N.ps.take x.i)).length) (xs := flat (clearP mb (N.ps.take x.i))) (a := ⟨r2, 0, none⟩) (m := 1) (c := 1) [.int .i64 due, .int .i64 (f : Int), .int .i64 (t : Int), .int .i64 kind, .int .i64 term, .int .i64 index, .int .i64 last, .int .i64 commit, .slice ea en ec, .bool ok] (by kernel_rfl) rfl (by kernel_rfl) rfl (by decide) (by kernel_rfl) x.own (by kernel_rfl) rfl (fun w3 h3 => h3.news 0 rfl) ?_ ?_ ?_ ?_
        · intro u hu; simp only [List.mem_cons, List.not_mem_nil, or_false] at hu; rcases hu with rfl | rfl | rfl | rfl | rfl | rfl | rfl | rfl | rfl | rfl <;> rfl
        · simp only [maxLen]; omega
        · omega
        intro wq1 vq1 Rq2 hown2 hT
        have htr := htr.trans hT
        refine wl_go 1 [(4, vq1)] (by kernel_rfl) ?_
        refine nx_list ?_
        refine nx_block ?_
        refine nx_then ?_
        refine wc_region ?_
        refine wl_yl (d := 34) (v := .int .i64 ((x.i : Int) + 1)) (by kernel_rfl) (yl_int (t := (x.i : Int) + 1) (r := (x.i : Int) + 1) (by kernel_rfl) (i64w (by omega) (by omega))) ?_
        refine wl_go 1 [(14, .int .i64 ((x.i : Int) + 1))] (by kernel_rfl) ?_
        refine nx_list ?_
        refine nx_round_w (fun w9 h9 => ?_)
        have hs9 := ((h9).drop1).drop1
        have htr9 := (((htr.trans (h9.trHere.cong rfl))).drop1).drop1
        exact ⟨x.nextA hp (by simp only [keepM]; rw [hcf, hct]; rfl) hown2 htr9, (show N.ps.length - (x.i + 1) < N.ps.length - x.i by omega), (subEnv_cons (by kernel_rfl) (subEnv_cons (by kernel_rfl) (subEnv_cons (by kernel_rfl) (subEnv_cons (by kernel_rfl) (subEnv_cons (by kernel_rfl) (subEnv_cons (by kernel_rfl) (subEnv_nil _))))))), hs9⟩
      · skip
        refine nx_skip ?_
        refine nx_block ?_
        refine nx_then ?_
        refine wc_region ?_
        refine wl_yl (d := 34) (v := .int .i64 ((x.i : Int) + 1)) (by kernel_rfl) (yl_int (t := (x.i : Int) + 1) (r := (x.i : Int) + 1) (by kernel_rfl) (i64w (by omega) (by omega))) ?_
        refine wl_go 1 [(14, .int .i64 ((x.i : Int) + 1))] (by kernel_rfl) ?_
        refine nx_list ?_
        refine nx_round_w (fun w9 h9 => ?_)
        have hs9 := (h9).drop1
        have htr9 := ((htr.trans (h9.trHere.cong rfl))).drop1
        exact ⟨x.nextC hp (by simp only [keepM]; first | (rw [hcf]; rfl) | (rw [hct, Bool.and_false])) htr9, (show N.ps.length - (x.i + 1) < N.ps.length - x.i by omega), (subEnv_cons (by kernel_rfl) (subEnv_cons (by kernel_rfl) (subEnv_cons (by kernel_rfl) (subEnv_cons (by kernel_rfl) (subEnv_cons (by kernel_rfl) (subEnv_cons (by kernel_rfl) (subEnv_nil _))))))), hs9⟩
  · skip
    have hge : N.ps.length ≤ x.i := by simpa using hcl
    obtain ⟨a4, c4, hv4⟩ := x.own.val
    rw [hv4]
    refine nx_exit ?_
    refine nx_then_exit ?_
    refine nx_then_exit ?_
    refine nx_block_here ?_
    refine nx_then ?_
    refine wc_region ?_
    refine wl_go 4 [(38, .pointer (some ⟨b, 52, none⟩)), (37, .pointer (some ⟨b, 0, none⟩)), (36, .slice a4 ((clearP mb (N.ps.take x.i)).length) c4), (35, .pointer (some ⟨b, 0, none⟩))] (by kernel_rfl) ?_
    refine wl_store (b := b) (off := 52) (v := .slice a4 ((clearP mb (N.ps.take x.i)).length) c4) (c' := netC N.size N.delay N.now N.cut (.slice a4 ((clearP mb (N.ps.take x.i)).length) c4)) (L' := (([⟨b, (netC N.size N.delay N.now N.cut (.slice a4 ((clearP mb (N.ps.take x.i)).length) c4)), 97⟩] : List Blk) ++ x.R)) 0 (by kernel_rfl) rfl (by kernel_rfl) (by kernel_rfl) rfl (by kernel_rfl) rfl ?_
    refine nx_list ?_
    refine end_none rfl ?_
    intro w' hw'
    have et : N.ps.take x.i = N.ps := List.take_of_length_le hge
    have o4 := x.own
    rw [hv4] at o4
    rw [et] at o4 hw'
    exact ⟨_, rfl, ⟨_, x.R, rfl, o4⟩, hw'.here, ((htr.trans (hw'.trHere.cong rfl))).wide (by simp)⟩

end Go.Proofs.Ytidkaipijocjcaa
