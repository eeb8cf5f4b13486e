/- Contracts of the writers of docstoreref40 (first part), printed by a program of this repository (gen/writers.py). -/
import Derived.Test.YtidkaipijocjcaaWr
import Derived.Test.YtidkaipijocjcaaApi
import Derived.Test.YtidkaipijocjcaaBl
import Derived.Test.YtidkaipijocjcaaProg
namespace Go.Proofs.Ytidkaipijocjcaa
open Go.RowKit Go.Sx
set_option linter.unusedVariables false
set_option linter.unusedSimpArgs false

def shShape : List K := [.int, .sl 4, .int]
theorem Num_ok (n : Int) (w : World) : Calls Try.prog 68 #[.int .i64 n] w (fun e w' => e = .returned (.string (numB n)) ∧ Below w.heap.size w w') := by
  refine Sx.enter (l := [.int .i64 n]) Try.func68 rfl (n := 37) rfl (by simp) ?_
  refine wc_eq (S := SH w []) (SH.refl _) ?_
  refine wc_seq ?_
  refine wc_region ?_
  refine wl_go 1 [(2, .string ⟨#[]⟩)] (by kernel_rfl) ?_
  refine nx_list ?_
  refine nx_then ?_
  refine wc_seq ?_
  refine wc_region ?_
  refine wl_go 4 [(3, .int .u64 (zz0 n)), (8, .int .u64 (zz0 n)), (7, .int .u64 (IntKind.u64.wrap n)), (6, .int .i64 n)] (by kernel_rfl) ?_
  refine nx_list ?_
  refine nx_then ?_
  refine wc_seq ?_
  refine wc_seq ?_
  refine wc_region ?_
  refine wl_go 2 [(10, .bool (decide (n < 0))), (9, .int .i64 n)] (by kernel_rfl) ?_
  refine nx_list ?_
  refine nx_then ?_
  refine wc_cond (decide (n < 0)) (by kernel_rfl) (by kernel_rfl) (fun hn => ?_) (fun hn => ?_)
  · skip
    refine wc_region ?_
    refine wl_go 3 [(3, .int .u64 (zzN (zz0 n))), (12, .int .u64 (zzN (zz0 n))), (11, .int .u64 (zz0 n))] (by kernel_rfl) ?_
    refine nx_list ?_
    refine nx_then ?_
    refine wc_seq ?_
    refine wc_region ?_
    refine wl_go 1 [(4, .string ⟨#[]⟩)] (by kernel_rfl) ?_
    refine nx_list ?_
    refine nx_then ?_
    refine wc_seq ?_
    refine wc_seq ?_
    refine wc_region ?_
    refine wl_go 1 [(5, .int .i64 0)] (by kernel_rfl) ?_
    refine nx_list ?_
    refine nx_then ?_
    refine wc_block ?_
    refine wc_loop (σ := { x : Nat × Int × ByteArray // x.1 ≤ 10 ∧ x.2.2.size ≤ x.1 ∧ numR (10 - x.1) x.2.1 x.2.2 = numB n }) (fun x => [(3, .int .u64 x.1.2.1), (4, .string x.1.2.2), (5, .int .i64 (x.1.1 : Int))]) (fun _ => Bl w) (fun x => 10 - x.1.1) (fun w3 h3 => ⟨⟨(0, zzN (zz0 n), ⟨#[]⟩), Nat.zero_le _, Nat.le_refl _, by unfold numB; rw [hn]; rfl⟩, h3.below (Below.refl _ _) (Nat.le_refl _) (ge_nil _), (subEnv_cons (by kernel_rfl) (subEnv_cons (by kernel_rfl) (subEnv_cons (by kernel_rfl) (subEnv_nil _))))⟩) ?_
    rintro ⟨⟨i, u, t⟩, hi10, hsz, hN⟩
    simp only at hi10 hsz hN
    refine wc_open (fun w3 h3 => ?_)
    refine wc_eq (S := SH w3 []) (SH.refl _) ?_
    refine wc_seq ?_
    refine wc_seq ?_
    refine wc_region ?_
    refine wl_go 3 [(15, .bool (decide ((i : Int) < 10))), (14, .bool (decide ((i : Int) < 10))), (13, .int .i64 (i : Int))] (by kernel_rfl) ?_
    cases hi : (decide ((i : Int) < 10))
    · skip
      refine wl_go 3 [(18, .bool false), (17, undef), (16, undef)] (by kernel_rfl) ?_
      refine nx_list ?_
      refine nx_then ?_
      refine wc_cond false (by kernel_rfl) (by kernel_rfl) (fun h => by cases h) (fun _ => ?_)
      refine nx_exit ?_
      refine nx_then_exit ?_
      refine nx_then_exit ?_
      refine nx_block_here ?_
      refine nx_then ?_
      refine wc_seq ?_
      refine wc_region ?_
      refine wl_go 3 [(33, .int .u8 (lsb u)), (32, .int .u64 u), (31, .string t)] (by kernel_rfl) ?_
      refine wl_new (d := 34) #[.int .u8 (lsb u)] 5 (fun r => .slice (some ⟨r, 0, none⟩) 1 1) (by kernel_rfl) (fun r => by kernel_rfl) ?_
      intro r1 hr1
      refine wl_yl (d := 35) (v := .string (by1 (lsb u))) (by kernel_rfl) (yl_byte (E := 5) (r := r1) (cap := 1) (y := lsb u) 0 rfl (by kernel_rfl) (by kernel_rfl) rfl) ?_
      refine wl_yl (d := 36) (v := .string (t ++ (by1 (lsb u)))) (by kernel_rfl) (yl_cat (a := t) (b := by1 (lsb u)) rfl (by kernel_rfl) (by kernel_rfl) (by rw [by1_size]; omega)) ?_
      refine wl_go 1 [(2, .string (t ++ (by1 (lsb u))))] (by kernel_rfl) ?_
      refine nx_list ?_
      refine nx_then ?_
      refine nx_ret ?_
      refine ret_tmp (v := .string (t ++ (by1 (lsb u)))) rfl (by kernel_rfl) ?_
      intro w' hw'
      have hfin : t ++ by1 (lsb u) = numB n := by
        rw [← hN]
        by_cases h10 : i < 10
        · have hu' : decide (u ≥ 128) = false := by first | exact hu | (have h9 := of_decide_eq_false hi; omega)
          rw [show 10 - i = (10 - (i + 1)) + 1 by omega, numR, hu']; rfl
        · rw [show 10 - i = 0 by omega, numR]
      rw [hfin]
      exact ⟨rfl, hw'.below h3 h3.size (ge_cons (Nat.le_trans h3.size hr1) (ge_nil _))⟩
    · skip
      refine wl_go 3 [(18, .bool (decide (u ≥ 128))), (17, .bool (decide (u ≥ 128))), (16, .int .u64 u)] (by kernel_rfl) ?_
      refine nx_list ?_
      refine nx_then ?_
      refine wc_cond (decide (u ≥ 128)) (by kernel_rfl) (by kernel_rfl) (fun hu => ?_) (fun hu => ?_)
      · skip
        refine nx_skip ?_
        refine nx_then ?_
        refine wc_seq ?_
        refine wc_block ?_
        refine wc_seq ?_
        refine wc_region ?_
        refine wl_go 5 [(25, .int .u8 (orb u)), (24, .int .u8 (IntKind.u8.wrap (u.tmod 128))), (23, .int .u64 (u.tmod 128)), (22, .int .u64 u), (21, .string t)] (by kernel_rfl) ?_
        refine wl_new (d := 26) #[.int .u8 (orb u)] 5 (fun r => .slice (some ⟨r, 0, none⟩) 1 1) (by kernel_rfl) (fun r => by kernel_rfl) ?_
        intro r2 hr2
        refine wl_yl (d := 27) (v := .string (by1 (orb u))) (by kernel_rfl) (yl_byte (E := 5) (r := r2) (cap := 1) (y := orb u) 0 rfl (by kernel_rfl) (by kernel_rfl) rfl) ?_
        refine wl_yl (d := 28) (v := .string (t ++ (by1 (orb u)))) (by kernel_rfl) (yl_cat (a := t) (b := by1 (orb u)) rfl (by kernel_rfl) (by kernel_rfl) (by rw [by1_size]; omega)) ?_
        refine wl_go 1 [(4, .string (t ++ (by1 (orb u))))] (by kernel_rfl) ?_
        refine nx_list ?_
        refine nx_then ?_
        refine wc_region ?_
        refine wl_go 3 [(3, .int .u64 (nxu u)), (30, .int .u64 (nxu u)), (29, .int .u64 u)] (by kernel_rfl) ?_
        refine nx_list ?_
        refine nx_block ?_
        refine nx_then ?_
        refine wc_region ?_
        refine wl_go 1 [(19, .int .i64 (i : Int))] (by kernel_rfl) ?_
        refine wl_yl (d := 20) (v := .int .i64 ((i : Int) + 1)) (by kernel_rfl) (yl_int (t := (i : Int) + 1) (r := (i : Int) + 1) (by kernel_rfl) (i64w (by omega) (by omega))) ?_
        refine wl_go 1 [(5, .int .i64 ((i : Int) + 1))] (by kernel_rfl) ?_
        refine nx_list ?_
        have hi9 : i < 10 := by
          have h9 := of_decide_eq_true hi
          omega
        refine nx_round_w (fun w4 h4 => ⟨⟨(i + 1, nxu u, t ++ by1 (orb u)), by omega, by rw [ByteArray.size_append, by1_size]; omega, ?_⟩, by show 10 - (i + 1) < 10 - i; omega, (subEnv_cons (by kernel_rfl) (subEnv_cons (by kernel_rfl) (subEnv_cons (by kernel_rfl) (subEnv_nil _)))), h4.below h3 h3.size (ge_cons (Nat.le_trans h3.size hr2) (ge_nil _))⟩)
        rw [show 10 - i = (10 - (i + 1)) + 1 by omega, numR, hu] at hN
        exact hN
      · skip
        refine nx_exit ?_
        refine nx_then_exit ?_
        refine nx_then_exit ?_
        refine nx_block_here ?_
        refine nx_then ?_
        refine wc_seq ?_
        refine wc_region ?_
        refine wl_go 3 [(33, .int .u8 (lsb u)), (32, .int .u64 u), (31, .string t)] (by kernel_rfl) ?_
        refine wl_new (d := 34) #[.int .u8 (lsb u)] 5 (fun r => .slice (some ⟨r, 0, none⟩) 1 1) (by kernel_rfl) (fun r => by kernel_rfl) ?_
        intro r3 hr3
        refine wl_yl (d := 35) (v := .string (by1 (lsb u))) (by kernel_rfl) (yl_byte (E := 5) (r := r3) (cap := 1) (y := lsb u) 0 rfl (by kernel_rfl) (by kernel_rfl) rfl) ?_
        refine wl_yl (d := 36) (v := .string (t ++ (by1 (lsb u)))) (by kernel_rfl) (yl_cat (a := t) (b := by1 (lsb u)) rfl (by kernel_rfl) (by kernel_rfl) (by rw [by1_size]; omega)) ?_
        refine wl_go 1 [(2, .string (t ++ (by1 (lsb u))))] (by kernel_rfl) ?_
        refine nx_list ?_
        refine nx_then ?_
        refine nx_ret ?_
        refine ret_tmp (v := .string (t ++ (by1 (lsb u)))) rfl (by kernel_rfl) ?_
        intro w' hw'
        have hfin : t ++ by1 (lsb u) = numB n := by
          rw [← hN]
          by_cases h10 : i < 10
          · have hu' : decide (u ≥ 128) = false := by first | exact hu | (have h9 := of_decide_eq_false hi; omega)
            rw [show 10 - i = (10 - (i + 1)) + 1 by omega, numR, hu']; rfl
          · rw [show 10 - i = 0 by omega, numR]
        rw [hfin]
        exact ⟨rfl, hw'.below h3 h3.size (ge_cons (Nat.le_trans h3.size hr3) (ge_nil _))⟩
  · skip
    refine nx_skip ?_
    refine nx_then ?_
    refine wc_seq ?_
    refine wc_region ?_
    refine wl_go 1 [(4, .string ⟨#[]⟩)] (by kernel_rfl) ?_
    refine nx_list ?_
    refine nx_then ?_
    refine wc_seq ?_
    refine wc_seq ?_
    refine wc_region ?_
    refine wl_go 1 [(5, .int .i64 0)] (by kernel_rfl) ?_
    refine nx_list ?_
    refine nx_then ?_
    refine wc_block ?_
    refine wc_loop (σ := { x : Nat × Int × ByteArray // x.1 ≤ 10 ∧ x.2.2.size ≤ x.1 ∧ numR (10 - x.1) x.2.1 x.2.2 = numB n }) (fun x => [(3, .int .u64 x.1.2.1), (4, .string x.1.2.2), (5, .int .i64 (x.1.1 : Int))]) (fun _ => Bl w) (fun x => 10 - x.1.1) (fun w3 h3 => ⟨⟨(0, zz0 n, ⟨#[]⟩), Nat.zero_le _, Nat.le_refl _, by unfold numB; rw [hn]; rfl⟩, h3.below (Below.refl _ _) (Nat.le_refl _) (ge_nil _), (subEnv_cons (by kernel_rfl) (subEnv_cons (by kernel_rfl) (subEnv_cons (by kernel_rfl) (subEnv_nil _))))⟩) ?_
    rintro ⟨⟨i, u, t⟩, hi10, hsz, hN⟩
    simp only at hi10 hsz hN
    refine wc_open (fun w3 h3 => ?_)
    refine wc_eq (S := SH w3 []) (SH.refl _) ?_
    refine wc_seq ?_
    refine wc_seq ?_
    refine wc_region ?_
    refine wl_go 3 [(15, .bool (decide ((i : Int) < 10))), (14, .bool (decide ((i : Int) < 10))), (13, .int .i64 (i : Int))] (by kernel_rfl) ?_
    cases hi : (decide ((i : Int) < 10))
    · skip
      refine wl_go 3 [(18, .bool false), (17, undef), (16, undef)] (by kernel_rfl) ?_
      refine nx_list ?_
      refine nx_then ?_
      refine wc_cond false (by kernel_rfl) (by kernel_rfl) (fun h => by cases h) (fun _ => ?_)
      refine nx_exit ?_
      refine nx_then_exit ?_
      refine nx_then_exit ?_
      refine nx_block_here ?_
      refine nx_then ?_
      refine wc_seq ?_
      refine wc_region ?_
      refine wl_go 3 [(33, .int .u8 (lsb u)), (32, .int .u64 u), (31, .string t)] (by kernel_rfl) ?_
      refine wl_new (d := 34) #[.int .u8 (lsb u)] 5 (fun r => .slice (some ⟨r, 0, none⟩) 1 1) (by kernel_rfl) (fun r => by kernel_rfl) ?_
      intro r4 hr4
      refine wl_yl (d := 35) (v := .string (by1 (lsb u))) (by kernel_rfl) (yl_byte (E := 5) (r := r4) (cap := 1) (y := lsb u) 0 rfl (by kernel_rfl) (by kernel_rfl) rfl) ?_
      refine wl_yl (d := 36) (v := .string (t ++ (by1 (lsb u)))) (by kernel_rfl) (yl_cat (a := t) (b := by1 (lsb u)) rfl (by kernel_rfl) (by kernel_rfl) (by rw [by1_size]; omega)) ?_
      refine wl_go 1 [(2, .string (t ++ (by1 (lsb u))))] (by kernel_rfl) ?_
      refine nx_list ?_
      refine nx_then ?_
      refine nx_ret ?_
      refine ret_tmp (v := .string (t ++ (by1 (lsb u)))) rfl (by kernel_rfl) ?_
      intro w' hw'
      have hfin : t ++ by1 (lsb u) = numB n := by
        rw [← hN]
        by_cases h10 : i < 10
        · have hu' : decide (u ≥ 128) = false := by first | exact hu | (have h9 := of_decide_eq_false hi; omega)
          rw [show 10 - i = (10 - (i + 1)) + 1 by omega, numR, hu']; rfl
        · rw [show 10 - i = 0 by omega, numR]
      rw [hfin]
      exact ⟨rfl, hw'.below h3 h3.size (ge_cons (Nat.le_trans h3.size hr4) (ge_nil _))⟩
    · skip
      refine wl_go 3 [(18, .bool (decide (u ≥ 128))), (17, .bool (decide (u ≥ 128))), (16, .int .u64 u)] (by kernel_rfl) ?_
      refine nx_list ?_
      refine nx_then ?_
      refine wc_cond (decide (u ≥ 128)) (by kernel_rfl) (by kernel_rfl) (fun hu => ?_) (fun hu => ?_)
      · skip
        refine nx_skip ?_
        refine nx_then ?_
        refine wc_seq ?_
        refine wc_block ?_
        refine wc_seq ?_
        refine wc_region ?_
        refine wl_go 5 [(25, .int .u8 (orb u)), (24, .int .u8 (IntKind.u8.wrap (u.tmod 128))), (23, .int .u64 (u.tmod 128)), (22, .int .u64 u), (21, .string t)] (by kernel_rfl) ?_
        refine wl_new (d := 26) #[.int .u8 (orb u)] 5 (fun r => .slice (some ⟨r, 0, none⟩) 1 1) (by kernel_rfl) (fun r => by kernel_rfl) ?_
        intro r5 hr5
        refine wl_yl (d := 27) (v := .string (by1 (orb u))) (by kernel_rfl) (yl_byte (E := 5) (r := r5) (cap := 1) (y := orb u) 0 rfl (by kernel_rfl) (by kernel_rfl) rfl) ?_
        refine wl_yl (d := 28) (v := .string (t ++ (by1 (orb u)))) (by kernel_rfl) (yl_cat (a := t) (b := by1 (orb u)) rfl (by kernel_rfl) (by kernel_rfl) (by rw [by1_size]; omega)) ?_
        refine wl_go 1 [(4, .string (t ++ (by1 (orb u))))] (by kernel_rfl) ?_
        refine nx_list ?_
        refine nx_then ?_
        refine wc_region ?_
        refine wl_go 3 [(3, .int .u64 (nxu u)), (30, .int .u64 (nxu u)), (29, .int .u64 u)] (by kernel_rfl) ?_
        refine nx_list ?_
        refine nx_block ?_
        refine nx_then ?_
        refine wc_region ?_
        refine wl_go 1 [(19, .int .i64 (i : Int))] (by kernel_rfl) ?_
        refine wl_yl (d := 20) (v := .int .i64 ((i : Int) + 1)) (by kernel_rfl) (yl_int (t := (i : Int) + 1) (r := (i : Int) + 1) (by kernel_rfl) (i64w (by omega) (by omega))) ?_
        refine wl_go 1 [(5, .int .i64 ((i : Int) + 1))] (by kernel_rfl) ?_
        refine nx_list ?_
        have hi9 : i < 10 := by
          have h9 := of_decide_eq_true hi
          omega
        refine nx_round_w (fun w4 h4 => ⟨⟨(i + 1, nxu u, t ++ by1 (orb u)), by omega, by rw [ByteArray.size_append, by1_size]; omega, ?_⟩, by show 10 - (i + 1) < 10 - i; omega, (subEnv_cons (by kernel_rfl) (subEnv_cons (by kernel_rfl) (subEnv_cons (by kernel_rfl) (subEnv_nil _)))), h4.below h3 h3.size (ge_cons (Nat.le_trans h3.size hr5) (ge_nil _))⟩)
        rw [show 10 - i = (10 - (i + 1)) + 1 by omega, numR, hu] at hN
        exact hN
      · skip
        refine nx_exit ?_
        refine nx_then_exit ?_
        refine nx_then_exit ?_
        refine nx_block_here ?_
        refine nx_then ?_
        refine wc_seq ?_
        refine wc_region ?_
        refine wl_go 3 [(33, .int .u8 (lsb u)), (32, .int .u64 u), (31, .string t)] (by kernel_rfl) ?_
        refine wl_new (d := 34) #[.int .u8 (lsb u)] 5 (fun r => .slice (some ⟨r, 0, none⟩) 1 1) (by kernel_rfl) (fun r => by kernel_rfl) ?_
        intro r6 hr6
        refine wl_yl (d := 35) (v := .string (by1 (lsb u))) (by kernel_rfl) (yl_byte (E := 5) (r := r6) (cap := 1) (y := lsb u) 0 rfl (by kernel_rfl) (by kernel_rfl) rfl) ?_
        refine wl_yl (d := 36) (v := .string (t ++ (by1 (lsb u)))) (by kernel_rfl) (yl_cat (a := t) (b := by1 (lsb u)) rfl (by kernel_rfl) (by kernel_rfl) (by rw [by1_size]; omega)) ?_
        refine wl_go 1 [(2, .string (t ++ (by1 (lsb u))))] (by kernel_rfl) ?_
        refine nx_list ?_
        refine nx_then ?_
        refine nx_ret ?_
        refine ret_tmp (v := .string (t ++ (by1 (lsb u)))) rfl (by kernel_rfl) ?_
        intro w' hw'
        have hfin : t ++ by1 (lsb u) = numB n := by
          rw [← hN]
          by_cases h10 : i < 10
          · have hu' : decide (u ≥ 128) = false := by first | exact hu | (have h9 := of_decide_eq_false hi; omega)
            rw [show 10 - i = (10 - (i + 1)) + 1 by omega, numR, hu']; rfl
          · rw [show 10 - i = 0 by omega, numR]
        rw [hfin]
        exact ⟨rfl, hw'.below h3 h3.size (ge_cons (Nat.le_trans h3.size hr6) (ge_nil _))⟩

theorem num_ok (n : Int) : WV Try.prog 64 130 (.int n) := by
  intro w b s bad v hb hv hz
  rw [Rd] at hv; subst hv
  rw [encD] at hz
  refine Sx.enter (l := [.pointer (some ⟨b, 0, none⟩), .int .i64 n]) Try.func64 rfl (n := 13) rfl (by simp) ?_
  refine wc_eq (S := SH w [⟨b, #[.string s, .bool bad, .bool true], 130⟩]) hb ?_
  refine wc_draw 9 (SH w [⟨b, #[.string s, .bool bad, .bool true], 130⟩]) rfl (by decide) (fun w h => SH.drew h) ?_
  refine wd_go [0, 1, 2] [(6, .pointer (some ⟨b, 0, none⟩)), (5, .pointer (some ⟨b, 0, none⟩)), (4, .pointer (some ⟨b, 0, none⟩))] #[true, true, true, false, false, false, false, false, false, false] (f := 6) rfl (by kernel_rfl) (fun w h => h) ?_
  refine wd_yl 3 (d := 7) (v := .string s) (f := 5) rfl (by kernel_rfl) (by kernel_rfl) (fun w h => h) (yl_load (b := b) (off := 0) 0 rfl (by kernel_rfl) rfl (by kernel_rfl)) ?_
  refine wd_go [4] [(8, .int .i64 n)] #[true, true, true, true, true, false, false, false, false, false] (f := 4) rfl (by kernel_rfl) (fun w h => h) ?_
  refine wd_callK shK 5 (d := 9) (fu := 3) (v := .string (numB n)) rfl (by decide) (by kernel_rfl) (by kernel_rfl) (by kernel_rfl) (fun w1 h1 => Num_ok n w1) ?_
  refine wd_yl 6 (d := 10) (v := .string (s ++ (numB n))) (f := 2) rfl (by kernel_rfl) (by kernel_rfl) (fun w h => h) (yl_cat (a := s) (b := numB n) rfl (by kernel_rfl) (by kernel_rfl) hz) ?_
  refine wd_go [7, 8] [(12, .pointer (some ⟨b, 0, none⟩)), (11, .pointer (some ⟨b, 0, none⟩))] #[true, true, true, true, true, true, true, true, true, false] (f := 0) rfl (by kernel_rfl) (fun w h => h) ?_
  refine wd_done (by kernel_rfl) ?_
  refine wl_store (b := b) (off := 0) (v := .string (s ++ (numB n))) (c' := #[.string (s ++ (numB n)), .bool bad, .bool true]) (L' := [⟨b, #[.string (s ++ (numB n)), .bool bad, .bool true], 130⟩]) 0 (by kernel_rfl) rfl (by kernel_rfl) (by kernel_rfl) rfl (by kernel_rfl) rfl ?_
  refine nx_list ?_
  refine nx_on ?_
  refine end_none rfl ?_
  intro w' hw'
  rw [encD]
  exact ⟨rfl, hw'⟩

theorem str_ok (t : ByteArray) : WV Try.prog 65 130 (.str t) := by
  intro w b s bad v hb hv hz
  rw [Rd] at hv; subst hv
  rw [encD, ByteArray.size_append] at hz
  rw [encD]
  have hz : s.size + ((encD (.int (t.size : Int))).size + ((t).size + (0))) ≤ 9223372036854775807 := by rw [encD]; omega
  refine Sx.enter (l := [.pointer (some ⟨b, 0, none⟩), .string t]) Try.func65 rfl (n := 16) rfl (by simp) ?_
  refine wc_eq (S := SH w [⟨b, #[.string s, .bool bad, .bool true], 130⟩]) hb ?_
  refine wc_seq ?_
  refine wc_region ?_
  refine wl_go 3 [(6, .int .i64 (t.size : Int)), (5, .string t), (4, .pointer (some ⟨b, 0, none⟩))] (by kernel_rfl) ?_
  refine wl_callW (d := 7) (b := b) (s := s) (E := (encD (.int (t.size : Int)))) (bad := bad) (T := 130) (L' := [⟨b, #[.string (s ++ (encD (.int (t.size : Int)))), .bool bad, .bool true], 130⟩]) 0 (by kernel_rfl) (by kernel_rfl) rfl rfl (fun w1 h1 => (num_ok (t.size : Int)) w1 b s bad (.int .i64 (t.size : Int)) (h1.one 0 rfl) (by rw [Rd]) (szA hz)) ?_
  obtain ⟨s1, hs1⟩ : ∃ u_, u_ = s ++ (encD (.int (t.size : Int))) := ⟨_, rfl⟩
  have hz := szB hz hs1
  rw [← hs1]
  refine nx_list ?_
  refine nx_then ?_
  refine wc_region ?_
  refine wl_go 3 [(10, .pointer (some ⟨b, 0, none⟩)), (9, .pointer (some ⟨b, 0, none⟩)), (8, .pointer (some ⟨b, 0, none⟩))] (by kernel_rfl) ?_
  refine wl_yl (d := 11) (v := .string s1) (by kernel_rfl) (yl_load (b := b) (off := 0) 0 rfl (by kernel_rfl) rfl (by kernel_rfl)) ?_
  refine wl_go 1 [(12, .string t)] (by kernel_rfl) ?_
  refine wl_yl (d := 13) (v := .string (s1 ++ t)) (by kernel_rfl) (yl_cat (a := s1) (b := t) rfl (by kernel_rfl) (by kernel_rfl) (szA hz)) ?_
  refine wl_go 2 [(15, .pointer (some ⟨b, 0, none⟩)), (14, .pointer (some ⟨b, 0, none⟩))] (by kernel_rfl) ?_
  refine wl_store (b := b) (off := 0) (v := .string (s1 ++ t)) (c' := #[.string (s1 ++ t), .bool bad, .bool true]) (L' := [⟨b, #[.string (s1 ++ t), .bool bad, .bool true], 130⟩]) 0 (by kernel_rfl) rfl (by kernel_rfl) (by kernel_rfl) rfl (by kernel_rfl) rfl ?_
  refine nx_list ?_
  refine end_none rfl ?_
  intro w' hw'
  rw [hs1, ByteArray.append_assoc] at hw'
  exact ⟨rfl, hw'⟩

theorem flag_ok (v : Bool) : WV Try.prog 72 130 (.bool v) := by
  intro w b s bad v0 hb hv0 hz
  rw [Rd] at hv0; subst hv0
  have hz1 : s.size + 1 ≤ 9223372036854775807 := by rw [encD] at hz; cases v <;> exact hz
  refine Sx.enter (l := [.pointer (some ⟨b, 0, none⟩), .bool v]) Try.func72 rfl (n := 19) rfl (by simp) ?_
  refine wc_eq (S := SH w [⟨b, #[.string s, .bool bad, .bool true], 130⟩]) hb ?_
  refine wc_seq ?_
  refine wc_region ?_
  refine wl_go 1 [(4, .bool v)] (by kernel_rfl) ?_
  refine nx_list ?_
  refine nx_then ?_
  refine wc_cond (v) (by kernel_rfl) (by kernel_rfl) (fun hv => ?_) (fun hv => ?_)
  · skip
    refine wc_region ?_
    refine wl_go 3 [(7, .pointer (some ⟨b, 0, none⟩)), (6, .pointer (some ⟨b, 0, none⟩)), (5, .pointer (some ⟨b, 0, none⟩))] (by kernel_rfl) ?_
    refine wl_yl (d := 8) (v := .string s) (by kernel_rfl) (yl_load (b := b) (off := 0) 0 rfl (by kernel_rfl) rfl (by kernel_rfl)) ?_
    refine wl_yl (d := 9) (v := .string (s ++ (⟨#[1]⟩))) (by kernel_rfl) (yl_cat (a := s) (b := ⟨#[1]⟩) rfl (by kernel_rfl) (by kernel_rfl) hz1) ?_
    refine wl_go 2 [(11, .pointer (some ⟨b, 0, none⟩)), (10, .pointer (some ⟨b, 0, none⟩))] (by kernel_rfl) ?_
    refine wl_store (b := b) (off := 0) (v := .string (s ++ (⟨#[1]⟩))) (c' := #[.string (s ++ (⟨#[1]⟩)), .bool bad, .bool true]) (L' := [⟨b, #[.string (s ++ (⟨#[1]⟩)), .bool bad, .bool true], 130⟩]) 0 (by kernel_rfl) rfl (by kernel_rfl) (by kernel_rfl) rfl (by kernel_rfl) rfl ?_
    refine nx_list ?_
    refine end_none rfl ?_
    intro w' hw'
    rw [encD, hv]
    exact ⟨rfl, hw'⟩
  · skip
    refine wc_region ?_
    refine wl_go 3 [(14, .pointer (some ⟨b, 0, none⟩)), (13, .pointer (some ⟨b, 0, none⟩)), (12, .pointer (some ⟨b, 0, none⟩))] (by kernel_rfl) ?_
    refine wl_yl (d := 15) (v := .string s) (by kernel_rfl) (yl_load (b := b) (off := 0) 0 rfl (by kernel_rfl) rfl (by kernel_rfl)) ?_
    refine wl_yl (d := 16) (v := .string (s ++ (⟨#[0]⟩))) (by kernel_rfl) (yl_cat (a := s) (b := ⟨#[0]⟩) rfl (by kernel_rfl) (by kernel_rfl) hz1) ?_
    refine wl_go 2 [(18, .pointer (some ⟨b, 0, none⟩)), (17, .pointer (some ⟨b, 0, none⟩))] (by kernel_rfl) ?_
    refine wl_store (b := b) (off := 0) (v := .string (s ++ (⟨#[0]⟩))) (c' := #[.string (s ++ (⟨#[0]⟩)), .bool bad, .bool true]) (L' := [⟨b, #[.string (s ++ (⟨#[0]⟩)), .bool bad, .bool true], 130⟩]) 0 (by kernel_rfl) rfl (by kernel_rfl) (by kernel_rfl) rfl (by kernel_rfl) rfl ?_
    refine nx_list ?_
    refine end_none rfl ?_
    intro w' hw'
    rw [encD, hv]
    exact ⟨rfl, hw'⟩

theorem strs_ok (rows0 : List (List D)) (fR_rows0 : FitR sh by_ rows0 (sh 2)) (b_rows0 : rows0.length * 16 ≤ 140737488355328) : WV Try.prog 77 130 (.sl rows0) := by
  have bb_rows0 : rows0.length ≤ 140737488355328 := by omega
  intro w b s bad v hb h_c0 hz0
  obtain ⟨a0, cap0, rfl⟩ := h_c0.slv
  obtain ⟨E, hE⟩ : ∃ E, E = encD (.sl rows0) := ⟨_, rfl⟩
  rw [← hE]
  have hz : s.size + ((encD (.int (rows0.length : Int))).size + ((encR rows0).size + (0))) ≤ 9223372036854775807 := by
    rw [encDs_sl] at hz0
    exact hz0
  have hent := (@Sx.enter Try.prog 21 77 Try.f77 _ [.pointer (some ⟨b, 0, none⟩), .slice a0 rows0.length cap0] w (fun e w' => e = .returned (.tuple #[]) ∧ SH w [⟨b, #[.string (s ++ E), .bool bad, .bool true], 130⟩] w') Try.func77 rfl rfl (by simp))
  refine hent ?_
  refine wc_eq (S := SH w [⟨b, #[.string s, .bool bad, .bool true], 130⟩]) hb ?_
  refine wc_seq ?_
  refine wc_region ?_
  refine wl_go 3 [(7, .int .i64 (rows0.length : Int)), (6, .slice a0 rows0.length cap0), (5, .pointer (some ⟨b, 0, none⟩))] (by kernel_rfl) ?_
  refine wl_callW (d := 8) (b := b) (s := s) (E := (encD (.int (rows0.length : Int)))) (bad := bad) (T := 130) (L' := [⟨b, #[.string (s ++ (encD (.int (rows0.length : Int)))), .bool bad, .bool true], 130⟩]) 0 (by kernel_rfl) (by kernel_rfl) rfl rfl (fun w1 h1 => (num_ok (rows0.length : Int)) w1 b s bad (.int .i64 (rows0.length : Int)) (h1.one 0 rfl) (by rw [Rd]) (szA hz)) ?_
  obtain ⟨s1, hs1⟩ : ∃ u_, u_ = s ++ (encD (.int (rows0.length : Int))) := ⟨_, rfl⟩
  have hz := szB hz hs1
  rw [← hs1]
  refine nx_list ?_
  refine nx_then ?_
  refine wc_seq ?_
  refine wc_region ?_
  refine wl_go 1 [(4, .int .i64 0)] (by kernel_rfl) ?_
  refine nx_list ?_
  refine nx_then ?_
  refine wc_block ?_
  refine wc_loop (σ := { i : Nat // i ≤ rows0.length }) (fun x => [(0, .pointer (some ⟨b, 0, none⟩)), (1, .slice a0 rows0.length cap0), (4, .int .i64 (x.1 : Int))]) (fun x => SH w [⟨b, #[.string (s1 ++ encR (rows0.take x.1)), .bool bad, .bool true], 130⟩]) (fun x => rows0.length - x.1) (fun w3 h3 => ⟨⟨0, Nat.zero_le _⟩, by simpa only [List.take_zero, encR, ByteArray.append_empty] using h3, (subEnv_cons (by kernel_rfl) (subEnv_cons (by kernel_rfl) (subEnv_cons (by kernel_rfl) (subEnv_nil _))))⟩) (fun x => ?_)
  refine wc_seq ?_
  refine wc_seq ?_
  refine wc_region ?_
  refine wl_go 4 [(12, .bool (decide ((x.1 : Int) < (rows0.length : Int)))), (11, .int .i64 (rows0.length : Int)), (10, .slice a0 rows0.length cap0), (9, .int .i64 (x.1 : Int))] (by kernel_rfl) ?_
  refine nx_list ?_
  refine nx_then ?_
  refine wc_cond (decide ((x.1 : Int) < (rows0.length : Int))) (by kernel_rfl) (by kernel_rfl) (fun hc0 => ?_) (fun hc0 => ?_)
  · skip
    have hlt : x.1 < rows0.length := by simpa using hc0
    obtain ⟨r, hrow⟩ : ∃ r, rows0[x.1]? = some r := ⟨_, List.getElem?_eq_getElem hlt⟩
    have hfr := fR_rows0.get x.1 r hrow
    obtain ⟨g, off, cr, rfl, hIg, h_cr, l_cr, hrg⟩ := Rd.row_at (es := 1) h_c0 (fun r hr => fR_rows0.length r hr) hrow
    have hzr : (s1 ++ encR (rows0.take x.1)).size + (encL r).size ≤ 9223372036854775807 := by
      rw [ByteArray.size_append]
      have h8 := encR_room hrow
      omega
    obtain ⟨dr0, er0, rfl, hfr0, hftr0⟩ := FitL.cons (k := .str) (ks := []) hfr
    obtain ⟨nr0, rfl, _⟩ := Fit.str hfr0
    obtain rfl := FitL.nil hftr0
    obtain ⟨cr0, zr0, rfl, h_cr0, hrdr0⟩ := RdL.cons h_cr
    rw [Rd] at h_cr0; subst h_cr0
    obtain rfl := RdL.nil hrdr0
    have hmem := List.mem_of_getElem? hrow
    have hz : (s1 ++ encR (rows0.take x.1)).size + ((encD (.str nr0)).size + (0)) ≤ 9223372036854775807 := by
      have h9 := hzr
      simp only [encLs_cons, encLs_app, encLs_nil] at h9
      exact h9
    refine nx_skip ?_
    refine nx_then ?_
    refine wc_seq ?_
    refine wc_block ?_
    refine wc_region ?_
    refine wl_go 3 [(17, .int .i64 (x.1 : Int)), (16, .slice (some ⟨g, off, none⟩) rows0.length cap0), (15, .pointer (some ⟨b, 0, none⟩))] (by kernel_rfl) ?_
    refine wl_yl (d := 18) (v := .pointer (some ⟨g, off + x.1 * 1, none⟩)) (by kernel_rfl) (yl_index (E := 9) (b := g) (off := off) (len := rows0.length) (cap := cap0) (k := x.1) (es := 1) rfl (by kernel_rfl) (by kernel_rfl) (by kernel_rfl) (by omega)) ?_
    refine wl_yl (d := 19) (v := .string nr0) (by kernel_rfl) (yl_load_im (b := g) (off := off + x.1 * 1) (v := .string nr0) rfl (by kernel_rfl) (im_cong (L := [⟨b, #[.string s, .bool bad, .bool true], 130⟩]) (L' := [⟨b, #[.string (s1 ++ encR (rows0.take x.1)), .bool bad, .bool true], 130⟩]) rfl hIg) (by kernel_rfl) (hrg 0 _ rfl)) ?_
    refine wl_callW (d := 20) (b := b) (s := (s1 ++ encR (rows0.take x.1))) (E := (encD (.str nr0))) (bad := bad) (T := 130) (L' := [⟨b, #[.string ((s1 ++ encR (rows0.take x.1)) ++ (encD (.str nr0))), .bool bad, .bool true], 130⟩]) 0 (by kernel_rfl) (by kernel_rfl) rfl rfl (fun w1 h1 => (str_ok nr0) w1 b (s1 ++ encR (rows0.take x.1)) bad (.string nr0) (h1.one 0 rfl) (by rw [Rd]) (szA hz)) ?_
    obtain ⟨s2, hs2⟩ : ∃ u_, u_ = (s1 ++ encR (rows0.take x.1)) ++ (encD (.str nr0)) := ⟨_, rfl⟩
    have hz := szB hz hs2
    rw [← hs2]
    refine nx_list ?_
    refine nx_block ?_
    refine nx_then ?_
    refine wc_region ?_
    refine wl_go 1 [(13, .int .i64 (x.1 : Int))] (by kernel_rfl) ?_
    refine wl_yl (d := 14) (v := .int .i64 ((x.1 : Int) + 1)) (by kernel_rfl) (yl_int (t := (x.1 : Int) + 1) (r := (x.1 : Int) + 1) (by kernel_rfl) (i64w (by omega) (by omega))) ?_
    refine wl_go 1 [(4, .int .i64 ((x.1 : Int) + 1))] (by kernel_rfl) ?_
    refine nx_list ?_
    have hfin : s2 = s1 ++ encR (rows0.take (x.1 + 1)) := by
      rw [encR_take hrow, hs2]
      simp only [encL_append, encL, encD, ByteArray.append_assoc, ByteArray.append_empty]
    rw [hfin]
    refine nx_round (y := ⟨x.1 + 1, hlt⟩) (show rows0.length - (x.1 + 1) < rows0.length - x.1 by omega) (subEnv_cons (by kernel_rfl) (subEnv_cons (by kernel_rfl) (subEnv_cons (by kernel_rfl) (subEnv_nil _)))) (fun w h => h)
  · skip
    have hge : rows0.length ≤ x.1 := by simpa using hc0
    obtain ⟨s3, hs3⟩ : ∃ u_, u_ = s1 ++ encR rows0 := ⟨_, rfl⟩
    have hz := szB hz hs3
    rw [List.take_of_length_le hge, ← hs3]
    refine nx_exit ?_
    refine nx_then_exit ?_
    refine nx_then_exit ?_
    refine nx_block_here ?_
    refine end_none rfl ?_
    intro w' hw'
    have hfin : s3 = s ++ E := by
      rw [hE, hs3, hs1]
      simp only [encL_append, encL, encD, ByteArray.append_assoc, ByteArray.append_empty]
    rw [hfin] at hw'
    exact ⟨rfl, hw'⟩

theorem values_ok (rows0 : List (List D)) (fR_rows0 : FitR sh by_ rows0 (sh 0)) (b_rows0 : rows0.length * 80 ≤ 140737488355328) (one : ∀ r ∈ rows0, WS Try.prog 69 130 r) : WV Try.prog 73 130 (.sl rows0) := by
  have bb_rows0 : rows0.length ≤ 140737488355328 := by omega
  intro w b s bad v hb h_c0 hz0
  obtain ⟨a0, cap0, rfl⟩ := h_c0.slv
  obtain ⟨E, hE⟩ : ∃ E, E = encD (.sl rows0) := ⟨_, rfl⟩
  rw [← hE]
  have hz : s.size + ((encD (.int (rows0.length : Int))).size + ((encR rows0).size + (0))) ≤ 9223372036854775807 := by
    rw [encDs_sl] at hz0
    exact hz0
  have hent := (@Sx.enter Try.prog 21 73 Try.f73 _ [.pointer (some ⟨b, 0, none⟩), .slice a0 rows0.length cap0] w (fun e w' => e = .returned (.tuple #[]) ∧ SH w [⟨b, #[.string (s ++ E), .bool bad, .bool true], 130⟩] w') Try.func73 rfl rfl (by simp))
  refine hent ?_
  refine wc_eq (S := SH w [⟨b, #[.string s, .bool bad, .bool true], 130⟩]) hb ?_
  refine wc_seq ?_
  refine wc_region ?_
  refine wl_go 3 [(7, .int .i64 (rows0.length : Int)), (6, .slice a0 rows0.length cap0), (5, .pointer (some ⟨b, 0, none⟩))] (by kernel_rfl) ?_
  refine wl_callW (d := 8) (b := b) (s := s) (E := (encD (.int (rows0.length : Int)))) (bad := bad) (T := 130) (L' := [⟨b, #[.string (s ++ (encD (.int (rows0.length : Int)))), .bool bad, .bool true], 130⟩]) 0 (by kernel_rfl) (by kernel_rfl) rfl rfl (fun w1 h1 => (num_ok (rows0.length : Int)) w1 b s bad (.int .i64 (rows0.length : Int)) (h1.one 0 rfl) (by rw [Rd]) (szA hz)) ?_
  obtain ⟨s1, hs1⟩ : ∃ u_, u_ = s ++ (encD (.int (rows0.length : Int))) := ⟨_, rfl⟩
  have hz := szB hz hs1
  rw [← hs1]
  refine nx_list ?_
  refine nx_then ?_
  refine wc_seq ?_
  refine wc_region ?_
  refine wl_go 1 [(4, .int .i64 0)] (by kernel_rfl) ?_
  refine nx_list ?_
  refine nx_then ?_
  refine wc_block ?_
  refine wc_loop (σ := { i : Nat // i ≤ rows0.length }) (fun x => [(0, .pointer (some ⟨b, 0, none⟩)), (1, .slice a0 rows0.length cap0), (4, .int .i64 (x.1 : Int))]) (fun x => SH w [⟨b, #[.string (s1 ++ encR (rows0.take x.1)), .bool bad, .bool true], 130⟩]) (fun x => rows0.length - x.1) (fun w3 h3 => ⟨⟨0, Nat.zero_le _⟩, by simpa only [List.take_zero, encR, ByteArray.append_empty] using h3, (subEnv_cons (by kernel_rfl) (subEnv_cons (by kernel_rfl) (subEnv_cons (by kernel_rfl) (subEnv_nil _))))⟩) (fun x => ?_)
  refine wc_seq ?_
  refine wc_seq ?_
  refine wc_region ?_
  refine wl_go 4 [(12, .bool (decide ((x.1 : Int) < (rows0.length : Int)))), (11, .int .i64 (rows0.length : Int)), (10, .slice a0 rows0.length cap0), (9, .int .i64 (x.1 : Int))] (by kernel_rfl) ?_
  refine nx_list ?_
  refine nx_then ?_
  refine wc_cond (decide ((x.1 : Int) < (rows0.length : Int))) (by kernel_rfl) (by kernel_rfl) (fun hc0 => ?_) (fun hc0 => ?_)
  · skip
    have hlt : x.1 < rows0.length := by simpa using hc0
    obtain ⟨r, hrow⟩ : ∃ r, rows0[x.1]? = some r := ⟨_, List.getElem?_eq_getElem hlt⟩
    have hfr := fR_rows0.get x.1 r hrow
    obtain ⟨g, off, cr, rfl, hIg, h_cr, l_cr, hrg⟩ := Rd.row_at (es := 5) h_c0 (fun r hr => fR_rows0.length r hr) hrow
    have hzr : (s1 ++ encR (rows0.take x.1)).size + (encL r).size ≤ 9223372036854775807 := by
      rw [ByteArray.size_append]
      have h8 := encR_room hrow
      omega
    have hmem := List.mem_of_getElem? hrow
    have hz : (s1 ++ encR (rows0.take x.1)).size + ((encL r).size + (0)) ≤ 9223372036854775807 := by rw [Nat.add_zero]; exact hzr
    refine nx_skip ?_
    refine nx_then ?_
    refine wc_seq ?_
    refine wc_block ?_
    refine wc_region ?_
    refine wl_go 3 [(17, .int .i64 (x.1 : Int)), (16, .slice (some ⟨g, off, none⟩) rows0.length cap0), (15, .pointer (some ⟨b, 0, none⟩))] (by kernel_rfl) ?_
    refine wl_yl (d := 18) (v := .pointer (some ⟨g, off + x.1 * 5, none⟩)) (by kernel_rfl) (yl_index (E := 29) (b := g) (off := off) (len := rows0.length) (cap := cap0) (k := x.1) (es := 5) rfl (by kernel_rfl) (by kernel_rfl) (by kernel_rfl) (by omega)) ?_
    refine wl_yl (d := 19) (v := .agg (cr).toArray) (by kernel_rfl) (yl_loads_im (b := g) (off := off + x.1 * 5) (cs := cr) rfl (by kernel_rfl) (im_cong (L := [⟨b, #[.string s, .bool bad, .bool true], 130⟩]) (L' := [⟨b, #[.string (s1 ++ encR (rows0.take x.1)), .bool bad, .bool true], 130⟩]) rfl hIg) (by rw [l_cr]; kernel_rfl) hrg) ?_
    refine wl_callW (d := 20) (b := b) (s := (s1 ++ encR (rows0.take x.1))) (E := (encL r)) (bad := bad) (T := 130) (L' := [⟨b, #[.string ((s1 ++ encR (rows0.take x.1)) ++ (encL r)), .bool bad, .bool true], 130⟩]) 0 (by kernel_rfl) (by kernel_rfl) rfl rfl (fun w1 h1 => (one r hmem) w1 b (s1 ++ encR (rows0.take x.1)) bad cr (h1.one 0 rfl) (h_cr.stays (h1.staysB (L0 := [⟨b, #[.string s, .bool bad, .bool true], 130⟩]) rfl 0 rfl)) (szA hz)) ?_
    obtain ⟨s2, hs2⟩ : ∃ u_, u_ = (s1 ++ encR (rows0.take x.1)) ++ (encL r) := ⟨_, rfl⟩
    have hz := szB hz hs2
    rw [← hs2]
    refine nx_list ?_
    refine nx_block ?_
    refine nx_then ?_
    refine wc_region ?_
    refine wl_go 1 [(13, .int .i64 (x.1 : Int))] (by kernel_rfl) ?_
    refine wl_yl (d := 14) (v := .int .i64 ((x.1 : Int) + 1)) (by kernel_rfl) (yl_int (t := (x.1 : Int) + 1) (r := (x.1 : Int) + 1) (by kernel_rfl) (i64w (by omega) (by omega))) ?_
    refine wl_go 1 [(4, .int .i64 ((x.1 : Int) + 1))] (by kernel_rfl) ?_
    refine nx_list ?_
    have hfin : s2 = s1 ++ encR (rows0.take (x.1 + 1)) := by
      rw [encR_take hrow, hs2]
      simp only [encL_append, encL, encD, ByteArray.append_assoc, ByteArray.append_empty]
    rw [hfin]
    refine nx_round (y := ⟨x.1 + 1, hlt⟩) (show rows0.length - (x.1 + 1) < rows0.length - x.1 by omega) (subEnv_cons (by kernel_rfl) (subEnv_cons (by kernel_rfl) (subEnv_cons (by kernel_rfl) (subEnv_nil _)))) (fun w h => h)
  · skip
    have hge : rows0.length ≤ x.1 := by simpa using hc0
    obtain ⟨s3, hs3⟩ : ∃ u_, u_ = s1 ++ encR rows0 := ⟨_, rfl⟩
    have hz := szB hz hs3
    rw [List.take_of_length_le hge, ← hs3]
    refine nx_exit ?_
    refine nx_then_exit ?_
    refine nx_then_exit ?_
    refine nx_block_here ?_
    refine end_none rfl ?_
    intro w' hw'
    have hfin : s3 = s ++ E := by
      rw [hE, hs3, hs1]
      simp only [encL_append, encL, encD, ByteArray.append_assoc, ByteArray.append_empty]
    rw [hfin] at hw'
    exact ⟨rfl, hw'⟩

set_option maxHeartbeats 4000000 in
theorem value_step (ds : List D) (hfit : FitL sh by_ ds shV) (ih : ∀ (r : List D), szL r < szL ds → FitL sh by_ r shV → WS Try.prog 69 130 r) : WS Try.prog 69 130 ds := by
  intro w b s bad cs hb hrd hz0
  obtain ⟨E, hE⟩ : ∃ E, E = encL ds := ⟨_, rfl⟩
  rw [← hE]
  skip
  obtain ⟨d0, e0, rfl, hf0, hft0⟩ := FitL.cons (k := .int) (ks := [.int] ++ [.str] ++ [.sl 0] ++ [.sl 1]) hfit
  obtain ⟨n0, rfl, _⟩ := Fit.int hf0
  obtain ⟨d1, e1, rfl, hf1, hft1⟩ := FitL.cons (k := .int) (ks := [.str] ++ [.sl 0] ++ [.sl 1]) hft0
  obtain ⟨n1, rfl, _⟩ := Fit.int hf1
  obtain ⟨d2, e2, rfl, hf2, hft2⟩ := FitL.cons (k := .str) (ks := [.sl 0] ++ [.sl 1]) hft1
  obtain ⟨n2, rfl, _⟩ := Fit.str hf2
  obtain ⟨d3, e3, rfl, hf3, hft3⟩ := FitL.cons (k := .sl 0) (ks := [.sl 1]) hft2
  obtain ⟨rows3, rfl, b_rows3, fR_rows3⟩ := Fit.sl hf3
  have b_rows3 : rows3.length * 80 ≤ 140737488355328 := b_rows3
  have bb_rows3 : rows3.length ≤ 140737488355328 := by omega
  obtain ⟨d4, e4, rfl, hf4, hft4⟩ := FitL.cons (k := .sl 1) (ks := []) hft3
  obtain ⟨rows4, rfl, b_rows4, fR_rows4⟩ := Fit.sl hf4
  have b_rows4 : rows4.length * 96 ≤ 140737488355328 := b_rows4
  have bb_rows4 : rows4.length ≤ 140737488355328 := by omega
  obtain rfl := FitL.nil hft4
  obtain ⟨c0, z0, rfl, h_c0, hrd0⟩ := RdL.cons hrd
  rw [Rd] at h_c0; subst h_c0
  obtain ⟨c1, z1, rfl, h_c1, hrd1⟩ := RdL.cons hrd0
  rw [Rd] at h_c1; subst h_c1
  obtain ⟨c2, z2, rfl, h_c2, hrd2⟩ := RdL.cons hrd1
  rw [Rd] at h_c2; subst h_c2
  obtain ⟨c3, z3, rfl, h_c3, hrd3⟩ := RdL.cons hrd2
  obtain ⟨a3, cap3, rfl⟩ := h_c3.slv
  obtain ⟨c4, z4, rfl, h_c4, hrd4⟩ := RdL.cons hrd3
  obtain ⟨a4, cap4, rfl⟩ := h_c4.slv
  obtain rfl := RdL.nil hrd4
  rw [show ((.int .i64 n0) :: ((.int .i64 n1) :: ((.string n2) :: ((.slice a3 rows3.length cap3) :: ((.slice a4 rows4.length cap4) :: ([]))))) : List Value) = List.flatten [[.int .i64 n0], [.int .i64 n1], [.string n2], [.slice a3 rows3.length cap3], [.slice a4 rows4.length cap4]] from by simp]
  have hz : s.size + ((encD (.int n0)).size + ((encD (.int n1)).size + ((encD (.str n2)).size + ((encD (.sl rows3)).size + ((encD (.int (rows4.length : Int))).size + ((encR rows4).size + (0))))))) ≤ 9223372036854775807 := by
    have h9 := hz0
    simp only [encLs_cons, encLs_app, encLs_nil, szSL rows4] at h9
    exact h9
  have hent := (@Sx.enter Try.prog 89 69 Try.f69 _ [.pointer (some ⟨b, 0, none⟩), .agg (List.flatten [[.int .i64 n0], [.int .i64 n1], [.string n2], [.slice a3 rows3.length cap3], [.slice a4 rows4.length cap4]]).toArray] w (fun e w' => e = .returned (.tuple #[]) ∧ SH w [⟨b, #[.string (s ++ E), .bool bad, .bool true], 130⟩] w') Try.func69 rfl rfl (by simp))
  refine hent ?_
  refine wc_eq (S := SH w [⟨b, #[.string s, .bool bad, .bool true], 130⟩]) hb ?_
  refine wc_seq ?_
  refine wc_region ?_
  refine wl_new (d := 3) (List.flatten [[.int .i64 n0], [.int .i64 n1], [.string n2], [.slice a3 rows3.length cap3], [.slice a4 rows4.length cap4]]).toArray 29 (fun r => .pointer (some ⟨r, 0, none⟩)) (by kernel_rfl) (fun r => by kernel_rfl) ?_
  intro r1 hr1
  have h_c3 := h_c3.stays (im_more (c := (List.flatten [[.int .i64 n0], [.int .i64 n1], [.string n2], [.slice a3 rows3.length cap3], [.slice a4 rows4.length cap4]]).toArray) (t := 29) hr1)
  have h_c4 := h_c4.stays (im_more (c := (List.flatten [[.int .i64 n0], [.int .i64 n1], [.string n2], [.slice a3 rows3.length cap3], [.slice a4 rows4.length cap4]]).toArray) (t := 29) hr1)
  refine nx_list ?_
  refine nx_then ?_
  refine wc_seq ?_
  refine wc_seq ?_
  refine wc_region ?_
  refine wl_go 3 [(9, .pointer (some ⟨b, 2, none⟩)), (8, .pointer (some ⟨b, 0, none⟩)), (7, .pointer (some ⟨b, 0, none⟩))] (by kernel_rfl) ?_
  refine wl_yl (d := 10) (v := .bool true) (by kernel_rfl) (yl_load (b := b) (off := 2) 1 rfl (by kernel_rfl) rfl (by kernel_rfl)) ?_
  refine nx_list ?_
  refine nx_then ?_
  refine wc_cond true (by kernel_rfl) (by kernel_rfl) (fun _ => ?_) (fun h => by cases h)
  refine wc_seq ?_
  refine wc_region ?_
  refine wl_go 2 [(12, .pointer (some ⟨r1, 0, none⟩)), (11, .pointer (some ⟨b, 0, none⟩))] (by kernel_rfl) ?_
  refine wl_yl (d := 13) (v := .int .i64 n0) (by kernel_rfl) (yl_load (b := r1) (off := 0) 0 rfl (by kernel_rfl) rfl (readAt_seg1 0 rfl (by simp) (by kernel_rfl))) ?_
  refine wl_callW (d := 14) (b := b) (s := s) (E := (encD (.int n0))) (bad := bad) (T := 130) (L' := [⟨r1, (List.flatten [[.int .i64 n0], [.int .i64 n1], [.string n2], [.slice a3 rows3.length cap3], [.slice a4 rows4.length cap4]]).toArray, 29⟩, ⟨b, #[.string (s ++ (encD (.int n0))), .bool bad, .bool true], 130⟩]) 1 (by kernel_rfl) (by kernel_rfl) rfl rfl (fun w1 h1 => (num_ok n0) w1 b s bad (.int .i64 n0) (h1.one 1 rfl) (by rw [Rd]) (szA hz)) ?_
  obtain ⟨s1, hs1⟩ : ∃ u_, u_ = s ++ (encD (.int n0)) := ⟨_, rfl⟩
  have hz := szB hz hs1
  rw [← hs1]
  refine nx_list ?_
  refine nx_then ?_
  refine wc_seq ?_
  refine wc_region ?_
  refine wl_go 2 [(16, .pointer (some ⟨r1, 1, none⟩)), (15, .pointer (some ⟨b, 0, none⟩))] (by kernel_rfl) ?_
  refine wl_yl (d := 17) (v := .int .i64 n1) (by kernel_rfl) (yl_load (b := r1) (off := 1) 0 rfl (by kernel_rfl) rfl (readAt_seg1 1 rfl (by simp) (by kernel_rfl))) ?_
  refine wl_callW (d := 18) (b := b) (s := s1) (E := (encD (.int n1))) (bad := bad) (T := 130) (L' := [⟨r1, (List.flatten [[.int .i64 n0], [.int .i64 n1], [.string n2], [.slice a3 rows3.length cap3], [.slice a4 rows4.length cap4]]).toArray, 29⟩, ⟨b, #[.string (s1 ++ (encD (.int n1))), .bool bad, .bool true], 130⟩]) 1 (by kernel_rfl) (by kernel_rfl) rfl rfl (fun w1 h1 => (num_ok n1) w1 b s1 bad (.int .i64 n1) (h1.one 1 rfl) (by rw [Rd]) (szA hz)) ?_
  obtain ⟨s2, hs2⟩ : ∃ u_, u_ = s1 ++ (encD (.int n1)) := ⟨_, rfl⟩
  have hz := szB hz hs2
  rw [← hs2]
  refine nx_list ?_
  refine nx_then ?_
  refine wc_seq ?_
  refine wc_region ?_
  refine wl_go 2 [(20, .pointer (some ⟨r1, 2, none⟩)), (19, .pointer (some ⟨b, 0, none⟩))] (by kernel_rfl) ?_
  refine wl_yl (d := 21) (v := .string n2) (by kernel_rfl) (yl_load (b := r1) (off := 2) 0 rfl (by kernel_rfl) rfl (readAt_seg1 2 rfl (by simp) (by kernel_rfl))) ?_
  refine wl_callW (d := 22) (b := b) (s := s2) (E := (encD (.str n2))) (bad := bad) (T := 130) (L' := [⟨r1, (List.flatten [[.int .i64 n0], [.int .i64 n1], [.string n2], [.slice a3 rows3.length cap3], [.slice a4 rows4.length cap4]]).toArray, 29⟩, ⟨b, #[.string (s2 ++ (encD (.str n2))), .bool bad, .bool true], 130⟩]) 1 (by kernel_rfl) (by kernel_rfl) rfl rfl (fun w1 h1 => (str_ok n2) w1 b s2 bad (.string n2) (h1.one 1 rfl) (by rw [Rd]) (szA hz)) ?_
  obtain ⟨s3, hs3⟩ : ∃ u_, u_ = s2 ++ (encD (.str n2)) := ⟨_, rfl⟩
  have hz := szB hz hs3
  rw [← hs3]
  refine nx_list ?_
  refine nx_then ?_
  refine wc_seq ?_
  refine wc_region ?_
  refine wl_go 2 [(24, .pointer (some ⟨r1, 3, none⟩)), (23, .pointer (some ⟨b, 0, none⟩))] (by kernel_rfl) ?_
  refine wl_yl (d := 25) (v := .slice a3 rows3.length cap3) (by kernel_rfl) (yl_load (b := r1) (off := 3) 0 rfl (by kernel_rfl) rfl (readAt_seg1 3 rfl (by simp) (by kernel_rfl))) ?_
  refine wl_callW (d := 26) (b := b) (s := s3) (E := (encD (.sl rows3))) (bad := bad) (T := 130) (L' := [⟨r1, (List.flatten [[.int .i64 n0], [.int .i64 n1], [.string n2], [.slice a3 rows3.length cap3], [.slice a4 rows4.length cap4]]).toArray, 29⟩, ⟨b, #[.string (s3 ++ (encD (.sl rows3))), .bool bad, .bool true], 130⟩]) 1 (by kernel_rfl) (by kernel_rfl) rfl rfl (fun w1 h1 => (values_ok rows3 fR_rows3 b_rows3 (fun r hr => ih r (by have := szR_mem hr; simp only [szL, szL_append, D.sz]; omega) (fR_rows3.mem hr))) w1 b s3 bad (.slice a3 rows3.length cap3) (h1.one 1 rfl) (h_c3.stays (h1.staysB (L0 := (⟨r1, (List.flatten [[.int .i64 n0], [.int .i64 n1], [.string n2], [.slice a3 rows3.length cap3], [.slice a4 rows4.length cap4]]).toArray, 29⟩ :: [⟨b, #[.string s, .bool bad, .bool true], 130⟩])) rfl 1 rfl)) (szA hz)) ?_
  obtain ⟨s4, hs4⟩ : ∃ u_, u_ = s3 ++ (encD (.sl rows3)) := ⟨_, rfl⟩
  have hz := szB hz hs4
  rw [← hs4]
  refine nx_list ?_
  refine nx_then ?_
  refine wc_seq ?_
  refine wc_region ?_
  refine wl_go 2 [(28, .pointer (some ⟨r1, 4, none⟩)), (27, .pointer (some ⟨b, 0, none⟩))] (by kernel_rfl) ?_
  refine wl_yl (d := 29) (v := .slice a4 rows4.length cap4) (by kernel_rfl) (yl_load (b := r1) (off := 4) 0 rfl (by kernel_rfl) rfl (readAt_seg1 4 rfl (by simp) (by kernel_rfl))) ?_
  refine wl_go 1 [(30, .int .i64 (rows4.length : Int))] (by kernel_rfl) ?_
  refine wl_callW (d := 31) (b := b) (s := s4) (E := (encD (.int (rows4.length : Int)))) (bad := bad) (T := 130) (L' := [⟨r1, (List.flatten [[.int .i64 n0], [.int .i64 n1], [.string n2], [.slice a3 rows3.length cap3], [.slice a4 rows4.length cap4]]).toArray, 29⟩, ⟨b, #[.string (s4 ++ (encD (.int (rows4.length : Int)))), .bool bad, .bool true], 130⟩]) 1 (by kernel_rfl) (by kernel_rfl) rfl rfl (fun w1 h1 => (num_ok (rows4.length : Int)) w1 b s4 bad (.int .i64 (rows4.length : Int)) (h1.one 1 rfl) (by rw [Rd]) (szA hz)) ?_
  obtain ⟨s5, hs5⟩ : ∃ u_, u_ = s4 ++ (encD (.int (rows4.length : Int))) := ⟨_, rfl⟩
  have hz := szB hz hs5
  rw [← hs5]
  refine nx_list ?_
  refine nx_then ?_
  refine wc_seq ?_
  refine wc_seq ?_
  refine wc_region ?_
  refine wl_go 1 [(4, .int .i64 0)] (by kernel_rfl) ?_
  refine nx_list ?_
  refine nx_then ?_
  refine wc_block ?_
  refine wc_loop (σ := { i : Nat // i ≤ rows4.length }) (fun x => [(0, .pointer (some ⟨b, 0, none⟩)), (3, .pointer (some ⟨r1, 0, none⟩)), (4, .int .i64 (x.1 : Int))]) (fun x => SH w [⟨r1, (List.flatten [[.int .i64 n0], [.int .i64 n1], [.string n2], [.slice a3 rows3.length cap3], [.slice a4 rows4.length cap4]]).toArray, 29⟩, ⟨b, #[.string (s5 ++ encR (rows4.take x.1)), .bool bad, .bool true], 130⟩]) (fun x => rows4.length - x.1) (fun w3 h3 => ⟨⟨0, Nat.zero_le _⟩, by simpa only [List.take_zero, encR, ByteArray.append_empty] using h3, (subEnv_cons (by kernel_rfl) (subEnv_cons (by kernel_rfl) (subEnv_cons (by kernel_rfl) (subEnv_nil _))))⟩) (fun x => ?_)
  refine wc_seq ?_
  refine wc_seq ?_
  refine wc_region ?_
  refine wl_go 2 [(33, .pointer (some ⟨r1, 4, none⟩)), (32, .int .i64 (x.1 : Int))] (by kernel_rfl) ?_
  refine wl_yl (d := 34) (v := .slice a4 rows4.length cap4) (by kernel_rfl) (yl_load (b := r1) (off := 4) 0 rfl (by kernel_rfl) rfl (readAt_seg1 4 rfl (by simp) (by kernel_rfl))) ?_
  refine wl_go 2 [(36, .bool (decide ((x.1 : Int) < (rows4.length : Int)))), (35, .int .i64 (rows4.length : Int))] (by kernel_rfl) ?_
  refine nx_list ?_
  refine nx_then ?_
  refine wc_cond (decide ((x.1 : Int) < (rows4.length : Int))) (by kernel_rfl) (by kernel_rfl) (fun hc4 => ?_) (fun hc4 => ?_)
  · skip
    have hlt : x.1 < rows4.length := by simpa using hc4
    obtain ⟨r, hrow⟩ : ∃ r, rows4[x.1]? = some r := ⟨_, List.getElem?_eq_getElem hlt⟩
    have hfr := fR_rows4.get x.1 r hrow
    obtain ⟨g, off, cr, rfl, hIg, h_cr, l_cr, hrg⟩ := Rd.row_at (es := 6) h_c4 (fun r hr => fR_rows4.length r hr) hrow
    have hzr : (s5 ++ encR (rows4.take x.1)).size + (encL r).size ≤ 9223372036854775807 := by
      rw [ByteArray.size_append]
      have h8 := encR_room hrow
      omega
    obtain ⟨dr0, er0, rfl, hfr0, hftr0⟩ := FitL.cons (k := .str) (ks := shV) hfr
    obtain ⟨nr0, rfl, _⟩ := Fit.str hfr0
    have hfr1 := hftr0
    obtain ⟨cr0, zr0, rfl, h_cr0, hrdr0⟩ := RdL.cons h_cr
    rw [Rd] at h_cr0; subst h_cr0
    have h_zr0 := hrdr0
    have l_zr0 : zr0.length = 5 := h_zr0.length.symm.trans hfr1.length
    have hmem := List.mem_of_getElem? hrow
    have hz : (s5 ++ encR (rows4.take x.1)).size + ((encD (.str nr0)).size + ((encL er0).size + (0))) ≤ 9223372036854775807 := by
      have h9 := hzr
      simp only [encLs_cons] at h9
      rw [Nat.add_zero]
      exact h9
    refine nx_skip ?_
    refine nx_then ?_
    refine wc_seq ?_
    refine wc_block ?_
    refine wc_seq ?_
    refine wc_region ?_
    refine wl_go 2 [(40, .pointer (some ⟨r1, 4, none⟩)), (39, .pointer (some ⟨b, 0, none⟩))] (by kernel_rfl) ?_
    refine wl_yl (d := 41) (v := .slice (some ⟨g, off, none⟩) rows4.length cap4) (by kernel_rfl) (yl_load (b := r1) (off := 4) 0 rfl (by kernel_rfl) rfl (readAt_seg1 4 rfl (by simp) (by kernel_rfl))) ?_
    refine wl_go 1 [(42, .int .i64 (x.1 : Int))] (by kernel_rfl) ?_
    refine wl_yl (d := 43) (v := .pointer (some ⟨g, off + x.1 * 6, none⟩)) (by kernel_rfl) (yl_index (E := 121) (b := g) (off := off) (len := rows4.length) (cap := cap4) (k := x.1) (es := 6) rfl (by kernel_rfl) (by kernel_rfl) (by kernel_rfl) (by omega)) ?_
    refine wl_go 1 [(44, .pointer (some ⟨g, off + x.1 * 6, none⟩))] (by kernel_rfl) ?_
    refine wl_yl (d := 45) (v := .string nr0) (by kernel_rfl) (yl_load_im (b := g) (off := off + x.1 * 6) (v := .string nr0) rfl (by kernel_rfl) (im_cong (L := (⟨r1, (List.flatten [[.int .i64 n0], [.int .i64 n1], [.string n2], [.slice a3 rows3.length cap3], [.slice (some ⟨g, off, none⟩) rows4.length cap4]]).toArray, 29⟩ :: [⟨b, #[.string s, .bool bad, .bool true], 130⟩])) (L' := [⟨r1, (List.flatten [[.int .i64 n0], [.int .i64 n1], [.string n2], [.slice a3 rows3.length cap3], [.slice (some ⟨g, off, none⟩) rows4.length cap4]]).toArray, 29⟩, ⟨b, #[.string (s5 ++ encR (rows4.take x.1)), .bool bad, .bool true], 130⟩]) rfl hIg) (by kernel_rfl) (hrg 0 _ rfl)) ?_
    refine wl_callW (d := 46) (b := b) (s := (s5 ++ encR (rows4.take x.1))) (E := (encD (.str nr0))) (bad := bad) (T := 130) (L' := [⟨r1, (List.flatten [[.int .i64 n0], [.int .i64 n1], [.string n2], [.slice a3 rows3.length cap3], [.slice (some ⟨g, off, none⟩) rows4.length cap4]]).toArray, 29⟩, ⟨b, #[.string ((s5 ++ encR (rows4.take x.1)) ++ (encD (.str nr0))), .bool bad, .bool true], 130⟩]) 1 (by kernel_rfl) (by kernel_rfl) rfl rfl (fun w1 h1 => (str_ok nr0) w1 b (s5 ++ encR (rows4.take x.1)) bad (.string nr0) (h1.one 1 rfl) (by rw [Rd]) (szA hz)) ?_
    obtain ⟨s6, hs6⟩ : ∃ u_, u_ = (s5 ++ encR (rows4.take x.1)) ++ (encD (.str nr0)) := ⟨_, rfl⟩
    have hz := szB hz hs6
    rw [← hs6]
    refine nx_list ?_
    refine nx_then ?_
    refine wc_region ?_
    refine wl_go 2 [(48, .pointer (some ⟨r1, 4, none⟩)), (47, .pointer (some ⟨b, 0, none⟩))] (by kernel_rfl) ?_
    refine wl_yl (d := 49) (v := .slice (some ⟨g, off, none⟩) rows4.length cap4) (by kernel_rfl) (yl_load (b := r1) (off := 4) 0 rfl (by kernel_rfl) rfl (readAt_seg1 4 rfl (by simp) (by kernel_rfl))) ?_
    refine wl_go 1 [(50, .int .i64 (x.1 : Int))] (by kernel_rfl) ?_
    refine wl_yl (d := 51) (v := .pointer (some ⟨g, off + x.1 * 6, none⟩)) (by kernel_rfl) (yl_index (E := 121) (b := g) (off := off) (len := rows4.length) (cap := cap4) (k := x.1) (es := 6) rfl (by kernel_rfl) (by kernel_rfl) (by kernel_rfl) (by omega)) ?_
    refine wl_go 1 [(52, .pointer (some ⟨g, off + x.1 * 6 + 1, none⟩))] (by kernel_rfl) ?_
    refine wl_yl (d := 53) (v := .agg (zr0).toArray) (by kernel_rfl) (yl_loads_im (b := g) (off := off + x.1 * 6 + 1) (cs := zr0) rfl (by kernel_rfl) (im_cong (L := (⟨r1, (List.flatten [[.int .i64 n0], [.int .i64 n1], [.string n2], [.slice a3 rows3.length cap3], [.slice (some ⟨g, off, none⟩) rows4.length cap4]]).toArray, 29⟩ :: [⟨b, #[.string s, .bool bad, .bool true], 130⟩])) (L' := [⟨r1, (List.flatten [[.int .i64 n0], [.int .i64 n1], [.string n2], [.slice a3 rows3.length cap3], [.slice (some ⟨g, off, none⟩) rows4.length cap4]]).toArray, 29⟩, ⟨b, #[.string s6, .bool bad, .bool true], 130⟩]) rfl hIg) (by rw [l_zr0]; kernel_rfl) (range_sub (a := [.string nr0]) hrg rfl)) ?_
    refine wl_callW (d := 54) (b := b) (s := s6) (E := (encL er0)) (bad := bad) (T := 130) (L' := [⟨r1, (List.flatten [[.int .i64 n0], [.int .i64 n1], [.string n2], [.slice a3 rows3.length cap3], [.slice (some ⟨g, off, none⟩) rows4.length cap4]]).toArray, 29⟩, ⟨b, #[.string (s6 ++ (encL er0)), .bool bad, .bool true], 130⟩]) 1 (by kernel_rfl) (by kernel_rfl) rfl rfl (fun w1 h1 => (ih er0 (by have := szR_mem hmem; simp only [szL, szL_append, D.sz] at *; omega) hfr1) w1 b s6 bad zr0 (h1.one 1 rfl) (h_zr0.stays (h1.staysB (L0 := (⟨r1, (List.flatten [[.int .i64 n0], [.int .i64 n1], [.string n2], [.slice a3 rows3.length cap3], [.slice (some ⟨g, off, none⟩) rows4.length cap4]]).toArray, 29⟩ :: [⟨b, #[.string s, .bool bad, .bool true], 130⟩])) rfl 1 rfl)) (szA hz)) ?_
    obtain ⟨s7, hs7⟩ : ∃ u_, u_ = s6 ++ (encL er0) := ⟨_, rfl⟩
    have hz := szB hz hs7
    rw [← hs7]
    refine nx_list ?_
    refine nx_block ?_
    refine nx_then ?_
    refine wc_region ?_
    refine wl_go 1 [(37, .int .i64 (x.1 : Int))] (by kernel_rfl) ?_
    refine wl_yl (d := 38) (v := .int .i64 ((x.1 : Int) + 1)) (by kernel_rfl) (yl_int (t := (x.1 : Int) + 1) (r := (x.1 : Int) + 1) (by kernel_rfl) (i64w (by omega) (by omega))) ?_
    refine wl_go 1 [(4, .int .i64 ((x.1 : Int) + 1))] (by kernel_rfl) ?_
    refine nx_list ?_
    have hfin : s7 = s5 ++ encR (rows4.take (x.1 + 1)) := by
      rw [encR_take hrow, hs7, hs6]
      simp only [encL_append, encL, encD, ByteArray.append_assoc, ByteArray.append_empty]
    rw [hfin]
    refine nx_round (y := ⟨x.1 + 1, hlt⟩) (show rows4.length - (x.1 + 1) < rows4.length - x.1 by omega) (subEnv_cons (by kernel_rfl) (subEnv_cons (by kernel_rfl) (subEnv_cons (by kernel_rfl) (subEnv_nil _)))) (fun w h => h)
  · skip
    have hge : rows4.length ≤ x.1 := by simpa using hc4
    obtain ⟨s8, hs8⟩ : ∃ u_, u_ = s5 ++ encR rows4 := ⟨_, rfl⟩
    have hz := szB hz hs8
    rw [List.take_of_length_le hge, ← hs8]
    refine nx_exit ?_
    refine nx_then_exit ?_
    refine nx_then_exit ?_
    refine nx_block_here ?_
    refine nx_then ?_
    refine nx_ret ?_
    refine nx_then_ret ?_
    refine ret_none rfl ?_
    intro w' hw'
    have hfin : s8 = s ++ E := by
      rw [hE, hs8, hs5, hs4, hs3, hs2, hs1]
      simp only [encL_append, encL, encD, ByteArray.append_assoc, ByteArray.append_empty]
    rw [hfin] at hw'
    exact ⟨rfl, hw'.tail hr1⟩

theorem value_all (ds : List D) (hfit : FitL sh by_ ds shV) : WS Try.prog 69 130 ds := by
  have key : ∀ (m : Nat) (ds : List D), szL ds < m → FitL sh by_ ds shV → WS Try.prog 69 130 ds := by
    intro m
    induction m with
    | zero => intro ds h; omega
    | succ m ih => intro ds h hf; exact value_step ds hf (fun r hr hfr => ih r (by omega) hfr)
  exact key _ ds (Nat.lt_succ_self _) hfit

end Go.Proofs.Ytidkaipijocjcaa
