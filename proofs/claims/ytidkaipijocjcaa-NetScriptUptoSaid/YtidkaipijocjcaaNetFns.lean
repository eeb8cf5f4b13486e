/- Contracts of functions, printed by a program of this repository (gen). -/
import Derived.Test.YtidkaipijocjcaaNetBase
namespace Go.Proofs.Ytidkaipijocjcaa
open Go.RowKit Go.Sx
set_option linter.unusedVariables false
set_option linter.unusedSimpArgs false

theorem tr_cong0 {wb w' : World} {b : Nat} {c : Array Value} {t : TypeId} (h : Tr wb [⟨b, c, t⟩] w' [⟨b, c, t⟩]) (hb : wb.heap.size ≤ b) : Tr wb [] w' [⟨b, c, t⟩] :=
  ⟨h.os, h.tape, h.output, h.size, fun k hk => h.im k ⟨hk.1, by simp; have := hk.1; omega⟩, fun k hk => h.same k ⟨hk.1, by simp; have := hk.1; omega⟩⟩

theorem new_ok (n d : Int) (w : World) (h1 : 1 ≤ n) (h2 : n ≤ 7) (h3 : 1 ≤ d) (h4 : d ≤ 16) :
    Calls Try.prog 8 #[.int .i64 n, .int .i64 d] w fun e w' => ∃ b A, e = .returned (.tuple #[.pointer (some ⟨b, 0, none⟩), .int .i64 0]) ∧ IsNet b ⟨n, d, 0, fun _ => false, []⟩ A ∧ SH w' A w' ∧ Tr w [] w' A ∧ w.heap.size ≤ b := by
  have g1 : decide (n < 1) = false := by simp; omega
  have g2 : decide (n > 7) = false := by simp; omega
  have g3 : decide (d < 1) = false := by simp; omega
  have g4 : decide (d > 16) = false := by simp; omega
  refine Sx.enter (l := [.int .i64 n, .int .i64 d]) Try.func8 rfl (n := 24) rfl (by simp) ?_
  refine wc_eq (S := SH w []) (SH.refl _) ?_
  refine wc_seq ?_
  refine wc_region ?_
  refine wl_go 2 [(5, .int .i64 0), (4, .pointer none)] (by kernel_rfl) ?_
  refine nx_list ?_
  refine nx_then ?_
  refine wc_seq ?_
  refine wc_seq ?_
  refine wc_region ?_
  refine wl_go 2 [(7, .bool (decide (n < 1))), (6, .int .i64 n)] (by kernel_rfl) ?_
  rw [g1]
  refine wl_go 3 [(10, .bool (decide (n > 7))), (9, .int .i64 n), (8, .bool false)] (by kernel_rfl) ?_
  rw [g2]
  refine wl_go 4 [(14, .bool (decide (d < 1))), (13, .int .i64 d), (12, .bool false), (11, .bool false)] (by kernel_rfl) ?_
  rw [g3]
  refine wl_go 4 [(18, .bool (decide (d > 16))), (17, .int .i64 d), (16, .bool false), (15, .bool false)] (by kernel_rfl) ?_
  rw [g4]
  refine wl_go 1 [(19, .bool false)] (by kernel_rfl) ?_
  refine nx_list ?_
  refine nx_then ?_
  refine wc_cond false (by kernel_rfl) (by kernel_rfl) (fun h => by cases h) (fun _ => ?_)
  refine nx_skip ?_
  refine nx_then ?_
  refine wc_seq ?_
  refine wc_region ?_
  refine wl_go 3 [(22, .agg #[.int .i64 n, .int .i64 d, .int .i64 0, .bool false, .bool false, .bool false, .bool false, .bool false, .bool false, .bool false, .bool false, .bool false, .bool false, .bool false, .bool false, .bool false, .bool false, .bool false, .bool false, .bool false, .bool false, .bool false, .bool false, .bool false, .bool false, .bool false, .bool false, .bool false, .bool false, .bool false, .bool false, .bool false, .bool false, .bool false, .bool false, .bool false, .bool false, .bool false, .bool false, .bool false, .bool false, .bool false, .bool false, .bool false, .bool false, .bool false, .bool false, .bool false, .bool false, .bool false, .bool false, .bool false, .slice none 0 0]), (21, .int .i64 d), (20, .int .i64 n)] (by kernel_rfl) ?_
  refine wl_new (d := 23) (netC n d 0 (fun _ => false) (.slice none 0 0)) 97 (fun r => .pointer (some ⟨r, 0, none⟩)) (by kernel_rfl) (fun r => by kernel_rfl) ?_
  intro r1 hr1
  refine wl_go 2 [(5, .int .i64 0), (4, .pointer (some ⟨r1, 0, none⟩))] (by kernel_rfl) ?_
  refine nx_list ?_
  refine nx_then ?_
  refine nx_ret ?_
  refine ret_tmp2 (v := .pointer (some ⟨r1, 0, none⟩)) (v' := .int .i64 0) rfl (by kernel_rfl) (by kernel_rfl) ?_
  intro w' hw'
  exact ⟨r1, _, rfl, ⟨.slice none 0 0, [], rfl, Own.nil _ _⟩, hw'.here, tr_cong0 hw'.trHere hr1, hr1⟩

theorem new_no (n d : Int) (w : World) (h : n < 1 ∨ 7 < n ∨ d < 1 ∨ 16 < d) :
    Calls Try.prog 8 #[.int .i64 n, .int .i64 d] w fun e w' => e = .returned (.tuple #[.pointer none, .int .i64 1]) ∧ w = w' := by
  refine Sx.enter (l := [.int .i64 n, .int .i64 d]) Try.func8 rfl (n := 24) rfl (by simp) ?_
  refine wc_seq ?_
  refine wc_region ?_
  refine wl_go 2 [(5, .int .i64 0), (4, .pointer none)] (by kernel_rfl) ?_
  refine nx_list ?_
  refine nx_then ?_
  refine wc_seq ?_
  refine wc_seq ?_
  refine wc_region ?_
  refine wl_go 3 [(8, .bool (decide (n < 1))), (7, .bool (decide (n < 1))), (6, .int .i64 n)] (by kernel_rfl) ?_
  cases hc1 : (decide (n < 1))
  · skip
    refine wl_go 4 [(12, .bool (decide (n > 7))), (11, .bool (decide (n > 7))), (10, .bool (decide (n > 7))), (9, .int .i64 n)] (by kernel_rfl) ?_
    cases hc2 : (decide (n > 7))
    · skip
      refine wl_go 4 [(16, .bool (decide (d < 1))), (15, .bool (decide (d < 1))), (14, .bool (decide (d < 1))), (13, .int .i64 d)] (by kernel_rfl) ?_
      cases hc3 : (decide (d < 1))
      · skip
        refine wl_go 3 [(19, .bool (decide (d > 16))), (18, .bool (decide (d > 16))), (17, .int .i64 d)] (by kernel_rfl) ?_
        refine nx_list ?_
        refine nx_then ?_
        refine wc_cond (decide (d > 16)) (by kernel_rfl) (by kernel_rfl) (fun hc4 => ?_) (fun hc4 => ?_)
        · skip
          refine wc_seq ?_
          refine wc_region ?_
          refine wl_go 2 [(5, .int .i64 1), (4, .pointer none)] (by kernel_rfl) ?_
          refine nx_list ?_
          refine nx_then ?_
          refine nx_ret ?_
          refine nx_then_ret ?_
          refine ret_tmp2 (v := .pointer none) (v' := .int .i64 1) rfl (by kernel_rfl) (by kernel_rfl) ?_
          intro w' hw'
          exact ⟨rfl, hw'.symm⟩
        · skip
          exfalso
          simp only [decide_eq_false_iff_not, gt_iff_lt] at *
          omega
      · skip
        refine wl_go 3 [(19, .bool true), (18, undef), (17, undef)] (by kernel_rfl) ?_
        refine nx_list ?_
        refine nx_then ?_
        refine wc_cond true (by kernel_rfl) (by kernel_rfl) (fun _ => ?_) (fun h => by cases h)
        refine wc_seq ?_
        refine wc_region ?_
        refine wl_go 2 [(5, .int .i64 1), (4, .pointer none)] (by kernel_rfl) ?_
        refine nx_list ?_
        refine nx_then ?_
        refine nx_ret ?_
        refine nx_then_ret ?_
        refine ret_tmp2 (v := .pointer none) (v' := .int .i64 1) rfl (by kernel_rfl) (by kernel_rfl) ?_
        intro w' hw'
        exact ⟨rfl, hw'.symm⟩
    · skip
      refine wl_go 7 [(19, .bool true), (18, undef), (17, undef), (16, .bool true), (15, .bool true), (14, undef), (13, undef)] (by kernel_rfl) ?_
      refine nx_list ?_
      refine nx_then ?_
      refine wc_cond true (by kernel_rfl) (by kernel_rfl) (fun _ => ?_) (fun h => by cases h)
      refine wc_seq ?_
      refine wc_region ?_
      refine wl_go 2 [(5, .int .i64 1), (4, .pointer none)] (by kernel_rfl) ?_
      refine nx_list ?_
      refine nx_then ?_
      refine nx_ret ?_
      refine nx_then_ret ?_
      refine ret_tmp2 (v := .pointer none) (v' := .int .i64 1) rfl (by kernel_rfl) (by kernel_rfl) ?_
      intro w' hw'
      exact ⟨rfl, hw'.symm⟩
  · skip
    refine wl_go 11 [(19, .bool true), (18, undef), (17, undef), (16, .bool true), (15, .bool true), (14, undef), (13, undef), (12, .bool true), (11, .bool true), (10, undef), (9, undef)] (by kernel_rfl) ?_
    refine nx_list ?_
    refine nx_then ?_
    refine wc_cond true (by kernel_rfl) (by kernel_rfl) (fun _ => ?_) (fun h => by cases h)
    refine wc_seq ?_
    refine wc_region ?_
    refine wl_go 2 [(5, .int .i64 1), (4, .pointer none)] (by kernel_rfl) ?_
    refine nx_list ?_
    refine nx_then ?_
    refine nx_ret ?_
    refine nx_then_ret ?_
    refine ret_tmp2 (v := .pointer none) (v' := .int .i64 1) rfl (by kernel_rfl) (by kernel_rfl) ?_
    intro w' hw'
    exact ⟨rfl, hw'.symm⟩

theorem pair_ok (b : Nat) (N : NetS) (way : Value) (R : List Blk) (a c : Int) (w wb : World) (hsh : SH wb (⟨b, netC N.size N.delay N.now N.cut way, 97⟩ :: R) w) :
    Calls Try.prog 32 #[.pointer (some ⟨b, 0, none⟩), .int .i64 a, .int .i64 c] w fun e w' => e = .returned (.bool (pairB N.size a c)) ∧ w = w' := by
  refine Sx.enter (l := [.pointer (some ⟨b, 0, none⟩), .int .i64 a, .int .i64 c]) Try.func32 rfl (n := 34) rfl (by simp) ?_
  refine wc_seq ?_
  refine wc_region ?_
  refine wl_go 1 [(6, .bool false)] (by kernel_rfl) ?_
  refine nx_list ?_
  refine nx_then ?_
  refine wc_seq ?_
  refine wc_region ?_
  refine wl_go 3 [(9, .bool (decide (a ≥ 0))), (8, .bool (decide (a ≥ 0))), (7, .int .i64 a)] (by kernel_rfl) ?_
  cases hc1 : (decide (a ≥ 0))
  · skip
    refine wl_go 25 [(6, .bool false), (33, .bool false), (32, undef), (31, undef), (30, undef), (29, .bool false), (28, .bool false), (27, undef), (26, undef), (25, undef), (24, undef), (23, undef), (22, undef), (21, .bool false), (20, .bool false), (19, undef), (18, undef), (17, .bool false), (16, .bool false), (15, undef), (14, undef), (13, undef), (12, undef), (11, undef), (10, undef)] (by kernel_rfl) ?_
    refine nx_list ?_
    refine nx_then ?_
    refine nx_ret ?_
    refine ret_tmp (v := .bool false) rfl (by kernel_rfl) ?_
    intro w' hw'
    exact ⟨by simp [pairB, hc1], hw'.symm⟩
  · skip
    refine wl_go 4 [(13, .pointer (some ⟨b, 0, none⟩)), (12, .pointer (some ⟨b, 0, none⟩)), (11, .pointer (some ⟨b, 0, none⟩)), (10, .int .i64 a)] (by kernel_rfl) ?_
    refine wl_yl (d := 14) (v := .int .i64 N.size) (by kernel_rfl) (yl_eq (yl_load (b := b) (off := 0) 0 rfl (by kernel_rfl) rfl (by kernel_rfl)) hsh) ?_
    refine wl_go 3 [(17, .bool (decide (a < N.size))), (16, .bool (decide (a < N.size))), (15, .bool (decide (a < N.size)))] (by kernel_rfl) ?_
    cases hc2 : (decide (a < N.size))
    · skip
      refine wl_go 17 [(6, .bool false), (33, .bool false), (32, undef), (31, undef), (30, undef), (29, .bool false), (28, .bool false), (27, undef), (26, undef), (25, undef), (24, undef), (23, undef), (22, undef), (21, .bool false), (20, .bool false), (19, undef), (18, undef)] (by kernel_rfl) ?_
      refine nx_list ?_
      refine nx_then ?_
      refine nx_ret ?_
      refine ret_tmp (v := .bool false) rfl (by kernel_rfl) ?_
      intro w' hw'
      exact ⟨by simp [pairB, hc1, hc2], hw'.symm⟩
    · skip
      refine wl_go 4 [(21, .bool (decide (c ≥ 0))), (20, .bool (decide (c ≥ 0))), (19, .bool (decide (c ≥ 0))), (18, .int .i64 c)] (by kernel_rfl) ?_
      cases hc3 : (decide (c ≥ 0))
      · skip
        refine wl_go 13 [(6, .bool false), (33, .bool false), (32, undef), (31, undef), (30, undef), (29, .bool false), (28, .bool false), (27, undef), (26, undef), (25, undef), (24, undef), (23, undef), (22, undef)] (by kernel_rfl) ?_
        refine nx_list ?_
        refine nx_then ?_
        refine nx_ret ?_
        refine ret_tmp (v := .bool false) rfl (by kernel_rfl) ?_
        intro w' hw'
        exact ⟨by simp [pairB, hc1, hc2, hc3], hw'.symm⟩
      · skip
        refine wl_go 4 [(25, .pointer (some ⟨b, 0, none⟩)), (24, .pointer (some ⟨b, 0, none⟩)), (23, .pointer (some ⟨b, 0, none⟩)), (22, .int .i64 c)] (by kernel_rfl) ?_
        refine wl_yl (d := 26) (v := .int .i64 N.size) (by kernel_rfl) (yl_eq (yl_load (b := b) (off := 0) 0 rfl (by kernel_rfl) rfl (by kernel_rfl)) hsh) ?_
        refine wl_go 3 [(29, .bool (decide (c < N.size))), (28, .bool (decide (c < N.size))), (27, .bool (decide (c < N.size)))] (by kernel_rfl) ?_
        cases hc4 : (decide (c < N.size))
        · skip
          refine wl_go 5 [(6, .bool false), (33, .bool false), (32, undef), (31, undef), (30, undef)] (by kernel_rfl) ?_
          refine nx_list ?_
          refine nx_then ?_
          refine nx_ret ?_
          refine ret_tmp (v := .bool false) rfl (by kernel_rfl) ?_
          intro w' hw'
          exact ⟨by simp [pairB, hc1, hc2, hc3, hc4], hw'.symm⟩
        · skip
          refine wl_go 5 [(6, .bool (a != c)), (33, .bool (a != c)), (32, .bool (a != c)), (31, .int .i64 c), (30, .int .i64 a)] (by kernel_rfl) ?_
          refine nx_list ?_
          refine nx_then ?_
          refine nx_ret ?_
          refine ret_tmp (v := .bool (a != c)) rfl (by kernel_rfl) ?_
          intro w' hw'
          exact ⟨by simp [pairB, hc1, hc2, hc3, hc4], hw'.symm⟩

theorem pair_at (b : Nat) (N : NetS) (way : Value) (a c : Int) (w : World) (hb : w.heap[b]? = some (.cells (netC N.size N.delay N.now N.cut way) 97 (0, 0))) :
    Calls Try.prog 32 #[.pointer (some ⟨b, 0, none⟩), .int .i64 a, .int .i64 c] w fun e w' => e = .returned (.bool (pairB N.size a c)) ∧ w = w' :=
  pair_ok b N way [] a c w w ⟨rfl, rfl, rfl, Nat.le_refl _, fun _ _ _ => rfl, by simp [hb], fun i j x y hi hj _ => by
    have h1 := (List.getElem?_eq_some_iff.1 hi).1
    have h2 := (List.getElem?_eq_some_iff.1 hj).1
    simp at h1 h2
    omega⟩

theorem up_no (b : Nat) (N : NetS) (A : List Blk) (a c : Int) (w : World) (hsh : SH w A w) (hnet : IsNet b N A) (hp : pairB N.size a c = false) :
    Calls Try.prog 14 #[.pointer (some ⟨b, 0, none⟩), .int .i64 a, .int .i64 c] w fun e w' => e = .returned (.bool false) ∧ w = w' := by
  obtain ⟨way, R, rfl, hown⟩ := hnet
  refine Sx.enter (l := [.pointer (some ⟨b, 0, none⟩), .int .i64 a, .int .i64 c]) Try.func14 rfl (n := 26) rfl (by simp) ?_
  refine wc_seq ?_
  refine wc_region ?_
  refine wl_go 1 [(6, .bool false)] (by kernel_rfl) ?_
  refine nx_list ?_
  refine nx_then ?_
  refine wc_seq ?_
  refine wc_region ?_
  refine wl_go 6 [(12, .int .i64 c), (11, .int .i64 a), (10, .pointer (some ⟨b, 0, none⟩)), (9, .bool true), (8, .bool true), (7, .pointer (some ⟨b, 0, none⟩))] (by kernel_rfl) ?_
  refine wl_callS (d := 13) (v := .bool (pairB N.size a c)) (by kernel_rfl) (by kernel_rfl) (fun w1 h1 => pair_at b N way a c w1 ((h1 ▸ hsh).blk ⟨b, (netC N.size N.delay N.now N.cut way), 97⟩ (by simp))) ?_
  rw [hp]
  refine wl_go 13 [(6, .bool false), (25, .bool false), (24, undef), (23, undef), (22, undef), (21, undef), (20, undef), (19, undef), (18, undef), (17, undef), (16, undef), (15, .bool false), (14, .bool false)] (by kernel_rfl) ?_
  refine nx_list ?_
  refine nx_then ?_
  refine nx_ret ?_
  refine ret_tmp (v := .bool false) rfl (by kernel_rfl) ?_
  intro w' hw'
  exact ⟨rfl, hw'.symm⟩

theorem up_yes (b : Nat) (N : NetS) (A : List Blk) (i j : Nat) (w : World) (hsh : SH w A w) (hnet : IsNet b N A) (hp : pairB N.size (i : Int) (j : Int) = true) (hi : i < 7) (hj : j < 7) :
    Calls Try.prog 14 #[.pointer (some ⟨b, 0, none⟩), .int .i64 (i : Int), .int .i64 (j : Int)] w fun e w' => e = .returned (.bool (!N.cut (i * 7 + j))) ∧ w = w' := by
  obtain ⟨way, R, rfl, hown⟩ := hnet
  refine Sx.enter (l := [.pointer (some ⟨b, 0, none⟩), .int .i64 (i : Int), .int .i64 (j : Int)]) Try.func14 rfl (n := 26) rfl (by simp) ?_
  refine wc_seq ?_
  refine wc_region ?_
  refine wl_go 1 [(6, .bool false)] (by kernel_rfl) ?_
  refine nx_list ?_
  refine nx_then ?_
  refine wc_seq ?_
  refine wc_region ?_
  refine wl_go 6 [(12, .int .i64 (j : Int)), (11, .int .i64 (i : Int)), (10, .pointer (some ⟨b, 0, none⟩)), (9, .bool true), (8, .bool true), (7, .pointer (some ⟨b, 0, none⟩))] (by kernel_rfl) ?_
  refine wl_callS (d := 13) (v := .bool (pairB N.size (i : Int) (j : Int))) (by kernel_rfl) (by kernel_rfl) (fun w1 h1 => pair_at b N way (i : Int) (j : Int) w1 ((h1 ▸ hsh).blk ⟨b, (netC N.size N.delay N.now N.cut way), 97⟩ (by simp))) ?_
  rw [hp]
  refine wl_go 7 [(20, .pointer (some ⟨b, 3, none⟩)), (19, .pointer (some ⟨b, 0, none⟩)), (18, .int .i64 (j : Int)), (17, .int .i64 (i : Int)), (16, .pointer (some ⟨b, 0, none⟩)), (15, .bool true), (14, .bool true)] (by kernel_rfl) ?_
  refine wl_yl (d := 21) (v := .pointer (some ⟨b, 3 + i * 7, none⟩)) (by kernel_rfl) (yl_indexA (E := 93) (b := b) (off := 3) (len := 7) (k := i) (es := 7) rfl (by kernel_rfl) (by kernel_rfl) (by kernel_rfl) (by omega)) ?_
  refine wl_yl (d := 22) (v := .pointer (some ⟨b, 3 + i * 7 + j * 1, none⟩)) (by kernel_rfl) (yl_indexA (E := 4) (b := b) (off := 3 + i * 7) (len := 7) (k := j) (es := 1) rfl (by kernel_rfl) (by kernel_rfl) (by kernel_rfl) (by omega)) ?_
  refine wl_yl (d := 23) (v := .bool (N.cut (i * 7 + j))) (by kernel_rfl) (yl_eq (yl_load (b := b) (off := 3 + i * 7 + j * 1) 0 rfl (by kernel_rfl) rfl (netC_cut _ _ _ _ _ i j (by omega) (by omega))) hsh) ?_
  refine wl_go 3 [(6, .bool (!(N.cut (i * 7 + j)))), (25, .bool (!(N.cut (i * 7 + j)))), (24, .bool (!(N.cut (i * 7 + j))))] (by kernel_rfl) ?_
  refine nx_list ?_
  refine nx_then ?_
  refine nx_ret ?_
  refine ret_tmp (v := .bool (!(N.cut (i * 7 + j)))) rfl (by kernel_rfl) ?_
  intro w' hw'
  exact ⟨rfl, hw'.symm⟩

theorem up_nil (a c : Int) (w : World) :
    Calls Try.prog 14 #[.pointer none, .int .i64 a, .int .i64 c] w fun e w' => e = .returned (.bool false) ∧ w = w' := by
  refine Sx.enter (l := [.pointer none, .int .i64 a, .int .i64 c]) Try.func14 rfl (n := 26) rfl (by simp) ?_
  refine wc_seq ?_
  refine wc_region ?_
  refine wl_go 1 [(6, .bool false)] (by kernel_rfl) ?_
  refine nx_list ?_
  refine nx_then ?_
  refine wc_seq ?_
  refine wc_region ?_
  refine wl_go 20 [(6, .bool false), (25, .bool false), (24, undef), (23, undef), (22, undef), (21, undef), (20, undef), (19, undef), (18, undef), (17, undef), (16, undef), (15, .bool false), (14, .bool false), (13, undef), (12, undef), (11, undef), (10, undef), (9, .bool false), (8, .bool false), (7, .pointer none)] (by kernel_rfl) ?_
  refine nx_list ?_
  refine nx_then ?_
  refine nx_ret ?_
  refine ret_tmp (v := .bool false) rfl (by kernel_rfl) ?_
  intro w' hw'
  exact ⟨rfl, hw'.symm⟩

theorem len_ok (b : Nat) (N : NetS) (A : List Blk) (w : World) (hsh : SH w A w) (hnet : IsNet b N A) :
    Calls Try.prog 19 #[.pointer (some ⟨b, 0, none⟩)] w fun e w' => e = .returned (.int .i64 (N.ps.length : Int)) ∧ w = w' := by
  obtain ⟨way, R, rfl, hown⟩ := hnet
  obtain ⟨wa, wc, rfl⟩ := hown.val
  refine Sx.enter (l := [.pointer (some ⟨b, 0, none⟩)]) Try.func19 rfl (n := 10) rfl (by simp) ?_
  refine wc_seq ?_
  refine wc_region ?_
  refine wl_go 1 [(2, .int .i64 0)] (by kernel_rfl) ?_
  refine nx_list ?_
  refine nx_then ?_
  refine wc_seq ?_
  refine wc_seq ?_
  refine wc_region ?_
  refine wl_go 2 [(4, .bool false), (3, .pointer (some ⟨b, 0, none⟩))] (by kernel_rfl) ?_
  refine nx_list ?_
  refine nx_then ?_
  refine wc_cond false (by kernel_rfl) (by kernel_rfl) (fun h => by cases h) (fun _ => ?_)
  refine nx_skip ?_
  refine nx_then ?_
  refine wc_seq ?_
  refine wc_region ?_
  refine wl_go 3 [(7, .pointer (some ⟨b, 52, none⟩)), (6, .pointer (some ⟨b, 0, none⟩)), (5, .pointer (some ⟨b, 0, none⟩))] (by kernel_rfl) ?_
  refine wl_yl (d := 8) (v := .slice wa N.ps.length wc) (by kernel_rfl) (yl_eq (yl_load (b := b) (off := 52) 0 rfl (by kernel_rfl) rfl (by kernel_rfl)) hsh) ?_
  refine wl_go 2 [(2, .int .i64 (N.ps.length : Int)), (9, .int .i64 (N.ps.length : Int))] (by kernel_rfl) ?_
  refine nx_list ?_
  refine nx_then ?_
  refine nx_ret ?_
  refine ret_tmp (v := .int .i64 (N.ps.length : Int)) rfl (by kernel_rfl) ?_
  intro w' hw'
  exact ⟨rfl, hw'.symm⟩

theorem len_nil (w : World) :
    Calls Try.prog 19 #[.pointer none] w fun e w' => e = .returned (.int .i64 0) ∧ w = w' := by
  refine Sx.enter (l := [.pointer none]) Try.func19 rfl (n := 10) rfl (by simp) ?_
  refine wc_seq ?_
  refine wc_region ?_
  refine wl_go 1 [(2, .int .i64 0)] (by kernel_rfl) ?_
  refine nx_list ?_
  refine nx_then ?_
  refine wc_seq ?_
  refine wc_seq ?_
  refine wc_region ?_
  refine wl_go 2 [(4, .bool true), (3, .pointer none)] (by kernel_rfl) ?_
  refine nx_list ?_
  refine nx_then ?_
  refine wc_cond true (by kernel_rfl) (by kernel_rfl) (fun _ => ?_) (fun h => by cases h)
  refine wc_seq ?_
  refine wc_region ?_
  refine wl_go 1 [(2, .int .i64 0)] (by kernel_rfl) ?_
  refine nx_list ?_
  refine nx_then ?_
  refine nx_ret ?_
  refine nx_then_ret ?_
  refine ret_tmp (v := .int .i64 0) rfl (by kernel_rfl) ?_
  intro w' hw'
  exact ⟨rfl, hw'.symm⟩

theorem set_no (b : Nat) (N : NetS) (A : List Blk) (a c : Int) (x : Bool) (w : World) (hsh : SH w A w) (hnet : IsNet b N A) (hp : pairB N.size a c = false) :
    Calls Try.prog 34 #[.pointer (some ⟨b, 0, none⟩), .int .i64 a, .int .i64 c, .bool x] w fun e w' => e = .returned (.int .i64 1) ∧ SH w' A w' ∧ Tr w A w' A := by
  obtain ⟨way, R, rfl, hown⟩ := hnet
  refine Sx.enter (l := [.pointer (some ⟨b, 0, none⟩), .int .i64 a, .int .i64 c, .bool x]) Try.func34 rfl (n := 32) rfl (by simp) ?_
  refine wc_eq (S := SH w (([⟨b, (netC N.size N.delay N.now N.cut way), 97⟩] : List Blk) ++ R)) hsh ?_
  refine wc_seq ?_
  refine wc_region ?_
  refine wl_go 1 [(8, .int .i64 0)] (by kernel_rfl) ?_
  refine nx_list ?_
  refine nx_then ?_
  refine wc_seq ?_
  refine wc_seq ?_
  refine wc_region ?_
  refine wl_go 2 [(10, .bool false), (9, .pointer (some ⟨b, 0, none⟩))] (by kernel_rfl) ?_
  refine nx_list ?_
  refine nx_then ?_
  refine wc_cond false (by kernel_rfl) (by kernel_rfl) (fun h => by cases h) (fun _ => ?_)
  refine nx_skip ?_
  refine nx_then ?_
  refine wc_seq ?_
  refine wc_seq ?_
  refine wc_region ?_
  refine wl_go 3 [(13, .int .i64 c), (12, .int .i64 a), (11, .pointer (some ⟨b, 0, none⟩))] (by kernel_rfl) ?_
  refine wl_callS (d := 14) (v := .bool (pairB N.size a c)) (by kernel_rfl) (by kernel_rfl) (fun w1 h1 => pair_at b N way a c w1 (h1.blk ⟨b, (netC N.size N.delay N.now N.cut way), 97⟩ (by simp))) ?_
  rw [hp]
  refine wl_go 1 [(15, .bool true)] (by kernel_rfl) ?_
  refine nx_list ?_
  refine nx_then ?_
  refine wc_cond true (by kernel_rfl) (by kernel_rfl) (fun _ => ?_) (fun h => by cases h)
  refine wc_seq ?_
  refine wc_region ?_
  refine wl_go 1 [(8, .int .i64 1)] (by kernel_rfl) ?_
  refine nx_list ?_
  refine nx_then ?_
  refine nx_ret ?_
  refine nx_then_ret ?_
  refine ret_tmp (v := .int .i64 1) rfl (by kernel_rfl) ?_
  intro w' hw'
  exact ⟨rfl, hw'.here, hw'.trHere⟩

def NetS.link (N : NetS) (i j : Nat) (x : Bool) : NetS := { N with cut := upd (upd N.cut (i * 7 + j) x) (j * 7 + i) x }

theorem set_yes (b : Nat) (N : NetS) (A : List Blk) (i j : Nat) (x : Bool) (w : World) (hsh : SH w A w) (hnet : IsNet b N A) (hp : pairB N.size (i : Int) (j : Int) = true) (hi : i < 7) (hj : j < 7) :
    Calls Try.prog 34 #[.pointer (some ⟨b, 0, none⟩), .int .i64 (i : Int), .int .i64 (j : Int), .bool x] w fun e w' => ∃ A', e = .returned (.int .i64 0) ∧ IsNet b (N.link i j x) A' ∧ SH w' A' w' ∧ Tr w A w' A' := by
  obtain ⟨way, R, rfl, hown⟩ := hnet
  refine Sx.enter (l := [.pointer (some ⟨b, 0, none⟩), .int .i64 (i : Int), .int .i64 (j : Int), .bool x]) Try.func34 rfl (n := 32) rfl (by simp) ?_
  refine wc_eq (S := SH w (([⟨b, (netC N.size N.delay N.now N.cut way), 97⟩] : List Blk) ++ R)) hsh ?_
  refine wc_seq ?_
  refine wc_region ?_
  refine wl_go 1 [(8, .int .i64 0)] (by kernel_rfl) ?_
  refine nx_list ?_
  refine nx_then ?_
  refine wc_seq ?_
  refine wc_seq ?_
  refine wc_region ?_
  refine wl_go 2 [(10, .bool false), (9, .pointer (some ⟨b, 0, none⟩))] (by kernel_rfl) ?_
  refine nx_list ?_
  refine nx_then ?_
  refine wc_cond false (by kernel_rfl) (by kernel_rfl) (fun h => by cases h) (fun _ => ?_)
  refine nx_skip ?_
  refine nx_then ?_
  refine wc_seq ?_
  refine wc_seq ?_
  refine wc_region ?_
  refine wl_go 3 [(13, .int .i64 (j : Int)), (12, .int .i64 (i : Int)), (11, .pointer (some ⟨b, 0, none⟩))] (by kernel_rfl) ?_
  refine wl_callS (d := 14) (v := .bool (pairB N.size (i : Int) (j : Int))) (by kernel_rfl) (by kernel_rfl) (fun w1 h1 => pair_at b N way (i : Int) (j : Int) w1 (h1.blk ⟨b, (netC N.size N.delay N.now N.cut way), 97⟩ (by simp))) ?_
  rw [hp]
  refine wl_go 1 [(15, .bool false)] (by kernel_rfl) ?_
  refine nx_list ?_
  refine nx_then ?_
  refine wc_cond false (by kernel_rfl) (by kernel_rfl) (fun h => by cases h) (fun _ => ?_)
  refine nx_skip ?_
  refine nx_then ?_
  refine wc_seq ?_
  refine wc_region ?_
  refine wl_go 6 [(21, .pointer (some ⟨b, 3, none⟩)), (20, .pointer (some ⟨b, 0, none⟩)), (19, .bool x), (18, .int .i64 (j : Int)), (17, .int .i64 (i : Int)), (16, .pointer (some ⟨b, 0, none⟩))] (by kernel_rfl) ?_
  refine wl_yl (d := 22) (v := .pointer (some ⟨b, 3 + i * 7, none⟩)) (by kernel_rfl) (yl_indexA (E := 93) (b := b) (off := 3) (len := 7) (k := i) (es := 7) rfl (by kernel_rfl) (by kernel_rfl) (by kernel_rfl) (by omega)) ?_
  refine wl_yl (d := 23) (v := .pointer (some ⟨b, 3 + i * 7 + j * 1, none⟩)) (by kernel_rfl) (yl_indexA (E := 4) (b := b) (off := 3 + i * 7) (len := 7) (k := j) (es := 1) rfl (by kernel_rfl) (by kernel_rfl) (by kernel_rfl) (by omega)) ?_
  refine wl_store (b := b) (off := 3 + i * 7 + j * 1) (v := .bool x) (c' := netC N.size N.delay N.now (upd N.cut (i * 7 + j) x) way) (L' := (([⟨b, (netC N.size N.delay N.now (upd N.cut (i * 7 + j) x) way), 97⟩] : List Blk) ++ R)) 0 (by kernel_rfl) rfl (by kernel_rfl) (by kernel_rfl) rfl (netC_set _ _ _ _ _ i j x (by omega) (by omega)) rfl ?_
  refine nx_list ?_
  refine nx_then ?_
  refine wc_seq ?_
  refine wc_region ?_
  refine wl_go 6 [(29, .pointer (some ⟨b, 3, none⟩)), (28, .pointer (some ⟨b, 0, none⟩)), (27, .bool x), (26, .int .i64 (i : Int)), (25, .int .i64 (j : Int)), (24, .pointer (some ⟨b, 0, none⟩))] (by kernel_rfl) ?_
  refine wl_yl (d := 30) (v := .pointer (some ⟨b, 3 + j * 7, none⟩)) (by kernel_rfl) (yl_indexA (E := 93) (b := b) (off := 3) (len := 7) (k := j) (es := 7) rfl (by kernel_rfl) (by kernel_rfl) (by kernel_rfl) (by omega)) ?_
  refine wl_yl (d := 31) (v := .pointer (some ⟨b, 3 + j * 7 + i * 1, none⟩)) (by kernel_rfl) (yl_indexA (E := 4) (b := b) (off := 3 + j * 7) (len := 7) (k := i) (es := 1) rfl (by kernel_rfl) (by kernel_rfl) (by kernel_rfl) (by omega)) ?_
  refine wl_store (b := b) (off := 3 + j * 7 + i * 1) (v := .bool x) (c' := netC N.size N.delay N.now (upd (upd N.cut (i * 7 + j) x) (j * 7 + i) x) way) (L' := (([⟨b, (netC N.size N.delay N.now (upd (upd N.cut (i * 7 + j) x) (j * 7 + i) x) way), 97⟩] : List Blk) ++ R)) 0 (by kernel_rfl) rfl (by kernel_rfl) (by kernel_rfl) rfl (netC_set _ _ _ _ _ j i x (by omega) (by omega)) rfl ?_
  refine nx_list ?_
  refine nx_then ?_
  refine wc_seq ?_
  refine wc_region ?_
  refine wl_go 1 [(8, .int .i64 0)] (by kernel_rfl) ?_
  refine nx_list ?_
  refine nx_then ?_
  refine nx_ret ?_
  refine ret_tmp (v := .int .i64 0) rfl (by kernel_rfl) ?_
  intro w' hw'
  exact ⟨_, rfl, ⟨way, R, rfl, hown⟩, hw'.here, hw'.trHere.cong rfl⟩

theorem cut_no (b : Nat) (N : NetS) (A : List Blk) (a c : Int) (w : World) (hsh : SH w A w) (hnet : IsNet b N A) (hp : pairB N.size a c = false) :
    Calls Try.prog 13 #[.pointer (some ⟨b, 0, none⟩), .int .i64 a, .int .i64 c] w fun e w' => e = .returned (.int .i64 1) ∧ SH w' A w' ∧ Tr w A w' A := by
  refine Sx.enter (l := [.pointer (some ⟨b, 0, none⟩), .int .i64 a, .int .i64 c]) Try.func13 rfl (n := 11) rfl (by simp) ?_
  refine wc_seq ?_
  refine wc_region ?_
  refine wl_go 1 [(6, .int .i64 0)] (by kernel_rfl) ?_
  refine nx_list ?_
  refine nx_then ?_
  refine wc_seq ?_
  refine wc_region ?_
  refine wl_go 3 [(9, .int .i64 c), (8, .int .i64 a), (7, .pointer (some ⟨b, 0, none⟩))] (by kernel_rfl) ?_
  refine wl_callB (X := Unit) (d := 10) (fun _ => .int .i64 1) (fun wa y wz => SH wz A wz ∧ Tr wa A wz A) (by kernel_rfl) (by kernel_rfl) (fun w1 h1 => by subst h1; exact (set_no b N A a c true w1 hsh hnet hp).mono (fun e w' h => ⟨(), h⟩)) ?_
  rintro w1 _ w2 rfl ⟨hs2, ht⟩
  refine wl_go 1 [(6, .int .i64 1)] (by kernel_rfl) ?_
  refine nx_list ?_
  refine nx_then ?_
  refine nx_ret ?_
  refine ret_tmp (v := .int .i64 1) rfl (by kernel_rfl) ?_
  intro w' hw'
  subst hw'
  exact ⟨rfl, hs2, ht⟩

theorem cut_yes (b : Nat) (N : NetS) (A : List Blk) (i j : Nat) (w : World) (hsh : SH w A w) (hnet : IsNet b N A) (hp : pairB N.size (i : Int) (j : Int) = true) (hi : i < 7) (hj : j < 7) :
    Calls Try.prog 13 #[.pointer (some ⟨b, 0, none⟩), .int .i64 (i : Int), .int .i64 (j : Int)] w fun e w' => ∃ A', e = .returned (.int .i64 0) ∧ IsNet b (N.link i j true) A' ∧ SH w' A' w' ∧ Tr w A w' A' := by
  refine Sx.enter (l := [.pointer (some ⟨b, 0, none⟩), .int .i64 (i : Int), .int .i64 (j : Int)]) Try.func13 rfl (n := 11) rfl (by simp) ?_
  refine wc_seq ?_
  refine wc_region ?_
  refine wl_go 1 [(6, .int .i64 0)] (by kernel_rfl) ?_
  refine nx_list ?_
  refine nx_then ?_
  refine wc_seq ?_
  refine wc_region ?_
  refine wl_go 3 [(9, .int .i64 (j : Int)), (8, .int .i64 (i : Int)), (7, .pointer (some ⟨b, 0, none⟩))] (by kernel_rfl) ?_
  refine wl_callB (X := List Blk) (d := 10) (fun _ => .int .i64 0) (fun wa y wz => IsNet b (N.link i j true) y ∧ SH wz y wz ∧ Tr wa A wz y) (by kernel_rfl) (by kernel_rfl) (fun w1 h1 => h1 ▸ set_yes b N A i j true w hsh hnet hp hi hj) ?_
  rintro w1 A' w2 rfl ⟨hn, hs2, ht⟩
  refine wl_go 1 [(6, .int .i64 0)] (by kernel_rfl) ?_
  refine nx_list ?_
  refine nx_then ?_
  refine nx_ret ?_
  refine ret_tmp (v := .int .i64 0) rfl (by kernel_rfl) ?_
  intro w' hw'
  subst hw'
  exact ⟨A', rfl, hn, hs2, ht⟩

theorem heal_no (b : Nat) (N : NetS) (A : List Blk) (a c : Int) (w : World) (hsh : SH w A w) (hnet : IsNet b N A) (hp : pairB N.size a c = false) :
    Calls Try.prog 15 #[.pointer (some ⟨b, 0, none⟩), .int .i64 a, .int .i64 c] w fun e w' => e = .returned (.int .i64 1) ∧ SH w' A w' ∧ Tr w A w' A := by
  refine Sx.enter (l := [.pointer (some ⟨b, 0, none⟩), .int .i64 a, .int .i64 c]) Try.func15 rfl (n := 11) rfl (by simp) ?_
  refine wc_seq ?_
  refine wc_region ?_
  refine wl_go 1 [(6, .int .i64 0)] (by kernel_rfl) ?_
  refine nx_list ?_
  refine nx_then ?_
  refine wc_seq ?_
  refine wc_region ?_
  refine wl_go 3 [(9, .int .i64 c), (8, .int .i64 a), (7, .pointer (some ⟨b, 0, none⟩))] (by kernel_rfl) ?_
  refine wl_callB (X := Unit) (d := 10) (fun _ => .int .i64 1) (fun wa y wz => SH wz A wz ∧ Tr wa A wz A) (by kernel_rfl) (by kernel_rfl) (fun w1 h1 => by subst h1; exact (set_no b N A a c false w1 hsh hnet hp).mono (fun e w' h => ⟨(), h⟩)) ?_
  rintro w1 _ w2 rfl ⟨hs2, ht⟩
  refine wl_go 1 [(6, .int .i64 1)] (by kernel_rfl) ?_
  refine nx_list ?_
  refine nx_then ?_
  refine nx_ret ?_
  refine ret_tmp (v := .int .i64 1) rfl (by kernel_rfl) ?_
  intro w' hw'
  subst hw'
  exact ⟨rfl, hs2, ht⟩

theorem heal_yes (b : Nat) (N : NetS) (A : List Blk) (i j : Nat) (w : World) (hsh : SH w A w) (hnet : IsNet b N A) (hp : pairB N.size (i : Int) (j : Int) = true) (hi : i < 7) (hj : j < 7) :
    Calls Try.prog 15 #[.pointer (some ⟨b, 0, none⟩), .int .i64 (i : Int), .int .i64 (j : Int)] w fun e w' => ∃ A', e = .returned (.int .i64 0) ∧ IsNet b (N.link i j false) A' ∧ SH w' A' w' ∧ Tr w A w' A' := by
  refine Sx.enter (l := [.pointer (some ⟨b, 0, none⟩), .int .i64 (i : Int), .int .i64 (j : Int)]) Try.func15 rfl (n := 11) rfl (by simp) ?_
  refine wc_seq ?_
  refine wc_region ?_
  refine wl_go 1 [(6, .int .i64 0)] (by kernel_rfl) ?_
  refine nx_list ?_
  refine nx_then ?_
  refine wc_seq ?_
  refine wc_region ?_
  refine wl_go 3 [(9, .int .i64 (j : Int)), (8, .int .i64 (i : Int)), (7, .pointer (some ⟨b, 0, none⟩))] (by kernel_rfl) ?_
  refine wl_callB (X := List Blk) (d := 10) (fun _ => .int .i64 0) (fun wa y wz => IsNet b (N.link i j false) y ∧ SH wz y wz ∧ Tr wa A wz y) (by kernel_rfl) (by kernel_rfl) (fun w1 h1 => h1 ▸ set_yes b N A i j false w hsh hnet hp hi hj) ?_
  rintro w1 A' w2 rfl ⟨hn, hs2, ht⟩
  refine wl_go 1 [(6, .int .i64 0)] (by kernel_rfl) ?_
  refine nx_list ?_
  refine nx_then ?_
  refine nx_ret ?_
  refine ret_tmp (v := .int .i64 0) rfl (by kernel_rfl) ?_
  intro w' hw'
  subst hw'
  exact ⟨A', rfl, hn, hs2, ht⟩

theorem send_nil (fr to kind term index last commit : Int) (ents : Value) (ok : Bool) (w : World) :
    Calls Try.prog 9 #[.pointer none, .agg #[.int .i64 fr, .int .i64 to, .int .i64 kind, .int .i64 term, .int .i64 index, .int .i64 last, .int .i64 commit, ents, .bool ok]] w fun e w' => e = .returned (.int .i64 3) ∧ Below w.heap.size w w' := by
  refine Sx.enter (l := [.pointer none, .agg #[.int .i64 fr, .int .i64 to, .int .i64 kind, .int .i64 term, .int .i64 index, .int .i64 last, .int .i64 commit, ents, .bool ok]]) Try.func9 rfl (n := 48) rfl (by simp) ?_
  refine wc_eq (S := SH w []) (SH.refl _) ?_
  refine wc_seq ?_
  refine wc_region ?_
  refine wl_new (d := 3) #[.int .i64 fr, .int .i64 to, .int .i64 kind, .int .i64 term, .int .i64 index, .int .i64 last, .int .i64 commit, ents, .bool ok] 59 (fun r => .pointer (some ⟨r, 0, none⟩)) (by kernel_rfl) (fun r => by kernel_rfl) ?_
  intro r1 hr1
  refine wl_go 1 [(4, .int .i64 0)] (by kernel_rfl) ?_
  refine nx_list ?_
  refine nx_then ?_
  refine wc_seq ?_
  refine wc_seq ?_
  refine wc_region ?_
  refine wl_go 2 [(6, .bool true), (5, .pointer none)] (by kernel_rfl) ?_
  refine nx_list ?_
  refine nx_then ?_
  refine wc_cond true (by kernel_rfl) (by kernel_rfl) (fun _ => ?_) (fun h => by cases h)
  refine wc_seq ?_
  refine wc_region ?_
  refine wl_go 1 [(4, .int .i64 3)] (by kernel_rfl) ?_
  refine nx_list ?_
  refine nx_then ?_
  refine nx_ret ?_
  refine nx_then_ret ?_
  refine ret_tmp (v := .int .i64 3) rfl (by kernel_rfl) ?_
  intro w' hw'
  exact ⟨rfl, hw'.below (Below.refl _ _) (Nat.le_refl _) (ge_cons hr1 (ge_nil _))⟩

theorem send_no (b : Nat) (N : NetS) (A : List Blk) (fr to kind term index last commit : Int) (ents : Value) (ok : Bool) (w : World) (hsh : SH w A w) (hnet : IsNet b N A) (hp : pairB N.size fr to = false) :
    Calls Try.prog 9 #[.pointer (some ⟨b, 0, none⟩), .agg #[.int .i64 fr, .int .i64 to, .int .i64 kind, .int .i64 term, .int .i64 index, .int .i64 last, .int .i64 commit, ents, .bool ok]] w fun e w' => e = .returned (.int .i64 1) ∧ SH w' A w' ∧ Tr w A w' A := by
  obtain ⟨way, R, rfl, hown⟩ := hnet
  refine Sx.enter (l := [.pointer (some ⟨b, 0, none⟩), .agg #[.int .i64 fr, .int .i64 to, .int .i64 kind, .int .i64 term, .int .i64 index, .int .i64 last, .int .i64 commit, ents, .bool ok]]) Try.func9 rfl (n := 48) rfl (by simp) ?_
  refine wc_eq (S := SH w (([⟨b, (netC N.size N.delay N.now N.cut way), 97⟩] : List Blk) ++ R)) hsh ?_
  have htr := Tr.refl w (([⟨b, (netC N.size N.delay N.now N.cut way), 97⟩] : List Blk) ++ R)
  refine wc_seq ?_
  refine wc_region ?_
  refine wl_new (d := 3) #[.int .i64 fr, .int .i64 to, .int .i64 kind, .int .i64 term, .int .i64 index, .int .i64 last, .int .i64 commit, ents, .bool ok] 59 (fun r => .pointer (some ⟨r, 0, none⟩)) (by kernel_rfl) (fun r => by kernel_rfl) ?_
  intro r1 hr1
  have htr := htr.more (c := #[.int .i64 fr, .int .i64 to, .int .i64 kind, .int .i64 term, .int .i64 index, .int .i64 last, .int .i64 commit, ents, .bool ok]) (t := 59) hr1
  refine wl_go 1 [(4, .int .i64 0)] (by kernel_rfl) ?_
  refine nx_list ?_
  refine nx_then ?_
  refine wc_seq ?_
  refine wc_seq ?_
  refine wc_region ?_
  refine wl_go 2 [(6, .bool false), (5, .pointer (some ⟨b, 0, none⟩))] (by kernel_rfl) ?_
  refine nx_list ?_
  refine nx_then ?_
  refine wc_cond false (by kernel_rfl) (by kernel_rfl) (fun h => by cases h) (fun _ => ?_)
  refine nx_skip ?_
  refine nx_then ?_
  refine wc_seq ?_
  refine wc_seq ?_
  refine wc_region ?_
  refine wl_go 2 [(8, .pointer (some ⟨r1, 0, none⟩)), (7, .pointer (some ⟨b, 0, none⟩))] (by kernel_rfl) ?_
  refine wl_yl (d := 9) (v := .int .i64 fr) (by kernel_rfl) (yl_load (b := r1) (off := 0) 0 rfl (by kernel_rfl) rfl (by kernel_rfl)) ?_
  refine wl_go 1 [(10, .pointer (some ⟨r1, 1, none⟩))] (by kernel_rfl) ?_
  refine wl_yl (d := 11) (v := .int .i64 to) (by kernel_rfl) (yl_load (b := r1) (off := 1) 0 rfl (by kernel_rfl) rfl (by kernel_rfl)) ?_
  refine wl_callS (d := 12) (v := .bool (pairB N.size fr to)) (by kernel_rfl) (by kernel_rfl) (fun w1 h1 => pair_at b N way fr to w1 (h1.blk ⟨b, (netC N.size N.delay N.now N.cut way), 97⟩ (by simp))) ?_
  rw [hp]
  refine wl_go 1 [(13, .bool true)] (by kernel_rfl) ?_
  refine nx_list ?_
  refine nx_then ?_
  refine wc_cond true (by kernel_rfl) (by kernel_rfl) (fun _ => ?_) (fun h => by cases h)
  refine wc_seq ?_
  refine wc_region ?_
  refine wl_go 1 [(4, .int .i64 1)] (by kernel_rfl) ?_
  refine nx_list ?_
  refine nx_then ?_
  refine nx_ret ?_
  refine nx_then_ret ?_
  refine ret_tmp (v := .int .i64 1) rfl (by kernel_rfl) ?_
  intro w' hw'
  exact ⟨rfl, hw'.drop1, (htr.trans hw'.trHere).drop1⟩

theorem send_cut (b : Nat) (N : NetS) (A : List Blk) (i j : Nat) (kind term index last commit : Int) (ents : Value) (ok : Bool) (w : World) (hsh : SH w A w) (hnet : IsNet b N A) (hp : pairB N.size (i : Int) (j : Int) = true) (hi : i < 7) (hj : j < 7) (hcut : N.cut (i * 7 + j) = true) :
    Calls Try.prog 9 #[.pointer (some ⟨b, 0, none⟩), .agg #[.int .i64 (i : Int), .int .i64 (j : Int), .int .i64 kind, .int .i64 term, .int .i64 index, .int .i64 last, .int .i64 commit, ents, .bool ok]] w fun e w' => e = .returned (.int .i64 0) ∧ SH w' A w' ∧ Tr w A w' A := by
  obtain ⟨way, R, rfl, hown⟩ := hnet
  refine Sx.enter (l := [.pointer (some ⟨b, 0, none⟩), .agg #[.int .i64 (i : Int), .int .i64 (j : Int), .int .i64 kind, .int .i64 term, .int .i64 index, .int .i64 last, .int .i64 commit, ents, .bool ok]]) Try.func9 rfl (n := 48) rfl (by simp) ?_
  refine wc_eq (S := SH w (([⟨b, (netC N.size N.delay N.now N.cut way), 97⟩] : List Blk) ++ R)) hsh ?_
  have htr := Tr.refl w (([⟨b, (netC N.size N.delay N.now N.cut way), 97⟩] : List Blk) ++ R)
  refine wc_seq ?_
  refine wc_region ?_
  refine wl_new (d := 3) #[.int .i64 (i : Int), .int .i64 (j : Int), .int .i64 kind, .int .i64 term, .int .i64 index, .int .i64 last, .int .i64 commit, ents, .bool ok] 59 (fun r => .pointer (some ⟨r, 0, none⟩)) (by kernel_rfl) (fun r => by kernel_rfl) ?_
  intro r1 hr1
  have htr := htr.more (c := #[.int .i64 (i : Int), .int .i64 (j : Int), .int .i64 kind, .int .i64 term, .int .i64 index, .int .i64 last, .int .i64 commit, ents, .bool ok]) (t := 59) hr1
  refine wl_go 1 [(4, .int .i64 0)] (by kernel_rfl) ?_
  refine nx_list ?_
  refine nx_then ?_
  refine wc_seq ?_
  refine wc_seq ?_
  refine wc_region ?_
  refine wl_go 2 [(6, .bool false), (5, .pointer (some ⟨b, 0, none⟩))] (by kernel_rfl) ?_
  refine nx_list ?_
  refine nx_then ?_
  refine wc_cond false (by kernel_rfl) (by kernel_rfl) (fun h => by cases h) (fun _ => ?_)
  refine nx_skip ?_
  refine nx_then ?_
  refine wc_seq ?_
  refine wc_seq ?_
  refine wc_region ?_
  refine wl_go 2 [(8, .pointer (some ⟨r1, 0, none⟩)), (7, .pointer (some ⟨b, 0, none⟩))] (by kernel_rfl) ?_
  refine wl_yl (d := 9) (v := .int .i64 (i : Int)) (by kernel_rfl) (yl_load (b := r1) (off := 0) 0 rfl (by kernel_rfl) rfl (by kernel_rfl)) ?_
  refine wl_go 1 [(10, .pointer (some ⟨r1, 1, none⟩))] (by kernel_rfl) ?_
  refine wl_yl (d := 11) (v := .int .i64 (j : Int)) (by kernel_rfl) (yl_load (b := r1) (off := 1) 0 rfl (by kernel_rfl) rfl (by kernel_rfl)) ?_
  refine wl_callS (d := 12) (v := .bool (pairB N.size (i : Int) (j : Int))) (by kernel_rfl) (by kernel_rfl) (fun w1 h1 => pair_at b N way (i : Int) (j : Int) w1 (h1.blk ⟨b, (netC N.size N.delay N.now N.cut way), 97⟩ (by simp))) ?_
  rw [hp]
  refine wl_go 1 [(13, .bool false)] (by kernel_rfl) ?_
  refine nx_list ?_
  refine nx_then ?_
  refine wc_cond false (by kernel_rfl) (by kernel_rfl) (fun h => by cases h) (fun _ => ?_)
  refine nx_skip ?_
  refine nx_then ?_
  refine wc_seq ?_
  refine wc_seq ?_
  refine wc_draw 10 (SH w (([⟨r1, #[.int .i64 (i : Int), .int .i64 (j : Int), .int .i64 kind, .int .i64 term, .int .i64 index, .int .i64 last, .int .i64 commit, ents, .bool ok], 59⟩, ⟨b, (netC N.size N.delay N.now N.cut way), 97⟩] : List Blk) ++ R)) rfl (by decide) (fun w h => SH.drew h) ?_
  refine wd_go [0, 1] [(15, .pointer (some ⟨r1, 0, none⟩)), (14, .pointer (some ⟨b, 0, none⟩))] #[true, true, false, false, false, false, false, false, false, false] (f := 8) rfl (by kernel_rfl) (fun w h => h) ?_
  refine wd_yl 2 (d := 16) (v := .int .i64 (i : Int)) (f := 7) rfl (by kernel_rfl) (by kernel_rfl) (fun w h => h) (yl_load (b := r1) (off := 0) 0 rfl (by kernel_rfl) rfl (by kernel_rfl)) ?_
  refine wd_go [3] [(17, .pointer (some ⟨r1, 1, none⟩))] #[true, true, true, true, false, false, false, false, false, false] (f := 6) rfl (by kernel_rfl) (fun w h => h) ?_
  refine wd_yl 4 (d := 18) (v := .int .i64 (j : Int)) (f := 5) rfl (by kernel_rfl) (by kernel_rfl) (fun w h => h) (yl_load (b := r1) (off := 1) 0 rfl (by kernel_rfl) rfl (by kernel_rfl)) ?_
  refine wd_go [5, 6] [(20, .pointer (some ⟨b, 3, none⟩)), (19, .pointer (some ⟨b, 0, none⟩))] #[true, true, true, true, true, true, true, false, false, false] (f := 3) rfl (by kernel_rfl) (fun w h => h) ?_
  refine wd_yl 7 (d := 21) (v := .pointer (some ⟨b, 3 + i * 7, none⟩)) (f := 2) rfl (by kernel_rfl) (by kernel_rfl) (fun w h => h) (yl_indexA (E := 93) (b := b) (off := 3) (len := 7) (k := i) (es := 7) rfl (by kernel_rfl) (by kernel_rfl) (by kernel_rfl) (by omega)) ?_
  refine wd_yl 8 (d := 22) (v := .pointer (some ⟨b, 3 + i * 7 + j * 1, none⟩)) (f := 1) rfl (by kernel_rfl) (by kernel_rfl) (fun w h => h) (yl_indexA (E := 4) (b := b) (off := 3 + i * 7) (len := 7) (k := j) (es := 1) rfl (by kernel_rfl) (by kernel_rfl) (by kernel_rfl) (by omega)) ?_
  refine wd_yl 9 (d := 23) (v := .bool (N.cut (i * 7 + j))) (f := 0) rfl (by kernel_rfl) (by kernel_rfl) (fun w h => h) (yl_load (b := b) (off := 3 + i * 7 + j * 1) 1 rfl (by kernel_rfl) rfl (netC_cut _ _ _ _ _ i j (by omega) (by omega))) ?_
  rw [hcut]
  refine wd_done (by kernel_rfl) ?_
  refine nx_list ?_
  refine nx_on ?_
  refine nx_then ?_
  refine wc_cond true (by kernel_rfl) (by kernel_rfl) (fun _ => ?_) (fun h => by cases h)
  refine wc_seq ?_
  refine wc_region ?_
  refine wl_go 1 [(4, .int .i64 0)] (by kernel_rfl) ?_
  refine nx_list ?_
  refine nx_then ?_
  refine nx_ret ?_
  refine nx_then_ret ?_
  refine ret_tmp (v := .int .i64 0) rfl (by kernel_rfl) ?_
  intro w' hw'
  exact ⟨rfl, hw'.drop1, (htr.trans hw'.trHere).drop1⟩

theorem send_yes (b : Nat) (N : NetS) (A : List Blk) (i j : Nat) (kind term index last commit : Int) (ents : Value) (ok : Bool) (rows : List (List D)) (w : World) (hsh : SH w A w) (hnet : IsNet b N A) (hp : pairB N.size (i : Int) (j : Int) = true) (hi : i < 7) (hj : j < 7) (hcut : N.cut (i * 7 + j) = false)
    (hrd : Rd (Im w A) w (.sl rows) ents) (hfit : FitR sh by_ rows (sh 13)) (hby : rows.length * 1208 ≤ 140737488355328) (hn1 : 0 ≤ N.now) (hn2 : N.now ≤ 1000000) (hd1 : 0 ≤ N.delay) (hd2 : N.delay ≤ 1000000) (hps : N.ps.length ≤ 1000000) :
    Calls Try.prog 9 #[.pointer (some ⟨b, 0, none⟩), .agg #[.int .i64 (i : Int), .int .i64 (j : Int), .int .i64 kind, .int .i64 term, .int .i64 index, .int .i64 last, .int .i64 commit, ents, .bool ok]] w fun e w' => ∃ A' ents', e = .returned (.int .i64 0) ∧ IsNet b { N with ps := N.ps ++ [(N.now + N.delay, ⟨(i : Int), (j : Int), kind, term, index, last, commit, ents', ok⟩)] } A' ∧ SH w' A' w' ∧ Tr w A w' A' ∧ Rd (Nw w.heap.size w' A') w' (.sl rows) ents' := by
  obtain ⟨way, R, rfl, hown⟩ := hnet
  have h_ents := hrd
  refine Sx.enter (l := [.pointer (some ⟨b, 0, none⟩), .agg #[.int .i64 (i : Int), .int .i64 (j : Int), .int .i64 kind, .int .i64 term, .int .i64 index, .int .i64 last, .int .i64 commit, ents, .bool ok]]) Try.func9 rfl (n := 48) rfl (by simp) ?_
  refine wc_eq (S := SH w (([⟨b, (netC N.size N.delay N.now N.cut way), 97⟩] : List Blk) ++ R)) hsh ?_
  have htr := Tr.refl w (([⟨b, (netC N.size N.delay N.now N.cut way), 97⟩] : List Blk) ++ R)
  refine wc_seq ?_
  refine wc_region ?_
  refine wl_new (d := 3) #[.int .i64 (i : Int), .int .i64 (j : Int), .int .i64 kind, .int .i64 term, .int .i64 index, .int .i64 last, .int .i64 commit, ents, .bool ok] 59 (fun r => .pointer (some ⟨r, 0, none⟩)) (by kernel_rfl) (fun r => by kernel_rfl) ?_
  intro r1 hr1
  have h_ents := h_ents.stays (im_more (c := #[.int .i64 (i : Int), .int .i64 (j : Int), .int .i64 kind, .int .i64 term, .int .i64 index, .int .i64 last, .int .i64 commit, ents, .bool ok]) (t := 59) hr1)
  have htr := htr.more (c := #[.int .i64 (i : Int), .int .i64 (j : Int), .int .i64 kind, .int .i64 term, .int .i64 index, .int .i64 last, .int .i64 commit, ents, .bool ok]) (t := 59) hr1
  refine wl_go 1 [(4, .int .i64 0)] (by kernel_rfl) ?_
  refine nx_list ?_
  refine nx_then ?_
  refine wc_seq ?_
  refine wc_seq ?_
  refine wc_region ?_
  refine wl_go 2 [(6, .bool false), (5, .pointer (some ⟨b, 0, none⟩))] (by kernel_rfl) ?_
  refine nx_list ?_
  refine nx_then ?_
  refine wc_cond false (by kernel_rfl) (by kernel_rfl) (fun h => by cases h) (fun _ => ?_)
  refine nx_skip ?_
  refine nx_then ?_
  refine wc_seq ?_
  refine wc_seq ?_
  refine wc_region ?_
  refine wl_go 2 [(8, .pointer (some ⟨r1, 0, none⟩)), (7, .pointer (some ⟨b, 0, none⟩))] (by kernel_rfl) ?_
  refine wl_yl (d := 9) (v := .int .i64 (i : Int)) (by kernel_rfl) (yl_load (b := r1) (off := 0) 0 rfl (by kernel_rfl) rfl (by kernel_rfl)) ?_
  refine wl_go 1 [(10, .pointer (some ⟨r1, 1, none⟩))] (by kernel_rfl) ?_
  refine wl_yl (d := 11) (v := .int .i64 (j : Int)) (by kernel_rfl) (yl_load (b := r1) (off := 1) 0 rfl (by kernel_rfl) rfl (by kernel_rfl)) ?_
  refine wl_callS (d := 12) (v := .bool (pairB N.size (i : Int) (j : Int))) (by kernel_rfl) (by kernel_rfl) (fun w1 h1 => pair_at b N way (i : Int) (j : Int) w1 (h1.blk ⟨b, (netC N.size N.delay N.now N.cut way), 97⟩ (by simp))) ?_
  rw [hp]
  refine wl_go 1 [(13, .bool false)] (by kernel_rfl) ?_
  refine nx_list ?_
  refine nx_then ?_
  refine wc_cond false (by kernel_rfl) (by kernel_rfl) (fun h => by cases h) (fun _ => ?_)
  refine nx_skip ?_
  refine nx_then ?_
  refine wc_seq ?_
  refine wc_seq ?_
  refine wc_draw 10 (SH w (([⟨r1, #[.int .i64 (i : Int), .int .i64 (j : Int), .int .i64 kind, .int .i64 term, .int .i64 index, .int .i64 last, .int .i64 commit, ents, .bool ok], 59⟩, ⟨b, (netC N.size N.delay N.now N.cut way), 97⟩] : List Blk) ++ R)) rfl (by decide) (fun w h => SH.drew h) ?_
  refine wd_go [0, 1] [(15, .pointer (some ⟨r1, 0, none⟩)), (14, .pointer (some ⟨b, 0, none⟩))] #[true, true, false, false, false, false, false, false, false, false] (f := 8) rfl (by kernel_rfl) (fun w h => h) ?_
  refine wd_yl 2 (d := 16) (v := .int .i64 (i : Int)) (f := 7) rfl (by kernel_rfl) (by kernel_rfl) (fun w h => h) (yl_load (b := r1) (off := 0) 0 rfl (by kernel_rfl) rfl (by kernel_rfl)) ?_
  refine wd_go [3] [(17, .pointer (some ⟨r1, 1, none⟩))] #[true, true, true, true, false, false, false, false, false, false] (f := 6) rfl (by kernel_rfl) (fun w h => h) ?_
  refine wd_yl 4 (d := 18) (v := .int .i64 (j : Int)) (f := 5) rfl (by kernel_rfl) (by kernel_rfl) (fun w h => h) (yl_load (b := r1) (off := 1) 0 rfl (by kernel_rfl) rfl (by kernel_rfl)) ?_
  refine wd_go [5, 6] [(20, .pointer (some ⟨b, 3, none⟩)), (19, .pointer (some ⟨b, 0, none⟩))] #[true, true, true, true, true, true, true, false, false, false] (f := 3) rfl (by kernel_rfl) (fun w h => h) ?_
  refine wd_yl 7 (d := 21) (v := .pointer (some ⟨b, 3 + i * 7, none⟩)) (f := 2) rfl (by kernel_rfl) (by kernel_rfl) (fun w h => h) (yl_indexA (E := 93) (b := b) (off := 3) (len := 7) (k := i) (es := 7) rfl (by kernel_rfl) (by kernel_rfl) (by kernel_rfl) (by omega)) ?_
  refine wd_yl 8 (d := 22) (v := .pointer (some ⟨b, 3 + i * 7 + j * 1, none⟩)) (f := 1) rfl (by kernel_rfl) (by kernel_rfl) (fun w h => h) (yl_indexA (E := 4) (b := b) (off := 3 + i * 7) (len := 7) (k := j) (es := 1) rfl (by kernel_rfl) (by kernel_rfl) (by kernel_rfl) (by omega)) ?_
  refine wd_yl 9 (d := 23) (v := .bool (N.cut (i * 7 + j))) (f := 0) rfl (by kernel_rfl) (by kernel_rfl) (fun w h => h) (yl_load (b := b) (off := 3 + i * 7 + j * 1) 1 rfl (by kernel_rfl) rfl (netC_cut _ _ _ _ _ i j (by omega) (by omega))) ?_
  rw [hcut]
  refine wd_done (by kernel_rfl) ?_
  refine nx_list ?_
  refine nx_on ?_
  refine nx_then ?_
  refine wc_cond false (by kernel_rfl) (by kernel_rfl) (fun h => by cases h) (fun _ => ?_)
  refine nx_skip ?_
  refine nx_then ?_
  refine wc_seq ?_
  refine wc_region ?_
  refine wl_go 1 [(24, .pointer (some ⟨r1, 7, none⟩))] (by kernel_rfl) ?_
  refine wl_yl (d := 25) (v := ents) (by kernel_rfl) (yl_load (b := r1) (off := 7) 0 rfl (by kernel_rfl) rfl (by kernel_rfl)) ?_
  refine wl_callB (X := Value) (d := 26) (fun x => x) (fun wa y wz => Rd (fun k => wa.heap.size ≤ k) wz (.sl rows) y ∧ Below wa.heap.size wa wz) (by kernel_rfl) (by kernel_rfl) (fun w1 h1 => (copyEntries_ok rows hfit hby) w1 _ ents (h_ents.stays (h1.staysC (L0 := (⟨r1, #[.int .i64 (i : Int), .int .i64 (j : Int), .int .i64 kind, .int .i64 term, .int .i64 index, .int .i64 last, .int .i64 commit, ents, .bool ok], 59⟩ :: (([⟨b, (netC N.size N.delay N.now N.cut way), 97⟩] : List Blk) ++ R))) rfl))) ?_
  rintro wq1 vq1 wq2 h1 ⟨h_vq1, hb⟩
  have h_vq1 := h_vq1.stays (stays_newN (B := w.heap.size) h1 (Nat.le_trans htr.size h1.size))
  obtain ⟨a_vq1, c_vq1, rfl⟩ := Rd.slv h_vq1
  have hT := (h1.tr hb).cong (L0 := (⟨r1, #[.int .i64 (i : Int), .int .i64 (j : Int), .int .i64 kind, .int .i64 term, .int .i64 index, .int .i64 last, .int .i64 commit, ents, .bool ok], 59⟩ :: (([⟨b, (netC N.size N.delay N.now N.cut way), 97⟩] : List Blk) ++ R))) rfl
  have h_ents := h_ents.stays hT.stays
  have htr := htr.trans hT
  refine wl_eq (S := SH wq2 (([⟨r1, #[.int .i64 (i : Int), .int .i64 (j : Int), .int .i64 kind, .int .i64 term, .int .i64 index, .int .i64 last, .int .i64 commit, ents, .bool ok], 59⟩, ⟨b, (netC N.size N.delay N.now N.cut way), 97⟩] : List Blk) ++ R)) (h1.after hb) ?_
  refine wl_go 1 [(27, .pointer (some ⟨r1, 7, none⟩))] (by kernel_rfl) ?_
  refine wl_store (b := r1) (off := 7) (v := .slice a_vq1 rows.length c_vq1) (c' := #[.int .i64 (i : Int), .int .i64 (j : Int), .int .i64 kind, .int .i64 term, .int .i64 index, .int .i64 last, .int .i64 commit, .slice a_vq1 rows.length c_vq1, .bool ok]) (L' := (([⟨r1, #[.int .i64 (i : Int), .int .i64 (j : Int), .int .i64 kind, .int .i64 term, .int .i64 index, .int .i64 last, .int .i64 commit, .slice a_vq1 rows.length c_vq1, .bool ok], 59⟩, ⟨b, (netC N.size N.delay N.now N.cut way), 97⟩] : List Blk) ++ R)) 0 (by kernel_rfl) rfl (by kernel_rfl) (by kernel_rfl) rfl (by kernel_rfl) rfl ?_
  refine nx_list ?_
  refine nx_then ?_
  refine wc_seq ?_
  refine wc_draw 18 (SX wq2 [⟨r1, #[.int .i64 (i : Int), .int .i64 (j : Int), .int .i64 kind, .int .i64 term, .int .i64 index, .int .i64 last, .int .i64 commit, .slice a_vq1 rows.length c_vq1, .bool ok], 59⟩, ⟨b, (netC N.size N.delay N.now N.cut way), 97⟩] R) rfl (by decide) (fun w h => SH.drew h) ?_
  refine wd_go [0, 1, 2, 3] [(31, .pointer (some ⟨b, 52, none⟩)), (30, .pointer (some ⟨b, 0, none⟩)), (29, .pointer (some ⟨b, 0, none⟩)), (28, .pointer (some ⟨b, 0, none⟩))] #[true, true, true, true, false, false, false, false, false, false, false, false, false, false, false, false, false, false, false, false, false] (f := 14) rfl (by kernel_rfl) (fun w h => SX.of h) ?_
  refine wd_yl 4 (d := 32) (v := way) (f := 13) rfl (by kernel_rfl) (by kernel_rfl) (fun w h => SX.of h) (SX.yl (fun R1 => (yl_load (b := b) (off := 52) 1 rfl (by kernel_rfl) rfl (by kernel_rfl)))) ?_
  refine wd_go [5, 6, 7] [(35, .pointer (some ⟨b, 2, none⟩)), (34, .pointer (some ⟨b, 0, none⟩)), (33, .pointer (some ⟨b, 0, none⟩))] #[true, true, true, true, true, true, true, true, false, false, false, false, false, false, false, false, false, false, false, false, false] (f := 10) rfl (by kernel_rfl) (fun w h => SX.of h) ?_
  refine wd_yl 8 (d := 36) (v := .int .i64 N.now) (f := 9) rfl (by kernel_rfl) (by kernel_rfl) (fun w h => SX.of h) (SX.yl (fun R1 => (yl_load (b := b) (off := 2) 1 rfl (by kernel_rfl) rfl (by kernel_rfl)))) ?_
  refine wd_go [9, 10, 11] [(39, .pointer (some ⟨b, 1, none⟩)), (38, .pointer (some ⟨b, 0, none⟩)), (37, .pointer (some ⟨b, 0, none⟩))] #[true, true, true, true, true, true, true, true, true, true, true, true, false, false, false, false, false, false, false, false, false] (f := 6) rfl (by kernel_rfl) (fun w h => SX.of h) ?_
  refine wd_yl 12 (d := 40) (v := .int .i64 N.delay) (f := 5) rfl (by kernel_rfl) (by kernel_rfl) (fun w h => SX.of h) (SX.yl (fun R1 => (yl_load (b := b) (off := 1) 1 rfl (by kernel_rfl) rfl (by kernel_rfl)))) ?_
  refine wd_yl 13 (d := 41) (v := .int .i64 (N.now + N.delay)) (f := 4) rfl (by kernel_rfl) (by kernel_rfl) (fun w h => SX.of h) (yl_int (t := N.now + N.delay) (r := N.now + N.delay) (by kernel_rfl) (i64w (by omega) (by omega))) ?_
  refine wd_yl 14 (d := 42) (v := .agg #[.int .i64 (i : Int), .int .i64 (j : Int), .int .i64 kind, .int .i64 term, .int .i64 index, .int .i64 last, .int .i64 commit, .slice a_vq1 rows.length c_vq1, .bool ok]) (f := 3) rfl (by kernel_rfl) (by kernel_rfl) (fun w h => SX.of h) (SX.yl (fun R1 => (yl_load (b := r1) (off := 0) 0 rfl (by kernel_rfl) rfl (by kernel_rfl)))) ?_
  refine wd_go [15] [(43, .agg #[.int .i64 (N.now + N.delay), .int .i64 (i : Int), .int .i64 (j : Int), .int .i64 kind, .int .i64 term, .int .i64 index, .int .i64 last, .int .i64 commit, .slice a_vq1 rows.length c_vq1, .bool ok])] #[true, true, true, true, true, true, true, true, true, true, true, true, true, true, true, true, false, false, false, false, false] (f := 2) rfl (by kernel_rfl) (fun w h => SX.of h) ?_
  refine wd_newX (d := 44) (f := 1) 16 #[.int .i64 (N.now + N.delay), .int .i64 (i : Int), .int .i64 (j : Int), .int .i64 kind, .int .i64 term, .int .i64 index, .int .i64 last, .int .i64 commit, .slice a_vq1 rows.length c_vq1, .bool ok] 100 (fun r => .slice (some ⟨r, 0, none⟩) 1 1) rfl (by decide) (by kernel_rfl) (by kernel_rfl) (fun r => by kernel_rfl) (fun r w hr h => SX.of (SH.tail h hr)) ?_
  intro r2 hr2
  have h_ents := h_ents.stays (im_more (c := #[.int .i64 (N.now + N.delay), .int .i64 (i : Int), .int .i64 (j : Int), .int .i64 kind, .int .i64 term, .int .i64 index, .int .i64 last, .int .i64 commit, .slice a_vq1 rows.length c_vq1, .bool ok]) (t := 100) hr2)
  have h_vq1 := h_vq1.stays (nw_more (c := #[.int .i64 (N.now + N.delay), .int .i64 (i : Int), .int .i64 (j : Int), .int .i64 kind, .int .i64 term, .int .i64 index, .int .i64 last, .int .i64 commit, .slice a_vq1 rows.length c_vq1, .bool ok]) (t := 100) hr2)
  have htr := htr.more (c := #[.int .i64 (N.now + N.delay), .int .i64 (i : Int), .int .i64 (j : Int), .int .i64 kind, .int .i64 term, .int .i64 index, .int .i64 last, .int .i64 commit, .slice a_vq1 rows.length c_vq1, .bool ok]) (t := 100) hr2
  refine wd_append (L0 := [⟨r1, #[.int .i64 (i : Int), .int .i64 (j : Int), .int .i64 kind, .int .i64 term, .int .i64 index, .int .i64 last, .int .i64 commit, .slice a_vq1 rows.length c_vq1, .bool ok], 59⟩, ⟨b, (netC N.size N.delay N.now N.cut way), 97⟩]) (L := [⟨r2, #[.int .i64 (N.now + N.delay), .int .i64 (i : Int), .int .i64 (j : Int), .int .i64 kind, .int .i64 term, .int .i64 index, .int .i64 last, .int .i64 commit, .slice a_vq1 rows.length c_vq1, .bool ok], 100⟩, ⟨r1, #[.int .i64 (i : Int), .int .i64 (j : Int), .int .i64 kind, .int .i64 term, .int .i64 index, .int .i64 last, .int .i64 commit, .slice a_vq1 rows.length c_vq1, .bool ok], 59⟩, ⟨b, (netC N.size N.delay N.now N.cut way), 97⟩]) (R := R) (f := 0) (d := 45) 17 100 (.agg #[.int .i64 0, .int .i64 0, .int .i64 0, .int .i64 0, .int .i64 0, .int .i64 0, .int .i64 0, .int .i64 0, .slice none 0 0, .bool false]) 10 96 (v := way) (k := N.ps.length) (xs := flat N.ps) (a := ⟨r2, 0, none⟩) (m := 1) (c := 1) [.int .i64 (N.now + N.delay), .int .i64 (i : Int), .int .i64 (j : Int), .int .i64 kind, .int .i64 term, .int .i64 index, .int .i64 last, .int .i64 commit, .slice a_vq1 rows.length c_vq1, .bool ok] rfl (by decide) (by kernel_rfl) (by kernel_rfl) rfl (by kernel_rfl) rfl (by decide) (by kernel_rfl) hown (by kernel_rfl) rfl (fun w3 h3 => h3.news 0 rfl) ?_ ?_ ?_ (fun R1 w3 h3 => SH.tail h3 hr2) ?_
  · intro u hu; simp only [List.mem_cons, List.not_mem_nil, or_false] at hu; rcases hu with rfl | rfl | rfl | rfl | rfl | rfl | rfl | rfl | rfl | rfl <;> first | rfl | exact h_vq1.oneCell
  · simp only [maxLen]; omega
  · omega
  intro wq3 vq2 Rq3 hown2 hT
  have hT := hT.cong (L0 := (⟨r2, #[.int .i64 (N.now + N.delay), .int .i64 (i : Int), .int .i64 (j : Int), .int .i64 kind, .int .i64 term, .int .i64 index, .int .i64 last, .int .i64 commit, .slice a_vq1 rows.length c_vq1, .bool ok], 100⟩ :: (([⟨r1, #[.int .i64 (i : Int), .int .i64 (j : Int), .int .i64 kind, .int .i64 term, .int .i64 index, .int .i64 last, .int .i64 commit, ents, .bool ok], 59⟩, ⟨b, (netC N.size N.delay N.now N.cut way), 97⟩] : List Blk) ++ R))) rfl
  obtain ⟨a_vq2, c_vq2, rfl⟩ := hown2.val
  have h_ents := h_ents.stays hT.stays
  have h_vq1 := h_vq1.stays hT.staysN
  have htr := htr.trans hT
  refine wd_done (by kernel_rfl) ?_
  refine wl_go 2 [(47, .pointer (some ⟨b, 52, none⟩)), (46, .pointer (some ⟨b, 0, none⟩))] (by kernel_rfl) ?_
  refine wl_store (b := b) (off := 52) (v := .slice a_vq2 (N.ps.length + 1) c_vq2) (c' := netC N.size N.delay N.now N.cut (.slice a_vq2 (N.ps.length + 1) c_vq2)) (L' := (([⟨r2, #[.int .i64 (N.now + N.delay), .int .i64 (i : Int), .int .i64 (j : Int), .int .i64 kind, .int .i64 term, .int .i64 index, .int .i64 last, .int .i64 commit, .slice a_vq1 rows.length c_vq1, .bool ok], 100⟩, ⟨r1, #[.int .i64 (i : Int), .int .i64 (j : Int), .int .i64 kind, .int .i64 term, .int .i64 index, .int .i64 last, .int .i64 commit, .slice a_vq1 rows.length c_vq1, .bool ok], 59⟩, ⟨b, (netC N.size N.delay N.now N.cut (.slice a_vq2 (N.ps.length + 1) c_vq2)), 97⟩] : List Blk) ++ Rq3)) 2 (by kernel_rfl) rfl (by kernel_rfl) (by kernel_rfl) rfl (by kernel_rfl) rfl ?_
  refine nx_list ?_
  refine nx_on ?_
  refine nx_then ?_
  refine wc_seq ?_
  refine wc_region ?_
  refine wl_go 1 [(4, .int .i64 0)] (by kernel_rfl) ?_
  refine nx_list ?_
  refine nx_then ?_
  refine nx_ret ?_
  refine ret_tmp (v := .int .i64 0) rfl (by kernel_rfl) ?_
  intro w' hw'
  have h1 := hw'.here.drop1
  have h2 := h1.drop1
  refine ⟨_, .slice a_vq1 rows.length c_vq1, rfl, ⟨.slice a_vq2 (N.ps.length + 1) c_vq2, Rq3, rfl, ?_⟩, h2, ((htr.trans (hw'.trHere.cong rfl)).drop1).drop1, ?_⟩
  · simpa [flat, parC, Msg.cells] using hown2
  · exact ((h_vq1.stays (hw'.trHere.cong (L0 := (([⟨r2, #[.int .i64 (N.now + N.delay), .int .i64 (i : Int), .int .i64 (j : Int), .int .i64 kind, .int .i64 term, .int .i64 index, .int .i64 last, .int .i64 commit, .slice a_vq1 rows.length c_vq1, .bool ok], 100⟩, ⟨r1, #[.int .i64 (i : Int), .int .i64 (j : Int), .int .i64 kind, .int .i64 term, .int .i64 index, .int .i64 last, .int .i64 commit, .slice a_vq1 rows.length c_vq1, .bool ok], 59⟩, ⟨b, (netC N.size N.delay N.now N.cut way), 97⟩] : List Blk) ++ Rq3)) rfl).staysN).stays nw_drop1).stays nw_drop1

theorem SH.apart {wb w : World} {a y : Blk} {R S : List Blk} (h : SH wb (([a] ++ R) ++ S) w) (hy : y ∈ R) : y.b ≠ a.b := fun he => by
  obtain ⟨i, hi⟩ := List.getElem?_of_mem hy
  have hil := (List.getElem?_eq_some_iff.1 hi).1
  have := h.dis (i + 1) 0 y a (by rw [List.getElem?_append_left (by simp; omega)]; simpa using hi) rfl he
  omega
theorem RowV.low {wb : World} {L : List Blk} {B : Nat} {v : Value} {rv : List (List Value)} (h : RowV wb L B v rv) : RowV wb L 0 v rv := by
  obtain ⟨a, c, rfl, h⟩ := h
  refine ⟨a, c, rfl, ?_⟩
  rcases h with h | ⟨g, ha, _, hI, hr⟩
  · exact .inl h
  · exact .inr ⟨g, ha, Nat.zero_le _, hI, hr⟩
theorem tick_at (b : Nat) (N : NetS) (A : List Blk) (w : World) (hsh : SH w A w) (hnet : IsNet b N A) (hok : ∀ p ∈ N.ps, okP p) (hn1 : 0 ≤ N.now) (hn2 : N.now ≤ 1000000) (hps : N.ps.length ≤ 1000000) :
    Calls Try.prog 10 #[.pointer (some ⟨b, 0, none⟩)] w fun e w' => ∃ v A', e = .returned v ∧ IsNet b { N with now := N.now + 1, ps := keepP (N.now + 1) N.ps } A' ∧ SH w' A' w' ∧ Tr w A w' A' ∧ RowV w' A' w.heap.size v ((dlvr (N.now + 1) N.cut N.ps).map Msg.cells) := by
  obtain ⟨way, R, rfl, hown⟩ := hnet
  obtain ⟨wa, wc, rfl⟩ := hown.val
  have hrow : RowV w [⟨b, netC N.size N.delay N.now N.cut (.slice wa N.ps.length wc), 97⟩] 0 (.slice wa N.ps.length wc) (N.ps.map parC) := RowV.of_own (E := 100) (es := 10) (R := R) (by simpa [flat] using hown) hsh (by simp)
  refine Sx.enter (l := [.pointer (some ⟨b, 0, none⟩)]) Try.func10 rfl (n := 60) rfl (by simp) ?_
  refine wc_eq (S := SH w [⟨b, (netC N.size N.delay N.now N.cut (.slice wa N.ps.length wc)), 97⟩]) (SH.part (A := [⟨b, (netC N.size N.delay N.now N.cut (.slice wa N.ps.length wc)), 97⟩]) (L := R) hsh) ?_
  refine wc_seq ?_
  refine wc_region ?_
  refine wl_go 1 [(2, .slice none 0 0)] (by kernel_rfl) ?_
  refine nx_list ?_
  refine nx_then ?_
  refine wc_seq ?_
  refine wc_seq ?_
  refine wc_region ?_
  refine wl_go 2 [(8, .bool false), (7, .pointer (some ⟨b, 0, none⟩))] (by kernel_rfl) ?_
  refine nx_list ?_
  refine nx_then ?_
  refine wc_cond false (by kernel_rfl) (by kernel_rfl) (fun h => by cases h) (fun _ => ?_)
  refine nx_skip ?_
  refine nx_then ?_
  refine wc_seq ?_
  refine wc_region ?_
  refine wl_go 3 [(11, .pointer (some ⟨b, 2, none⟩)), (10, .pointer (some ⟨b, 0, none⟩)), (9, .pointer (some ⟨b, 0, none⟩))] (by kernel_rfl) ?_
  refine wl_yl (d := 12) (v := .int .i64 N.now) (by kernel_rfl) (yl_load (b := b) (off := 2) 0 rfl (by kernel_rfl) rfl (by kernel_rfl)) ?_
  refine wl_yl (d := 13) (v := .int .i64 (N.now + 1)) (by kernel_rfl) (yl_int (t := N.now + 1) (r := N.now + 1) (by kernel_rfl) (i64w (by omega) (by omega))) ?_
  refine wl_go 2 [(15, .pointer (some ⟨b, 2, none⟩)), (14, .pointer (some ⟨b, 0, none⟩))] (by kernel_rfl) ?_
  refine wl_store (b := b) (off := 2) (v := .int .i64 (N.now + 1)) (c' := netC N.size N.delay (N.now + 1) N.cut (.slice wa N.ps.length wc)) (L' := [⟨b, (netC N.size N.delay (N.now + 1) N.cut (.slice wa N.ps.length wc)), 97⟩]) 0 (by kernel_rfl) rfl (by kernel_rfl) (by kernel_rfl) rfl (by kernel_rfl) rfl ?_
  refine nx_list ?_
  refine nx_then ?_
  refine wc_seq ?_
  refine wc_region ?_
  refine wl_go 1 [(3, .slice none 0 0)] (by kernel_rfl) ?_
  refine nx_list ?_
  refine nx_then ?_
  refine wc_seq ?_
  refine wc_region ?_
  refine wl_go 1 [(4, .slice none 0 0)] (by kernel_rfl) ?_
  refine nx_list ?_
  refine nx_then ?_
  refine wc_seq ?_
  refine wc_seq ?_
  refine wc_region ?_
  refine wl_go 3 [(18, .pointer (some ⟨b, 52, none⟩)), (17, .pointer (some ⟨b, 0, none⟩)), (16, .pointer (some ⟨b, 0, none⟩))] (by kernel_rfl) ?_
  refine wl_yl (d := 19) (v := .slice wa N.ps.length wc) (by kernel_rfl) (yl_load (b := b) (off := 52) 0 rfl (by kernel_rfl) rfl (by kernel_rfl)) ?_
  refine wl_go 2 [(21, .int .i64 0), (20, .int .i64 (N.ps.length : Int))] (by kernel_rfl) ?_
  refine nx_list ?_
  refine nx_then ?_
  refine wc_block ?_
  refine wc_loop (σ := Tk w b N ⟨b, netC N.size N.delay N.now N.cut (.slice wa N.ps.length wc), 97⟩ ⟨b, netC N.size N.delay (N.now + 1) N.cut (.slice wa N.ps.length wc), 97⟩) (fun x => [(0, .pointer (some ⟨b, 0, none⟩)), (3, x.v3), (4, x.v4), (19, .slice wa N.ps.length wc), (20, .int .i64 (N.ps.length : Int)), (21, .int .i64 (x.i : Int))]) (fun x => SH x.wb ((([⟨b, netC N.size N.delay (N.now + 1) N.cut (.slice wa N.ps.length wc), 97⟩] : List Blk) ++ x.R3) ++ x.R4)) (fun x => N.ps.length - x.i) (fun w3 h3 => ⟨Tk.begin ((Tr.refl w [⟨b, netC N.size N.delay N.now N.cut (.slice wa N.ps.length wc), 97⟩]).congR rfl), h3, (subEnv_cons (by kernel_rfl) (subEnv_cons (by kernel_rfl) (subEnv_cons (by kernel_rfl) (subEnv_cons (by kernel_rfl) (subEnv_cons (by kernel_rfl) (subEnv_cons (by kernel_rfl) (subEnv_nil _)))))))⟩) (fun x => ?_)
  have htr := x.htr
  refine wc_seq ?_
  refine wc_region ?_
  refine wl_go 1 [(22, .bool (decide ((x.i : Int) < (N.ps.length : Int))))] (by kernel_rfl) ?_
  refine nx_list ?_
  refine nx_then ?_
  refine wc_seq ?_
  refine wc_cond (decide ((x.i : Int) < (N.ps.length : Int))) (by kernel_rfl) (by kernel_rfl) (fun hcl => ?_) (fun hcl => ?_)
  · skip
    have hlt : x.i < N.ps.length := by simpa using hcl
    obtain ⟨g, f, t, due, kind, term, index, last, commit, ea, en, ec, ok, rfl, hf, ht, hp, hI, hrg⟩ := x.row hrow hok hlt
    refine nx_skip ?_
    refine nx_then ?_
    refine wc_seq ?_
    refine wc_block ?_
    refine wc_seq ?_
    refine wc_region ?_
    refine wl_yl (d := 23) (v := .pointer (some ⟨g, 0 + x.i * 10, none⟩)) (by kernel_rfl) (yl_index (E := 100) (b := g) (off := 0) (len := N.ps.length) (cap := wc) (k := x.i) (es := 10) rfl (by kernel_rfl) (by kernel_rfl) (by kernel_rfl) (by omega)) ?_
    refine wl_yl (d := 24) (v := .agg #[.int .i64 due, .int .i64 (f : Int), .int .i64 (t : Int), .int .i64 kind, .int .i64 term, .int .i64 index, .int .i64 last, .int .i64 commit, .slice ea en ec, .bool ok]) (by kernel_rfl) (yl_loads_im (b := g) (off := 0 + x.i * 10) (cs := [.int .i64 due, .int .i64 (f : Int), .int .i64 (t : Int), .int .i64 kind, .int .i64 term, .int .i64 index, .int .i64 last, .int .i64 commit, .slice ea en ec, .bool ok]) rfl (by kernel_rfl) hI (by kernel_rfl) hrg) ?_
    refine wl_new (d := 6) #[.int .i64 0, .int .i64 0, .int .i64 0, .int .i64 0, .int .i64 0, .int .i64 0, .int .i64 0, .int .i64 0, .slice none 0 0, .bool false] 100 (fun r => .pointer (some ⟨r, 0, none⟩)) (by kernel_rfl) (fun r => by kernel_rfl) ?_
    intro r1 hr1
    have htr := htr.more (c := #[.int .i64 0, .int .i64 0, .int .i64 0, .int .i64 0, .int .i64 0, .int .i64 0, .int .i64 0, .int .i64 0, .slice none 0 0, .bool false]) (t := 100) hr1
    refine wl_store (b := r1) (off := 0) (v := .agg #[.int .i64 due, .int .i64 (f : Int), .int .i64 (t : Int), .int .i64 kind, .int .i64 term, .int .i64 index, .int .i64 last, .int .i64 commit, .slice ea en ec, .bool ok]) (c' := #[.int .i64 due, .int .i64 (f : Int), .int .i64 (t : Int), .int .i64 kind, .int .i64 term, .int .i64 index, .int .i64 last, .int .i64 commit, .slice ea en ec, .bool ok]) (L' := ((([⟨r1, #[.int .i64 due, .int .i64 (f : Int), .int .i64 (t : Int), .int .i64 kind, .int .i64 term, .int .i64 index, .int .i64 last, .int .i64 commit, .slice ea en ec, .bool ok], 100⟩, ⟨b, (netC N.size N.delay (N.now + 1) N.cut (.slice (some ⟨g, 0, none⟩) N.ps.length wc)), 97⟩] : List Blk) ++ x.R3) ++ x.R4)) 0 (by kernel_rfl) rfl (by kernel_rfl) (by kernel_rfl) rfl (by kernel_rfl) rfl ?_
    refine nx_list ?_
    refine nx_then ?_
    refine wc_seq ?_
    refine wc_draw 7 (SH x.wb ((([⟨r1, #[.int .i64 due, .int .i64 (f : Int), .int .i64 (t : Int), .int .i64 kind, .int .i64 term, .int .i64 index, .int .i64 last, .int .i64 commit, .slice ea en ec, .bool ok], 100⟩, ⟨b, (netC N.size N.delay (N.now + 1) N.cut (.slice (some ⟨g, 0, none⟩) N.ps.length wc)), 97⟩] : List Blk) ++ x.R3) ++ x.R4)) rfl (by decide) (fun w h => SH.drew h) ?_
    refine wd_go [0] [(25, .pointer (some ⟨r1, 0, none⟩))] #[true, false, false, false, false, false, false] (f := 6) rfl (by kernel_rfl) (fun w h => h) ?_
    refine wd_yl 1 (d := 26) (v := .int .i64 due) (f := 5) rfl (by kernel_rfl) (by kernel_rfl) (fun w h => h) (yl_load (b := r1) (off := 0) 0 rfl (by kernel_rfl) rfl (by kernel_rfl)) ?_
    refine wd_go [2, 3, 4] [(29, .pointer (some ⟨b, 2, none⟩)), (28, .pointer (some ⟨b, 0, none⟩)), (27, .pointer (some ⟨b, 0, none⟩))] #[true, true, true, true, true, false, false] (f := 2) rfl (by kernel_rfl) (fun w h => h) ?_
    refine wd_yl 5 (d := 30) (v := .int .i64 (N.now + 1)) (f := 1) rfl (by kernel_rfl) (by kernel_rfl) (fun w h => h) (yl_load (b := b) (off := 2) 1 rfl (by kernel_rfl) rfl (by kernel_rfl)) ?_
    refine wd_go [6] [(31, .bool (decide (due > N.now + 1)))] #[true, true, true, true, true, true, true] (f := 0) rfl (by kernel_rfl) (fun w h => h) ?_
    refine wd_done (by kernel_rfl) ?_
    refine nx_list ?_
    refine nx_on ?_
    refine nx_then ?_
    refine wc_cond (decide (due > N.now + 1)) (by kernel_rfl) (by kernel_rfl) (fun hcd => ?_) (fun hcd => ?_)
    · skip
      refine wc_region ?_
      refine wl_go 1 [(32, x.v4)] (by kernel_rfl) ?_
      refine wl_yl (d := 33) (v := .agg #[.int .i64 due, .int .i64 (f : Int), .int .i64 (t : Int), .int .i64 kind, .int .i64 term, .int .i64 index, .int .i64 last, .int .i64 commit, .slice ea en ec, .bool ok]) (by kernel_rfl) (yl_load (b := r1) (off := 0) 0 rfl (by kernel_rfl) rfl (by kernel_rfl)) ?_
      refine wl_new (d := 34) #[.int .i64 due, .int .i64 (f : Int), .int .i64 (t : Int), .int .i64 kind, .int .i64 term, .int .i64 index, .int .i64 last, .int .i64 commit, .slice ea en ec, .bool ok] 100 (fun r => .slice (some ⟨r, 0, none⟩) 1 1) (by kernel_rfl) (fun r => by kernel_rfl) ?_
      intro r2 hr2
      have htr := htr.more (c := #[.int .i64 due, .int .i64 (f : Int), .int .i64 (t : Int), .int .i64 kind, .int .i64 term, .int .i64 index, .int .i64 last, .int .i64 commit, .slice ea en ec, .bool ok]) (t := 100) hr2
      have hkl := keepP_le (N.now + 1) (N.ps.take x.i)
      have hdl := dlvr_le (N.now + 1) N.cut (N.ps.take x.i)
      have htk := List.length_take_le x.i N.ps
      have htr := htr.congR (L0 := ((([⟨r2, #[.int .i64 due, .int .i64 (f : Int), .int .i64 (t : Int), .int .i64 kind, .int .i64 term, .int .i64 index, .int .i64 last, .int .i64 commit, .slice ea en ec, .bool ok], 100⟩, ⟨r1, #[.int .i64 due, .int .i64 (f : Int), .int .i64 (t : Int), .int .i64 kind, .int .i64 term, .int .i64 index, .int .i64 last, .int .i64 commit, .slice ea en ec, .bool ok], 100⟩, ⟨b, (netC N.size N.delay (N.now + 1) N.cut (.slice (some ⟨g, 0, none⟩) N.ps.length wc)), 97⟩] : List Blk) ++ x.R3) ++ x.R4)) rfl
      refine wl_append' (L := ([⟨r2, #[.int .i64 due, .int .i64 (f : Int), .int .i64 (t : Int), .int .i64 kind, .int .i64 term, .int .i64 index, .int .i64 last, .int .i64 commit, .slice ea en ec, .bool ok], 100⟩, ⟨r1, #[.int .i64 due, .int .i64 (f : Int), .int .i64 (t : Int), .int .i64 kind, .int .i64 term, .int .i64 index, .int .i64 last, .int .i64 commit, .slice ea en ec, .bool ok], 100⟩, ⟨b, (netC N.size N.delay (N.now + 1) N.cut (.slice (some ⟨g, 0, none⟩) N.ps.length wc)), 97⟩] : List Blk) ++ x.R3) (R := x.R4) (d := 35) 100 (.agg #[.int .i64 0, .int .i64 0, .int .i64 0, .int .i64 0, .int .i64 0, .int .i64 0, .int .i64 0, .int .i64 0, .slice none 0 0, .bool false]) 10 96 (v := x.v4) (k := (keepP (N.now + 1) (N.ps.take x.i)).length) (xs := flat (keepP (N.now + 1) (N.ps.take x.i))) (a := ⟨r2, 0, none⟩) (m := 1) (c := 1) [.int .i64 due, .int .i64 (f : Int), .int .i64 (t : Int), .int .i64 kind, .int .i64 term, .int .i64 index, .int .i64 last, .int .i64 commit, .slice ea en ec, .bool ok] (by kernel_rfl) rfl (by kernel_rfl) rfl (by decide) (by kernel_rfl) x.own4 (by kernel_rfl) rfl (fun w3 h3 => h3.news 0 rfl) ?_ ?_ ?_ ?_
      · intro u hu; simp only [List.mem_cons, List.not_mem_nil, or_false] at hu; rcases hu with rfl | rfl | rfl | rfl | rfl | rfl | rfl | rfl | rfl | rfl <;> rfl
      · simp only [maxLen]; omega
      · omega
      intro wq1 vq1 Rq2 hown2 hT
      have htr := htr.trans hT
      refine wl_go 1 [(4, vq1)] (by kernel_rfl) ?_
      refine nx_list ?_
      refine nx_block ?_
      refine nx_then ?_
      refine wc_region ?_
      refine wl_yl (d := 54) (v := .int .i64 ((x.i : Int) + 1)) (by kernel_rfl) (yl_int (t := (x.i : Int) + 1) (r := (x.i : Int) + 1) (by kernel_rfl) (i64w (by omega) (by omega))) ?_
      refine wl_go 1 [(21, .int .i64 ((x.i : Int) + 1))] (by kernel_rfl) ?_
      refine nx_list ?_
      refine nx_round_w (fun w9 h9 => ?_)
      have hs9 := ((h9).drop1).drop1
      have htr9 := (((htr.trans (h9.trHere.cong rfl))).drop1).drop1
      exact ⟨x.nextA hp (by simpa using hcd) hown2 htr9, (show N.ps.length - (x.i + 1) < N.ps.length - x.i by omega), (subEnv_cons (by kernel_rfl) (subEnv_cons (by kernel_rfl) (subEnv_cons (by kernel_rfl) (subEnv_cons (by kernel_rfl) (subEnv_cons (by kernel_rfl) (subEnv_cons (by kernel_rfl) (subEnv_nil _))))))), hs9⟩
    · skip
      refine wc_seq ?_
      refine wc_draw 13 (SH x.wb ((([⟨r1, #[.int .i64 due, .int .i64 (f : Int), .int .i64 (t : Int), .int .i64 kind, .int .i64 term, .int .i64 index, .int .i64 last, .int .i64 commit, .slice ea en ec, .bool ok], 100⟩, ⟨b, (netC N.size N.delay (N.now + 1) N.cut (.slice (some ⟨g, 0, none⟩) N.ps.length wc)), 97⟩] : List Blk) ++ x.R3) ++ x.R4)) rfl (by decide) (fun w h => SH.drew h) ?_
      refine wd_go [0, 1, 2] [(38, .pointer (some ⟨r1, 1, none⟩)), (37, .pointer (some ⟨r1, 1, none⟩)), (36, .pointer (some ⟨b, 0, none⟩))] #[true, true, true, false, false, false, false, false, false, false, false, false, false] (f := 10) rfl (by kernel_rfl) (fun w h => h) ?_
      refine wd_yl 3 (d := 39) (v := .int .i64 (f : Int)) (f := 9) rfl (by kernel_rfl) (by kernel_rfl) (fun w h => h) (yl_load (b := r1) (off := 1) 0 rfl (by kernel_rfl) rfl (by kernel_rfl)) ?_
      refine wd_go [4, 5] [(41, .pointer (some ⟨r1, 2, none⟩)), (40, .pointer (some ⟨r1, 1, none⟩))] #[true, true, true, true, true, true, false, false, false, false, false, false, false] (f := 7) rfl (by kernel_rfl) (fun w h => h) ?_
      refine wd_yl 6 (d := 42) (v := .int .i64 (t : Int)) (f := 6) rfl (by kernel_rfl) (by kernel_rfl) (fun w h => h) (yl_load (b := r1) (off := 2) 0 rfl (by kernel_rfl) rfl (by kernel_rfl)) ?_
      refine wd_go [7, 8] [(44, .pointer (some ⟨b, 3, none⟩)), (43, .pointer (some ⟨b, 0, none⟩))] #[true, true, true, true, true, true, true, true, true, false, false, false, false] (f := 4) rfl (by kernel_rfl) (fun w h => h) ?_
      refine wd_yl 9 (d := 45) (v := .pointer (some ⟨b, 3 + f * 7, none⟩)) (f := 3) rfl (by kernel_rfl) (by kernel_rfl) (fun w h => h) (yl_indexA (E := 93) (b := b) (off := 3) (len := 7) (k := f) (es := 7) rfl (by kernel_rfl) (by kernel_rfl) (by kernel_rfl) (by omega)) ?_
      refine wd_yl 10 (d := 46) (v := .pointer (some ⟨b, 3 + f * 7 + t * 1, none⟩)) (f := 2) rfl (by kernel_rfl) (by kernel_rfl) (fun w h => h) (yl_indexA (E := 4) (b := b) (off := 3 + f * 7) (len := 7) (k := t) (es := 1) rfl (by kernel_rfl) (by kernel_rfl) (by kernel_rfl) (by omega)) ?_
      refine wd_yl 11 (d := 47) (v := .bool (N.cut (f * 7 + t))) (f := 1) rfl (by kernel_rfl) (by kernel_rfl) (fun w h => h) (yl_load (b := b) (off := 3 + f * 7 + t * 1) 1 rfl (by kernel_rfl) rfl (netC_cut _ _ _ _ _ f t (by omega) (by omega))) ?_
      refine wd_go [12] [(48, .bool (!(N.cut (f * 7 + t))))] #[true, true, true, true, true, true, true, true, true, true, true, true, true] (f := 0) rfl (by kernel_rfl) (fun w h => h) ?_
      refine wd_done (by kernel_rfl) ?_
      refine nx_list ?_
      refine nx_on ?_
      refine nx_then ?_
      refine wc_cond (!(N.cut (f * 7 + t))) (by kernel_rfl) (by kernel_rfl) (fun hcc => ?_) (fun hcc => ?_)
      · skip
        refine wc_region ?_
        refine wl_go 2 [(50, .pointer (some ⟨r1, 1, none⟩)), (49, x.v3)] (by kernel_rfl) ?_
        refine wl_yl (d := 51) (v := .agg #[.int .i64 (f : Int), .int .i64 (t : Int), .int .i64 kind, .int .i64 term, .int .i64 index, .int .i64 last, .int .i64 commit, .slice ea en ec, .bool ok]) (by kernel_rfl) (yl_load (b := r1) (off := 1) 0 rfl (by kernel_rfl) rfl (by kernel_rfl)) ?_
        refine wl_new (d := 52) #[.int .i64 (f : Int), .int .i64 (t : Int), .int .i64 kind, .int .i64 term, .int .i64 index, .int .i64 last, .int .i64 commit, .slice ea en ec, .bool ok] 59 (fun r => .slice (some ⟨r, 0, none⟩) 1 1) (by kernel_rfl) (fun r => by kernel_rfl) ?_
        intro r3 hr3
        have htr := htr.more (c := #[.int .i64 (f : Int), .int .i64 (t : Int), .int .i64 kind, .int .i64 term, .int .i64 index, .int .i64 last, .int .i64 commit, .slice ea en ec, .bool ok]) (t := 59) hr3
        have hkl := keepP_le (N.now + 1) (N.ps.take x.i)
        have hdl := dlvr_le (N.now + 1) N.cut (N.ps.take x.i)
        have htk := List.length_take_le x.i N.ps
        have htr := htr.congR (L0 := ((([⟨r3, #[.int .i64 (f : Int), .int .i64 (t : Int), .int .i64 kind, .int .i64 term, .int .i64 index, .int .i64 last, .int .i64 commit, .slice ea en ec, .bool ok], 59⟩, ⟨r1, #[.int .i64 due, .int .i64 (f : Int), .int .i64 (t : Int), .int .i64 kind, .int .i64 term, .int .i64 index, .int .i64 last, .int .i64 commit, .slice ea en ec, .bool ok], 100⟩, ⟨b, (netC N.size N.delay (N.now + 1) N.cut (.slice (some ⟨g, 0, none⟩) N.ps.length wc)), 97⟩] : List Blk) ++ x.R3) ++ x.R4)) rfl
        refine wl_weaken (fun _ _ h => h) (fun w h => SH.rot (A := [⟨r3, #[.int .i64 (f : Int), .int .i64 (t : Int), .int .i64 kind, .int .i64 term, .int .i64 index, .int .i64 last, .int .i64 commit, .slice ea en ec, .bool ok], 59⟩, ⟨r1, #[.int .i64 due, .int .i64 (f : Int), .int .i64 (t : Int), .int .i64 kind, .int .i64 term, .int .i64 index, .int .i64 last, .int .i64 commit, .slice ea en ec, .bool ok], 100⟩, ⟨b, (netC N.size N.delay (N.now + 1) N.cut (.slice (some ⟨g, 0, none⟩) N.ps.length wc)), 97⟩]) (R := x.R3) (S := x.R4) h) ?_
        have htr := htr.rotR
        refine wl_append' (L := ([⟨r3, #[.int .i64 (f : Int), .int .i64 (t : Int), .int .i64 kind, .int .i64 term, .int .i64 index, .int .i64 last, .int .i64 commit, .slice ea en ec, .bool ok], 59⟩, ⟨r1, #[.int .i64 due, .int .i64 (f : Int), .int .i64 (t : Int), .int .i64 kind, .int .i64 term, .int .i64 index, .int .i64 last, .int .i64 commit, .slice ea en ec, .bool ok], 100⟩, ⟨b, (netC N.size N.delay (N.now + 1) N.cut (.slice (some ⟨g, 0, none⟩) N.ps.length wc)), 97⟩] : List Blk) ++ x.R4) (R := x.R3) (d := 53) 59 (.agg #[.int .i64 0, .int .i64 0, .int .i64 0, .int .i64 0, .int .i64 0, .int .i64 0, .int .i64 0, .slice none 0 0, .bool false]) 9 88 (v := x.v3) (k := (dlvr (N.now + 1) N.cut (N.ps.take x.i)).length) (xs := flatM (dlvr (N.now + 1) N.cut (N.ps.take x.i))) (a := ⟨r3, 0, none⟩) (m := 1) (c := 1) [.int .i64 (f : Int), .int .i64 (t : Int), .int .i64 kind, .int .i64 term, .int .i64 index, .int .i64 last, .int .i64 commit, .slice ea en ec, .bool ok] (by kernel_rfl) rfl (by kernel_rfl) rfl (by decide) (by kernel_rfl) x.own3 (by kernel_rfl) rfl (fun w3 h3 => h3.news 0 rfl) ?_ ?_ ?_ ?_
        · intro u hu; simp only [List.mem_cons, List.not_mem_nil, or_false] at hu; rcases hu with rfl | rfl | rfl | rfl | rfl | rfl | rfl | rfl | rfl <;> rfl
        · simp only [maxLen]; omega
        · omega
        intro wq2 vq3 Rq4 hown2 hT
        have htr := htr.trans hT
        refine wl_weaken (fun _ _ h => h) (fun w h => SH.rot (A := [⟨r3, #[.int .i64 (f : Int), .int .i64 (t : Int), .int .i64 kind, .int .i64 term, .int .i64 index, .int .i64 last, .int .i64 commit, .slice ea en ec, .bool ok], 59⟩, ⟨r1, #[.int .i64 due, .int .i64 (f : Int), .int .i64 (t : Int), .int .i64 kind, .int .i64 term, .int .i64 index, .int .i64 last, .int .i64 commit, .slice ea en ec, .bool ok], 100⟩, ⟨b, (netC N.size N.delay (N.now + 1) N.cut (.slice (some ⟨g, 0, none⟩) N.ps.length wc)), 97⟩]) (R := x.R4) (S := Rq4) h) ?_
        have htr := htr.rotR
        refine wl_go 1 [(3, vq3)] (by kernel_rfl) ?_
        refine nx_list ?_
        refine nx_block ?_
        refine nx_then ?_
        refine wc_region ?_
        refine wl_yl (d := 54) (v := .int .i64 ((x.i : Int) + 1)) (by kernel_rfl) (yl_int (t := (x.i : Int) + 1) (r := (x.i : Int) + 1) (by kernel_rfl) (i64w (by omega) (by omega))) ?_
        refine wl_go 1 [(21, .int .i64 ((x.i : Int) + 1))] (by kernel_rfl) ?_
        refine nx_list ?_
        refine nx_round_w (fun w9 h9 => ?_)
        have hs9 := ((h9).drop1).drop1
        have htr9 := (((htr.trans (h9.trHere.cong rfl))).drop1).drop1
        exact ⟨x.nextB hp (by simpa using hcd) (by simpa [cutOf] using hcc) hown2 htr9, (show N.ps.length - (x.i + 1) < N.ps.length - x.i by omega), (subEnv_cons (by kernel_rfl) (subEnv_cons (by kernel_rfl) (subEnv_cons (by kernel_rfl) (subEnv_cons (by kernel_rfl) (subEnv_cons (by kernel_rfl) (subEnv_cons (by kernel_rfl) (subEnv_nil _))))))), hs9⟩
      · skip
        refine nx_skip ?_
        refine nx_block ?_
        refine nx_then ?_
        refine wc_region ?_
        refine wl_yl (d := 54) (v := .int .i64 ((x.i : Int) + 1)) (by kernel_rfl) (yl_int (t := (x.i : Int) + 1) (r := (x.i : Int) + 1) (by kernel_rfl) (i64w (by omega) (by omega))) ?_
        refine wl_go 1 [(21, .int .i64 ((x.i : Int) + 1))] (by kernel_rfl) ?_
        refine nx_list ?_
        refine nx_round_w (fun w9 h9 => ?_)
        have hs9 := (h9).drop1
        have htr9 := ((htr.trans (h9.trHere.cong rfl))).drop1
        exact ⟨x.nextC hp (by simpa using hcd) (by simpa [cutOf] using hcc) htr9, (show N.ps.length - (x.i + 1) < N.ps.length - x.i by omega), (subEnv_cons (by kernel_rfl) (subEnv_cons (by kernel_rfl) (subEnv_cons (by kernel_rfl) (subEnv_cons (by kernel_rfl) (subEnv_cons (by kernel_rfl) (subEnv_cons (by kernel_rfl) (subEnv_nil _))))))), hs9⟩
  · skip
    have hge : N.ps.length ≤ x.i := by simpa using hcl
    obtain ⟨a4, c4, hv4⟩ := x.own4.val
    rw [hv4]
    refine nx_exit ?_
    refine nx_then_exit ?_
    refine nx_then_exit ?_
    refine nx_block_here ?_
    refine nx_then ?_
    refine wc_seq ?_
    refine wc_region ?_
    refine wl_go 4 [(58, .pointer (some ⟨b, 52, none⟩)), (57, .pointer (some ⟨b, 0, none⟩)), (56, .slice a4 ((keepP (N.now + 1) (N.ps.take x.i)).length) c4), (55, .pointer (some ⟨b, 0, none⟩))] (by kernel_rfl) ?_
    refine wl_store (b := b) (off := 52) (v := .slice a4 ((keepP (N.now + 1) (N.ps.take x.i)).length) c4) (c' := netC N.size N.delay (N.now + 1) N.cut (.slice a4 ((keepP (N.now + 1) (N.ps.take x.i)).length) c4)) (L' := ((([⟨b, (netC N.size N.delay (N.now + 1) N.cut (.slice a4 ((keepP (N.now + 1) (N.ps.take x.i)).length) c4)), 97⟩] : List Blk) ++ x.R3) ++ x.R4)) 0 (by kernel_rfl) rfl (by kernel_rfl) (by kernel_rfl) rfl (by kernel_rfl) rfl ?_
    refine nx_list ?_
    refine nx_then ?_
    refine wc_seq ?_
    refine wc_region ?_
    refine wl_go 2 [(2, x.v3), (59, x.v3)] (by kernel_rfl) ?_
    refine nx_list ?_
    refine nx_then ?_
    refine nx_ret ?_
    refine ret_tmp (v := x.v3) rfl (by kernel_rfl) ?_
    intro w' hw'
    have et : N.ps.take x.i = N.ps := List.take_of_length_le hge
    have o3 := x.own3
    have o4 := x.own4
    rw [hv4] at o4
    rw [et] at o3 o4 hw'
    have hr := hw'.rot
    refine ⟨x.v3, _, rfl, ⟨_, x.R4, rfl, o4⟩, hr.part, ((htr.trans (hw'.trHere.cong rfl)).less ?_).wide (by simp), RowV.of_own (B := w.heap.size) (E := 59) (es := 9) ?_ hr ?_⟩
    · intro y hy; simp only [List.mem_append, List.mem_cons, List.cons_append, List.nil_append, List.mem_singleton] at hy ⊢; rcases hy with hy | hy <;> simp [hy]
    · simpa [flatM] using o3
    · intro y hy
      rcases htr.new (x := y) (by simp [hy]) with h | ⟨z, hz, he⟩
      · exact h
      · rw [List.mem_singleton] at hz
        subst hz
        exact SH.apart hw' hy he.symm |>.elim

theorem tick_ok (b : Nat) (N : NetS) (A : List Blk) (w : World) (hsh : SH w A w) (hnet : IsNet b N A) (hok : ∀ p ∈ N.ps, okP p) (hn1 : 0 ≤ N.now) (hn2 : N.now ≤ 1000000) (hps : N.ps.length ≤ 1000000) :
    Calls Try.prog 10 #[.pointer (some ⟨b, 0, none⟩)] w fun e w' => ∃ v A', e = .returned v ∧ IsNet b { N with now := N.now + 1, ps := keepP (N.now + 1) N.ps } A' ∧ SH w' A' w' ∧ Tr w A w' A' ∧ RowV w' A' 0 v ((dlvr (N.now + 1) N.cut N.ps).map Msg.cells) :=
  (tick_at b N A w hsh hnet hok hn1 hn2 hps).mono (fun e w' ⟨v, A', he, h1, h2, h3, h4⟩ => ⟨v, A', he, h1, h2, h3, RowV.low h4⟩)

end Go.Proofs.Ytidkaipijocjcaa
