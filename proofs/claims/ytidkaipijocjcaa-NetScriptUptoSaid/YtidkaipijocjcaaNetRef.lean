/- Contracts of docstoreref46, printed by a program of this repository (gen/netref.py). -/
import Derived.Test.YtidkaipijocjcaaNetDv
import Derived.Test.YtidkaipijocjcaaBk
import Derived.Test.YtidkaipijocjcaaEq2
namespace Go.Proofs.Ytidkaipijocjcaa
open Go.RowKit Go.Sx
set_option linter.unusedVariables false
set_option linter.unusedSimpArgs false

def mn (a b : Int) : Int := if b < a then b else a
def mx (a b : Int) : Int := if b > a then b else a
def gRow (p : Int × Int) : List D := [.int p.1, .int p.2]
def gCells (p : Int × Int) : List Value := [.int .i64 p.1, .int .i64 p.2]
def gFlat (l : List (Int × Int)) : List Value := (l.map gCells).flatten
def isK (a c : Int) (p : Int × Int) : Bool := (p.1 == mn a c) && (p.2 == mx a c)
def inG (gl : List (Int × Int)) (a c : Int) : Bool := gl.any (isK a c)
def upR (n : Int) (gl : List (Int × Int)) (a c : Int) : Bool := if inG gl a c = true then false else pairB n a c
def wo (a c : Int) (gl : List (Int × Int)) : List (Int × Int) := gl.filter (fun p => !isK a c p)
def rowS (x : Int × List D) : List D := .int x.1 :: x.2
theorem gRow_len {gl : List (Int × Int)} : ∀ r ∈ gl.map gRow, r.length = 2 := fun r hr => by
  obtain ⟨p, _, rfl⟩ := List.mem_map.1 hr
  rfl
theorem gRow_vals {S : Nat → Prop} {w : World} {p : Int × Int} {cs : List Value} (h : RdL S w (gRow p) cs) : cs = gCells p := by
  obtain ⟨c0, z0, rfl, h0, h⟩ := RdL.cons h
  obtain ⟨c1, z1, rfl, h1, h⟩ := RdL.cons h
  obtain rfl := RdL.nil h
  rw [Rd] at h0
  rw [Rd] at h1
  subst h0 h1
  rfl
theorem gFlat_rd {S : Nat → Prop} {w : World} : ∀ (l : List (Int × Int)), RdR S w (l.map gRow) (l.map gCells)
  | [] => trivial
  | p :: l => ⟨⟨by rw [Rd], by rw [Rd], trivial⟩, gFlat_rd l⟩
theorem take_snocG {α : Type} {l : List α} {i : Nat} {p : α} (h : l[i]? = some p) : l.take (i + 1) = l.take i ++ [p] := by rw [List.take_add_one, h]; rfl
theorem rPair_ok (n d now : Int) (wv gv : Value) (a c : Int) (w : World) : Calls Try.prog 37 #[.agg #[.int .i64 n, .int .i64 d, .int .i64 now, wv, gv], .int .i64 a, .int .i64 c] w (fun e w' => e = .returned (.bool (pairB n a c)) ∧ Below w.heap.size w w') := by
  refine Sx.enter (l := [.agg #[.int .i64 n, .int .i64 d, .int .i64 now, wv, gv], .int .i64 a, .int .i64 c]) Try.func37 rfl (n := 30) rfl (by simp) ?_
  refine wc_eq (S := SH w []) (SH.refl _) ?_
  refine wc_seq ?_
  refine wc_region ?_
  refine wl_new (d := 3) #[.int .i64 n, .int .i64 d, .int .i64 now, wv, gv] 79 (fun r => .pointer (some ⟨r, 0, none⟩)) (by kernel_rfl) (fun r => by kernel_rfl) ?_
  intro r1 hr1
  refine wl_go 1 [(6, .bool false)] (by kernel_rfl) ?_
  refine nx_list ?_
  refine nx_then ?_
  refine wc_seq ?_
  refine wc_region ?_
  refine wl_go 3 [(9, .bool (decide (a ≥ 0))), (8, .bool (decide (a ≥ 0))), (7, .int .i64 a)] (by kernel_rfl) ?_
  cases hc1 : (decide (a ≥ 0))
  · skip
    refine wl_go 21 [(6, .bool false), (29, .bool false), (28, undef), (27, undef), (26, undef), (25, .bool false), (24, .bool false), (23, undef), (22, undef), (21, undef), (20, undef), (19, .bool false), (18, .bool false), (17, undef), (16, undef), (15, .bool false), (14, .bool false), (13, undef), (12, undef), (11, undef), (10, undef)] (by kernel_rfl) ?_
    refine nx_list ?_
    refine nx_then ?_
    refine nx_ret ?_
    refine ret_tmp (v := .bool false) rfl (by kernel_rfl) ?_
    intro w' hw'
    exact ⟨by simp [pairB, hc1], hw'.below (Below.refl _ _) (Nat.le_refl _) (ge_cons hr1 (ge_nil _))⟩
  · skip
    refine wl_go 2 [(11, .pointer (some ⟨r1, 0, none⟩)), (10, .int .i64 a)] (by kernel_rfl) ?_
    refine wl_yl (d := 12) (v := .int .i64 n) (by kernel_rfl) (yl_load (b := r1) (off := 0) 0 rfl (by kernel_rfl) rfl (by kernel_rfl)) ?_
    refine wl_go 3 [(15, .bool (decide (a < n))), (14, .bool (decide (a < n))), (13, .bool (decide (a < n)))] (by kernel_rfl) ?_
    cases hc2 : (decide (a < n))
    · skip
      refine wl_go 15 [(6, .bool false), (29, .bool false), (28, undef), (27, undef), (26, undef), (25, .bool false), (24, .bool false), (23, undef), (22, undef), (21, undef), (20, undef), (19, .bool false), (18, .bool false), (17, undef), (16, undef)] (by kernel_rfl) ?_
      refine nx_list ?_
      refine nx_then ?_
      refine nx_ret ?_
      refine ret_tmp (v := .bool false) rfl (by kernel_rfl) ?_
      intro w' hw'
      exact ⟨by simp [pairB, hc1, hc2], hw'.below (Below.refl _ _) (Nat.le_refl _) (ge_cons hr1 (ge_nil _))⟩
    · skip
      refine wl_go 4 [(19, .bool (decide (c ≥ 0))), (18, .bool (decide (c ≥ 0))), (17, .bool (decide (c ≥ 0))), (16, .int .i64 c)] (by kernel_rfl) ?_
      cases hc3 : (decide (c ≥ 0))
      · skip
        refine wl_go 11 [(6, .bool false), (29, .bool false), (28, undef), (27, undef), (26, undef), (25, .bool false), (24, .bool false), (23, undef), (22, undef), (21, undef), (20, undef)] (by kernel_rfl) ?_
        refine nx_list ?_
        refine nx_then ?_
        refine nx_ret ?_
        refine ret_tmp (v := .bool false) rfl (by kernel_rfl) ?_
        intro w' hw'
        exact ⟨by simp [pairB, hc1, hc2, hc3], hw'.below (Below.refl _ _) (Nat.le_refl _) (ge_cons hr1 (ge_nil _))⟩
      · skip
        refine wl_go 2 [(21, .pointer (some ⟨r1, 0, none⟩)), (20, .int .i64 c)] (by kernel_rfl) ?_
        refine wl_yl (d := 22) (v := .int .i64 n) (by kernel_rfl) (yl_load (b := r1) (off := 0) 0 rfl (by kernel_rfl) rfl (by kernel_rfl)) ?_
        refine wl_go 3 [(25, .bool (decide (c < n))), (24, .bool (decide (c < n))), (23, .bool (decide (c < n)))] (by kernel_rfl) ?_
        cases hc4 : (decide (c < n))
        · skip
          refine wl_go 5 [(6, .bool false), (29, .bool false), (28, undef), (27, undef), (26, undef)] (by kernel_rfl) ?_
          refine nx_list ?_
          refine nx_then ?_
          refine nx_ret ?_
          refine ret_tmp (v := .bool false) rfl (by kernel_rfl) ?_
          intro w' hw'
          exact ⟨by simp [pairB, hc1, hc2, hc3, hc4], hw'.below (Below.refl _ _) (Nat.le_refl _) (ge_cons hr1 (ge_nil _))⟩
        · skip
          refine wl_go 5 [(6, .bool (a != c)), (29, .bool (a != c)), (28, .bool (a != c)), (27, .int .i64 c), (26, .int .i64 a)] (by kernel_rfl) ?_
          refine nx_list ?_
          refine nx_then ?_
          refine nx_ret ?_
          refine ret_tmp (v := .bool (a != c)) rfl (by kernel_rfl) ?_
          intro w' hw'
          exact ⟨by simp [pairB, hc1, hc2, hc3, hc4], hw'.below (Below.refl _ _) (Nat.le_refl _) (ge_cons hr1 (ge_nil _))⟩

theorem rLen_ok (n d now : Int) (wa : Option Addr) (k wc : Nat) (gv : Value) (w : World) : Calls Try.prog 31 #[.agg #[.int .i64 n, .int .i64 d, .int .i64 now, .slice wa k wc, gv]] w (fun e w' => e = .returned (.int .i64 (k : Int)) ∧ Below w.heap.size w w') := by
  refine Sx.enter (l := [.agg #[.int .i64 n, .int .i64 d, .int .i64 now, .slice wa k wc, gv]]) Try.func31 rfl (n := 6) rfl (by simp) ?_
  refine wc_eq (S := SH w []) (SH.refl _) ?_
  refine wc_seq ?_
  refine wc_region ?_
  refine wl_new (d := 1) #[.int .i64 n, .int .i64 d, .int .i64 now, .slice wa k wc, gv] 79 (fun r => .pointer (some ⟨r, 0, none⟩)) (by kernel_rfl) (fun r => by kernel_rfl) ?_
  intro r1 hr1
  refine wl_go 1 [(2, .int .i64 0)] (by kernel_rfl) ?_
  refine nx_list ?_
  refine nx_then ?_
  refine wc_seq ?_
  refine wc_region ?_
  refine wl_go 1 [(3, .pointer (some ⟨r1, 3, none⟩))] (by kernel_rfl) ?_
  refine wl_yl (d := 4) (v := .slice wa k wc) (by kernel_rfl) (yl_load (b := r1) (off := 3) 0 rfl (by kernel_rfl) rfl (by kernel_rfl)) ?_
  refine wl_go 2 [(2, .int .i64 (k : Int)), (5, .int .i64 (k : Int))] (by kernel_rfl) ?_
  refine nx_list ?_
  refine nx_then ?_
  refine nx_ret ?_
  refine ret_tmp (v := .int .i64 (k : Int)) rfl (by kernel_rfl) ?_
  intro w' hw'
  exact ⟨rfl, hw'.below (Below.refl _ _) (Nat.le_refl _) (ge_cons hr1 (ge_nil _))⟩

theorem rNew_ok (n d : Int) (w : World) (h1 : 1 ≤ n) (h2 : n ≤ 7) (h3 : 1 ≤ d) (h4 : d ≤ 16) :
    Calls Try.prog 22 #[.int .i64 n, .int .i64 d] w (fun e w' => e = .returned (.tuple #[.agg #[.int .i64 n, .int .i64 d, .int .i64 0, .slice none 0 0, .slice none 0 0], .int .i64 0]) ∧ Below w.heap.size w w') := by
  have g1 : decide (n < 1) = false := by simp; omega
  have g2 : decide (n > 7) = false := by simp; omega
  have g3 : decide (d < 1) = false := by simp; omega
  have g4 : decide (d > 16) = false := by simp; omega
  refine Sx.enter (l := [.int .i64 n, .int .i64 d]) Try.func22 rfl (n := 24) rfl (by simp) ?_
  refine wc_eq (S := SH w []) (SH.refl _) ?_
  refine wc_seq ?_
  refine wc_region ?_
  refine wl_new (d := 4) #[.int .i64 0, .int .i64 0, .int .i64 0, .slice none 0 0, .slice none 0 0] 79 (fun r => .pointer (some ⟨r, 0, none⟩)) (by kernel_rfl) (fun r => by kernel_rfl) ?_
  intro r1 hr1
  refine wl_go 1 [(5, .int .i64 0)] (by kernel_rfl) ?_
  refine nx_list ?_
  refine nx_then ?_
  refine wc_seq ?_
  refine wc_seq ?_
  refine wc_region ?_
  refine wl_go 2 [(7, .bool (decide (n < 1))), (6, .int .i64 n)] (by kernel_rfl) ?_
  rw [g1]
  refine wl_go 3 [(10, .bool (decide (n > 7))), (9, .int .i64 n), (8, .bool false)] (by kernel_rfl) ?_
  rw [g2]
  refine wl_go 4 [(14, .bool (decide (d < 1))), (13, .int .i64 d), (12, .bool false), (11, .bool false)] (by kernel_rfl) ?_
  rw [g3]
  refine wl_go 4 [(18, .bool (decide (d > 16))), (17, .int .i64 d), (16, .bool false), (15, .bool false)] (by kernel_rfl) ?_
  rw [g4]
  refine wl_go 1 [(19, .bool false)] (by kernel_rfl) ?_
  refine nx_list ?_
  refine nx_then ?_
  refine wc_cond false (by kernel_rfl) (by kernel_rfl) (fun h => by cases h) (fun _ => ?_)
  refine nx_skip ?_
  refine nx_then ?_
  refine wc_seq ?_
  refine wc_region ?_
  refine wl_go 3 [(23, .agg #[.int .i64 n, .int .i64 d, .int .i64 0, .slice none 0 0, .slice none 0 0]), (22, .int .i64 d), (21, .int .i64 n)] (by kernel_rfl) ?_
  refine wl_store (b := r1) (off := 0) (v := .agg #[.int .i64 n, .int .i64 d, .int .i64 0, .slice none 0 0, .slice none 0 0]) (c' := #[.int .i64 n, .int .i64 d, .int .i64 0, .slice none 0 0, .slice none 0 0]) (L' := [⟨r1, #[.int .i64 n, .int .i64 d, .int .i64 0, .slice none 0 0, .slice none 0 0], 79⟩]) 0 (by kernel_rfl) rfl (by kernel_rfl) (by kernel_rfl) rfl (by kernel_rfl) rfl ?_
  refine wl_go 1 [(5, .int .i64 0)] (by kernel_rfl) ?_
  refine nx_list ?_
  refine nx_then ?_
  refine nx_ret ?_
  refine ret_cellT (v := .agg #[.int .i64 n, .int .i64 d, .int .i64 0, .slice none 0 0, .slice none 0 0]) (v' := .int .i64 0) (b := r1) (off := 0) 0 rfl (by kernel_rfl) rfl (by kernel_rfl) (by kernel_rfl) ?_
  intro w' hw'
  exact ⟨rfl, hw'.below (Below.refl _ _) (Nat.le_refl _) (ge_cons hr1 (ge_nil _))⟩

theorem rNew_no (n d : Int) (w : World) (h : n < 1 ∨ 7 < n ∨ d < 1 ∨ 16 < d) :
    Calls Try.prog 22 #[.int .i64 n, .int .i64 d] w (fun e w' => e = .returned (.tuple #[.agg #[.int .i64 0, .int .i64 0, .int .i64 0, .slice none 0 0, .slice none 0 0], .int .i64 1]) ∧ Below w.heap.size w w') := by
  refine Sx.enter (l := [.int .i64 n, .int .i64 d]) Try.func22 rfl (n := 24) rfl (by simp) ?_
  refine wc_eq (S := SH w []) (SH.refl _) ?_
  refine wc_seq ?_
  refine wc_region ?_
  refine wl_new (d := 4) #[.int .i64 0, .int .i64 0, .int .i64 0, .slice none 0 0, .slice none 0 0] 79 (fun r => .pointer (some ⟨r, 0, none⟩)) (by kernel_rfl) (fun r => by kernel_rfl) ?_
  intro r1 hr1
  refine wl_go 1 [(5, .int .i64 0)] (by kernel_rfl) ?_
  refine nx_list ?_
  refine nx_then ?_
  refine wc_seq ?_
  refine wc_seq ?_
  refine wc_region ?_
  refine wl_go 3 [(8, .bool (decide (n < 1))), (7, .bool (decide (n < 1))), (6, .int .i64 n)] (by kernel_rfl) ?_
  cases hc1 : (decide (n < 1))
  · skip
    refine wl_go 4 [(12, .bool (decide (n > 7))), (11, .bool (decide (n > 7))), (10, .bool (decide (n > 7))), (9, .int .i64 n)] (by kernel_rfl) ?_
    cases hc2 : (decide (n > 7))
    · skip
      refine wl_go 4 [(16, .bool (decide (d < 1))), (15, .bool (decide (d < 1))), (14, .bool (decide (d < 1))), (13, .int .i64 d)] (by kernel_rfl) ?_
      cases hc3 : (decide (d < 1))
      · skip
        refine wl_go 3 [(19, .bool (decide (d > 16))), (18, .bool (decide (d > 16))), (17, .int .i64 d)] (by kernel_rfl) ?_
        refine nx_list ?_
        refine nx_then ?_
        refine wc_cond (decide (d > 16)) (by kernel_rfl) (by kernel_rfl) (fun hc4 => ?_) (fun hc4 => ?_)
        · skip
          refine wc_seq ?_
          refine wc_region ?_
          refine wl_go 1 [(20, .agg #[.int .i64 0, .int .i64 0, .int .i64 0, .slice none 0 0, .slice none 0 0])] (by kernel_rfl) ?_
          refine wl_store (b := r1) (off := 0) (v := .agg #[.int .i64 0, .int .i64 0, .int .i64 0, .slice none 0 0, .slice none 0 0]) (c' := #[.int .i64 0, .int .i64 0, .int .i64 0, .slice none 0 0, .slice none 0 0]) (L' := [⟨r1, #[.int .i64 0, .int .i64 0, .int .i64 0, .slice none 0 0, .slice none 0 0], 79⟩]) 0 (by kernel_rfl) rfl (by kernel_rfl) (by kernel_rfl) rfl (by kernel_rfl) rfl ?_
          refine wl_go 1 [(5, .int .i64 1)] (by kernel_rfl) ?_
          refine nx_list ?_
          refine nx_then ?_
          refine nx_ret ?_
          refine nx_then_ret ?_
          refine ret_cellT (v := .agg #[.int .i64 0, .int .i64 0, .int .i64 0, .slice none 0 0, .slice none 0 0]) (v' := .int .i64 1) (b := r1) (off := 0) 0 rfl (by kernel_rfl) rfl (by kernel_rfl) (by kernel_rfl) ?_
          intro w' hw'
          exact ⟨rfl, hw'.below (Below.refl _ _) (Nat.le_refl _) (ge_cons hr1 (ge_nil _))⟩
        · skip
          exfalso
          simp only [decide_eq_false_iff_not, gt_iff_lt] at *
          omega
      · skip
        refine wl_go 3 [(19, .bool true), (18, undef), (17, undef)] (by kernel_rfl) ?_
        refine nx_list ?_
        refine nx_then ?_
        refine wc_cond true (by kernel_rfl) (by kernel_rfl) (fun _ => ?_) (fun h => by cases h)
        refine wc_seq ?_
        refine wc_region ?_
        refine wl_go 1 [(20, .agg #[.int .i64 0, .int .i64 0, .int .i64 0, .slice none 0 0, .slice none 0 0])] (by kernel_rfl) ?_
        refine wl_store (b := r1) (off := 0) (v := .agg #[.int .i64 0, .int .i64 0, .int .i64 0, .slice none 0 0, .slice none 0 0]) (c' := #[.int .i64 0, .int .i64 0, .int .i64 0, .slice none 0 0, .slice none 0 0]) (L' := [⟨r1, #[.int .i64 0, .int .i64 0, .int .i64 0, .slice none 0 0, .slice none 0 0], 79⟩]) 0 (by kernel_rfl) rfl (by kernel_rfl) (by kernel_rfl) rfl (by kernel_rfl) rfl ?_
        refine wl_go 1 [(5, .int .i64 1)] (by kernel_rfl) ?_
        refine nx_list ?_
        refine nx_then ?_
        refine nx_ret ?_
        refine nx_then_ret ?_
        refine ret_cellT (v := .agg #[.int .i64 0, .int .i64 0, .int .i64 0, .slice none 0 0, .slice none 0 0]) (v' := .int .i64 1) (b := r1) (off := 0) 0 rfl (by kernel_rfl) rfl (by kernel_rfl) (by kernel_rfl) ?_
        intro w' hw'
        exact ⟨rfl, hw'.below (Below.refl _ _) (Nat.le_refl _) (ge_cons hr1 (ge_nil _))⟩
    · skip
      refine wl_go 7 [(19, .bool true), (18, undef), (17, undef), (16, .bool true), (15, .bool true), (14, undef), (13, undef)] (by kernel_rfl) ?_
      refine nx_list ?_
      refine nx_then ?_
      refine wc_cond true (by kernel_rfl) (by kernel_rfl) (fun _ => ?_) (fun h => by cases h)
      refine wc_seq ?_
      refine wc_region ?_
      refine wl_go 1 [(20, .agg #[.int .i64 0, .int .i64 0, .int .i64 0, .slice none 0 0, .slice none 0 0])] (by kernel_rfl) ?_
      refine wl_store (b := r1) (off := 0) (v := .agg #[.int .i64 0, .int .i64 0, .int .i64 0, .slice none 0 0, .slice none 0 0]) (c' := #[.int .i64 0, .int .i64 0, .int .i64 0, .slice none 0 0, .slice none 0 0]) (L' := [⟨r1, #[.int .i64 0, .int .i64 0, .int .i64 0, .slice none 0 0, .slice none 0 0], 79⟩]) 0 (by kernel_rfl) rfl (by kernel_rfl) (by kernel_rfl) rfl (by kernel_rfl) rfl ?_
      refine wl_go 1 [(5, .int .i64 1)] (by kernel_rfl) ?_
      refine nx_list ?_
      refine nx_then ?_
      refine nx_ret ?_
      refine nx_then_ret ?_
      refine ret_cellT (v := .agg #[.int .i64 0, .int .i64 0, .int .i64 0, .slice none 0 0, .slice none 0 0]) (v' := .int .i64 1) (b := r1) (off := 0) 0 rfl (by kernel_rfl) rfl (by kernel_rfl) (by kernel_rfl) ?_
      intro w' hw'
      exact ⟨rfl, hw'.below (Below.refl _ _) (Nat.le_refl _) (ge_cons hr1 (ge_nil _))⟩
  · skip
    refine wl_go 11 [(19, .bool true), (18, undef), (17, undef), (16, .bool true), (15, .bool true), (14, undef), (13, undef), (12, .bool true), (11, .bool true), (10, undef), (9, undef)] (by kernel_rfl) ?_
    refine nx_list ?_
    refine nx_then ?_
    refine wc_cond true (by kernel_rfl) (by kernel_rfl) (fun _ => ?_) (fun h => by cases h)
    refine wc_seq ?_
    refine wc_region ?_
    refine wl_go 1 [(20, .agg #[.int .i64 0, .int .i64 0, .int .i64 0, .slice none 0 0, .slice none 0 0])] (by kernel_rfl) ?_
    refine wl_store (b := r1) (off := 0) (v := .agg #[.int .i64 0, .int .i64 0, .int .i64 0, .slice none 0 0, .slice none 0 0]) (c' := #[.int .i64 0, .int .i64 0, .int .i64 0, .slice none 0 0, .slice none 0 0]) (L' := [⟨r1, #[.int .i64 0, .int .i64 0, .int .i64 0, .slice none 0 0, .slice none 0 0], 79⟩]) 0 (by kernel_rfl) rfl (by kernel_rfl) (by kernel_rfl) rfl (by kernel_rfl) rfl ?_
    refine wl_go 1 [(5, .int .i64 1)] (by kernel_rfl) ?_
    refine nx_list ?_
    refine nx_then ?_
    refine nx_ret ?_
    refine nx_then_ret ?_
    refine ret_cellT (v := .agg #[.int .i64 0, .int .i64 0, .int .i64 0, .slice none 0 0, .slice none 0 0]) (v' := .int .i64 1) (b := r1) (off := 0) 0 rfl (by kernel_rfl) rfl (by kernel_rfl) (by kernel_rfl) ?_
    intro w' hw'
    exact ⟨rfl, hw'.below (Below.refl _ _) (Nat.le_refl _) (ge_cons hr1 (ge_nil _))⟩

theorem rUp_ok (n d now : Int) (wv : Value) (gl : List (Int × Int)) (ga : Option Addr) (gc : Nat) (a c : Int) (w : World) (S : Nat → Prop) (hg : Rd S w (.sl (gl.map gRow)) (.slice ga gl.length gc)) (hgl : gl.length ≤ 1000) : Calls Try.prog 28 #[.agg #[.int .i64 n, .int .i64 d, .int .i64 now, wv, .slice ga gl.length gc], .int .i64 a, .int .i64 c] w (fun e w' => e = .returned (.bool (upR n gl a c)) ∧ Below w.heap.size w w') := by
  refine Sx.enter (l := [.agg #[.int .i64 n, .int .i64 d, .int .i64 now, wv, .slice ga gl.length gc], .int .i64 a, .int .i64 c]) Try.func28 rfl (n := 32) rfl (by simp) ?_
  refine wc_eq (S := SH w []) (SH.refl _) ?_
  refine wc_seq ?_
  refine wc_region ?_
  refine wl_new (d := 3) #[.int .i64 n, .int .i64 d, .int .i64 now, wv, .slice ga gl.length gc] 79 (fun r => .pointer (some ⟨r, 0, none⟩)) (by kernel_rfl) (fun r => by kernel_rfl) ?_
  intro r1 hr1
  refine wl_go 1 [(6, .bool false)] (by kernel_rfl) ?_
  refine nx_list ?_
  refine nx_then ?_
  refine wc_seq ?_
  refine wc_seq ?_
  refine wc_region ?_
  refine wl_go 1 [(7, .int .i64 0)] (by kernel_rfl) ?_
  refine nx_list ?_
  refine nx_then ?_
  refine wc_block ?_
  refine wc_loop (σ := { i : Nat // i ≤ gl.length ∧ ∀ p ∈ gl.take i, isK a c p = false }) (fun x => [(1, .int .i64 a), (2, .int .i64 c), (3, .pointer (some ⟨r1, 0, none⟩)), (7, .int .i64 (x.1 : Int))]) (fun _ => SH w [⟨r1, #[.int .i64 n, .int .i64 d, .int .i64 now, wv, .slice ga gl.length gc], 79⟩]) (fun x => gl.length - x.1) (fun w3 h3 => ⟨⟨0, Nat.zero_le _, by simp⟩, h3, (subEnv_cons (by kernel_rfl) (subEnv_cons (by kernel_rfl) (subEnv_cons (by kernel_rfl) (subEnv_cons (by kernel_rfl) (subEnv_nil _)))))⟩) (fun x => ?_)
  have hx1 := x.2.1
  refine wc_seq ?_
  refine wc_seq ?_
  refine wc_region ?_
  refine wl_go 2 [(9, .pointer (some ⟨r1, 4, none⟩)), (8, .int .i64 (x.1 : Int))] (by kernel_rfl) ?_
  refine wl_yl (d := 10) (v := .slice ga gl.length gc) (by kernel_rfl) (yl_load (b := r1) (off := 4) 0 rfl (by kernel_rfl) rfl (by kernel_rfl)) ?_
  refine wl_go 2 [(12, .bool (decide ((x.1 : Int) < (gl.length : Int)))), (11, .int .i64 (gl.length : Int))] (by kernel_rfl) ?_
  refine nx_list ?_
  refine nx_then ?_
  refine wc_cond (decide ((x.1 : Int) < (gl.length : Int))) (by kernel_rfl) (by kernel_rfl) (fun hcl => ?_) (fun hcl => ?_)
  · skip
    have hlt : x.1 < gl.length := by simpa using hcl
    obtain ⟨p, hp⟩ : ∃ p, gl[x.1]? = some p := ⟨_, List.getElem?_eq_getElem hlt⟩
    obtain ⟨g, o, cs, rfl, hI, h_c, l_c, hgr⟩ := Rd.row_at (es := 2) hg.im gRow_len (i := x.1) (r := gRow p) (by simp [hp])
    obtain rfl := gRow_vals h_c
    refine nx_skip ?_
    refine nx_then ?_
    refine wc_seq ?_
    refine wc_block ?_
    refine wc_seq ?_
    refine wc_region ?_
    refine wl_go 1 [(15, .pointer (some ⟨r1, 4, none⟩))] (by kernel_rfl) ?_
    refine wl_yl (d := 16) (v := .slice (some ⟨g, o, none⟩) gl.length gc) (by kernel_rfl) (yl_load (b := r1) (off := 4) 0 rfl (by kernel_rfl) rfl (by kernel_rfl)) ?_
    refine wl_go 1 [(17, .int .i64 (x.1 : Int))] (by kernel_rfl) ?_
    refine wl_yl (d := 18) (v := .pointer (some ⟨g, o + x.1 * 2, none⟩)) (by kernel_rfl) (yl_index (E := 108) (b := g) (off := o) (len := gl.length) (cap := gc) (k := x.1) (es := 2) rfl (by kernel_rfl) (by kernel_rfl) (by kernel_rfl) (by omega)) ?_
    refine wl_yl (d := 19) (v := .agg #[.int .i64 p.1, .int .i64 p.2]) (by kernel_rfl) (yl_loads_im (b := g) (off := o + x.1 * 2) (cs := gCells p) rfl (by kernel_rfl) (im_new hI.1 (ge_cons hr1 (ge_nil _))) (by kernel_rfl) hgr) ?_
    refine wl_go 7 [(26, .agg #[.int .i64 (mn a c), .int .i64 (mx a c)]), (25, .int .i64 (mx a c)), (24, .int .i64 c), (23, .int .i64 a), (22, .int .i64 (mn a c)), (21, .int .i64 c), (20, .int .i64 a)] (by kernel_rfl) ?_
    refine wl_yl (d := 27) (v := .bool (isK a c p)) (by kernel_rfl) (yl_eq2' 3 rfl (by kernel_rfl) (by kernel_rfl) (by kernel_rfl)) ?_
    refine nx_list ?_
    refine nx_then ?_
    refine wc_cond (isK a c p) (by kernel_rfl) (by kernel_rfl) (fun hck => ?_) (fun hck => ?_)
    · skip
      refine wc_seq ?_
      refine wc_region ?_
      refine wl_go 1 [(6, .bool false)] (by kernel_rfl) ?_
      refine nx_list ?_
      refine nx_then ?_
      refine nx_ret ?_
      refine nx_block_ret ?_
      refine nx_then_ret ?_
      refine nx_then_ret ?_
      refine nx_block_ret ?_
      refine nx_then_ret ?_
      refine ret_tmp (v := .bool false) rfl (by kernel_rfl) ?_
      intro w' hw'
      exact ⟨by rw [upR, if_pos (show inG gl a c = true from List.any_eq_true.2 ⟨p, List.mem_of_getElem? hp, hck⟩)], hw'.below (Below.refl _ _) (Nat.le_refl _) (ge_cons hr1 (ge_nil _))⟩
    · skip
      refine nx_skip ?_
      refine nx_block ?_
      refine nx_then ?_
      refine wc_region ?_
      refine wl_go 1 [(13, .int .i64 (x.1 : Int))] (by kernel_rfl) ?_
      refine wl_yl (d := 14) (v := .int .i64 ((x.1 : Int) + 1)) (by kernel_rfl) (yl_int (t := (x.1 : Int) + 1) (r := (x.1 : Int) + 1) (by kernel_rfl) (i64w (by omega) (by omega))) ?_
      refine wl_go 1 [(7, .int .i64 ((x.1 : Int) + 1))] (by kernel_rfl) ?_
      refine nx_list ?_
      refine nx_round_w (fun w4 hw' => ⟨⟨x.1 + 1, hlt, by
        intro y hy
        rw [take_snocG hp] at hy
        rcases List.mem_append.1 hy with hy | hy
        · exact x.2.2 y hy
        · rw [List.mem_singleton] at hy; subst hy; exact hck⟩, (show gl.length - (x.1 + 1) < gl.length - x.1 by omega), (subEnv_cons (by kernel_rfl) (subEnv_cons (by kernel_rfl) (subEnv_cons (by kernel_rfl) (subEnv_cons (by kernel_rfl) (subEnv_nil _))))), hw'⟩)
  · skip
    have hge : gl.length ≤ x.1 := by simpa using hcl
    have hno : inG gl a c = false := by
      rw [inG, List.any_eq_false]
      intro p hp
      have := x.2.2 p (by rw [List.take_of_length_le hge]; exact hp)
      simp [this]
    refine nx_exit ?_
    refine nx_then_exit ?_
    refine nx_then_exit ?_
    refine nx_block_here ?_
    refine nx_then ?_
    refine wc_seq ?_
    refine wc_region ?_
    refine wl_yl (d := 28) (v := .agg #[.int .i64 n, .int .i64 d, .int .i64 now, wv, .slice ga gl.length gc]) (by kernel_rfl) (yl_load (b := r1) (off := 0) 0 rfl (by kernel_rfl) rfl (by kernel_rfl)) ?_
    refine wl_go 2 [(30, .int .i64 c), (29, .int .i64 a)] (by kernel_rfl) ?_
    refine wl_callK shK (d := 31) (v := .bool (pairB n a c)) (by kernel_rfl) (by kernel_rfl) (fun w1 h1 => rPair_ok n d now wv (.slice ga gl.length gc) a c w1) ?_
    refine wl_go 1 [(6, .bool (pairB n a c))] (by kernel_rfl) ?_
    refine nx_list ?_
    refine nx_then ?_
    refine nx_ret ?_
    refine ret_tmp (v := .bool (pairB n a c)) rfl (by kernel_rfl) ?_
    intro w' hw'
    exact ⟨by rw [upR, hno]; rfl, hw'.below (Below.refl _ _) (Nat.le_refl _) (ge_cons hr1 (ge_nil _))⟩

end Go.Proofs.Ytidkaipijocjcaa
