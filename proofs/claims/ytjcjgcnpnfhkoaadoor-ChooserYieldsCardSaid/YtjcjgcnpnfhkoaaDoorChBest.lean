/- Contracts of the functions of the laws ChooserBests and ChooserYields, printed by a program of this repository (gen/chooser.py). -/
import Derived.Test.YtjcjgcnpnfhkoaaDoorApi
import Derived.Test.YtjcjgcnpnfhkoaaDoorBk
import Derived.Test.YtjcjgcnpnfhkoaaDoorProg
namespace Go.Proofs.YtjcjgcnpnfhkoaaDoor
open Go.RowKit Go.Sx
set_option linter.unusedVariables false
set_option linter.unusedSimpArgs false

/-- a trial -/
structure Tr where
  a : Option Addr
  n : Nat
  c : Nat
  wk : Int
  k : Int
  r : Int
  dn : Bool
def Tr.cells (t : Tr) : List Value := [.slice t.a t.n t.c, .int .i64 t.wk, .int .i64 t.k, .int .i64 t.r, .bool t.dn]
/-- the numerator and the denominator of its yield -/
def gn (t : Tr) : Int := (t.n : Int) + bif t.dn then 1 else 0
def wr (t : Tr) : Int := if (65536 : Int) < (if (1 : Int) > t.wk then 1 else t.wk) then 65536 else (if (1 : Int) > t.wk then 1 else t.wk)
/-- is a's yield greater than b's? -/
def bet (a b : Tr) : Bool := decide (gn a * wr b > gn b * wr a)
theorem gn_b {t : Tr} (h : t.n ≤ 5000) : 0 ≤ gn t ∧ gn t ≤ 5001 := by unfold gn; cases t.dn <;> simp <;> omega
theorem wr_b (t : Tr) : 1 ≤ wr t ∧ wr t ≤ 65536 := by unfold wr; repeat' split
                                                      all_goals omega
theorem mul_b {a b : Int} (h : 0 ≤ a ∧ a ≤ 5001) (k : 1 ≤ b ∧ b ≤ 65536) : 0 ≤ a * b ∧ a * b ≤ 327745536 := by
  refine ⟨Int.mul_nonneg h.1 (by omega), ?_⟩
  have h1 := Int.mul_le_mul_of_nonneg_right h.2 (show (0 : Int) ≤ b by omega)
  omega
theorem bet_self (t : Tr) : bet t t = false := by simp [bet]
def noTr : Tr := ⟨none, 0, 0, 0, 0, 0, false⟩
def tat (ts : List Tr) (i : Nat) : Tr := ts.getD i noTr
theorem tat_n {ts : List Tr} (h : ∀ t ∈ ts, t.n ≤ 5000) (i : Nat) : (tat ts i).n ≤ 5000 := by
  unfold tat
  cases hi : ts[i]? with
  | none => simp [List.getD, hi, noTr]
  | some t => simp [List.getD, hi]; exact h t (List.mem_of_getElem? hi)
/-- the best of the first i -/
def bk (ts : List Tr) : Nat → Nat
  | 0 => 0
  | i + 1 => bif bet (tat ts i) (tat ts (bk ts i)) then i else bk ts i
def bi (ts : List Tr) : Nat → Int
  | 0 => -1
  | i + 1 => (bk ts (i + 1) : Int)
theorem bk_lt (ts : List Tr) : ∀ i, bk ts (i + 1) < i + 1
  | 0 => by simp only [bk]; cases bet _ _ <;> simp
  | i + 1 => by
    have := bk_lt ts i
    rw [bk]
    cases bet (tat ts (i + 1)) (tat ts (bk ts (i + 1))) <;> simp <;> omega
theorem bk_one (ts : List Tr) : bk ts 1 = 0 := by simp [bk]
theorem bk_yes {ts : List Tr} {i : Nat} (h : bet (tat ts i) (tat ts (bk ts i)) = true) : bk ts (i + 1) = i := by rw [bk, h]; rfl
theorem bk_no {ts : List Tr} {i : Nat} (h : bet (tat ts i) (tat ts (bk ts i)) = false) : bk ts (i + 1) = bk ts i := by rw [bk, h]; rfl
theorem bi_pos {ts : List Tr} {n : Nat} (h : 1 ≤ n) : bi ts n = (bk ts n : Int) := by cases n with | zero => omega | succ m => rfl
/-- the rows of a slice of trials -/
def TrIn (w : World) (aa : Option Addr) (ts : List Tr) : Prop := ts = [] ∨ ∃ g off, aa = some ⟨g, off, none⟩ ∧ ∀ k, k < ts.length → w.rangeAt g (off + k * 5) (tat ts k).cells
theorem TrIn.get {w : World} {aa : Option Addr} {ts : List Tr} (h : TrIn w aa ts) {k : Nat} (hk : k < ts.length) : ∃ g off, aa = some ⟨g, off, none⟩ ∧ ∀ k, k < ts.length → w.rangeAt g (off + k * 5) (tat ts k).cells := by
  rcases h with rfl | h
  · simp at hk
  · exact h
theorem TrIn.bel {w w' : World} {aa : Option Addr} {ts : List Tr} (h : TrIn w aa ts) (hb : Below w.heap.size w w') : TrIn w' aa ts := by
  rcases h with rfl | ⟨g, off, rfl, h⟩
  · exact .inl rfl
  · exact .inr ⟨g, off, rfl, fun k hk j v hj => Bl.cell hb (h k hk j v hj)⟩

theorem yield_ok (t : Tr) (hn : t.n ≤ 5000) (w : World) : Calls Tryd.prog 51 #[.agg #[.slice t.a t.n t.c, .int .i64 t.wk, .int .i64 t.k, .int .i64 t.r, .bool t.dn]] w (fun e w' => e = .returned (.tuple #[.int .i64 (gn t), .int .i64 (wr t)]) ∧ Below w.heap.size w w') := by
  refine Sx.enter (l := [.agg #[.slice t.a t.n t.c, .int .i64 t.wk, .int .i64 t.k, .int .i64 t.r, .bool t.dn]]) Tryd.func51 rfl (n := 17) rfl (by simp) ?_
  refine wc_eq (S := SH w []) (SH.refl _) ?_
  refine wc_seq ?_
  refine wc_region ?_
  refine wl_new (d := 1) #[.slice t.a t.n t.c, .int .i64 t.wk, .int .i64 t.k, .int .i64 t.r, .bool t.dn] 51 (fun r => .pointer (some ⟨r, 0, none⟩)) (by kernel_rfl) (fun r => by kernel_rfl) ?_
  intro r1 hr1
  refine wl_go 2 [(3, .int .i64 0), (2, .int .i64 0)] (by kernel_rfl) ?_
  refine nx_list ?_
  refine nx_then ?_
  refine wc_seq ?_
  refine wc_region ?_
  refine wl_go 1 [(5, .pointer (some ⟨r1, 0, none⟩))] (by kernel_rfl) ?_
  refine wl_yl (d := 6) (v := .slice t.a t.n t.c) (by kernel_rfl) (yl_load (b := r1) (off := 0) 0 rfl (by kernel_rfl) rfl (by kernel_rfl)) ?_
  refine wl_go 2 [(4, .int .i64 (t.n : Int)), (7, .int .i64 (t.n : Int))] (by kernel_rfl) ?_
  refine nx_list ?_
  refine nx_then ?_
  refine wc_seq ?_
  refine wc_seq ?_
  refine wc_region ?_
  refine wl_go 1 [(8, .pointer (some ⟨r1, 4, none⟩))] (by kernel_rfl) ?_
  refine wl_yl (d := 9) (v := .bool t.dn) (by kernel_rfl) (yl_load (b := r1) (off := 4) 0 rfl (by kernel_rfl) rfl (by kernel_rfl)) ?_
  refine nx_list ?_
  refine nx_then ?_
  refine wc_cond (t.dn) (by kernel_rfl) (by kernel_rfl) (fun hdn => ?_) (fun hdn => ?_)
  · skip
    refine wc_region ?_
    refine wl_go 1 [(10, .int .i64 (t.n : Int))] (by kernel_rfl) ?_
    refine wl_yl (d := 11) (v := .int .i64 ((t.n : Int) + 1)) (by kernel_rfl) (yl_int (t := (t.n : Int) + 1) (r := (t.n : Int) + 1) (by kernel_rfl) (i64w (by omega) (by omega))) ?_
    refine wl_go 1 [(4, .int .i64 ((t.n : Int) + 1))] (by kernel_rfl) ?_
    refine nx_list ?_
    refine nx_then ?_
    refine wc_seq ?_
    refine wc_draw 7 (SH w [⟨r1, #[.slice t.a t.n t.c, .int .i64 t.wk, .int .i64 t.k, .int .i64 t.r, .bool t.dn], 51⟩]) rfl (by decide) (fun w h => SH.drew h) ?_
    refine wd_go [0, 1] [(13, .pointer (some ⟨r1, 1, none⟩)), (12, .int .i64 ((t.n : Int) + 1))] #[true, true, false, false, false, false, false] (f := 5) rfl (by kernel_rfl) (fun w h => h) ?_
    refine wd_yl 2 (d := 14) (v := .int .i64 t.wk) (f := 4) rfl (by kernel_rfl) (by kernel_rfl) (fun w h => h) (yl_load (b := r1) (off := 1) 0 rfl (by kernel_rfl) rfl (by kernel_rfl)) ?_
    refine wd_go [3, 4, 5, 6] [(3, .int .i64 (if (65536 : Int) < (if (1 : Int) > t.wk then 1 else t.wk) then 65536 else if (1 : Int) > t.wk then 1 else t.wk)), (2, .int .i64 ((t.n : Int) + 1)), (16, .int .i64 (if (65536 : Int) < (if (1 : Int) > t.wk then 1 else t.wk) then 65536 else if (1 : Int) > t.wk then 1 else t.wk)), (15, .int .i64 (if (1 : Int) > t.wk then 1 else t.wk))] #[true, true, true, true, true, true, true] (f := 0) rfl (by kernel_rfl) (fun w h => h) ?_
    refine wd_done (by kernel_rfl) ?_
    refine nx_list ?_
    refine nx_on ?_
    refine nx_then ?_
    refine nx_ret ?_
    refine ret_tmp2 (v := .int .i64 ((t.n : Int) + 1)) (v' := .int .i64 (if (65536 : Int) < (if (1 : Int) > t.wk then 1 else t.wk) then 65536 else if (1 : Int) > t.wk then 1 else t.wk)) rfl (by kernel_rfl) (by kernel_rfl) ?_
    intro w' hw'
    exact ⟨by simp [gn, wr, hdn], hw'.below (Below.refl _ _) (Nat.le_refl _) (ge_cons hr1 (ge_nil _))⟩
  · skip
    refine nx_skip ?_
    refine nx_then ?_
    refine wc_seq ?_
    refine wc_draw 7 (SH w [⟨r1, #[.slice t.a t.n t.c, .int .i64 t.wk, .int .i64 t.k, .int .i64 t.r, .bool t.dn], 51⟩]) rfl (by decide) (fun w h => SH.drew h) ?_
    refine wd_go [0, 1] [(13, .pointer (some ⟨r1, 1, none⟩)), (12, .int .i64 (t.n : Int))] #[true, true, false, false, false, false, false] (f := 5) rfl (by kernel_rfl) (fun w h => h) ?_
    refine wd_yl 2 (d := 14) (v := .int .i64 t.wk) (f := 4) rfl (by kernel_rfl) (by kernel_rfl) (fun w h => h) (yl_load (b := r1) (off := 1) 0 rfl (by kernel_rfl) rfl (by kernel_rfl)) ?_
    refine wd_go [3, 4, 5, 6] [(3, .int .i64 (if (65536 : Int) < (if (1 : Int) > t.wk then 1 else t.wk) then 65536 else if (1 : Int) > t.wk then 1 else t.wk)), (2, .int .i64 (t.n : Int)), (16, .int .i64 (if (65536 : Int) < (if (1 : Int) > t.wk then 1 else t.wk) then 65536 else if (1 : Int) > t.wk then 1 else t.wk)), (15, .int .i64 (if (1 : Int) > t.wk then 1 else t.wk))] #[true, true, true, true, true, true, true] (f := 0) rfl (by kernel_rfl) (fun w h => h) ?_
    refine wd_done (by kernel_rfl) ?_
    refine nx_list ?_
    refine nx_on ?_
    refine nx_then ?_
    refine nx_ret ?_
    refine ret_tmp2 (v := .int .i64 (t.n : Int)) (v' := .int .i64 (if (65536 : Int) < (if (1 : Int) > t.wk then 1 else t.wk) then 65536 else if (1 : Int) > t.wk then 1 else t.wk)) rfl (by kernel_rfl) (by kernel_rfl) ?_
    intro w' hw'
    exact ⟨by simp [gn, wr, hdn], hw'.below (Below.refl _ _) (Nat.le_refl _) (ge_cons hr1 (ge_nil _))⟩

theorem gain_ok (t : Tr) (hn : t.n ≤ 5000) (w : World) : Calls Tryd.prog 52 #[.agg #[.slice t.a t.n t.c, .int .i64 t.wk, .int .i64 t.k, .int .i64 t.r, .bool t.dn]] w (fun e w' => e = .returned (.int .i64 (gn t)) ∧ Below w.heap.size w w') := by
  refine Sx.enter (l := [.agg #[.slice t.a t.n t.c, .int .i64 t.wk, .int .i64 t.k, .int .i64 t.r, .bool t.dn]]) Tryd.func52 rfl (n := 12) rfl (by simp) ?_
  refine wc_eq (S := SH w []) (SH.refl _) ?_
  refine wc_seq ?_
  refine wc_region ?_
  refine wl_new (d := 1) #[.slice t.a t.n t.c, .int .i64 t.wk, .int .i64 t.k, .int .i64 t.r, .bool t.dn] 51 (fun r => .pointer (some ⟨r, 0, none⟩)) (by kernel_rfl) (fun r => by kernel_rfl) ?_
  intro r1 hr1
  refine wl_go 1 [(2, .int .i64 0)] (by kernel_rfl) ?_
  refine nx_list ?_
  refine nx_then ?_
  refine wc_seq ?_
  refine wc_seq ?_
  refine wc_region ?_
  refine wl_go 1 [(3, .pointer (some ⟨r1, 4, none⟩))] (by kernel_rfl) ?_
  refine wl_yl (d := 4) (v := .bool t.dn) (by kernel_rfl) (yl_load (b := r1) (off := 4) 0 rfl (by kernel_rfl) rfl (by kernel_rfl)) ?_
  refine nx_list ?_
  refine nx_then ?_
  refine wc_cond (t.dn) (by kernel_rfl) (by kernel_rfl) (fun hdn => ?_) (fun hdn => ?_)
  · skip
    refine wc_seq ?_
    refine wc_region ?_
    refine wl_go 1 [(5, .pointer (some ⟨r1, 0, none⟩))] (by kernel_rfl) ?_
    refine wl_yl (d := 6) (v := .slice t.a t.n t.c) (by kernel_rfl) (yl_load (b := r1) (off := 0) 0 rfl (by kernel_rfl) rfl (by kernel_rfl)) ?_
    refine wl_go 1 [(7, .int .i64 (t.n : Int))] (by kernel_rfl) ?_
    refine wl_yl (d := 8) (v := .int .i64 ((t.n : Int) + 1)) (by kernel_rfl) (yl_int (t := (t.n : Int) + 1) (r := (t.n : Int) + 1) (by kernel_rfl) (i64w (by omega) (by omega))) ?_
    refine wl_go 1 [(2, .int .i64 ((t.n : Int) + 1))] (by kernel_rfl) ?_
    refine nx_list ?_
    refine nx_then ?_
    refine nx_ret ?_
    refine nx_then_ret ?_
    refine ret_tmp (v := .int .i64 ((t.n : Int) + 1)) rfl (by kernel_rfl) ?_
    intro w' hw'
    exact ⟨by simp [gn, wr, hdn], hw'.below (Below.refl _ _) (Nat.le_refl _) (ge_cons hr1 (ge_nil _))⟩
  · skip
    refine nx_skip ?_
    refine nx_then ?_
    refine wc_seq ?_
    refine wc_region ?_
    refine wl_go 1 [(9, .pointer (some ⟨r1, 0, none⟩))] (by kernel_rfl) ?_
    refine wl_yl (d := 10) (v := .slice t.a t.n t.c) (by kernel_rfl) (yl_load (b := r1) (off := 0) 0 rfl (by kernel_rfl) rfl (by kernel_rfl)) ?_
    refine wl_go 2 [(2, .int .i64 (t.n : Int)), (11, .int .i64 (t.n : Int))] (by kernel_rfl) ?_
    refine nx_list ?_
    refine nx_then ?_
    refine nx_ret ?_
    refine ret_tmp (v := .int .i64 (t.n : Int)) rfl (by kernel_rfl) ?_
    intro w' hw'
    exact ⟨by simp [gn, wr, hdn], hw'.below (Below.refl _ _) (Nat.le_refl _) (ge_cons hr1 (ge_nil _))⟩

theorem works_ok (t : Tr) (hn : t.n ≤ 5000) (w : World) : Calls Tryd.prog 53 #[.agg #[.slice t.a t.n t.c, .int .i64 t.wk, .int .i64 t.k, .int .i64 t.r, .bool t.dn]] w (fun e w' => e = .returned (.int .i64 (wr t)) ∧ Below w.heap.size w w') := by
  refine Sx.enter (l := [.agg #[.slice t.a t.n t.c, .int .i64 t.wk, .int .i64 t.k, .int .i64 t.r, .bool t.dn]]) Tryd.func53 rfl (n := 7) rfl (by simp) ?_
  refine wc_eq (S := SH w []) (SH.refl _) ?_
  refine wc_seq ?_
  refine wc_region ?_
  refine wl_new (d := 1) #[.slice t.a t.n t.c, .int .i64 t.wk, .int .i64 t.k, .int .i64 t.r, .bool t.dn] 51 (fun r => .pointer (some ⟨r, 0, none⟩)) (by kernel_rfl) (fun r => by kernel_rfl) ?_
  intro r1 hr1
  refine wl_go 1 [(2, .int .i64 0)] (by kernel_rfl) ?_
  refine nx_list ?_
  refine nx_then ?_
  refine wc_seq ?_
  refine wc_region ?_
  refine wl_go 1 [(3, .pointer (some ⟨r1, 1, none⟩))] (by kernel_rfl) ?_
  refine wl_yl (d := 4) (v := .int .i64 t.wk) (by kernel_rfl) (yl_load (b := r1) (off := 1) 0 rfl (by kernel_rfl) rfl (by kernel_rfl)) ?_
  refine wl_go 3 [(2, .int .i64 (if (65536 : Int) < (if (1 : Int) > t.wk then 1 else t.wk) then 65536 else if (1 : Int) > t.wk then 1 else t.wk)), (6, .int .i64 (if (65536 : Int) < (if (1 : Int) > t.wk then 1 else t.wk) then 65536 else if (1 : Int) > t.wk then 1 else t.wk)), (5, .int .i64 (if (1 : Int) > t.wk then 1 else t.wk))] (by kernel_rfl) ?_
  refine nx_list ?_
  refine nx_then ?_
  refine nx_ret ?_
  refine ret_tmp (v := .int .i64 (if (65536 : Int) < (if (1 : Int) > t.wk then 1 else t.wk) then 65536 else if (1 : Int) > t.wk then 1 else t.wk)) rfl (by kernel_rfl) ?_
  intro w' hw'
  exact ⟨by simp [gn, wr], hw'.below (Below.refl _ _) (Nat.le_refl _) (ge_cons hr1 (ge_nil _))⟩

theorem less_ok (a b : Tr) (h_a : a.n ≤ 5000) (h_b : b.n ≤ 5000) (w : World) : Calls Tryd.prog 28 #[.agg #[.slice a.a a.n a.c, .int .i64 a.wk, .int .i64 a.k, .int .i64 a.r, .bool a.dn], .agg #[.slice b.a b.n b.c, .int .i64 b.wk, .int .i64 b.k, .int .i64 b.r, .bool b.dn]] w (fun e w' => e = .returned (.bool (bet b a)) ∧ Below w.heap.size w w') := by
  have m1 := mul_b (gn_b h_a) (wr_b b)
  have m2 := mul_b (gn_b h_b) (wr_b a)
  refine Sx.enter (l := [.agg #[.slice a.a a.n a.c, .int .i64 a.wk, .int .i64 a.k, .int .i64 a.r, .bool a.dn], .agg #[.slice b.a b.n b.c, .int .i64 b.wk, .int .i64 b.k, .int .i64 b.r, .bool b.dn]]) Tryd.func28 rfl (n := 26) rfl (by simp) ?_
  refine wc_eq (S := SH w []) (SH.refl _) ?_
  refine wc_seq ?_
  refine wc_region ?_
  refine wl_new (d := 2) #[.slice a.a a.n a.c, .int .i64 a.wk, .int .i64 a.k, .int .i64 a.r, .bool a.dn] 51 (fun r => .pointer (some ⟨r, 0, none⟩)) (by kernel_rfl) (fun r => by kernel_rfl) ?_
  intro r1 hr1
  refine wl_new (d := 3) #[.slice b.a b.n b.c, .int .i64 b.wk, .int .i64 b.k, .int .i64 b.r, .bool b.dn] 51 (fun r => .pointer (some ⟨r, 0, none⟩)) (by kernel_rfl) (fun r => by kernel_rfl) ?_
  intro r2 hr2
  refine wl_go 1 [(4, .bool false)] (by kernel_rfl) ?_
  refine nx_list ?_
  refine nx_then ?_
  refine wc_seq ?_
  refine wc_region ?_
  refine wl_yl (d := 10) (v := .agg #[.slice a.a a.n a.c, .int .i64 a.wk, .int .i64 a.k, .int .i64 a.r, .bool a.dn]) (by kernel_rfl) (yl_load (b := r1) (off := 0) 1 rfl (by kernel_rfl) rfl (by kernel_rfl)) ?_
  refine wl_callK shK (d := 11) (v := .tuple #[.int .i64 (gn a), .int .i64 (wr a)]) (by kernel_rfl) (by kernel_rfl) (fun w1 h1 => yield_ok a h_a w1) ?_
  refine wl_go 5 [(6, .int .i64 (wr a)), (5, .int .i64 (gn a)), (13, .int .i64 (wr a)), (12, .int .i64 (gn a)), (9, .tuple #[.int .i64 (gn a), .int .i64 (wr a)])] (by kernel_rfl) ?_
  refine nx_list ?_
  refine nx_then ?_
  refine wc_seq ?_
  refine wc_region ?_
  refine wl_yl (d := 15) (v := .agg #[.slice b.a b.n b.c, .int .i64 b.wk, .int .i64 b.k, .int .i64 b.r, .bool b.dn]) (by kernel_rfl) (yl_load (b := r2) (off := 0) 0 rfl (by kernel_rfl) rfl (by kernel_rfl)) ?_
  refine wl_callK shK (d := 16) (v := .tuple #[.int .i64 (gn b), .int .i64 (wr b)]) (by kernel_rfl) (by kernel_rfl) (fun w1 h1 => yield_ok b h_b w1) ?_
  refine wl_go 5 [(8, .int .i64 (wr b)), (7, .int .i64 (gn b)), (18, .int .i64 (wr b)), (17, .int .i64 (gn b)), (14, .tuple #[.int .i64 (gn b), .int .i64 (wr b)])] (by kernel_rfl) ?_
  refine nx_list ?_
  refine nx_then ?_
  refine wc_seq ?_
  refine wc_region ?_
  refine wl_go 2 [(20, .int .i64 (wr b)), (19, .int .i64 (gn a))] (by kernel_rfl) ?_
  refine wl_yl (d := 21) (v := .int .i64 ((gn a) * (wr b))) (by kernel_rfl) (yl_int (t := (gn a) * (wr b)) (r := (gn a) * (wr b)) (by kernel_rfl) (i64w (by omega) (by omega))) ?_
  refine wl_go 2 [(23, .int .i64 (wr a)), (22, .int .i64 (gn b))] (by kernel_rfl) ?_
  refine wl_yl (d := 24) (v := .int .i64 ((gn b) * (wr a))) (by kernel_rfl) (yl_int (t := (gn b) * (wr a)) (r := (gn b) * (wr a)) (by kernel_rfl) (i64w (by omega) (by omega))) ?_
  refine wl_go 2 [(4, .bool (decide ((gn a) * (wr b) < (gn b) * (wr a)))), (25, .bool (decide ((gn a) * (wr b) < (gn b) * (wr a))))] (by kernel_rfl) ?_
  refine nx_list ?_
  refine nx_then ?_
  refine nx_ret ?_
  refine ret_tmp (v := .bool (decide ((gn a) * (wr b) < (gn b) * (wr a)))) rfl (by kernel_rfl) ?_
  intro w' hw'
  exact ⟨rfl, hw'.below (Below.refl _ _) (Nat.le_refl _) (ge_cons hr2 (ge_cons hr1 (ge_nil _)))⟩

theorem better_ok (a b : Tr) (h_a : a.n ≤ 5000) (h_b : b.n ≤ 5000) (w : World) : Calls Tryd.prog 29 #[.agg #[.slice a.a a.n a.c, .int .i64 a.wk, .int .i64 a.k, .int .i64 a.r, .bool a.dn], .agg #[.slice b.a b.n b.c, .int .i64 b.wk, .int .i64 b.k, .int .i64 b.r, .bool b.dn]] w (fun e w' => e = .returned (.bool (bet a b)) ∧ Below w.heap.size w w') := by
  have m1 := mul_b (gn_b h_a) (wr_b b)
  have m2 := mul_b (gn_b h_b) (wr_b a)
  refine Sx.enter (l := [.agg #[.slice a.a a.n a.c, .int .i64 a.wk, .int .i64 a.k, .int .i64 a.r, .bool a.dn], .agg #[.slice b.a b.n b.c, .int .i64 b.wk, .int .i64 b.k, .int .i64 b.r, .bool b.dn]]) Tryd.func29 rfl (n := 16) rfl (by simp) ?_
  refine wc_eq (S := SH w []) (SH.refl _) ?_
  refine wc_seq ?_
  refine wc_region ?_
  refine wl_new (d := 2) #[.slice a.a a.n a.c, .int .i64 a.wk, .int .i64 a.k, .int .i64 a.r, .bool a.dn] 51 (fun r => .pointer (some ⟨r, 0, none⟩)) (by kernel_rfl) (fun r => by kernel_rfl) ?_
  intro r1 hr1
  refine wl_new (d := 3) #[.slice b.a b.n b.c, .int .i64 b.wk, .int .i64 b.k, .int .i64 b.r, .bool b.dn] 51 (fun r => .pointer (some ⟨r, 0, none⟩)) (by kernel_rfl) (fun r => by kernel_rfl) ?_
  intro r2 hr2
  refine wl_go 1 [(4, .bool false)] (by kernel_rfl) ?_
  refine nx_list ?_
  refine nx_then ?_
  refine wc_seq ?_
  refine wc_draw 12 (SH w [⟨r2, #[.slice b.a b.n b.c, .int .i64 b.wk, .int .i64 b.k, .int .i64 b.r, .bool b.dn], 51⟩, ⟨r1, #[.slice a.a a.n a.c, .int .i64 a.wk, .int .i64 a.k, .int .i64 a.r, .bool a.dn], 51⟩]) rfl (by decide) (fun w h => SH.drew h) ?_
  refine wd_yl 0 (d := 5) (v := .agg #[.slice a.a a.n a.c, .int .i64 a.wk, .int .i64 a.k, .int .i64 a.r, .bool a.dn]) (f := 11) rfl (by kernel_rfl) (by kernel_rfl) (fun w h => h) (yl_load (b := r1) (off := 0) 1 rfl (by kernel_rfl) rfl (by kernel_rfl)) ?_
  refine wd_yl 2 (d := 7) (v := .agg #[.slice b.a b.n b.c, .int .i64 b.wk, .int .i64 b.k, .int .i64 b.r, .bool b.dn]) (f := 10) rfl (by kernel_rfl) (by kernel_rfl) (fun w h => h) (yl_load (b := r2) (off := 0) 0 rfl (by kernel_rfl) rfl (by kernel_rfl)) ?_
  refine wd_yl 5 (d := 10) (v := .agg #[.slice b.a b.n b.c, .int .i64 b.wk, .int .i64 b.k, .int .i64 b.r, .bool b.dn]) (f := 9) rfl (by kernel_rfl) (by kernel_rfl) (fun w h => h) (yl_load (b := r2) (off := 0) 0 rfl (by kernel_rfl) rfl (by kernel_rfl)) ?_
  refine wd_yl 7 (d := 12) (v := .agg #[.slice a.a a.n a.c, .int .i64 a.wk, .int .i64 a.k, .int .i64 a.r, .bool a.dn]) (f := 8) rfl (by kernel_rfl) (by kernel_rfl) (fun w h => h) (yl_load (b := r1) (off := 0) 1 rfl (by kernel_rfl) rfl (by kernel_rfl)) ?_
  refine wd_callK shK 1 (d := 6) (fu := 7) (v := .int .i64 (gn a)) rfl (by decide) (by kernel_rfl) (by kernel_rfl) (by kernel_rfl) (fun w1 h1 => gain_ok a h_a w1) ?_
  refine wd_callK shK 3 (d := 8) (fu := 6) (v := .int .i64 (wr b)) rfl (by decide) (by kernel_rfl) (by kernel_rfl) (by kernel_rfl) (fun w1 h1 => works_ok b h_b w1) ?_
  refine wd_yl 4 (d := 9) (v := .int .i64 ((gn a) * (wr b))) (f := 5) rfl (by kernel_rfl) (by kernel_rfl) (fun w h => h) (yl_int (t := (gn a) * (wr b)) (r := (gn a) * (wr b)) (by kernel_rfl) (i64w (by omega) (by omega))) ?_
  refine wd_callK shK 6 (d := 11) (fu := 4) (v := .int .i64 (gn b)) rfl (by decide) (by kernel_rfl) (by kernel_rfl) (by kernel_rfl) (fun w1 h1 => gain_ok b h_b w1) ?_
  refine wd_callK shK 8 (d := 13) (fu := 3) (v := .int .i64 (wr a)) rfl (by decide) (by kernel_rfl) (by kernel_rfl) (by kernel_rfl) (fun w1 h1 => works_ok a h_a w1) ?_
  refine wd_yl 9 (d := 14) (v := .int .i64 ((gn b) * (wr a))) (f := 2) rfl (by kernel_rfl) (by kernel_rfl) (fun w h => h) (yl_int (t := (gn b) * (wr a)) (r := (gn b) * (wr a)) (by kernel_rfl) (i64w (by omega) (by omega))) ?_
  refine wd_go [10, 11] [(4, .bool (decide ((gn a) * (wr b) > (gn b) * (wr a)))), (15, .bool (decide ((gn a) * (wr b) > (gn b) * (wr a))))] #[true, true, true, true, true, true, true, true, true, true, true, true] (f := 0) rfl (by kernel_rfl) (fun w h => h) ?_
  refine wd_done (by kernel_rfl) ?_
  refine nx_list ?_
  refine nx_on ?_
  refine nx_then ?_
  refine nx_ret ?_
  refine ret_tmp (v := .bool (decide ((gn a) * (wr b) > (gn b) * (wr a)))) rfl (by kernel_rfl) ?_
  intro w' hw'
  exact ⟨rfl, hw'.below (Below.refl _ _) (Nat.le_refl _) (ge_cons hr2 (ge_cons hr1 (ge_nil _)))⟩

theorem best_ok (ts : List Tr) (aa : Option Addr) (ca : Nat) (w : World) (h_in : TrIn w aa ts) (h_l : ts.length ≤ 20) (h_n : ∀ t ∈ ts, t.n ≤ 5000) : Calls Tryd.prog 10 #[.slice aa ts.length ca] w (fun e w' => e = .returned (.int .i64 (bi ts ts.length)) ∧ Below w.heap.size w w') := by
  refine Sx.enter (l := [.slice aa ts.length ca]) Tryd.func10 rfl (n := 26) rfl (by simp) ?_
  refine wc_eq (S := SH w []) (SH.refl _) ?_
  refine wc_seq ?_
  refine wc_region ?_
  refine wl_go 1 [(2, .int .i64 0)] (by kernel_rfl) ?_
  refine nx_list ?_
  refine nx_then ?_
  refine wc_seq ?_
  refine wc_region ?_
  refine wl_go 1 [(3, .int .i64 (-1))] (by kernel_rfl) ?_
  refine nx_list ?_
  refine nx_then ?_
  refine wc_seq ?_
  refine wc_seq ?_
  refine wc_region ?_
  refine wl_go 3 [(8, .int .i64 0), (7, .int .i64 (ts.length : Int)), (6, .slice aa ts.length ca)] (by kernel_rfl) ?_
  refine nx_list ?_
  refine nx_then ?_
  refine wc_block ?_
  refine wc_loop (σ := { k : Nat // k ≤ ts.length }) (fun x => [(0, .slice aa ts.length ca), (6, .slice aa ts.length ca), (7, .int .i64 (ts.length : Int)), (3, .int .i64 (bi ts x.1)), (8, .int .i64 (x.1 : Int))]) (fun _ => SH w []) (fun x => ts.length - x.1) (fun w3 h3 => ⟨⟨0, Nat.zero_le _⟩, h3, (subEnv_cons (by kernel_rfl) (subEnv_cons (by kernel_rfl) (subEnv_cons (by kernel_rfl) (subEnv_cons (by kernel_rfl) (subEnv_cons (by kernel_rfl) (subEnv_nil _))))))⟩) (fun x => ?_)
  obtain ⟨i, hi⟩ := x
  cases i with
  | zero =>
    refine wc_seq ?_
    refine wc_region ?_
    refine wl_go 1 [(9, .bool (decide (((0 : Nat) : Int) < (ts.length : Int))))] (by kernel_rfl) ?_
    refine nx_list ?_
    refine nx_then ?_
    refine wc_seq ?_
    refine wc_cond (decide (((0 : Nat) : Int) < (ts.length : Int))) (by kernel_rfl) (by kernel_rfl) (fun hlt => ?_) (fun hlt => ?_)
    · skip
      have hk : (0 : Nat) < ts.length := by have := of_decide_eq_true hlt; omega
      obtain ⟨gq, oq, rfl, hrow⟩ := h_in.get hk
      have q1 := hrow (0 : Nat) hk
      refine nx_skip ?_
      refine nx_then ?_
      refine wc_seq ?_
      refine wc_block ?_
      refine wc_seq ?_
      refine wc_region ?_
      refine wl_go 1 [(10, .int .i64 ((0 : Nat) : Int))] (by kernel_rfl) ?_
      refine wl_yl (d := 11) (v := .pointer (some ⟨gq, oq + (0 : Nat) * 5, none⟩)) (by kernel_rfl) (yl_index (E := 51) (b := gq) (off := oq) (len := ts.length) (cap := ca) (k := (0 : Nat)) (es := 5) rfl (by kernel_rfl) (by kernel_rfl) (by kernel_rfl) (by omega)) ?_
      refine wl_yl (d := 12) (v := .agg #[.slice ((tat ts (0 : Nat)).a) ((tat ts (0 : Nat)).n) ((tat ts (0 : Nat)).c), .int .i64 ((tat ts (0 : Nat)).wk), .int .i64 ((tat ts (0 : Nat)).k), .int .i64 ((tat ts (0 : Nat)).r), .bool ((tat ts (0 : Nat)).dn)]) (by kernel_rfl) (yl_loads_im (b := gq) (off := oq + (0 : Nat) * 5) (cs := [.slice ((tat ts (0 : Nat)).a) ((tat ts (0 : Nat)).n) ((tat ts (0 : Nat)).c), .int .i64 ((tat ts (0 : Nat)).wk), .int .i64 ((tat ts (0 : Nat)).k), .int .i64 ((tat ts (0 : Nat)).r), .bool ((tat ts (0 : Nat)).dn)]) rfl (by kernel_rfl) (im_of (q1 0 _ rfl) (ge_nil _)) (by kernel_rfl) q1) ?_
      refine wl_new (d := 5) #[.slice none 0 0, .int .i64 0, .int .i64 0, .int .i64 0, .bool false] 51 (fun r => .pointer (some ⟨r, 0, none⟩)) (by kernel_rfl) (fun r => by kernel_rfl) ?_
      intro r1 hr1
      refine wl_go 1 [(4, .int .i64 ((0 : Nat) : Int))] (by kernel_rfl) ?_
      refine wl_store (b := r1) (off := 0) (v := .agg #[.slice ((tat ts (0 : Nat)).a) ((tat ts (0 : Nat)).n) ((tat ts (0 : Nat)).c), .int .i64 ((tat ts (0 : Nat)).wk), .int .i64 ((tat ts (0 : Nat)).k), .int .i64 ((tat ts (0 : Nat)).r), .bool ((tat ts (0 : Nat)).dn)]) (c' := #[.slice ((tat ts (0 : Nat)).a) ((tat ts (0 : Nat)).n) ((tat ts (0 : Nat)).c), .int .i64 ((tat ts (0 : Nat)).wk), .int .i64 ((tat ts (0 : Nat)).k), .int .i64 ((tat ts (0 : Nat)).r), .bool ((tat ts (0 : Nat)).dn)]) (L' := [⟨r1, #[.slice ((tat ts (0 : Nat)).a) ((tat ts (0 : Nat)).n) ((tat ts (0 : Nat)).c), .int .i64 ((tat ts (0 : Nat)).wk), .int .i64 ((tat ts (0 : Nat)).k), .int .i64 ((tat ts (0 : Nat)).r), .bool ((tat ts (0 : Nat)).dn)], 51⟩]) 0 (by kernel_rfl) rfl (by kernel_rfl) (by kernel_rfl) rfl (by kernel_rfl) rfl ?_
      refine nx_list ?_
      refine nx_then ?_
      refine wc_seq ?_
      refine wc_draw 10 (SH w [⟨r1, #[.slice ((tat ts (0 : Nat)).a) ((tat ts (0 : Nat)).n) ((tat ts (0 : Nat)).c), .int .i64 ((tat ts (0 : Nat)).wk), .int .i64 ((tat ts (0 : Nat)).k), .int .i64 ((tat ts (0 : Nat)).r), .bool ((tat ts (0 : Nat)).dn)], 51⟩]) rfl (by decide) (fun w h => SH.drew h) ?_
      refine wd_go [0, 1, 2, 3, 4, 5, 6, 7, 8, 9] [(22, .bool true), (21, undef), (20, undef), (19, undef), (18, undef), (17, undef), (16, undef), (15, .bool true), (14, .bool true), (13, .int .i64 (-1))] #[true, true, true, true, true, true, true, true, true, true] (f := 0) rfl (by kernel_rfl) (fun w h => h) ?_
      refine wd_done (by kernel_rfl) ?_
      refine nx_list ?_
      refine nx_on ?_
      refine nx_then ?_
      refine wc_cond true (by kernel_rfl) (by kernel_rfl) (fun _ => ?_) (fun h => by cases h)
      refine wc_region ?_
      refine wl_go 2 [(3, .int .i64 ((0 : Nat) : Int)), (23, .int .i64 ((0 : Nat) : Int))] (by kernel_rfl) ?_
      refine nx_list ?_
      refine nx_block ?_
      refine nx_then ?_
      refine wc_region ?_
      refine wl_yl (d := 24) (v := .int .i64 (((0 : Nat) : Int) + 1)) (by kernel_rfl) (yl_int (t := ((0 : Nat) : Int) + 1) (r := ((0 : Nat) : Int) + 1) (by kernel_rfl) (i64w (by omega) (by omega))) ?_
      refine wl_go 1 [(8, .int .i64 (((0 : Nat) : Int) + 1))] (by kernel_rfl) ?_
      refine nx_list ?_
      exact nx_round (y := ⟨(0 : Nat) + 1, hk⟩) (show ts.length - ((0 : Nat) + 1) < ts.length - (0 : Nat) by omega) (subEnv_cons (by kernel_rfl) (subEnv_cons (by kernel_rfl) (subEnv_cons (by kernel_rfl) (subEnv_cons (look_int (r := 0) (show (0 : Int) = ((bk ts 1 : Nat) : Int) from by rw [bk_one]; rfl) (by kernel_rfl)) (subEnv_cons (by kernel_rfl) (subEnv_nil _)))))) (fun w h => h.tail hr1)
    · skip
      refine nx_exit ?_
      refine nx_then_exit ?_
      refine nx_then_exit ?_
      refine nx_block_here ?_
      refine nx_then ?_
      refine wc_seq ?_
      refine wc_region ?_
      refine wl_go 2 [(2, .int .i64 (-1)), (25, .int .i64 (-1))] (by kernel_rfl) ?_
      refine nx_list ?_
      refine nx_then ?_
      refine nx_ret ?_
      refine ret_tmp (v := .int .i64 (-1)) rfl (by kernel_rfl) ?_
      intro w' hw'
      have hl : ts.length = 0 := by have := of_decide_eq_false hlt; omega
      refine ⟨?_, hw'.below (Below.refl _ _) (Nat.le_refl _) (ge_nil _)⟩
      rw [hl]; rfl
  | succ j =>
    refine wc_seq ?_
    refine wc_region ?_
    refine wl_go 1 [(9, .bool (decide (((j + 1 : Nat) : Int) < (ts.length : Int))))] (by kernel_rfl) ?_
    refine nx_list ?_
    refine nx_then ?_
    refine wc_seq ?_
    refine wc_cond (decide (((j + 1 : Nat) : Int) < (ts.length : Int))) (by kernel_rfl) (by kernel_rfl) (fun hlt => ?_) (fun hlt => ?_)
    · skip
      have hk : (j + 1 : Nat) < ts.length := by have := of_decide_eq_true hlt; omega
      obtain ⟨gq, oq, rfl, hrow⟩ := h_in.get hk
      have q1 := hrow (j + 1 : Nat) hk
      have hb := bk_lt ts j
      have q2 := hrow (bk ts (j + 1)) (by omega)
      refine nx_skip ?_
      refine nx_then ?_
      refine wc_seq ?_
      refine wc_block ?_
      refine wc_seq ?_
      refine wc_region ?_
      refine wl_go 1 [(10, .int .i64 ((j + 1 : Nat) : Int))] (by kernel_rfl) ?_
      refine wl_yl (d := 11) (v := .pointer (some ⟨gq, oq + (j + 1 : Nat) * 5, none⟩)) (by kernel_rfl) (yl_index (E := 51) (b := gq) (off := oq) (len := ts.length) (cap := ca) (k := (j + 1 : Nat)) (es := 5) rfl (by kernel_rfl) (by kernel_rfl) (by kernel_rfl) (by omega)) ?_
      refine wl_yl (d := 12) (v := .agg #[.slice ((tat ts (j + 1 : Nat)).a) ((tat ts (j + 1 : Nat)).n) ((tat ts (j + 1 : Nat)).c), .int .i64 ((tat ts (j + 1 : Nat)).wk), .int .i64 ((tat ts (j + 1 : Nat)).k), .int .i64 ((tat ts (j + 1 : Nat)).r), .bool ((tat ts (j + 1 : Nat)).dn)]) (by kernel_rfl) (yl_loads_im (b := gq) (off := oq + (j + 1 : Nat) * 5) (cs := [.slice ((tat ts (j + 1 : Nat)).a) ((tat ts (j + 1 : Nat)).n) ((tat ts (j + 1 : Nat)).c), .int .i64 ((tat ts (j + 1 : Nat)).wk), .int .i64 ((tat ts (j + 1 : Nat)).k), .int .i64 ((tat ts (j + 1 : Nat)).r), .bool ((tat ts (j + 1 : Nat)).dn)]) rfl (by kernel_rfl) (im_of (q1 0 _ rfl) (ge_nil _)) (by kernel_rfl) q1) ?_
      refine wl_new (d := 5) #[.slice none 0 0, .int .i64 0, .int .i64 0, .int .i64 0, .bool false] 51 (fun r => .pointer (some ⟨r, 0, none⟩)) (by kernel_rfl) (fun r => by kernel_rfl) ?_
      intro r2 hr2
      refine wl_go 1 [(4, .int .i64 ((j + 1 : Nat) : Int))] (by kernel_rfl) ?_
      refine wl_store (b := r2) (off := 0) (v := .agg #[.slice ((tat ts (j + 1 : Nat)).a) ((tat ts (j + 1 : Nat)).n) ((tat ts (j + 1 : Nat)).c), .int .i64 ((tat ts (j + 1 : Nat)).wk), .int .i64 ((tat ts (j + 1 : Nat)).k), .int .i64 ((tat ts (j + 1 : Nat)).r), .bool ((tat ts (j + 1 : Nat)).dn)]) (c' := #[.slice ((tat ts (j + 1 : Nat)).a) ((tat ts (j + 1 : Nat)).n) ((tat ts (j + 1 : Nat)).c), .int .i64 ((tat ts (j + 1 : Nat)).wk), .int .i64 ((tat ts (j + 1 : Nat)).k), .int .i64 ((tat ts (j + 1 : Nat)).r), .bool ((tat ts (j + 1 : Nat)).dn)]) (L' := [⟨r2, #[.slice ((tat ts (j + 1 : Nat)).a) ((tat ts (j + 1 : Nat)).n) ((tat ts (j + 1 : Nat)).c), .int .i64 ((tat ts (j + 1 : Nat)).wk), .int .i64 ((tat ts (j + 1 : Nat)).k), .int .i64 ((tat ts (j + 1 : Nat)).r), .bool ((tat ts (j + 1 : Nat)).dn)], 51⟩]) 0 (by kernel_rfl) rfl (by kernel_rfl) (by kernel_rfl) rfl (by kernel_rfl) rfl ?_
      refine nx_list ?_
      refine nx_then ?_
      refine wc_seq ?_
      refine wc_draw 10 (SH w [⟨r2, #[.slice ((tat ts (j + 1 : Nat)).a) ((tat ts (j + 1 : Nat)).n) ((tat ts (j + 1 : Nat)).c), .int .i64 ((tat ts (j + 1 : Nat)).wk), .int .i64 ((tat ts (j + 1 : Nat)).k), .int .i64 ((tat ts (j + 1 : Nat)).r), .bool ((tat ts (j + 1 : Nat)).dn)], 51⟩]) rfl (by decide) (fun w h => SH.drew h) ?_
      refine wd_go [0, 1] [(14, .bool (decide (((bk ts (j + 1) : Nat) : Int) < 0))), (13, .int .i64 ((bk ts (j + 1) : Nat) : Int))] #[true, true, false, false, false, false, false, false, false, false] (f := 8) rfl (by kernel_rfl) (fun w h => h) ?_
      rw [show decide (((bk ts (j + 1) : Nat) : Int) < 0) = false from decide_eq_false (by omega)]
      refine wd_go [2, 3, 4] [(17, .int .i64 ((bk ts (j + 1) : Nat) : Int)), (16, .slice (some ⟨gq, oq, none⟩) ts.length ca), (15, .bool false)] #[true, true, true, true, true, false, false, false, false, false] (f := 5) rfl (by kernel_rfl) (fun w h => h) ?_
      refine wd_yl 5 (d := 18) (v := .pointer (some ⟨gq, oq + (bk ts (j + 1) : Nat) * 5, none⟩)) (f := 4) rfl (by kernel_rfl) (by kernel_rfl) (fun w h => h) (yl_index (E := 51) (b := gq) (off := oq) (len := ts.length) (cap := ca) (k := (bk ts (j + 1) : Nat)) (es := 5) rfl (by kernel_rfl) (by kernel_rfl) (by kernel_rfl) (by omega)) ?_
      refine wd_yl 6 (d := 19) (v := .agg #[.slice ((tat ts (bk ts (j + 1) : Nat)).a) ((tat ts (bk ts (j + 1) : Nat)).n) ((tat ts (bk ts (j + 1) : Nat)).c), .int .i64 ((tat ts (bk ts (j + 1) : Nat)).wk), .int .i64 ((tat ts (bk ts (j + 1) : Nat)).k), .int .i64 ((tat ts (bk ts (j + 1) : Nat)).r), .bool ((tat ts (bk ts (j + 1) : Nat)).dn)]) (f := 3) rfl (by kernel_rfl) (by kernel_rfl) (fun w h => h) (yl_loads_im (b := gq) (off := oq + (bk ts (j + 1) : Nat) * 5) (cs := [.slice ((tat ts (bk ts (j + 1) : Nat)).a) ((tat ts (bk ts (j + 1) : Nat)).n) ((tat ts (bk ts (j + 1) : Nat)).c), .int .i64 ((tat ts (bk ts (j + 1) : Nat)).wk), .int .i64 ((tat ts (bk ts (j + 1) : Nat)).k), .int .i64 ((tat ts (bk ts (j + 1) : Nat)).r), .bool ((tat ts (bk ts (j + 1) : Nat)).dn)]) rfl (by kernel_rfl) (im_of (q2 0 _ rfl) (ge_cons hr2 (ge_nil _))) (by kernel_rfl) q2) ?_
      refine wd_yl 7 (d := 20) (v := .agg #[.slice ((tat ts (j + 1 : Nat)).a) ((tat ts (j + 1 : Nat)).n) ((tat ts (j + 1 : Nat)).c), .int .i64 ((tat ts (j + 1 : Nat)).wk), .int .i64 ((tat ts (j + 1 : Nat)).k), .int .i64 ((tat ts (j + 1 : Nat)).r), .bool ((tat ts (j + 1 : Nat)).dn)]) (f := 2) rfl (by kernel_rfl) (by kernel_rfl) (fun w h => h) (yl_load (b := r2) (off := 0) 0 rfl (by kernel_rfl) rfl (by kernel_rfl)) ?_
      refine wd_callK shK 8 (d := 21) (fu := 1) (v := .bool (bet (tat ts (j + 1 : Nat)) (tat ts (bk ts (j + 1) : Nat)))) rfl (by decide) (by kernel_rfl) (by kernel_rfl) (by kernel_rfl) (fun w1 h1 => less_ok (tat ts (bk ts (j + 1) : Nat)) (tat ts (j + 1 : Nat)) (tat_n h_n _) (tat_n h_n _) w1) ?_
      refine wd_go [9] [(22, .bool (bet (tat ts (j + 1 : Nat)) (tat ts (bk ts (j + 1) : Nat))))] #[true, true, true, true, true, true, true, true, true, true] (f := 0) rfl (by kernel_rfl) (fun w h => h) ?_
      refine wd_done (by kernel_rfl) ?_
      refine nx_list ?_
      refine nx_on ?_
      refine nx_then ?_
      refine wc_cond (bet (tat ts (j + 1 : Nat)) (tat ts (bk ts (j + 1) : Nat))) (by kernel_rfl) (by kernel_rfl) (fun hbt => ?_) (fun hbt => ?_)
      · skip
        have hbk : bk ts (j + 1 + 1) = j + 1 := bk_yes hbt
        refine wc_region ?_
        refine wl_go 2 [(3, .int .i64 ((j + 1 : Nat) : Int)), (23, .int .i64 ((j + 1 : Nat) : Int))] (by kernel_rfl) ?_
        refine nx_list ?_
        refine nx_block ?_
        refine nx_then ?_
        refine wc_region ?_
        refine wl_yl (d := 24) (v := .int .i64 (((j + 1 : Nat) : Int) + 1)) (by kernel_rfl) (yl_int (t := ((j + 1 : Nat) : Int) + 1) (r := ((j + 1 : Nat) : Int) + 1) (by kernel_rfl) (i64w (by omega) (by omega))) ?_
        refine wl_go 1 [(8, .int .i64 (((j + 1 : Nat) : Int) + 1))] (by kernel_rfl) ?_
        refine nx_list ?_
        exact nx_round (y := ⟨(j + 1 : Nat) + 1, hk⟩) (show ts.length - ((j + 1 : Nat) + 1) < ts.length - (j + 1 : Nat) by omega) (subEnv_cons (by kernel_rfl) (subEnv_cons (by kernel_rfl) (subEnv_cons (by kernel_rfl) (subEnv_cons (look_int (congrArg Nat.cast hbk.symm) (by kernel_rfl)) (subEnv_cons (by kernel_rfl) (subEnv_nil _)))))) (fun w h => h.tail hr2)
      · skip
        have hbk : bk ts (j + 1 + 1) = bk ts (j + 1) := bk_no hbt
        refine nx_skip ?_
        refine nx_block ?_
        refine nx_then ?_
        refine wc_region ?_
        refine wl_yl (d := 24) (v := .int .i64 (((j + 1 : Nat) : Int) + 1)) (by kernel_rfl) (yl_int (t := ((j + 1 : Nat) : Int) + 1) (r := ((j + 1 : Nat) : Int) + 1) (by kernel_rfl) (i64w (by omega) (by omega))) ?_
        refine wl_go 1 [(8, .int .i64 (((j + 1 : Nat) : Int) + 1))] (by kernel_rfl) ?_
        refine nx_list ?_
        exact nx_round (y := ⟨(j + 1 : Nat) + 1, hk⟩) (show ts.length - ((j + 1 : Nat) + 1) < ts.length - (j + 1 : Nat) by omega) (subEnv_cons (by kernel_rfl) (subEnv_cons (by kernel_rfl) (subEnv_cons (by kernel_rfl) (subEnv_cons (look_int (congrArg Nat.cast hbk.symm) (by kernel_rfl)) (subEnv_cons (by kernel_rfl) (subEnv_nil _)))))) (fun w h => h.tail hr2)
    · skip
      refine nx_exit ?_
      refine nx_then_exit ?_
      refine nx_then_exit ?_
      refine nx_block_here ?_
      refine nx_then ?_
      refine wc_seq ?_
      refine wc_region ?_
      refine wl_go 2 [(2, .int .i64 ((bk ts (j + 1) : Nat) : Int)), (25, .int .i64 ((bk ts (j + 1) : Nat) : Int))] (by kernel_rfl) ?_
      refine nx_list ?_
      refine nx_then ?_
      refine nx_ret ?_
      refine ret_tmp (v := .int .i64 ((bk ts (j + 1) : Nat) : Int)) rfl (by kernel_rfl) ?_
      intro w' hw'
      have hl : ts.length = j + 1 := by have := of_decide_eq_false hlt; omega
      refine ⟨?_, hw'.below (Below.refl _ _) (Nat.le_refl _) (ge_nil _)⟩
      rw [hl]; rfl

theorem rbest_ok (ts : List Tr) (aa : Option Addr) (ca : Nat) (w : World) (h_in : TrIn w aa ts) (h_l : ts.length ≤ 20) (h_n : ∀ t ∈ ts, t.n ≤ 5000) : Calls Tryd.prog 11 #[.slice aa ts.length ca] w (fun e w' => e = .returned (.int .i64 (bi ts ts.length)) ∧ Below w.heap.size w w') := by
  refine Sx.enter (l := [.slice aa ts.length ca]) Tryd.func11 rfl (n := 25) rfl (by simp) ?_
  refine wc_eq (S := SH w []) (SH.refl _) ?_
  refine wc_seq ?_
  refine wc_region ?_
  refine wl_go 1 [(2, .int .i64 0)] (by kernel_rfl) ?_
  refine nx_list ?_
  refine nx_then ?_
  refine wc_seq ?_
  refine wc_seq ?_
  refine wc_region ?_
  refine wl_go 3 [(7, .bool ((ts.length : Int) == 0)), (6, .int .i64 (ts.length : Int)), (5, .slice aa ts.length ca)] (by kernel_rfl) ?_
  refine nx_list ?_
  refine nx_then ?_
  refine wc_cond ((ts.length : Int) == 0) (by kernel_rfl) (by kernel_rfl) (fun hz => ?_) (fun hz => ?_)
  · skip
    refine wc_seq ?_
    refine wc_region ?_
    refine wl_go 1 [(2, .int .i64 (-1))] (by kernel_rfl) ?_
    refine nx_list ?_
    refine nx_then ?_
    refine nx_ret ?_
    refine nx_then_ret ?_
    refine ret_tmp (v := .int .i64 (-1)) rfl (by kernel_rfl) ?_
    intro w' hw'
    have hl : ts.length = 0 := by have := eq_of_beq hz; omega
    refine ⟨?_, hw'.below (Below.refl _ _) (Nat.le_refl _) (ge_nil _)⟩
    rw [hl]; rfl
  · skip
    refine nx_skip ?_
    refine nx_then ?_
    refine wc_seq ?_
    refine wc_region ?_
    refine wl_go 1 [(3, .int .i64 0)] (by kernel_rfl) ?_
    refine nx_list ?_
    refine nx_then ?_
    refine wc_seq ?_
    refine wc_seq ?_
    refine wc_region ?_
    refine wl_go 1 [(4, .int .i64 1)] (by kernel_rfl) ?_
    refine nx_list ?_
    refine nx_then ?_
    refine wc_block ?_
    have hne : 1 ≤ ts.length := by
      have : ((ts.length : Int) == 0) = false := hz
      simp at this; cases ts with | nil => simp at this | cons _ _ => simp
    refine wc_loop (σ := { k : Nat // 1 ≤ k ∧ k ≤ ts.length }) (fun x => [(0, .slice aa ts.length ca), (3, .int .i64 ((bk ts x.1 : Nat) : Int)), (4, .int .i64 (x.1 : Int))]) (fun _ => SH w []) (fun x => ts.length - x.1) (fun w3 h3 => ⟨⟨1, Nat.le_refl _, hne⟩, h3, (subEnv_cons (by kernel_rfl) (subEnv_cons (look_int (r := 0) (show (0 : Int) = ((bk ts 1 : Nat) : Int) from by rw [bk_one]; rfl) (by kernel_rfl)) (subEnv_cons (by kernel_rfl) (subEnv_nil _))))⟩) (fun x => ?_)
    obtain ⟨i, h1, hi⟩ := x
    refine wc_seq ?_
    refine wc_seq ?_
    refine wc_region ?_
    refine wl_go 4 [(11, .bool (decide ((i : Int) < (ts.length : Int)))), (10, .int .i64 (ts.length : Int)), (9, .slice aa ts.length ca), (8, .int .i64 (i : Int))] (by kernel_rfl) ?_
    refine nx_list ?_
    refine nx_then ?_
    refine wc_cond (decide ((i : Int) < (ts.length : Int))) (by kernel_rfl) (by kernel_rfl) (fun hlt => ?_) (fun hlt => ?_)
    · skip
      have hk : i < ts.length := by have := of_decide_eq_true hlt; omega
      obtain ⟨gq, oq, rfl, hrow⟩ := h_in.get hk
      have q1 := hrow i hk
      have hb : bk ts i < ts.length := by cases i with | zero => omega | succ j => have := bk_lt ts j; omega
      have q2 := hrow (bk ts i) hb
      refine nx_skip ?_
      refine nx_then ?_
      refine wc_seq ?_
      refine wc_block ?_
      refine wc_seq ?_
      refine wc_draw 9 (SH w []) rfl (by decide) (fun w h => SH.drew h) ?_
      refine wd_go [0, 1] [(15, .int .i64 (i : Int)), (14, .slice (some ⟨gq, oq, none⟩) ts.length ca)] #[true, true, false, false, false, false, false, false, false] (f := 7) rfl (by kernel_rfl) (fun w h => h) ?_
      refine wd_yl 2 (d := 16) (v := .pointer (some ⟨gq, oq + i * 5, none⟩)) (f := 6) rfl (by kernel_rfl) (by kernel_rfl) (fun w h => h) (yl_index (E := 51) (b := gq) (off := oq) (len := ts.length) (cap := ca) (k := i) (es := 5) rfl (by kernel_rfl) (by kernel_rfl) (by kernel_rfl) (by omega)) ?_
      refine wd_yl 3 (d := 17) (v := .agg #[.slice ((tat ts i).a) ((tat ts i).n) ((tat ts i).c), .int .i64 ((tat ts i).wk), .int .i64 ((tat ts i).k), .int .i64 ((tat ts i).r), .bool ((tat ts i).dn)]) (f := 5) rfl (by kernel_rfl) (by kernel_rfl) (fun w h => h) (yl_loads_im (b := gq) (off := oq + i * 5) (cs := [.slice ((tat ts i).a) ((tat ts i).n) ((tat ts i).c), .int .i64 ((tat ts i).wk), .int .i64 ((tat ts i).k), .int .i64 ((tat ts i).r), .bool ((tat ts i).dn)]) rfl (by kernel_rfl) (im_of (q1 0 _ rfl) (ge_nil _)) (by kernel_rfl) q1) ?_
      refine wd_go [4, 5] [(19, .int .i64 ((bk ts i : Nat) : Int)), (18, .slice (some ⟨gq, oq, none⟩) ts.length ca)] #[true, true, true, true, true, true, false, false, false] (f := 3) rfl (by kernel_rfl) (fun w h => h) ?_
      refine wd_yl 6 (d := 20) (v := .pointer (some ⟨gq, oq + (bk ts i : Nat) * 5, none⟩)) (f := 2) rfl (by kernel_rfl) (by kernel_rfl) (fun w h => h) (yl_index (E := 51) (b := gq) (off := oq) (len := ts.length) (cap := ca) (k := (bk ts i : Nat)) (es := 5) rfl (by kernel_rfl) (by kernel_rfl) (by kernel_rfl) (by omega)) ?_
      refine wd_yl 7 (d := 21) (v := .agg #[.slice ((tat ts (bk ts i : Nat)).a) ((tat ts (bk ts i : Nat)).n) ((tat ts (bk ts i : Nat)).c), .int .i64 ((tat ts (bk ts i : Nat)).wk), .int .i64 ((tat ts (bk ts i : Nat)).k), .int .i64 ((tat ts (bk ts i : Nat)).r), .bool ((tat ts (bk ts i : Nat)).dn)]) (f := 1) rfl (by kernel_rfl) (by kernel_rfl) (fun w h => h) (yl_loads_im (b := gq) (off := oq + (bk ts i : Nat) * 5) (cs := [.slice ((tat ts (bk ts i : Nat)).a) ((tat ts (bk ts i : Nat)).n) ((tat ts (bk ts i : Nat)).c), .int .i64 ((tat ts (bk ts i : Nat)).wk), .int .i64 ((tat ts (bk ts i : Nat)).k), .int .i64 ((tat ts (bk ts i : Nat)).r), .bool ((tat ts (bk ts i : Nat)).dn)]) rfl (by kernel_rfl) (im_of (q2 0 _ rfl) (ge_nil _)) (by kernel_rfl) q2) ?_
      refine wd_callK shK 8 (d := 22) (fu := 0) (v := .bool (bet (tat ts i) (tat ts (bk ts i : Nat)))) rfl (by decide) (by kernel_rfl) (by kernel_rfl) (by kernel_rfl) (fun w1 h1 => better_ok (tat ts i) (tat ts (bk ts i : Nat)) (tat_n h_n _) (tat_n h_n _) w1) ?_
      refine wd_done (by kernel_rfl) ?_
      refine nx_list ?_
      refine nx_on ?_
      refine nx_then ?_
      refine wc_cond (bet (tat ts i) (tat ts (bk ts i : Nat))) (by kernel_rfl) (by kernel_rfl) (fun hbt => ?_) (fun hbt => ?_)
      · skip
        have hbk : bk ts (i + 1) = i := bk_yes hbt
        refine wc_region ?_
        refine wl_go 2 [(3, .int .i64 (i : Int)), (23, .int .i64 (i : Int))] (by kernel_rfl) ?_
        refine nx_list ?_
        refine nx_block ?_
        refine nx_then ?_
        refine wc_region ?_
        refine wl_go 1 [(12, .int .i64 (i : Int))] (by kernel_rfl) ?_
        refine wl_yl (d := 13) (v := .int .i64 ((i : Int) + 1)) (by kernel_rfl) (yl_int (t := (i : Int) + 1) (r := (i : Int) + 1) (by kernel_rfl) (i64w (by omega) (by omega))) ?_
        refine wl_go 1 [(4, .int .i64 ((i : Int) + 1))] (by kernel_rfl) ?_
        refine nx_list ?_
        exact nx_round (y := ⟨i + 1, by omega, hk⟩) (show ts.length - (i + 1) < ts.length - i by omega) (subEnv_cons (by kernel_rfl) (subEnv_cons (look_int (congrArg Nat.cast hbk.symm) (by kernel_rfl)) (subEnv_cons (by kernel_rfl) (subEnv_nil _)))) (fun w h => h)
      · skip
        have hbk : bk ts (i + 1) = bk ts i := bk_no hbt
        refine nx_skip ?_
        refine nx_block ?_
        refine nx_then ?_
        refine wc_region ?_
        refine wl_go 1 [(12, .int .i64 (i : Int))] (by kernel_rfl) ?_
        refine wl_yl (d := 13) (v := .int .i64 ((i : Int) + 1)) (by kernel_rfl) (yl_int (t := (i : Int) + 1) (r := (i : Int) + 1) (by kernel_rfl) (i64w (by omega) (by omega))) ?_
        refine wl_go 1 [(4, .int .i64 ((i : Int) + 1))] (by kernel_rfl) ?_
        refine nx_list ?_
        exact nx_round (y := ⟨i + 1, by omega, hk⟩) (show ts.length - (i + 1) < ts.length - i by omega) (subEnv_cons (by kernel_rfl) (subEnv_cons (look_int (congrArg Nat.cast hbk.symm) (by kernel_rfl)) (subEnv_cons (by kernel_rfl) (subEnv_nil _)))) (fun w h => h)
    · skip
      refine nx_exit ?_
      refine nx_then_exit ?_
      refine nx_then_exit ?_
      refine nx_block_here ?_
      refine nx_then ?_
      refine wc_seq ?_
      refine wc_region ?_
      refine wl_go 2 [(2, .int .i64 ((bk ts i : Nat) : Int)), (24, .int .i64 ((bk ts i : Nat) : Int))] (by kernel_rfl) ?_
      refine nx_list ?_
      refine nx_then ?_
      refine nx_ret ?_
      refine ret_tmp (v := .int .i64 ((bk ts i : Nat) : Int)) rfl (by kernel_rfl) ?_
      intro w' hw'
      have hl : ts.length = i := by have := of_decide_eq_false hlt; omega
      refine ⟨?_, hw'.below (Below.refl _ _) (Nat.le_refl _) (ge_nil _)⟩
      rw [hl, bi_pos h1]

end Go.Proofs.YtjcjgcnpnfhkoaaDoor
