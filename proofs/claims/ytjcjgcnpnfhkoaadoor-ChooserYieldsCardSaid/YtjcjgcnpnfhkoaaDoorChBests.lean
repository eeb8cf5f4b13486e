/- The walk of the law ChooserBests, printed by a program of this repository (gen/chbests.py). -/
import Derived.Test.YtjcjgcnpnfhkoaaDoorChBest
import Derived.Test.YtjcjgcnpnfhkoaaDoorAwake
namespace Go.Proofs.YtjcjgcnpnfhkoaaDoor
open Go.RowKit Go.Sx
set_option linter.unusedVariables false
set_option linter.unusedSimpArgs false

theorem all_n {ts : List Tr} (h : ∀ m, m < ts.length → (tat ts m).n ≤ 5000) : ∀ t ∈ ts, t.n ≤ 5000 := fun t ht => by
  obtain ⟨i, hi, rfl⟩ := List.mem_iff_getElem.1 ht
  have := h i hi
  simpa [tat, List.getD, List.getElem?_eq_getElem hi] using this
theorem walk_bests (ts : List Tr) (aa : Option Addr) (ca : Nat) (w : World) (h_in : TrIn w aa ts) (h_b : ts.length ≤ 140737488355328) : Calls Tryd.prog 4 #[.slice aa ts.length ca] w (fun e w' => e = .returned (.bool true) ∧ Below w.heap.size w w') := by
  refine Sx.enter (l := [.slice aa ts.length ca]) Tryd.func4 rfl (n := 30) rfl (by simp) ?_
  refine wc_eq (S := SH w []) (SH.refl _) ?_
  refine wc_seq ?_
  refine wc_region ?_
  refine wl_go 1 [(2, .bool false)] (by kernel_rfl) ?_
  refine nx_list ?_
  refine nx_then ?_
  refine wc_seq ?_
  refine wc_seq ?_
  refine wc_region ?_
  refine wl_go 3 [(6, .bool (decide ((ts.length : Int) > 20))), (5, .int .i64 (ts.length : Int)), (4, .slice aa ts.length ca)] (by kernel_rfl) ?_
  refine nx_list ?_
  refine nx_then ?_
  refine wc_cond (decide ((ts.length : Int) > 20)) (by kernel_rfl) (by kernel_rfl) (fun hbig => ?_) (fun hbig => ?_)
  · skip
    refine wc_seq ?_
    refine wc_region ?_
    refine wl_callK shK (d := 7) (v := .bool true) (by kernel_rfl) (by kernel_rfl) (fun w1 h1 => awake_ok w1) ?_
    refine wl_go 1 [(2, .bool true)] (by kernel_rfl) ?_
    refine nx_list ?_
    refine nx_then ?_
    refine nx_ret ?_
    refine nx_then_ret ?_
    refine ret_tmp (v := .bool true) rfl (by kernel_rfl) ?_
    intro w' hw'
    exact ⟨rfl, hw'.below (Below.refl _ _) (Nat.le_refl _) (ge_nil _)⟩
  · skip
    refine nx_skip ?_
    refine nx_then ?_
    refine wc_seq ?_
    refine wc_seq ?_
    refine wc_region ?_
    refine wl_go 1 [(3, .int .i64 0)] (by kernel_rfl) ?_
    refine nx_list ?_
    refine nx_then ?_
    refine wc_block ?_
    have h_l : ts.length ≤ 20 := by have := of_decide_eq_false hbig; omega
    refine wc_loop (σ := { k : Nat // k ≤ ts.length ∧ ∀ m, m < k → (tat ts m).n ≤ 5000 }) (fun x => [(0, .slice aa ts.length ca), (3, .int .i64 (x.1 : Int))]) (fun _ => SH w []) (fun x => ts.length - x.1) (fun w3 h3 => ⟨⟨0, Nat.zero_le _, fun m hm => by omega⟩, h3, (subEnv_cons (by kernel_rfl) (subEnv_cons (by kernel_rfl) (subEnv_nil _)))⟩) (fun x => ?_)
    obtain ⟨i, hi, hall⟩ := x
    refine wc_seq ?_
    refine wc_seq ?_
    refine wc_region ?_
    refine wl_go 4 [(11, .bool (decide ((i : Int) < (ts.length : Int)))), (10, .int .i64 (ts.length : Int)), (9, .slice aa ts.length ca), (8, .int .i64 (i : Int))] (by kernel_rfl) ?_
    refine nx_list ?_
    refine nx_then ?_
    refine wc_cond (decide ((i : Int) < (ts.length : Int))) (by kernel_rfl) (by kernel_rfl) (fun hlt => ?_) (fun hlt => ?_)
    · skip
      have hk : i < ts.length := by have := of_decide_eq_true hlt; omega
      obtain ⟨gq, oq, rfl, hrow⟩ := h_in.get hk
      have q1 := hrow i hk
      refine nx_skip ?_
      refine nx_then ?_
      refine wc_seq ?_
      refine wc_block ?_
      refine wc_seq ?_
      refine wc_region ?_
      refine wl_go 2 [(15, .int .i64 (i : Int)), (14, .slice (some ⟨gq, oq, none⟩) ts.length ca)] (by kernel_rfl) ?_
      refine wl_yl (d := 16) (v := .pointer (some ⟨gq, oq + i * 5, none⟩)) (by kernel_rfl) (yl_index (E := 51) (b := gq) (off := oq) (len := ts.length) (cap := ca) (k := i) (es := 5) rfl (by kernel_rfl) (by kernel_rfl) (by kernel_rfl) (by omega)) ?_
      refine wl_go 1 [(17, .pointer (some ⟨gq, oq + i * 5, none⟩))] (by kernel_rfl) ?_
      refine wl_yl (d := 18) (v := .slice ((tat ts i).a) ((tat ts i).n) ((tat ts i).c)) (by kernel_rfl) (yl_load_im (b := gq) (off := oq + i * 5) (v := .slice ((tat ts i).a) ((tat ts i).n) ((tat ts i).c)) rfl (by kernel_rfl) (im_of (q1 0 _ rfl) (ge_nil _)) (by kernel_rfl) (q1 0 _ rfl)) ?_
      refine wl_go 2 [(20, .bool (decide (((tat ts i).n : Int) > 5000))), (19, .int .i64 ((tat ts i).n : Int))] (by kernel_rfl) ?_
      refine nx_list ?_
      refine nx_then ?_
      refine wc_cond (decide (((tat ts i).n : Int) > 5000)) (by kernel_rfl) (by kernel_rfl) (fun hbt => ?_) (fun hbt => ?_)
      · skip
        refine wc_seq ?_
        refine wc_region ?_
        refine wl_callK shK (d := 21) (v := .bool true) (by kernel_rfl) (by kernel_rfl) (fun w1 h1 => awake_ok w1) ?_
        refine wl_go 1 [(2, .bool true)] (by kernel_rfl) ?_
        refine nx_list ?_
        refine nx_then ?_
        refine nx_ret ?_
        refine nx_block_ret ?_
        refine nx_then_ret ?_
        refine nx_then_ret ?_
        refine nx_block_ret ?_
        refine nx_then_ret ?_
        refine ret_tmp (v := .bool true) rfl (by kernel_rfl) ?_
        intro w' hw'
        exact ⟨rfl, hw'.below (Below.refl _ _) (Nat.le_refl _) (ge_nil _)⟩
      · skip
        refine nx_skip ?_
        refine nx_block ?_
        refine nx_then ?_
        refine wc_region ?_
        refine wl_go 1 [(12, .int .i64 (i : Int))] (by kernel_rfl) ?_
        refine wl_yl (d := 13) (v := .int .i64 ((i : Int) + 1)) (by kernel_rfl) (yl_int (t := (i : Int) + 1) (r := (i : Int) + 1) (by kernel_rfl) (i64w (by omega) (by omega))) ?_
        refine wl_go 1 [(3, .int .i64 ((i : Int) + 1))] (by kernel_rfl) ?_
        refine nx_list ?_
        exact nx_round (y := ⟨i + 1, hk, fun m hm => by
            by_cases hmi : m = i
            · subst hmi; have := of_decide_eq_false hbt; omega
            · exact hall m (by omega)⟩) (show ts.length - (i + 1) < ts.length - i by omega) (subEnv_cons (by kernel_rfl) (subEnv_cons (by kernel_rfl) (subEnv_nil _))) (fun w h => h)
    · skip
      have hl : ts.length = i := by have := of_decide_eq_false hlt; omega
      have h_n := all_n (hl ▸ hall)
      refine nx_exit ?_
      refine nx_then_exit ?_
      refine nx_then_exit ?_
      refine nx_block_here ?_
      refine nx_then ?_
      refine wc_seq ?_
      refine wc_region ?_
      refine wl_go 1 [(22, .slice aa ts.length ca)] (by kernel_rfl) ?_
      refine wl_callK shK (d := 23) (v := .int .i64 (bi ts ts.length)) (by kernel_rfl) (by kernel_rfl) (fun w1 h1 => best_ok ts aa ca w1 (h_in.bel (h1.below (Below.refl _ _) (Nat.le_refl _) (ge_nil _))) h_l h_n) ?_
      refine wl_go 1 [(24, .slice aa ts.length ca)] (by kernel_rfl) ?_
      refine wl_callK shK (d := 25) (v := .int .i64 (bi ts ts.length)) (by kernel_rfl) (by kernel_rfl) (fun w1 h1 => rbest_ok ts aa ca w1 (h_in.bel (h1.below (Below.refl _ _) (Nat.le_refl _) (ge_nil _))) h_l h_n) ?_
      refine wl_go 1 [(26, .bool ((bi ts ts.length) == (bi ts ts.length)))] (by kernel_rfl) ?_
      rw [show ((bi ts ts.length) == (bi ts ts.length)) = true from by simp]
      refine wl_go 1 [(27, .bool true)] (by kernel_rfl) ?_
      refine wl_callK shK (d := 28) (v := .bool true) (by kernel_rfl) (by kernel_rfl) (fun w1 h1 => awake_ok w1) ?_
      refine wl_go 2 [(2, .bool true), (29, .bool true)] (by kernel_rfl) ?_
      refine nx_list ?_
      refine nx_then ?_
      refine nx_ret ?_
      refine ret_tmp (v := .bool true) rfl (by kernel_rfl) ?_
      intro w' hw'
      exact ⟨rfl, hw'.below (Below.refl _ _) (Nat.le_refl _) (ge_nil _)⟩

theorem trial_row {S : Nat → Prop} {w : World} {ds : List D} {vs : List Value} (h : RdL S w ds vs) (hf : FitL sh by_ ds (sh 16)) : ∃ t : Tr, vs = t.cells ∧ -9223372036854775808 ≤ t.wk ∧ t.wk ≤ 9223372036854775807 ∧ (t.n : Int) ≤ 140737488355328 := by
  have hf' : FitL sh by_ ds [.sl 0, .int, .int, .int, .bool] := hf
  obtain ⟨d1, e1, rfl, f1, g1⟩ := hf'.cons
  obtain ⟨d2, e2, rfl, f2, g2⟩ := g1.cons
  obtain ⟨d3, e3, rfl, f3, g3⟩ := g2.cons
  obtain ⟨d4, e4, rfl, f4, g4⟩ := g3.cons
  obtain ⟨d5, e5, rfl, f5, g5⟩ := g4.cons
  obtain rfl := g5.nil
  obtain ⟨rows, rfl, fb, _⟩ := f1.sl
  obtain ⟨x2, rfl, b2, c2⟩ := f2.int
  obtain ⟨x3, rfl, _⟩ := f3.int
  obtain ⟨x4, rfl, _⟩ := f4.int
  obtain ⟨x5, rfl⟩ := f5.bool
  obtain ⟨v1, s1, rfl, r1, t1⟩ := h.cons
  obtain ⟨v2, s2, rfl, r2, t2⟩ := t1.cons
  obtain ⟨v3, s3, rfl, r3, t3⟩ := t2.cons
  obtain ⟨v4, s4, rfl, r4, t4⟩ := t3.cons
  obtain ⟨v5, s5, rfl, r5, t5⟩ := t4.cons
  have : s5 = [] := by cases s5 with | nil => rfl | cons _ _ => exact t5.elim
  subst this
  rw [Rd] at r1
  rw [Rd] at r2
  rw [Rd] at r3
  rw [Rd] at r4
  rw [Rd] at r5
  obtain ⟨a, c, rfl, _⟩ := r1
  subst r2 r3 r4 r5
  have hb : by_ 0 = 80 := rfl
  rw [hb] at fb
  exact ⟨⟨a, rows.length, c, x2, x3, x4, x5⟩, rfl, b2, c2, by show (rows.length : Int) ≤ _; omega⟩
theorem trials_open {w : World} {rows : List (List D)} {aa : Option Addr} {ca : Nat} (h : Rd (fun _ => True) w (.sl rows) (.slice aa rows.length ca)) (hf : FitR sh by_ rows (sh 16)) : ∃ ts : List Tr, ts.length = rows.length ∧ TrIn w aa ts ∧ ∀ k, k < ts.length → -9223372036854775808 ≤ (tat ts k).wk ∧ (tat ts k).wk ≤ 9223372036854775807 := by
  by_cases hne : rows = []
  · subst hne; exact ⟨[], rfl, .inl rfl, fun k hk => by simp at hk⟩
  · obtain ⟨g, off, cap, rv, he, hR, hrg⟩ := h.rows hne
    cases he
    have hl := (hR.flat (es := 5) (fun r hr => hf.length r hr)).1
    have hex : ∀ k : Nat, ∃ t : Tr, k < rows.length → rv[k]? = some t.cells ∧ -9223372036854775808 ≤ t.wk ∧ t.wk ≤ 9223372036854775807 := fun k => by
      by_cases hk : k < rows.length
      · have hr : rows[k]? = some rows[k] := List.getElem?_eq_getElem hk
        obtain ⟨v, hv, hrd⟩ := hR.get k _ hr
        obtain ⟨t, rfl, h1, h2, _⟩ := trial_row hrd (hf.get k _ hr)
        exact ⟨t, fun _ => ⟨hv, h1, h2⟩⟩
      · exact ⟨noTr, fun h => absurd h hk⟩
    have tm : ∀ k, k < rows.length → tat ((List.range rows.length).map fun k => (hex k).choose) k = (hex k).choose := fun k hk => by
      simp [tat, List.getD, List.getElem?_map, List.getElem?_range hk]
    refine ⟨(List.range rows.length).map fun k => (hex k).choose, by simp, .inr ⟨g, off, rfl, fun k hk => ?_⟩, fun k hk => ?_⟩
    · have hk' : k < rows.length := by simpa using hk
      rw [tm k hk']
      exact range_row hrg hl ((hex k).choose_spec hk').1
    · have hk' : k < rows.length := by simpa using hk
      rw [tm k hk']
      exact ((hex k).choose_spec hk').2
end Go.Proofs.YtjcjgcnpnfhkoaaDoor
