/- Contracts of functions, printed by a program of this repository (gen). -/
import Derived.Test.YtidkaipijocjcaaNetAwake
namespace Go.Proofs.Ytidkaipijocjcaa
open Go.RowKit Go.Sx
set_option linter.unusedVariables false
set_option linter.unusedSimpArgs false

/-- a search's state: none of the first i is such a one -/
structure Ix (w : World) (ms : List Msg) (p : Msg → Bool) where
  i : Nat
  wb : World
  hi : i ≤ ms.length
  hno : (ms.take i).any p = false
  hb : Below w.heap.size w wb

theorem Ix.row {w : World} {ms : List Msg} {p : Msg → Bool} (x : Ix w ms p) {a : Option Addr} {c : Nat} (hrow : RowV w [] 0 (.slice a ms.length c) (ms.map Msg.cells)) (hlt : x.i < ms.length) :
    ∃ (g : Nat) (fr to kind term index last commit : Int) (ents : Value) (ok : Bool), a = some ⟨g, 0, none⟩ ∧ ms[x.i]? = some ⟨fr, to, kind, term, index, last, commit, ents, ok⟩ ∧ Im x.wb [] g ∧
      x.wb.rangeAt g (0 + x.i * 9) [.int .i64 fr, .int .i64 to, .int .i64 kind, .int .i64 term, .int .i64 index, .int .i64 last, .int .i64 commit, ents, .bool ok] := by
  obtain ⟨m, hm⟩ : ∃ m, ms[x.i]? = some m := ⟨_, List.getElem?_eq_getElem hlt⟩
  obtain ⟨fr, to, kind, term, index, last, commit, ents, ok⟩ := m
  obtain ⟨a', cap, he, h⟩ := hrow
  simp only [Value.slice.injEq] at he
  obtain ⟨rfl, _, _⟩ := he
  rcases h with h | ⟨g, ha, _, hI, hr⟩
  · have := congrArg List.length h
    simp only [List.length_map, List.length_nil] at this
    omega
  · have hs := x.hb.size
    refine ⟨g, fr, to, kind, term, index, last, commit, ents, ok, ha, hm, ⟨Nat.lt_of_lt_of_le hI.1 hs, by simp⟩, ?_⟩
    have h1 : x.wb.rangeAt g 0 (ms.map Msg.cells).flatten := fun j v hj => by
      rw [x.hb.cell (p := ⟨g, 0 + j, none⟩) hI.1]
      exact hr j v hj
    exact range_row (es := 9) (i := x.i) h1 (fun y hy => by obtain ⟨q, _, rfl⟩ := List.mem_map.1 hy; rfl) (r := Msg.cells ⟨fr, to, kind, term, index, last, commit, ents, ok⟩) (by simp [hm])

theorem any_snoc {ms : List Msg} {p : Msg → Bool} {i : Nat} {m : Msg} (h : ms[i]? = some m) (hno : (ms.take i).any p = false) (hp : p m = false) : (ms.take (i + 1)).any p = false := by
  rw [List.take_add_one, h]
  simp [hno, hp]
theorem any_here {ms : List Msg} {p : Msg → Bool} {i : Nat} {m : Msg} (h : ms[i]? = some m) (hp : p m = true) : ms.any p = true := by
  rw [List.any_eq_true]
  exact ⟨m, List.mem_of_getElem? h, hp⟩

theorem c2_ok (fr to kind term index last commit : Int) (ents : Value) (ok : Bool) (w : World) : Calls Try.prog 17 #[.agg #[.int .i64 fr, .int .i64 to, .int .i64 kind, .int .i64 term, .int .i64 index, .int .i64 last, .int .i64 commit, ents, .bool ok]] w fun e w' => e = .returned (.bool (term == 3)) ∧ Below w.heap.size w w' := by
  refine Sx.enter (l := [.agg #[.int .i64 fr, .int .i64 to, .int .i64 kind, .int .i64 term, .int .i64 index, .int .i64 last, .int .i64 commit, ents, .bool ok]]) Try.func17 rfl (n := 6) rfl (by simp) ?_
  refine wc_eq (S := SH w []) (SH.refl _) ?_
  refine wc_seq ?_
  refine wc_region ?_
  refine wl_new (d := 1) #[.int .i64 fr, .int .i64 to, .int .i64 kind, .int .i64 term, .int .i64 index, .int .i64 last, .int .i64 commit, ents, .bool ok] 59 (fun r => .pointer (some ⟨r, 0, none⟩)) (by kernel_rfl) (fun r => by kernel_rfl) ?_
  intro r1 hr1
  refine wl_go 1 [(2, .bool false)] (by kernel_rfl) ?_
  refine nx_list ?_
  refine nx_then ?_
  refine wc_seq ?_
  refine wc_region ?_
  refine wl_go 1 [(3, .pointer (some ⟨r1, 3, none⟩))] (by kernel_rfl) ?_
  refine wl_yl (d := 4) (v := .int .i64 term) (by kernel_rfl) (yl_load (b := r1) (off := 3) 0 rfl (by kernel_rfl) rfl (by kernel_rfl)) ?_
  refine wl_go 2 [(2, .bool (term == 3)), (5, .bool (term == 3))] (by kernel_rfl) ?_
  refine nx_list ?_
  refine nx_then ?_
  refine nx_ret ?_
  refine ret_tmp (v := .bool (term == 3)) rfl (by kernel_rfl) ?_
  intro w' hw'
  exact ⟨rfl, hw'.below (Below.refl _ _) (Nat.le_refl _) (ge_cons hr1 (ge_nil _))⟩

theorem idx_c2 (ms : List Msg) (a : Option Addr) (c : Nat) (w : World) (hrow : RowV w [] 0 (.slice a ms.length c) (ms.map Msg.cells)) (hlen : ms.length ≤ 1000000) :
    Calls Try.prog 35 #[.slice a ms.length c, .func (.func 17) #[] #[]] w fun e w' => ∃ k : Int, e = .returned (.int .i64 k) ∧ decide (k ≥ 0) = ms.any (fun m => m.term == 3) ∧ Below w.heap.size w w' := by
  refine Sx.enter (l := [.slice a ms.length c, .func (.func 17) #[] #[]]) Try.func35 rfl (n := 19) rfl (by simp) ?_
  refine wc_eq (S := SH w []) (SH.refl _) ?_
  refine wc_seq ?_
  refine wc_region ?_
  refine wl_go 1 [(4, .int .i64 0)] (by kernel_rfl) ?_
  refine nx_list ?_
  refine nx_then ?_
  refine wc_seq ?_
  refine wc_seq ?_
  refine wc_region ?_
  refine wl_go 3 [(8, .int .i64 0), (7, .int .i64 (ms.length : Int)), (6, .slice a ms.length c)] (by kernel_rfl) ?_
  refine nx_list ?_
  refine nx_then ?_
  refine wc_block ?_
  refine wc_loop (σ := Ix w ms (fun m => m.term == 3)) (fun x => [(0, .slice a ms.length c), (1, .func (.func 17) #[] #[]), (7, .int .i64 (ms.length : Int)), (8, .int .i64 (x.i : Int))]) (fun x => SH x.wb []) (fun x => ms.length - x.i) (fun w3 h3 => ⟨⟨0, w, Nat.zero_le _, rfl, Below.refl _ _⟩, h3, (subEnv_cons (by kernel_rfl) (subEnv_cons (by kernel_rfl) (subEnv_cons (by kernel_rfl) (subEnv_cons (by kernel_rfl) (subEnv_nil _)))))⟩) (fun x => ?_)
  refine wc_seq ?_
  refine wc_region ?_
  refine wl_go 1 [(9, .bool (decide ((x.i : Int) < (ms.length : Int))))] (by kernel_rfl) ?_
  refine nx_list ?_
  refine nx_then ?_
  refine wc_seq ?_
  refine wc_cond (decide ((x.i : Int) < (ms.length : Int))) (by kernel_rfl) (by kernel_rfl) (fun hcl => ?_) (fun hcl => ?_)
  · skip
    have hlt : x.i < ms.length := by simpa using hcl
    obtain ⟨g, fr, to, kind, term, index, last, commit, ents, ok, rfl, hm, hI, hrg⟩ := x.row hrow hlt
    refine nx_skip ?_
    refine nx_then ?_
    refine wc_seq ?_
    refine wc_block ?_
    refine wc_seq ?_
    refine wc_region ?_
    refine wl_go 2 [(5, .int .i64 (x.i : Int)), (10, .int .i64 (x.i : Int))] (by kernel_rfl) ?_
    refine nx_list ?_
    refine nx_then ?_
    refine wc_seq ?_
    refine wc_region ?_
    refine wl_go 3 [(13, .int .i64 (x.i : Int)), (12, .slice (some ⟨g, 0, none⟩) ms.length c), (11, .func (.func 17) #[] #[])] (by kernel_rfl) ?_
    refine wl_yl (d := 14) (v := .pointer (some ⟨g, 0 + x.i * 9, none⟩)) (by kernel_rfl) (yl_index (E := 59) (b := g) (off := 0) (len := ms.length) (cap := c) (k := x.i) (es := 9) rfl (by kernel_rfl) (by kernel_rfl) (by kernel_rfl) (by omega)) ?_
    refine wl_yl (d := 15) (v := .agg #[.int .i64 fr, .int .i64 to, .int .i64 kind, .int .i64 term, .int .i64 index, .int .i64 last, .int .i64 commit, ents, .bool ok]) (by kernel_rfl) (yl_loads_im (b := g) (off := 0 + x.i * 9) (cs := [.int .i64 fr, .int .i64 to, .int .i64 kind, .int .i64 term, .int .i64 index, .int .i64 last, .int .i64 commit, ents, .bool ok]) rfl (by kernel_rfl) hI (by kernel_rfl) hrg) ?_
    refine wl_callB (X := Unit) (d := 16) (fun _ => .bool (term == 3)) (fun wa y wz => Below wa.heap.size wa wz) (by kernel_rfl) (by kernel_rfl) (fun w1 h1 => (c2_ok fr to kind term index last commit ents ok w1).mono (fun e w' h => ⟨(), h⟩)) ?_
    rintro w1 _ w2 h1 hb1
    have hb2 := SH.belowCall h1 x.hb (ge_nil _) hb1
    refine wl_eq (S := SH w2 []) (SH.refl _) ?_
    refine nx_list ?_
    refine nx_then ?_
    refine wc_cond (term == 3) (by kernel_rfl) (by kernel_rfl) (fun hct => ?_) (fun hct => ?_)
    · skip
      refine wc_seq ?_
      refine wc_region ?_
      refine wl_go 2 [(4, .int .i64 (x.i : Int)), (17, .int .i64 (x.i : Int))] (by kernel_rfl) ?_
      refine nx_list ?_
      refine nx_then ?_
      refine nx_ret ?_
      refine nx_block_ret ?_
      refine nx_then_ret ?_
      refine nx_then_ret ?_
      refine nx_block_ret ?_
      refine nx_then_ret ?_
      refine ret_tmp (v := .int .i64 (x.i : Int)) rfl (by kernel_rfl) ?_
      intro w' hw'
      exact ⟨_, rfl, by rw [any_here (p := (fun m => m.term == 3)) hm hct]; simp, hw'.below hb2 hb2.size (ge_nil _)⟩
    · skip
      refine nx_skip ?_
      refine nx_block ?_
      refine nx_then ?_
      refine wc_region ?_
      refine wl_yl (d := 18) (v := .int .i64 ((x.i : Int) + 1)) (by kernel_rfl) (yl_int (t := (x.i : Int) + 1) (r := (x.i : Int) + 1) (by kernel_rfl) (i64w (by omega) (by omega))) ?_
      refine wl_go 1 [(8, .int .i64 ((x.i : Int) + 1))] (by kernel_rfl) ?_
      refine nx_list ?_
      refine nx_round_w (fun w9 h9 => ⟨⟨x.i + 1, w9, hlt, any_snoc hm x.hno hct, SH.below h9 hb2 hb2.size (ge_nil _)⟩, (show ms.length - (x.i + 1) < ms.length - x.i by omega), (subEnv_cons (by kernel_rfl) (subEnv_cons (by kernel_rfl) (subEnv_cons (by kernel_rfl) (subEnv_cons (by kernel_rfl) (subEnv_nil _))))), SH.refl _⟩)
  · skip
    have hge : ms.length ≤ x.i := by simpa using hcl
    refine nx_exit ?_
    refine nx_then_exit ?_
    refine nx_then_exit ?_
    refine nx_block_here ?_
    refine nx_then ?_
    refine wc_seq ?_
    refine wc_region ?_
    refine wl_go 1 [(4, .int .i64 (-1))] (by kernel_rfl) ?_
    refine nx_list ?_
    refine nx_then ?_
    refine nx_ret ?_
    refine ret_tmp (v := .int .i64 (-1)) rfl (by kernel_rfl) ?_
    intro w' hw'
    have h0 := x.hno
    rw [List.take_of_length_le hge] at h0
    exact ⟨_, rfl, by simp [h0], hw'.below x.hb x.hb.size (ge_nil _)⟩

theorem has_c2 (ms : List Msg) (a : Option Addr) (c : Nat) (w : World) (hrow : RowV w [] 0 (.slice a ms.length c) (ms.map Msg.cells)) (hlen : ms.length ≤ 1000000) :
    Calls Try.prog 16 #[.slice a ms.length c, .func (.func 17) #[] #[]] w fun e w' => e = .returned (.bool (ms.any (fun m => m.term == 3))) ∧ Below w.heap.size w w' := by
  refine Sx.enter (l := [.slice a ms.length c, .func (.func 17) #[] #[]]) Try.func16 rfl (n := 9) rfl (by simp) ?_
  refine wc_seq ?_
  refine wc_region ?_
  refine wl_go 1 [(4, .bool false)] (by kernel_rfl) ?_
  refine nx_list ?_
  refine nx_then ?_
  refine wc_seq ?_
  refine wc_region ?_
  refine wl_go 2 [(6, .func (.func 17) #[] #[]), (5, .slice a ms.length c)] (by kernel_rfl) ?_
  refine wl_callB (X := Int) (d := 7) (fun k => .int .i64 k) (fun wa k wz => decide (k ≥ 0) = ms.any (fun m => m.term == 3) ∧ Below wa.heap.size wa wz) (by kernel_rfl) (by kernel_rfl) (fun w1 h1 => by subst h1; exact idx_c2 ms a c _ hrow hlen) ?_
  rintro w1 k w2 rfl ⟨hk, hb⟩
  refine wl_go 2 [(4, .bool (decide (k ≥ 0))), (8, .bool (decide (k ≥ 0)))] (by kernel_rfl) ?_
  refine nx_list ?_
  refine nx_then ?_
  refine nx_ret ?_
  refine ret_tmp (v := .bool (decide (k ≥ 0))) rfl (by kernel_rfl) ?_
  intro w' hw'
  subst hw'
  exact ⟨by rw [hk], hb⟩

theorem c3_ok (fr to kind term index last commit : Int) (ents : Value) (ok : Bool) (w : World) : Calls Try.prog 18 #[.agg #[.int .i64 fr, .int .i64 to, .int .i64 kind, .int .i64 term, .int .i64 index, .int .i64 last, .int .i64 commit, ents, .bool ok]] w fun e w' => e = .returned (.bool (kind == 9)) ∧ Below w.heap.size w w' := by
  refine Sx.enter (l := [.agg #[.int .i64 fr, .int .i64 to, .int .i64 kind, .int .i64 term, .int .i64 index, .int .i64 last, .int .i64 commit, ents, .bool ok]]) Try.func18 rfl (n := 6) rfl (by simp) ?_
  refine wc_eq (S := SH w []) (SH.refl _) ?_
  refine wc_seq ?_
  refine wc_region ?_
  refine wl_new (d := 1) #[.int .i64 fr, .int .i64 to, .int .i64 kind, .int .i64 term, .int .i64 index, .int .i64 last, .int .i64 commit, ents, .bool ok] 59 (fun r => .pointer (some ⟨r, 0, none⟩)) (by kernel_rfl) (fun r => by kernel_rfl) ?_
  intro r1 hr1
  refine wl_go 1 [(2, .bool false)] (by kernel_rfl) ?_
  refine nx_list ?_
  refine nx_then ?_
  refine wc_seq ?_
  refine wc_region ?_
  refine wl_go 1 [(3, .pointer (some ⟨r1, 2, none⟩))] (by kernel_rfl) ?_
  refine wl_yl (d := 4) (v := .int .i64 kind) (by kernel_rfl) (yl_load (b := r1) (off := 2) 0 rfl (by kernel_rfl) rfl (by kernel_rfl)) ?_
  refine wl_go 2 [(2, .bool (kind == 9)), (5, .bool (kind == 9))] (by kernel_rfl) ?_
  refine nx_list ?_
  refine nx_then ?_
  refine nx_ret ?_
  refine ret_tmp (v := .bool (kind == 9)) rfl (by kernel_rfl) ?_
  intro w' hw'
  exact ⟨rfl, hw'.below (Below.refl _ _) (Nat.le_refl _) (ge_cons hr1 (ge_nil _))⟩

theorem idx_c3 (ms : List Msg) (a : Option Addr) (c : Nat) (w : World) (hrow : RowV w [] 0 (.slice a ms.length c) (ms.map Msg.cells)) (hlen : ms.length ≤ 1000000) :
    Calls Try.prog 35 #[.slice a ms.length c, .func (.func 18) #[] #[]] w fun e w' => ∃ k : Int, e = .returned (.int .i64 k) ∧ decide (k ≥ 0) = ms.any (fun m => m.kind == 9) ∧ Below w.heap.size w w' := by
  refine Sx.enter (l := [.slice a ms.length c, .func (.func 18) #[] #[]]) Try.func35 rfl (n := 19) rfl (by simp) ?_
  refine wc_eq (S := SH w []) (SH.refl _) ?_
  refine wc_seq ?_
  refine wc_region ?_
  refine wl_go 1 [(4, .int .i64 0)] (by kernel_rfl) ?_
  refine nx_list ?_
  refine nx_then ?_
  refine wc_seq ?_
  refine wc_seq ?_
  refine wc_region ?_
  refine wl_go 3 [(8, .int .i64 0), (7, .int .i64 (ms.length : Int)), (6, .slice a ms.length c)] (by kernel_rfl) ?_
  refine nx_list ?_
  refine nx_then ?_
  refine wc_block ?_
  refine wc_loop (σ := Ix w ms (fun m => m.kind == 9)) (fun x => [(0, .slice a ms.length c), (1, .func (.func 18) #[] #[]), (7, .int .i64 (ms.length : Int)), (8, .int .i64 (x.i : Int))]) (fun x => SH x.wb []) (fun x => ms.length - x.i) (fun w3 h3 => ⟨⟨0, w, Nat.zero_le _, rfl, Below.refl _ _⟩, h3, (subEnv_cons (by kernel_rfl) (subEnv_cons (by kernel_rfl) (subEnv_cons (by kernel_rfl) (subEnv_cons (by kernel_rfl) (subEnv_nil _)))))⟩) (fun x => ?_)
  refine wc_seq ?_
  refine wc_region ?_
  refine wl_go 1 [(9, .bool (decide ((x.i : Int) < (ms.length : Int))))] (by kernel_rfl) ?_
  refine nx_list ?_
  refine nx_then ?_
  refine wc_seq ?_
  refine wc_cond (decide ((x.i : Int) < (ms.length : Int))) (by kernel_rfl) (by kernel_rfl) (fun hcl => ?_) (fun hcl => ?_)
  · skip
    have hlt : x.i < ms.length := by simpa using hcl
    obtain ⟨g, fr, to, kind, term, index, last, commit, ents, ok, rfl, hm, hI, hrg⟩ := x.row hrow hlt
    refine nx_skip ?_
    refine nx_then ?_
    refine wc_seq ?_
    refine wc_block ?_
    refine wc_seq ?_
    refine wc_region ?_
    refine wl_go 2 [(5, .int .i64 (x.i : Int)), (10, .int .i64 (x.i : Int))] (by kernel_rfl) ?_
    refine nx_list ?_
    refine nx_then ?_
    refine wc_seq ?_
    refine wc_region ?_
    refine wl_go 3 [(13, .int .i64 (x.i : Int)), (12, .slice (some ⟨g, 0, none⟩) ms.length c), (11, .func (.func 18) #[] #[])] (by kernel_rfl) ?_
    refine wl_yl (d := 14) (v := .pointer (some ⟨g, 0 + x.i * 9, none⟩)) (by kernel_rfl) (yl_index (E := 59) (b := g) (off := 0) (len := ms.length) (cap := c) (k := x.i) (es := 9) rfl (by kernel_rfl) (by kernel_rfl) (by kernel_rfl) (by omega)) ?_
    refine wl_yl (d := 15) (v := .agg #[.int .i64 fr, .int .i64 to, .int .i64 kind, .int .i64 term, .int .i64 index, .int .i64 last, .int .i64 commit, ents, .bool ok]) (by kernel_rfl) (yl_loads_im (b := g) (off := 0 + x.i * 9) (cs := [.int .i64 fr, .int .i64 to, .int .i64 kind, .int .i64 term, .int .i64 index, .int .i64 last, .int .i64 commit, ents, .bool ok]) rfl (by kernel_rfl) hI (by kernel_rfl) hrg) ?_
    refine wl_callB (X := Unit) (d := 16) (fun _ => .bool (kind == 9)) (fun wa y wz => Below wa.heap.size wa wz) (by kernel_rfl) (by kernel_rfl) (fun w1 h1 => (c3_ok fr to kind term index last commit ents ok w1).mono (fun e w' h => ⟨(), h⟩)) ?_
    rintro w1 _ w2 h1 hb1
    have hb2 := SH.belowCall h1 x.hb (ge_nil _) hb1
    refine wl_eq (S := SH w2 []) (SH.refl _) ?_
    refine nx_list ?_
    refine nx_then ?_
    refine wc_cond (kind == 9) (by kernel_rfl) (by kernel_rfl) (fun hct => ?_) (fun hct => ?_)
    · skip
      refine wc_seq ?_
      refine wc_region ?_
      refine wl_go 2 [(4, .int .i64 (x.i : Int)), (17, .int .i64 (x.i : Int))] (by kernel_rfl) ?_
      refine nx_list ?_
      refine nx_then ?_
      refine nx_ret ?_
      refine nx_block_ret ?_
      refine nx_then_ret ?_
      refine nx_then_ret ?_
      refine nx_block_ret ?_
      refine nx_then_ret ?_
      refine ret_tmp (v := .int .i64 (x.i : Int)) rfl (by kernel_rfl) ?_
      intro w' hw'
      exact ⟨_, rfl, by rw [any_here (p := (fun m => m.kind == 9)) hm hct]; simp, hw'.below hb2 hb2.size (ge_nil _)⟩
    · skip
      refine nx_skip ?_
      refine nx_block ?_
      refine nx_then ?_
      refine wc_region ?_
      refine wl_yl (d := 18) (v := .int .i64 ((x.i : Int) + 1)) (by kernel_rfl) (yl_int (t := (x.i : Int) + 1) (r := (x.i : Int) + 1) (by kernel_rfl) (i64w (by omega) (by omega))) ?_
      refine wl_go 1 [(8, .int .i64 ((x.i : Int) + 1))] (by kernel_rfl) ?_
      refine nx_list ?_
      refine nx_round_w (fun w9 h9 => ⟨⟨x.i + 1, w9, hlt, any_snoc hm x.hno hct, SH.below h9 hb2 hb2.size (ge_nil _)⟩, (show ms.length - (x.i + 1) < ms.length - x.i by omega), (subEnv_cons (by kernel_rfl) (subEnv_cons (by kernel_rfl) (subEnv_cons (by kernel_rfl) (subEnv_cons (by kernel_rfl) (subEnv_nil _))))), SH.refl _⟩)
  · skip
    have hge : ms.length ≤ x.i := by simpa using hcl
    refine nx_exit ?_
    refine nx_then_exit ?_
    refine nx_then_exit ?_
    refine nx_block_here ?_
    refine nx_then ?_
    refine wc_seq ?_
    refine wc_region ?_
    refine wl_go 1 [(4, .int .i64 (-1))] (by kernel_rfl) ?_
    refine nx_list ?_
    refine nx_then ?_
    refine nx_ret ?_
    refine ret_tmp (v := .int .i64 (-1)) rfl (by kernel_rfl) ?_
    intro w' hw'
    have h0 := x.hno
    rw [List.take_of_length_le hge] at h0
    exact ⟨_, rfl, by simp [h0], hw'.below x.hb x.hb.size (ge_nil _)⟩

theorem has_c3 (ms : List Msg) (a : Option Addr) (c : Nat) (w : World) (hrow : RowV w [] 0 (.slice a ms.length c) (ms.map Msg.cells)) (hlen : ms.length ≤ 1000000) :
    Calls Try.prog 16 #[.slice a ms.length c, .func (.func 18) #[] #[]] w fun e w' => e = .returned (.bool (ms.any (fun m => m.kind == 9))) ∧ Below w.heap.size w w' := by
  refine Sx.enter (l := [.slice a ms.length c, .func (.func 18) #[] #[]]) Try.func16 rfl (n := 9) rfl (by simp) ?_
  refine wc_seq ?_
  refine wc_region ?_
  refine wl_go 1 [(4, .bool false)] (by kernel_rfl) ?_
  refine nx_list ?_
  refine nx_then ?_
  refine wc_seq ?_
  refine wc_region ?_
  refine wl_go 2 [(6, .func (.func 18) #[] #[]), (5, .slice a ms.length c)] (by kernel_rfl) ?_
  refine wl_callB (X := Int) (d := 7) (fun k => .int .i64 k) (fun wa k wz => decide (k ≥ 0) = ms.any (fun m => m.kind == 9) ∧ Below wa.heap.size wa wz) (by kernel_rfl) (by kernel_rfl) (fun w1 h1 => by subst h1; exact idx_c3 ms a c _ hrow hlen) ?_
  rintro w1 k w2 rfl ⟨hk, hb⟩
  refine wl_go 2 [(4, .bool (decide (k ≥ 0))), (8, .bool (decide (k ≥ 0)))] (by kernel_rfl) ?_
  refine nx_list ?_
  refine nx_then ?_
  refine nx_ret ?_
  refine ret_tmp (v := .bool (decide (k ≥ 0))) rfl (by kernel_rfl) ?_
  intro w' hw'
  subst hw'
  exact ⟨by rw [hk], hb⟩

def lk (cut : Nat → Bool) (f t : Nat) (c : Bool) : Nat → Bool := fun m => if m = f * 7 + t ∨ m = t * 7 + f then c else cut m
theorem upd_lk (cut : Nat → Bool) (f t : Nat) (c : Bool) : upd (upd cut (f * 7 + t) c) (t * 7 + f) c = lk cut f t c := by
  funext m
  simp only [upd, lk]
  by_cases h1 : m = t * 7 + f
  · rw [if_pos h1, if_pos (Or.inr h1)]
  · rw [if_neg h1]
    by_cases h2 : m = f * 7 + t
    · rw [if_pos h2, if_pos (Or.inl h2)]
    · rw [if_neg h2, if_neg (fun h => h.elim h2 h1)]
theorem lk_comm (cut : Nat → Bool) (f t : Nat) (c : Bool) : lk cut t f c = lk cut f t c := by
  funext m
  simp only [lk, or_comm]
theorem link_lk (N : NetS) (f t : Nat) (c : Bool) : N.link f t c = { N with cut := lk N.cut f t c } := by
  simp only [NetS.link, upd_lk]
theorem link_lk' (N : NetS) (f t : Nat) (c : Bool) : N.link t f c = { N with cut := lk N.cut f t c } := by
  rw [link_lk, lk_comm]
theorem lk_at (cut : Nat → Bool) (f t : Nat) (c : Bool) : lk cut f t c (f * 7 + t) = c := by simp [lk]
theorem lk_at' (cut : Nat → Bool) (f t : Nat) (c : Bool) : lk cut f t c (t * 7 + f) = c := by simp [lk]
theorem pair7 {N : NetS} {f t : Nat} (hN : N.size = 7) (hf : f < 7) (ht : t < 7) (hne : f ≠ t) : pairB N.size (f : Int) (t : Int) = true := by
  simp only [pairB, hN, Bool.and_eq_true, decide_eq_true_eq, bne_iff_ne]
  omega

theorem setTo_true (b : Nat) (N : NetS) (A : List Blk) (r1 r2 r3 f t : Nat) (w : World) (hsh : SH w ([⟨r3, #[.pointer (some ⟨b, 0, none⟩)], 22⟩, ⟨r2, #[.int .i64 (t : Int)], 3⟩, ⟨r1, #[.int .i64 (f : Int)], 3⟩] ++ A) w) (hnet : IsNet b N A) (hN : N.size = 7) (hf : f < 7) (ht : t < 7) (hne : f ≠ t) :
    Calls Try.prog 12 #[.bool true, .pointer (some ⟨r3, 0, none⟩), .pointer (some ⟨r2, 0, none⟩), .pointer (some ⟨r1, 0, none⟩)] w fun e w' => ∃ A', e = .returned (.bool true) ∧ IsNet b { N with cut := lk N.cut f t true } A' ∧ SH w' ([⟨r3, #[.pointer (some ⟨b, 0, none⟩)], 22⟩, ⟨r2, #[.int .i64 (t : Int)], 3⟩, ⟨r1, #[.int .i64 (f : Int)], 3⟩] ++ A') w' ∧ Tr w ([⟨r3, #[.pointer (some ⟨b, 0, none⟩)], 22⟩, ⟨r2, #[.int .i64 (t : Int)], 3⟩, ⟨r1, #[.int .i64 (f : Int)], 3⟩] ++ A) w' ([⟨r3, #[.pointer (some ⟨b, 0, none⟩)], 22⟩, ⟨r2, #[.int .i64 (t : Int)], 3⟩, ⟨r1, #[.int .i64 (f : Int)], 3⟩] ++ A') := by
  refine Sx.enter (l := [.bool true, .pointer (some ⟨r3, 0, none⟩), .pointer (some ⟨r2, 0, none⟩), .pointer (some ⟨r1, 0, none⟩)]) Try.func12 rfl (n := 30) rfl (by simp) ?_
  refine wc_eq (S := SH w ([⟨r3, #[.pointer (some ⟨b, 0, none⟩)], 22⟩, ⟨r2, #[.int .i64 (t : Int)], 3⟩, ⟨r1, #[.int .i64 (f : Int)], 3⟩] ++ A)) hsh ?_
  have hsh := hsh
  refine wc_seq ?_
  refine wc_region ?_
  refine wl_go 1 [(5, .bool false)] (by kernel_rfl) ?_
  refine nx_list ?_
  refine nx_then ?_
  refine wc_seq ?_
  refine wc_seq ?_
  refine wc_region ?_
  refine wl_go 1 [(6, .bool true)] (by kernel_rfl) ?_
  refine nx_list ?_
  refine nx_then ?_
  refine wc_cond true (by kernel_rfl) (by kernel_rfl) (fun _ => ?_) (fun h => by cases h)
  refine wc_seq ?_
  refine wc_region ?_
  refine wl_yl (d := 7) (v := .pointer (some ⟨b, 0, none⟩)) (by kernel_rfl) (yl_load (b := r3) (off := 0) 0 rfl (by kernel_rfl) rfl (by kernel_rfl)) ?_
  refine wl_yl (d := 8) (v := .int .i64 (t : Int)) (by kernel_rfl) (yl_load (b := r2) (off := 0) 1 rfl (by kernel_rfl) rfl (by kernel_rfl)) ?_
  refine wl_yl (d := 9) (v := .int .i64 (f : Int)) (by kernel_rfl) (yl_load (b := r1) (off := 0) 2 rfl (by kernel_rfl) rfl (by kernel_rfl)) ?_
  refine wl_callB (X := List Blk) (d := 10) (fun _ => .int .i64 0) (fun wa y wz => IsNet b { N with cut := lk N.cut f t true } y ∧ SH wz y wz ∧ Tr wa A wz y) (by kernel_rfl) (by kernel_rfl) (fun w1 h1 => by have h := cut_yes b N A t f w1 (SH.part (SH.swap h1)) hnet (pair7 hN ht hf (Ne.symm hne)) ht hf; rw [link_lk' N f t] at h; exact h) ?_
  rintro w1 A' w2 h1 ⟨hn, hs, ht1⟩
  have hfr := SH.frame (SH.swap h1) hs ht1
  refine wl_eq (S := SH w2 ([⟨r3, #[.pointer (some ⟨b, 0, none⟩)], 22⟩, ⟨r2, #[.int .i64 (t : Int)], 3⟩, ⟨r1, #[.int .i64 (f : Int)], 3⟩] ++ A')) (SH.swap hfr.1) ?_
  refine wl_go 2 [(12, .bool true), (11, .bool true)] (by kernel_rfl) ?_
  refine wl_yl (d := 13) (v := .pointer (some ⟨b, 0, none⟩)) (by kernel_rfl) (yl_load (b := r3) (off := 0) 0 rfl (by kernel_rfl) rfl (by kernel_rfl)) ?_
  refine wl_yl (d := 14) (v := .int .i64 (f : Int)) (by kernel_rfl) (yl_load (b := r1) (off := 0) 2 rfl (by kernel_rfl) rfl (by kernel_rfl)) ?_
  refine wl_yl (d := 15) (v := .int .i64 (t : Int)) (by kernel_rfl) (yl_load (b := r2) (off := 0) 1 rfl (by kernel_rfl) rfl (by kernel_rfl)) ?_
  refine wl_callS (d := 16) (v := .bool false) (by kernel_rfl) (by kernel_rfl) (fun w3 h3 => by have h := up_yes b { N with cut := lk N.cut f t true } A' f t w3 (SH.part (SH.swap h3)) hn (pair7 (N := { N with cut := lk N.cut f t true }) hN hf ht hne) hf ht; simp only [lk_at, Bool.not_true, Bool.not_false] at h; exact h) ?_
  refine wl_go 3 [(5, .bool true), (18, .bool true), (17, .bool true)] (by kernel_rfl) ?_
  refine nx_list ?_
  refine nx_then ?_
  refine nx_ret ?_
  refine nx_then_ret ?_
  refine ret_tmp (v := .bool true) rfl (by kernel_rfl) ?_
  intro w' hw'
  exact ⟨A', rfl, hn, hw'.here, ((Tr.swap hfr.2).trans (SH.trHere hw'))⟩

theorem setTo_false (b : Nat) (N : NetS) (A : List Blk) (r1 r2 r3 f t : Nat) (w : World) (hsh : SH w ([⟨r3, #[.pointer (some ⟨b, 0, none⟩)], 22⟩, ⟨r2, #[.int .i64 (t : Int)], 3⟩, ⟨r1, #[.int .i64 (f : Int)], 3⟩] ++ A) w) (hnet : IsNet b N A) (hN : N.size = 7) (hf : f < 7) (ht : t < 7) (hne : f ≠ t) :
    Calls Try.prog 12 #[.bool false, .pointer (some ⟨r3, 0, none⟩), .pointer (some ⟨r2, 0, none⟩), .pointer (some ⟨r1, 0, none⟩)] w fun e w' => ∃ A', e = .returned (.bool true) ∧ IsNet b { N with cut := lk N.cut f t false } A' ∧ SH w' ([⟨r3, #[.pointer (some ⟨b, 0, none⟩)], 22⟩, ⟨r2, #[.int .i64 (t : Int)], 3⟩, ⟨r1, #[.int .i64 (f : Int)], 3⟩] ++ A') w' ∧ Tr w ([⟨r3, #[.pointer (some ⟨b, 0, none⟩)], 22⟩, ⟨r2, #[.int .i64 (t : Int)], 3⟩, ⟨r1, #[.int .i64 (f : Int)], 3⟩] ++ A) w' ([⟨r3, #[.pointer (some ⟨b, 0, none⟩)], 22⟩, ⟨r2, #[.int .i64 (t : Int)], 3⟩, ⟨r1, #[.int .i64 (f : Int)], 3⟩] ++ A') := by
  refine Sx.enter (l := [.bool false, .pointer (some ⟨r3, 0, none⟩), .pointer (some ⟨r2, 0, none⟩), .pointer (some ⟨r1, 0, none⟩)]) Try.func12 rfl (n := 30) rfl (by simp) ?_
  refine wc_eq (S := SH w ([⟨r3, #[.pointer (some ⟨b, 0, none⟩)], 22⟩, ⟨r2, #[.int .i64 (t : Int)], 3⟩, ⟨r1, #[.int .i64 (f : Int)], 3⟩] ++ A)) hsh ?_
  have hsh := hsh
  refine wc_seq ?_
  refine wc_region ?_
  refine wl_go 1 [(5, .bool false)] (by kernel_rfl) ?_
  refine nx_list ?_
  refine nx_then ?_
  refine wc_seq ?_
  refine wc_seq ?_
  refine wc_region ?_
  refine wl_go 1 [(6, .bool false)] (by kernel_rfl) ?_
  refine nx_list ?_
  refine nx_then ?_
  refine wc_cond false (by kernel_rfl) (by kernel_rfl) (fun h => by cases h) (fun _ => ?_)
  refine nx_skip ?_
  refine nx_then ?_
  refine wc_seq ?_
  refine wc_region ?_
  refine wl_yl (d := 19) (v := .pointer (some ⟨b, 0, none⟩)) (by kernel_rfl) (yl_load (b := r3) (off := 0) 0 rfl (by kernel_rfl) rfl (by kernel_rfl)) ?_
  refine wl_yl (d := 20) (v := .int .i64 (f : Int)) (by kernel_rfl) (yl_load (b := r1) (off := 0) 2 rfl (by kernel_rfl) rfl (by kernel_rfl)) ?_
  refine wl_yl (d := 21) (v := .int .i64 (t : Int)) (by kernel_rfl) (yl_load (b := r2) (off := 0) 1 rfl (by kernel_rfl) rfl (by kernel_rfl)) ?_
  refine wl_callB (X := List Blk) (d := 22) (fun _ => .int .i64 0) (fun wa y wz => IsNet b { N with cut := lk N.cut f t false } y ∧ SH wz y wz ∧ Tr wa A wz y) (by kernel_rfl) (by kernel_rfl) (fun w1 h1 => by have h := heal_yes b N A f t w1 (SH.part (SH.swap h1)) hnet (pair7 hN hf ht hne) hf ht; rw [link_lk N f t] at h; exact h) ?_
  rintro w1 A' w2 h1 ⟨hn, hs, ht1⟩
  have hfr := SH.frame (SH.swap h1) hs ht1
  refine wl_eq (S := SH w2 ([⟨r3, #[.pointer (some ⟨b, 0, none⟩)], 22⟩, ⟨r2, #[.int .i64 (t : Int)], 3⟩, ⟨r1, #[.int .i64 (f : Int)], 3⟩] ++ A')) (SH.swap hfr.1) ?_
  refine wl_go 2 [(24, .bool true), (23, .bool true)] (by kernel_rfl) ?_
  refine wl_yl (d := 25) (v := .pointer (some ⟨b, 0, none⟩)) (by kernel_rfl) (yl_load (b := r3) (off := 0) 0 rfl (by kernel_rfl) rfl (by kernel_rfl)) ?_
  refine wl_yl (d := 26) (v := .int .i64 (t : Int)) (by kernel_rfl) (yl_load (b := r2) (off := 0) 1 rfl (by kernel_rfl) rfl (by kernel_rfl)) ?_
  refine wl_yl (d := 27) (v := .int .i64 (f : Int)) (by kernel_rfl) (yl_load (b := r1) (off := 0) 2 rfl (by kernel_rfl) rfl (by kernel_rfl)) ?_
  refine wl_callS (d := 28) (v := .bool true) (by kernel_rfl) (by kernel_rfl) (fun w3 h3 => by have h := up_yes b { N with cut := lk N.cut f t false } A' t f w3 (SH.part (SH.swap h3)) hn (pair7 (N := { N with cut := lk N.cut f t false }) hN ht hf (Ne.symm hne)) ht hf; simp only [lk_at', Bool.not_true, Bool.not_false] at h; exact h) ?_
  refine wl_go 2 [(5, .bool true), (29, .bool true)] (by kernel_rfl) ?_
  refine nx_list ?_
  refine nx_then ?_
  refine nx_ret ?_
  refine ret_tmp (v := .bool true) rfl (by kernel_rfl) ?_
  intro w' hw'
  exact ⟨A', rfl, hn, hw'.here, ((Tr.swap hfr.2).trans (SH.trHere hw'))⟩

theorem setTo (b : Nat) (N : NetS) (A : List Blk) (r1 r2 r3 f t : Nat) (c : Bool) (w : World) (hsh : SH w ([⟨r3, #[.pointer (some ⟨b, 0, none⟩)], 22⟩, ⟨r2, #[.int .i64 (t : Int)], 3⟩, ⟨r1, #[.int .i64 (f : Int)], 3⟩] ++ A) w) (hnet : IsNet b N A) (hN : N.size = 7) (hf : f < 7) (ht : t < 7) (hne : f ≠ t) :
    Calls Try.prog 12 #[.bool c, .pointer (some ⟨r3, 0, none⟩), .pointer (some ⟨r2, 0, none⟩), .pointer (some ⟨r1, 0, none⟩)] w fun e w' => ∃ A', e = .returned (.bool true) ∧ IsNet b { N with cut := lk N.cut f t c } A' ∧ SH w' ([⟨r3, #[.pointer (some ⟨b, 0, none⟩)], 22⟩, ⟨r2, #[.int .i64 (t : Int)], 3⟩, ⟨r1, #[.int .i64 (f : Int)], 3⟩] ++ A') w' ∧ Tr w ([⟨r3, #[.pointer (some ⟨b, 0, none⟩)], 22⟩, ⟨r2, #[.int .i64 (t : Int)], 3⟩, ⟨r1, #[.int .i64 (f : Int)], 3⟩] ++ A) w' ([⟨r3, #[.pointer (some ⟨b, 0, none⟩)], 22⟩, ⟨r2, #[.int .i64 (t : Int)], 3⟩, ⟨r1, #[.int .i64 (f : Int)], 3⟩] ++ A') := by
  cases c
  · exact setTo_false b N A r1 r2 r3 f t w hsh hnet hN hf ht hne
  · exact setTo_true b N A r1 r2 r3 f t w hsh hnet hN hf ht hne

/-- what a message without entries adds to the way -/
def adds (N : NetS) (i j : Nat) (kind term : Int) (ea : Option Addr) (ec : Nat) : List (Int × Msg) := if N.cut (i * 7 + j) then [] else [(N.now + N.delay, ⟨(i : Int), (j : Int), kind, term, 0, 0, 0, .slice ea 0 ec, false⟩)]
theorem send_any (b : Nat) (N : NetS) (A : List Blk) (i j : Nat) (kind term : Int) (w : World) (hsh : SH w A w) (hnet : IsNet b N A) (hp : pairB N.size (i : Int) (j : Int) = true) (hi : i < 7) (hj : j < 7) (hn1 : 0 ≤ N.now) (hn2 : N.now ≤ 1000000) (hd1 : 0 ≤ N.delay) (hd2 : N.delay ≤ 1000000) (hps : N.ps.length ≤ 1000000) :
    Calls Try.prog 9 #[.pointer (some ⟨b, 0, none⟩), .agg #[.int .i64 (i : Int), .int .i64 (j : Int), .int .i64 kind, .int .i64 term, .int .i64 0, .int .i64 0, .int .i64 0, .slice none 0 0, .bool false]] w fun e w' => ∃ A' ea ec, e = .returned (.int .i64 0) ∧ IsNet b { N with ps := N.ps ++ adds N i j kind term ea ec } A' ∧ SH w' A' w' ∧ Tr w A w' A' := by
  cases hc : N.cut (i * 7 + j) with
  | true =>
    refine (send_cut b N A i j kind term 0 0 0 (.slice none 0 0) false w hsh hnet hp hi hj hc).mono (fun e w' h => ⟨A, none, 0, h.1, ?_, h.2⟩)
    simpa [adds, hc] using hnet
  | false =>
    refine (send_yes b N A i j kind term 0 0 0 (.slice none 0 0) false [] w hsh hnet hp hi hj hc (rd_nil _ _) (fitR_nil _) (by simp) hn1 hn2 hd1 hd2 hps).mono (fun e w' ⟨A', en, he, h1, h2, h3, h4⟩ => ?_)
    obtain ⟨ea, ec, rfl⟩ := Rd.slv h4
    exact ⟨A', ea, ec, he, by simpa [adds, hc] using h1, h2, h3⟩

end Go.Proofs.Ytidkaipijocjcaa
