/- Contracts of functions, printed by a program of this repository (gen). -/
import Derived.Test.YtidkaipijocjcaaData
import Derived.Test.YtidkaipijocjcaaRows
namespace Go.Proofs.Ytidkaipijocjcaa
open Go.RowKit Go.Sx
set_option linter.unusedVariables false
set_option linter.unusedSimpArgs false

theorem clone_nil_40 (w : World) (cap : Nat) (S : Nat → Prop) :
    Calls Try.prog 40 #[.slice none 0 cap] w fun e w' => ∃ v' R rv, e = .returned v' ∧ Cl 55 S w [] v' w' R rv := by
  refine Sx.enter (l := [.slice none 0 cap]) Try.func40 rfl (n := 8) rfl (by simp) ?_
  refine wc_eq (S := SH w []) (SH.refl _) ?_
  refine wc_seq ?_
  refine wc_region ?_
  refine wl_go 1 [(2, .slice none 0 0)] (by kernel_rfl) ?_
  refine nx_list ?_
  refine nx_then ?_
  refine wc_seq ?_
  refine wc_seq ?_
  refine wc_region ?_
  refine wl_go 2 [(4, .bool true), (3, .slice none 0 cap)] (by kernel_rfl) ?_
  refine nx_list ?_
  refine nx_then ?_
  refine wc_cond true (by kernel_rfl) (by kernel_rfl) (fun _ => ?_) (fun h => by cases h)
  refine wc_seq ?_
  refine wc_region ?_
  refine wl_go 1 [(2, .slice none 0 0)] (by kernel_rfl) ?_
  refine nx_list ?_
  refine nx_then ?_
  refine nx_ret ?_
  refine nx_then_ret ?_
  refine ret_tmp (v := .slice none 0 0) rfl (by kernel_rfl) ?_
  intro w' hw'
  exact ⟨_, [], [], rfl, ⟨hw'.below (Below.refl _ _) (Nat.le_refl _) (by simp), trivial, ⟨none, 0, rfl, .inl ⟨rfl, rfl⟩⟩, by simp⟩⟩

theorem clone_40 (rows : List (List D)) (S : Nat → Prop) (v : Value) (w : World) (hr : Rd S w (.sl rows) v) (hes : ∀ r ∈ rows, r.length = 82) (hby : rows.length * 1208 ≤ 140737488355328) :
    Calls Try.prog 40 #[v] w fun e w' => ∃ v' R rv, e = .returned v' ∧ Cl 55 S w rows v' w' R rv := by
  rw [Rd] at hr
  obtain ⟨a, cap, rfl, hrows⟩ := hr
  have hml : rows.length ≤ maxLen := by simp only [maxLen]; omega
  cases a with
  | none =>
    have hn : rows = [] := by
      rcases hrows with h | ⟨g, off, h, _⟩
      · exact h
      · cases h
    subst hn
    exact clone_nil_40 w cap S
  | some ad =>
    have hex : ∃ rv, RdR S w rows rv ∧ ∀ w1 r1, w.heap.size ≤ r1 → SH w ([⟨r1, #[], 55⟩] ++ []) w1 → ∀ j u, rv.flatten[j]? = some u → w1.cell? (ad.add j) = some u := by
      rcases hrows with h | ⟨g, off, h, hS, hg, hR⟩
      · subst h; exact ⟨[], trivial, fun _ _ _ _ j u h => by simp at h⟩
      · cases h
        obtain ⟨vs, h1, h2⟩ := RdRows.vals hR
        refine ⟨vs, h1, fun w1 r1 hr1 hw1 j u hj => ?_⟩
        rw [Addr.add_mid, hw1.cellIm ⟨hg, by simp; omega⟩]
        exact h2 j u hj
    obtain ⟨rv, hrv, hnews⟩ := hex
    have hfl := (hrv.flat hes).2
    refine Sx.enter (l := [.slice (some ad) rows.length cap]) Try.func40 rfl (n := 8) rfl (by simp) ?_
    refine wc_eq (S := SH w []) (SH.refl _) ?_
    refine wc_seq ?_
    refine wc_region ?_
    refine wl_go 1 [(2, .slice none 0 0)] (by kernel_rfl) ?_
    refine nx_list ?_
    refine nx_then ?_
    refine wc_seq ?_
    refine wc_seq ?_
    refine wc_region ?_
    refine wl_go 2 [(4, .bool false), (3, .slice (some ad) rows.length cap)] (by kernel_rfl) ?_
    refine nx_list ?_
    refine nx_then ?_
    refine wc_cond false (by kernel_rfl) (by kernel_rfl) (fun h => by cases h) (fun _ => ?_)
    refine nx_skip ?_
    refine nx_then ?_
    refine wc_seq ?_
    refine wc_region ?_
    refine wl_new (d := 5) #[] 55 (fun r => .slice (some ⟨r, 0, none⟩) 0 0) (by kernel_rfl) (fun r => by kernel_rfl) ?_
    intro r1 hr1
    refine wl_go 1 [(6, .slice (some ad) rows.length cap)] (by kernel_rfl) ?_
    refine wl_append (R := [⟨r1, #[], 55⟩]) (L := []) (d := 7) 55 (.agg #[.int .i64 0, .int .i64 0, .string ByteArray.empty, .int .i64 0, .int .i64 0, .string ByteArray.empty, .int .i64 0, .int .i64 0, .string ByteArray.empty, .slice none 0 0, .slice none 0 0, .int .i64 0, .int .i64 0, .string ByteArray.empty, .slice none 0 0, .slice none 0 0, .int .i64 0, .int .i64 0, .string ByteArray.empty, .slice none 0 0, .slice none 0 0, .string ByteArray.empty, .slice none 0 0, .int .i64 0, .bool false, .int .i64 0, .int .i64 0, .string ByteArray.empty, .slice none 0 0, .slice none 0 0, .bool false, .int .i64 0, .int .i64 0, .string ByteArray.empty, .slice none 0 0, .slice none 0 0, .slice none 0 0, .int .i64 0, .int .i64 0, .slice none 0 0, .slice none 0 0, .bool false, .slice none 0 0, .bool false, .int .i64 0, .int .i64 0, .string ByteArray.empty, .int .i64 0, .slice none 0 0, .bool false, .bool false, .bool false, .int .i64 0, .slice none 0 0, .int .i64 0, .int .i64 0, .string ByteArray.empty, .slice none 0 0, .slice none 0 0, .slice none 0 0, .int .i64 0, .int .i64 0, .int .i64 0, .slice none 0 0, .int .i64 0, .int .i64 0, .slice none 0 0, .string ByteArray.empty, .slice none 0 0, .int .i64 0, .int .i64 0, .string ByteArray.empty, .slice none 0 0, .slice none 0 0, .int .i64 0, .slice none 0 0, .slice none 0 0, .string ByteArray.empty, .int .i64 0, .slice none 0 0, .slice none 0 0, .bool false]) 82 1208 (v := .slice (some ⟨r1, 0, none⟩) 0 0) (k := 0) (xs := []) (a := ad) (m := rows.length) (c := cap) rv.flatten (by kernel_rfl) rfl (by kernel_rfl) rfl (by decide) (by kernel_rfl) ⟨rfl, .inr ⟨r1, 0, #[], rfl, rfl, Nat.le_refl _, Nat.zero_le _, rfl, rfl⟩⟩ (by kernel_rfl) hfl (fun w1 hw1 => hnews w1 _ hr1 hw1) hrv.oneCell (by rw [Nat.zero_add]; exact hml) (by rw [Nat.zero_add]; exact hby) ?_
    intro w1 v1 R1 hown htr
    simp only [List.append_nil] at htr
    rw [show R1 ++ ([] : List Blk) = R1 from List.append_nil _]
    refine wl_go 1 [(2, v1)] (by kernel_rfl) ?_
    refine nx_list ?_
    refine nx_then ?_
    refine nx_ret ?_
    refine ret_tmp (v := v1) rfl (by kernel_rfl) ?_
    intro w2 hw2
    exact ⟨v1, R1, rv, rfl, cl_of_own hr1 hrv hown (htr.trans hw2.trHere) hw2.here⟩

theorem clone_nil_47 (w : World) (cap : Nat) (S : Nat → Prop) :
    Calls Try.prog 47 #[.slice none 0 cap] w fun e w' => ∃ v' R rv, e = .returned v' ∧ Cl 53 S w [] v' w' R rv := by
  refine Sx.enter (l := [.slice none 0 cap]) Try.func47 rfl (n := 8) rfl (by simp) ?_
  refine wc_eq (S := SH w []) (SH.refl _) ?_
  refine wc_seq ?_
  refine wc_region ?_
  refine wl_go 1 [(2, .slice none 0 0)] (by kernel_rfl) ?_
  refine nx_list ?_
  refine nx_then ?_
  refine wc_seq ?_
  refine wc_seq ?_
  refine wc_region ?_
  refine wl_go 2 [(4, .bool true), (3, .slice none 0 cap)] (by kernel_rfl) ?_
  refine nx_list ?_
  refine nx_then ?_
  refine wc_cond true (by kernel_rfl) (by kernel_rfl) (fun _ => ?_) (fun h => by cases h)
  refine wc_seq ?_
  refine wc_region ?_
  refine wl_go 1 [(2, .slice none 0 0)] (by kernel_rfl) ?_
  refine nx_list ?_
  refine nx_then ?_
  refine nx_ret ?_
  refine nx_then_ret ?_
  refine ret_tmp (v := .slice none 0 0) rfl (by kernel_rfl) ?_
  intro w' hw'
  exact ⟨_, [], [], rfl, ⟨hw'.below (Below.refl _ _) (Nat.le_refl _) (by simp), trivial, ⟨none, 0, rfl, .inl ⟨rfl, rfl⟩⟩, by simp⟩⟩

theorem clone_47 (rows : List (List D)) (S : Nat → Prop) (v : Value) (w : World) (hr : Rd S w (.sl rows) v) (hes : ∀ r ∈ rows, r.length = 78) (hby : rows.length * 1168 ≤ 140737488355328) :
    Calls Try.prog 47 #[v] w fun e w' => ∃ v' R rv, e = .returned v' ∧ Cl 53 S w rows v' w' R rv := by
  rw [Rd] at hr
  obtain ⟨a, cap, rfl, hrows⟩ := hr
  have hml : rows.length ≤ maxLen := by simp only [maxLen]; omega
  cases a with
  | none =>
    have hn : rows = [] := by
      rcases hrows with h | ⟨g, off, h, _⟩
      · exact h
      · cases h
    subst hn
    exact clone_nil_47 w cap S
  | some ad =>
    have hex : ∃ rv, RdR S w rows rv ∧ ∀ w1 r1, w.heap.size ≤ r1 → SH w ([⟨r1, #[], 53⟩] ++ []) w1 → ∀ j u, rv.flatten[j]? = some u → w1.cell? (ad.add j) = some u := by
      rcases hrows with h | ⟨g, off, h, hS, hg, hR⟩
      · subst h; exact ⟨[], trivial, fun _ _ _ _ j u h => by simp at h⟩
      · cases h
        obtain ⟨vs, h1, h2⟩ := RdRows.vals hR
        refine ⟨vs, h1, fun w1 r1 hr1 hw1 j u hj => ?_⟩
        rw [Addr.add_mid, hw1.cellIm ⟨hg, by simp; omega⟩]
        exact h2 j u hj
    obtain ⟨rv, hrv, hnews⟩ := hex
    have hfl := (hrv.flat hes).2
    refine Sx.enter (l := [.slice (some ad) rows.length cap]) Try.func47 rfl (n := 8) rfl (by simp) ?_
    refine wc_eq (S := SH w []) (SH.refl _) ?_
    refine wc_seq ?_
    refine wc_region ?_
    refine wl_go 1 [(2, .slice none 0 0)] (by kernel_rfl) ?_
    refine nx_list ?_
    refine nx_then ?_
    refine wc_seq ?_
    refine wc_seq ?_
    refine wc_region ?_
    refine wl_go 2 [(4, .bool false), (3, .slice (some ad) rows.length cap)] (by kernel_rfl) ?_
    refine nx_list ?_
    refine nx_then ?_
    refine wc_cond false (by kernel_rfl) (by kernel_rfl) (fun h => by cases h) (fun _ => ?_)
    refine nx_skip ?_
    refine nx_then ?_
    refine wc_seq ?_
    refine wc_region ?_
    refine wl_new (d := 5) #[] 53 (fun r => .slice (some ⟨r, 0, none⟩) 0 0) (by kernel_rfl) (fun r => by kernel_rfl) ?_
    intro r1 hr1
    refine wl_go 1 [(6, .slice (some ad) rows.length cap)] (by kernel_rfl) ?_
    refine wl_append (R := [⟨r1, #[], 53⟩]) (L := []) (d := 7) 53 (.agg #[.int .i64 0, .string ByteArray.empty, .int .i64 0, .int .i64 0, .string ByteArray.empty, .slice none 0 0, .slice none 0 0, .int .i64 0, .int .i64 0, .string ByteArray.empty, .slice none 0 0, .slice none 0 0, .int .i64 0, .int .i64 0, .string ByteArray.empty, .slice none 0 0, .slice none 0 0, .string ByteArray.empty, .slice none 0 0, .int .i64 0, .bool false, .int .i64 0, .int .i64 0, .string ByteArray.empty, .slice none 0 0, .slice none 0 0, .bool false, .int .i64 0, .int .i64 0, .string ByteArray.empty, .slice none 0 0, .slice none 0 0, .slice none 0 0, .int .i64 0, .int .i64 0, .slice none 0 0, .slice none 0 0, .bool false, .slice none 0 0, .bool false, .int .i64 0, .int .i64 0, .string ByteArray.empty, .int .i64 0, .slice none 0 0, .bool false, .bool false, .bool false, .int .i64 0, .slice none 0 0, .int .i64 0, .int .i64 0, .string ByteArray.empty, .slice none 0 0, .slice none 0 0, .slice none 0 0, .int .i64 0, .int .i64 0, .int .i64 0, .slice none 0 0, .int .i64 0, .int .i64 0, .slice none 0 0, .string ByteArray.empty, .slice none 0 0, .int .i64 0, .int .i64 0, .string ByteArray.empty, .slice none 0 0, .slice none 0 0, .int .i64 0, .slice none 0 0, .slice none 0 0, .string ByteArray.empty, .int .i64 0, .slice none 0 0, .slice none 0 0, .bool false]) 78 1168 (v := .slice (some ⟨r1, 0, none⟩) 0 0) (k := 0) (xs := []) (a := ad) (m := rows.length) (c := cap) rv.flatten (by kernel_rfl) rfl (by kernel_rfl) rfl (by decide) (by kernel_rfl) ⟨rfl, .inr ⟨r1, 0, #[], rfl, rfl, Nat.le_refl _, Nat.zero_le _, rfl, rfl⟩⟩ (by kernel_rfl) hfl (fun w1 hw1 => hnews w1 _ hr1 hw1) hrv.oneCell (by rw [Nat.zero_add]; exact hml) (by rw [Nat.zero_add]; exact hby) ?_
    intro w1 v1 R1 hown htr
    simp only [List.append_nil] at htr
    rw [show R1 ++ ([] : List Blk) = R1 from List.append_nil _]
    refine wl_go 1 [(2, v1)] (by kernel_rfl) ?_
    refine nx_list ?_
    refine nx_then ?_
    refine nx_ret ?_
    refine ret_tmp (v := v1) rfl (by kernel_rfl) ?_
    intro w2 hw2
    exact ⟨v1, R1, rv, rfl, cl_of_own hr1 hrv hown (htr.trans hw2.trHere) hw2.here⟩

theorem clone_nil_48 (w : World) (cap : Nat) (S : Nat → Prop) :
    Calls Try.prog 48 #[.slice none 0 cap] w fun e w' => ∃ v' R rv, e = .returned v' ∧ Cl 3 S w [] v' w' R rv := by
  refine Sx.enter (l := [.slice none 0 cap]) Try.func48 rfl (n := 8) rfl (by simp) ?_
  refine wc_eq (S := SH w []) (SH.refl _) ?_
  refine wc_seq ?_
  refine wc_region ?_
  refine wl_go 1 [(2, .slice none 0 0)] (by kernel_rfl) ?_
  refine nx_list ?_
  refine nx_then ?_
  refine wc_seq ?_
  refine wc_seq ?_
  refine wc_region ?_
  refine wl_go 2 [(4, .bool true), (3, .slice none 0 cap)] (by kernel_rfl) ?_
  refine nx_list ?_
  refine nx_then ?_
  refine wc_cond true (by kernel_rfl) (by kernel_rfl) (fun _ => ?_) (fun h => by cases h)
  refine wc_seq ?_
  refine wc_region ?_
  refine wl_go 1 [(2, .slice none 0 0)] (by kernel_rfl) ?_
  refine nx_list ?_
  refine nx_then ?_
  refine nx_ret ?_
  refine nx_then_ret ?_
  refine ret_tmp (v := .slice none 0 0) rfl (by kernel_rfl) ?_
  intro w' hw'
  exact ⟨_, [], [], rfl, ⟨hw'.below (Below.refl _ _) (Nat.le_refl _) (by simp), trivial, ⟨none, 0, rfl, .inl ⟨rfl, rfl⟩⟩, by simp⟩⟩

theorem clone_48 (rows : List (List D)) (S : Nat → Prop) (v : Value) (w : World) (hr : Rd S w (.sl rows) v) (hes : ∀ r ∈ rows, r.length = 1) (hby : rows.length * 8 ≤ 140737488355328) :
    Calls Try.prog 48 #[v] w fun e w' => ∃ v' R rv, e = .returned v' ∧ Cl 3 S w rows v' w' R rv := by
  rw [Rd] at hr
  obtain ⟨a, cap, rfl, hrows⟩ := hr
  have hml : rows.length ≤ maxLen := by simp only [maxLen]; omega
  cases a with
  | none =>
    have hn : rows = [] := by
      rcases hrows with h | ⟨g, off, h, _⟩
      · exact h
      · cases h
    subst hn
    exact clone_nil_48 w cap S
  | some ad =>
    have hex : ∃ rv, RdR S w rows rv ∧ ∀ w1 r1, w.heap.size ≤ r1 → SH w ([⟨r1, #[], 3⟩] ++ []) w1 → ∀ j u, rv.flatten[j]? = some u → w1.cell? (ad.add j) = some u := by
      rcases hrows with h | ⟨g, off, h, hS, hg, hR⟩
      · subst h; exact ⟨[], trivial, fun _ _ _ _ j u h => by simp at h⟩
      · cases h
        obtain ⟨vs, h1, h2⟩ := RdRows.vals hR
        refine ⟨vs, h1, fun w1 r1 hr1 hw1 j u hj => ?_⟩
        rw [Addr.add_mid, hw1.cellIm ⟨hg, by simp; omega⟩]
        exact h2 j u hj
    obtain ⟨rv, hrv, hnews⟩ := hex
    have hfl := (hrv.flat hes).2
    refine Sx.enter (l := [.slice (some ad) rows.length cap]) Try.func48 rfl (n := 8) rfl (by simp) ?_
    refine wc_eq (S := SH w []) (SH.refl _) ?_
    refine wc_seq ?_
    refine wc_region ?_
    refine wl_go 1 [(2, .slice none 0 0)] (by kernel_rfl) ?_
    refine nx_list ?_
    refine nx_then ?_
    refine wc_seq ?_
    refine wc_seq ?_
    refine wc_region ?_
    refine wl_go 2 [(4, .bool false), (3, .slice (some ad) rows.length cap)] (by kernel_rfl) ?_
    refine nx_list ?_
    refine nx_then ?_
    refine wc_cond false (by kernel_rfl) (by kernel_rfl) (fun h => by cases h) (fun _ => ?_)
    refine nx_skip ?_
    refine nx_then ?_
    refine wc_seq ?_
    refine wc_region ?_
    refine wl_new (d := 5) #[] 3 (fun r => .slice (some ⟨r, 0, none⟩) 0 0) (by kernel_rfl) (fun r => by kernel_rfl) ?_
    intro r1 hr1
    refine wl_go 1 [(6, .slice (some ad) rows.length cap)] (by kernel_rfl) ?_
    refine wl_append (R := [⟨r1, #[], 3⟩]) (L := []) (d := 7) 3 (.int .i64 0) 1 8 (v := .slice (some ⟨r1, 0, none⟩) 0 0) (k := 0) (xs := []) (a := ad) (m := rows.length) (c := cap) rv.flatten (by kernel_rfl) rfl (by kernel_rfl) rfl (by decide) (by kernel_rfl) ⟨rfl, .inr ⟨r1, 0, #[], rfl, rfl, Nat.le_refl _, Nat.zero_le _, rfl, rfl⟩⟩ (by kernel_rfl) hfl (fun w1 hw1 => hnews w1 _ hr1 hw1) hrv.oneCell (by rw [Nat.zero_add]; exact hml) (by rw [Nat.zero_add]; exact hby) ?_
    intro w1 v1 R1 hown htr
    simp only [List.append_nil] at htr
    rw [show R1 ++ ([] : List Blk) = R1 from List.append_nil _]
    refine wl_go 1 [(2, v1)] (by kernel_rfl) ?_
    refine nx_list ?_
    refine nx_then ?_
    refine nx_ret ?_
    refine ret_tmp (v := v1) rfl (by kernel_rfl) ?_
    intro w2 hw2
    exact ⟨v1, R1, rv, rfl, cl_of_own hr1 hrv hown (htr.trans hw2.trHere) hw2.here⟩

theorem clone_nil_51 (w : World) (cap : Nat) (S : Nat → Prop) :
    Calls Try.prog 51 #[.slice none 0 cap] w fun e w' => ∃ v' R rv, e = .returned v' ∧ Cl 121 S w [] v' w' R rv := by
  refine Sx.enter (l := [.slice none 0 cap]) Try.func51 rfl (n := 8) rfl (by simp) ?_
  refine wc_eq (S := SH w []) (SH.refl _) ?_
  refine wc_seq ?_
  refine wc_region ?_
  refine wl_go 1 [(2, .slice none 0 0)] (by kernel_rfl) ?_
  refine nx_list ?_
  refine nx_then ?_
  refine wc_seq ?_
  refine wc_seq ?_
  refine wc_region ?_
  refine wl_go 2 [(4, .bool true), (3, .slice none 0 cap)] (by kernel_rfl) ?_
  refine nx_list ?_
  refine nx_then ?_
  refine wc_cond true (by kernel_rfl) (by kernel_rfl) (fun _ => ?_) (fun h => by cases h)
  refine wc_seq ?_
  refine wc_region ?_
  refine wl_go 1 [(2, .slice none 0 0)] (by kernel_rfl) ?_
  refine nx_list ?_
  refine nx_then ?_
  refine nx_ret ?_
  refine nx_then_ret ?_
  refine ret_tmp (v := .slice none 0 0) rfl (by kernel_rfl) ?_
  intro w' hw'
  exact ⟨_, [], [], rfl, ⟨hw'.below (Below.refl _ _) (Nat.le_refl _) (by simp), trivial, ⟨none, 0, rfl, .inl ⟨rfl, rfl⟩⟩, by simp⟩⟩

theorem clone_51 (rows : List (List D)) (S : Nat → Prop) (v : Value) (w : World) (hr : Rd S w (.sl rows) v) (hes : ∀ r ∈ rows, r.length = 6) (hby : rows.length * 96 ≤ 140737488355328) :
    Calls Try.prog 51 #[v] w fun e w' => ∃ v' R rv, e = .returned v' ∧ Cl 121 S w rows v' w' R rv := by
  rw [Rd] at hr
  obtain ⟨a, cap, rfl, hrows⟩ := hr
  have hml : rows.length ≤ maxLen := by simp only [maxLen]; omega
  cases a with
  | none =>
    have hn : rows = [] := by
      rcases hrows with h | ⟨g, off, h, _⟩
      · exact h
      · cases h
    subst hn
    exact clone_nil_51 w cap S
  | some ad =>
    have hex : ∃ rv, RdR S w rows rv ∧ ∀ w1 r1, w.heap.size ≤ r1 → SH w ([⟨r1, #[], 121⟩] ++ []) w1 → ∀ j u, rv.flatten[j]? = some u → w1.cell? (ad.add j) = some u := by
      rcases hrows with h | ⟨g, off, h, hS, hg, hR⟩
      · subst h; exact ⟨[], trivial, fun _ _ _ _ j u h => by simp at h⟩
      · cases h
        obtain ⟨vs, h1, h2⟩ := RdRows.vals hR
        refine ⟨vs, h1, fun w1 r1 hr1 hw1 j u hj => ?_⟩
        rw [Addr.add_mid, hw1.cellIm ⟨hg, by simp; omega⟩]
        exact h2 j u hj
    obtain ⟨rv, hrv, hnews⟩ := hex
    have hfl := (hrv.flat hes).2
    refine Sx.enter (l := [.slice (some ad) rows.length cap]) Try.func51 rfl (n := 8) rfl (by simp) ?_
    refine wc_eq (S := SH w []) (SH.refl _) ?_
    refine wc_seq ?_
    refine wc_region ?_
    refine wl_go 1 [(2, .slice none 0 0)] (by kernel_rfl) ?_
    refine nx_list ?_
    refine nx_then ?_
    refine wc_seq ?_
    refine wc_seq ?_
    refine wc_region ?_
    refine wl_go 2 [(4, .bool false), (3, .slice (some ad) rows.length cap)] (by kernel_rfl) ?_
    refine nx_list ?_
    refine nx_then ?_
    refine wc_cond false (by kernel_rfl) (by kernel_rfl) (fun h => by cases h) (fun _ => ?_)
    refine nx_skip ?_
    refine nx_then ?_
    refine wc_seq ?_
    refine wc_region ?_
    refine wl_new (d := 5) #[] 121 (fun r => .slice (some ⟨r, 0, none⟩) 0 0) (by kernel_rfl) (fun r => by kernel_rfl) ?_
    intro r1 hr1
    refine wl_go 1 [(6, .slice (some ad) rows.length cap)] (by kernel_rfl) ?_
    refine wl_append (R := [⟨r1, #[], 121⟩]) (L := []) (d := 7) 121 (.agg #[.string ByteArray.empty, .int .i64 0, .int .i64 0, .string ByteArray.empty, .slice none 0 0, .slice none 0 0]) 6 96 (v := .slice (some ⟨r1, 0, none⟩) 0 0) (k := 0) (xs := []) (a := ad) (m := rows.length) (c := cap) rv.flatten (by kernel_rfl) rfl (by kernel_rfl) rfl (by decide) (by kernel_rfl) ⟨rfl, .inr ⟨r1, 0, #[], rfl, rfl, Nat.le_refl _, Nat.zero_le _, rfl, rfl⟩⟩ (by kernel_rfl) hfl (fun w1 hw1 => hnews w1 _ hr1 hw1) hrv.oneCell (by rw [Nat.zero_add]; exact hml) (by rw [Nat.zero_add]; exact hby) ?_
    intro w1 v1 R1 hown htr
    simp only [List.append_nil] at htr
    rw [show R1 ++ ([] : List Blk) = R1 from List.append_nil _]
    refine wl_go 1 [(2, v1)] (by kernel_rfl) ?_
    refine nx_list ?_
    refine nx_then ?_
    refine nx_ret ?_
    refine ret_tmp (v := v1) rfl (by kernel_rfl) ?_
    intro w2 hw2
    exact ⟨v1, R1, rv, rfl, cl_of_own hr1 hrv hown (htr.trans hw2.trHere) hw2.here⟩

theorem clone_nil_52 (w : World) (cap : Nat) (S : Nat → Prop) :
    Calls Try.prog 52 #[.slice none 0 cap] w fun e w' => ∃ v' R rv, e = .returned v' ∧ Cl 49 S w [] v' w' R rv := by
  refine Sx.enter (l := [.slice none 0 cap]) Try.func52 rfl (n := 8) rfl (by simp) ?_
  refine wc_eq (S := SH w []) (SH.refl _) ?_
  refine wc_seq ?_
  refine wc_region ?_
  refine wl_go 1 [(2, .slice none 0 0)] (by kernel_rfl) ?_
  refine nx_list ?_
  refine nx_then ?_
  refine wc_seq ?_
  refine wc_seq ?_
  refine wc_region ?_
  refine wl_go 2 [(4, .bool true), (3, .slice none 0 cap)] (by kernel_rfl) ?_
  refine nx_list ?_
  refine nx_then ?_
  refine wc_cond true (by kernel_rfl) (by kernel_rfl) (fun _ => ?_) (fun h => by cases h)
  refine wc_seq ?_
  refine wc_region ?_
  refine wl_go 1 [(2, .slice none 0 0)] (by kernel_rfl) ?_
  refine nx_list ?_
  refine nx_then ?_
  refine nx_ret ?_
  refine nx_then_ret ?_
  refine ret_tmp (v := .slice none 0 0) rfl (by kernel_rfl) ?_
  intro w' hw'
  exact ⟨_, [], [], rfl, ⟨hw'.below (Below.refl _ _) (Nat.le_refl _) (by simp), trivial, ⟨none, 0, rfl, .inl ⟨rfl, rfl⟩⟩, by simp⟩⟩

theorem clone_52 (rows : List (List D)) (S : Nat → Prop) (v : Value) (w : World) (hr : Rd S w (.sl rows) v) (hes : ∀ r ∈ rows, r.length = 31) (hby : rows.length * 456 ≤ 140737488355328) :
    Calls Try.prog 52 #[v] w fun e w' => ∃ v' R rv, e = .returned v' ∧ Cl 49 S w rows v' w' R rv := by
  rw [Rd] at hr
  obtain ⟨a, cap, rfl, hrows⟩ := hr
  have hml : rows.length ≤ maxLen := by simp only [maxLen]; omega
  cases a with
  | none =>
    have hn : rows = [] := by
      rcases hrows with h | ⟨g, off, h, _⟩
      · exact h
      · cases h
    subst hn
    exact clone_nil_52 w cap S
  | some ad =>
    have hex : ∃ rv, RdR S w rows rv ∧ ∀ w1 r1, w.heap.size ≤ r1 → SH w ([⟨r1, #[], 49⟩] ++ []) w1 → ∀ j u, rv.flatten[j]? = some u → w1.cell? (ad.add j) = some u := by
      rcases hrows with h | ⟨g, off, h, hS, hg, hR⟩
      · subst h; exact ⟨[], trivial, fun _ _ _ _ j u h => by simp at h⟩
      · cases h
        obtain ⟨vs, h1, h2⟩ := RdRows.vals hR
        refine ⟨vs, h1, fun w1 r1 hr1 hw1 j u hj => ?_⟩
        rw [Addr.add_mid, hw1.cellIm ⟨hg, by simp; omega⟩]
        exact h2 j u hj
    obtain ⟨rv, hrv, hnews⟩ := hex
    have hfl := (hrv.flat hes).2
    refine Sx.enter (l := [.slice (some ad) rows.length cap]) Try.func52 rfl (n := 8) rfl (by simp) ?_
    refine wc_eq (S := SH w []) (SH.refl _) ?_
    refine wc_seq ?_
    refine wc_region ?_
    refine wl_go 1 [(2, .slice none 0 0)] (by kernel_rfl) ?_
    refine nx_list ?_
    refine nx_then ?_
    refine wc_seq ?_
    refine wc_seq ?_
    refine wc_region ?_
    refine wl_go 2 [(4, .bool false), (3, .slice (some ad) rows.length cap)] (by kernel_rfl) ?_
    refine nx_list ?_
    refine nx_then ?_
    refine wc_cond false (by kernel_rfl) (by kernel_rfl) (fun h => by cases h) (fun _ => ?_)
    refine nx_skip ?_
    refine nx_then ?_
    refine wc_seq ?_
    refine wc_region ?_
    refine wl_new (d := 5) #[] 49 (fun r => .slice (some ⟨r, 0, none⟩) 0 0) (by kernel_rfl) (fun r => by kernel_rfl) ?_
    intro r1 hr1
    refine wl_go 1 [(6, .slice (some ad) rows.length cap)] (by kernel_rfl) ?_
    refine wl_append (R := [⟨r1, #[], 49⟩]) (L := []) (d := 7) 49 (.agg #[.string ByteArray.empty, .int .i64 0, .slice none 0 0, .bool false, .bool false, .bool false, .int .i64 0, .slice none 0 0, .int .i64 0, .int .i64 0, .string ByteArray.empty, .slice none 0 0, .slice none 0 0, .slice none 0 0, .int .i64 0, .int .i64 0, .int .i64 0, .slice none 0 0, .int .i64 0, .int .i64 0, .slice none 0 0, .string ByteArray.empty, .slice none 0 0, .int .i64 0, .int .i64 0, .string ByteArray.empty, .slice none 0 0, .slice none 0 0, .int .i64 0, .slice none 0 0, .slice none 0 0]) 31 456 (v := .slice (some ⟨r1, 0, none⟩) 0 0) (k := 0) (xs := []) (a := ad) (m := rows.length) (c := cap) rv.flatten (by kernel_rfl) rfl (by kernel_rfl) rfl (by decide) (by kernel_rfl) ⟨rfl, .inr ⟨r1, 0, #[], rfl, rfl, Nat.le_refl _, Nat.zero_le _, rfl, rfl⟩⟩ (by kernel_rfl) hfl (fun w1 hw1 => hnews w1 _ hr1 hw1) hrv.oneCell (by rw [Nat.zero_add]; exact hml) (by rw [Nat.zero_add]; exact hby) ?_
    intro w1 v1 R1 hown htr
    simp only [List.append_nil] at htr
    rw [show R1 ++ ([] : List Blk) = R1 from List.append_nil _]
    refine wl_go 1 [(2, v1)] (by kernel_rfl) ?_
    refine nx_list ?_
    refine nx_then ?_
    refine nx_ret ?_
    refine ret_tmp (v := v1) rfl (by kernel_rfl) ?_
    intro w2 hw2
    exact ⟨v1, R1, rv, rfl, cl_of_own hr1 hrv hown (htr.trans hw2.trHere) hw2.here⟩

theorem clone_nil_54 (w : World) (cap : Nat) (S : Nat → Prop) :
    Calls Try.prog 54 #[.slice none 0 cap] w fun e w' => ∃ v' R rv, e = .returned v' ∧ Cl 126 S w [] v' w' R rv := by
  refine Sx.enter (l := [.slice none 0 cap]) Try.func54 rfl (n := 8) rfl (by simp) ?_
  refine wc_eq (S := SH w []) (SH.refl _) ?_
  refine wc_seq ?_
  refine wc_region ?_
  refine wl_go 1 [(2, .slice none 0 0)] (by kernel_rfl) ?_
  refine nx_list ?_
  refine nx_then ?_
  refine wc_seq ?_
  refine wc_seq ?_
  refine wc_region ?_
  refine wl_go 2 [(4, .bool true), (3, .slice none 0 cap)] (by kernel_rfl) ?_
  refine nx_list ?_
  refine nx_then ?_
  refine wc_cond true (by kernel_rfl) (by kernel_rfl) (fun _ => ?_) (fun h => by cases h)
  refine wc_seq ?_
  refine wc_region ?_
  refine wl_go 1 [(2, .slice none 0 0)] (by kernel_rfl) ?_
  refine nx_list ?_
  refine nx_then ?_
  refine nx_ret ?_
  refine nx_then_ret ?_
  refine ret_tmp (v := .slice none 0 0) rfl (by kernel_rfl) ?_
  intro w' hw'
  exact ⟨_, [], [], rfl, ⟨hw'.below (Below.refl _ _) (Nat.le_refl _) (by simp), trivial, ⟨none, 0, rfl, .inl ⟨rfl, rfl⟩⟩, by simp⟩⟩

theorem clone_54 (rows : List (List D)) (S : Nat → Prop) (v : Value) (w : World) (hr : Rd S w (.sl rows) v) (hes : ∀ r ∈ rows, r.length = 2) (hby : rows.length * 32 ≤ 140737488355328) :
    Calls Try.prog 54 #[v] w fun e w' => ∃ v' R rv, e = .returned v' ∧ Cl 126 S w rows v' w' R rv := by
  rw [Rd] at hr
  obtain ⟨a, cap, rfl, hrows⟩ := hr
  have hml : rows.length ≤ maxLen := by simp only [maxLen]; omega
  cases a with
  | none =>
    have hn : rows = [] := by
      rcases hrows with h | ⟨g, off, h, _⟩
      · exact h
      · cases h
    subst hn
    exact clone_nil_54 w cap S
  | some ad =>
    have hex : ∃ rv, RdR S w rows rv ∧ ∀ w1 r1, w.heap.size ≤ r1 → SH w ([⟨r1, #[], 126⟩] ++ []) w1 → ∀ j u, rv.flatten[j]? = some u → w1.cell? (ad.add j) = some u := by
      rcases hrows with h | ⟨g, off, h, hS, hg, hR⟩
      · subst h; exact ⟨[], trivial, fun _ _ _ _ j u h => by simp at h⟩
      · cases h
        obtain ⟨vs, h1, h2⟩ := RdRows.vals hR
        refine ⟨vs, h1, fun w1 r1 hr1 hw1 j u hj => ?_⟩
        rw [Addr.add_mid, hw1.cellIm ⟨hg, by simp; omega⟩]
        exact h2 j u hj
    obtain ⟨rv, hrv, hnews⟩ := hex
    have hfl := (hrv.flat hes).2
    refine Sx.enter (l := [.slice (some ad) rows.length cap]) Try.func54 rfl (n := 8) rfl (by simp) ?_
    refine wc_eq (S := SH w []) (SH.refl _) ?_
    refine wc_seq ?_
    refine wc_region ?_
    refine wl_go 1 [(2, .slice none 0 0)] (by kernel_rfl) ?_
    refine nx_list ?_
    refine nx_then ?_
    refine wc_seq ?_
    refine wc_seq ?_
    refine wc_region ?_
    refine wl_go 2 [(4, .bool false), (3, .slice (some ad) rows.length cap)] (by kernel_rfl) ?_
    refine nx_list ?_
    refine nx_then ?_
    refine wc_cond false (by kernel_rfl) (by kernel_rfl) (fun h => by cases h) (fun _ => ?_)
    refine nx_skip ?_
    refine nx_then ?_
    refine wc_seq ?_
    refine wc_region ?_
    refine wl_new (d := 5) #[] 126 (fun r => .slice (some ⟨r, 0, none⟩) 0 0) (by kernel_rfl) (fun r => by kernel_rfl) ?_
    intro r1 hr1
    refine wl_go 1 [(6, .slice (some ad) rows.length cap)] (by kernel_rfl) ?_
    refine wl_append (R := [⟨r1, #[], 126⟩]) (L := []) (d := 7) 126 (.agg #[.slice none 0 0, .bool false]) 2 32 (v := .slice (some ⟨r1, 0, none⟩) 0 0) (k := 0) (xs := []) (a := ad) (m := rows.length) (c := cap) rv.flatten (by kernel_rfl) rfl (by kernel_rfl) rfl (by decide) (by kernel_rfl) ⟨rfl, .inr ⟨r1, 0, #[], rfl, rfl, Nat.le_refl _, Nat.zero_le _, rfl, rfl⟩⟩ (by kernel_rfl) hfl (fun w1 hw1 => hnews w1 _ hr1 hw1) hrv.oneCell (by rw [Nat.zero_add]; exact hml) (by rw [Nat.zero_add]; exact hby) ?_
    intro w1 v1 R1 hown htr
    simp only [List.append_nil] at htr
    rw [show R1 ++ ([] : List Blk) = R1 from List.append_nil _]
    refine wl_go 1 [(2, v1)] (by kernel_rfl) ?_
    refine nx_list ?_
    refine nx_then ?_
    refine nx_ret ?_
    refine ret_tmp (v := v1) rfl (by kernel_rfl) ?_
    intro w2 hw2
    exact ⟨v1, R1, rv, rfl, cl_of_own hr1 hrv hown (htr.trans hw2.trHere) hw2.here⟩

theorem clone_nil_55 (w : World) (cap : Nat) (S : Nat → Prop) :
    Calls Try.prog 55 #[.slice none 0 cap] w fun e w' => ∃ v' R rv, e = .returned v' ∧ Cl 9 S w [] v' w' R rv := by
  refine Sx.enter (l := [.slice none 0 cap]) Try.func55 rfl (n := 8) rfl (by simp) ?_
  refine wc_eq (S := SH w []) (SH.refl _) ?_
  refine wc_seq ?_
  refine wc_region ?_
  refine wl_go 1 [(2, .slice none 0 0)] (by kernel_rfl) ?_
  refine nx_list ?_
  refine nx_then ?_
  refine wc_seq ?_
  refine wc_seq ?_
  refine wc_region ?_
  refine wl_go 2 [(4, .bool true), (3, .slice none 0 cap)] (by kernel_rfl) ?_
  refine nx_list ?_
  refine nx_then ?_
  refine wc_cond true (by kernel_rfl) (by kernel_rfl) (fun _ => ?_) (fun h => by cases h)
  refine wc_seq ?_
  refine wc_region ?_
  refine wl_go 1 [(2, .slice none 0 0)] (by kernel_rfl) ?_
  refine nx_list ?_
  refine nx_then ?_
  refine nx_ret ?_
  refine nx_then_ret ?_
  refine ret_tmp (v := .slice none 0 0) rfl (by kernel_rfl) ?_
  intro w' hw'
  exact ⟨_, [], [], rfl, ⟨hw'.below (Below.refl _ _) (Nat.le_refl _) (by simp), trivial, ⟨none, 0, rfl, .inl ⟨rfl, rfl⟩⟩, by simp⟩⟩

theorem clone_55 (rows : List (List D)) (S : Nat → Prop) (v : Value) (w : World) (hr : Rd S w (.sl rows) v) (hes : ∀ r ∈ rows, r.length = 1) (hby : rows.length * 16 ≤ 140737488355328) :
    Calls Try.prog 55 #[v] w fun e w' => ∃ v' R rv, e = .returned v' ∧ Cl 9 S w rows v' w' R rv := by
  rw [Rd] at hr
  obtain ⟨a, cap, rfl, hrows⟩ := hr
  have hml : rows.length ≤ maxLen := by simp only [maxLen]; omega
  cases a with
  | none =>
    have hn : rows = [] := by
      rcases hrows with h | ⟨g, off, h, _⟩
      · exact h
      · cases h
    subst hn
    exact clone_nil_55 w cap S
  | some ad =>
    have hex : ∃ rv, RdR S w rows rv ∧ ∀ w1 r1, w.heap.size ≤ r1 → SH w ([⟨r1, #[], 9⟩] ++ []) w1 → ∀ j u, rv.flatten[j]? = some u → w1.cell? (ad.add j) = some u := by
      rcases hrows with h | ⟨g, off, h, hS, hg, hR⟩
      · subst h; exact ⟨[], trivial, fun _ _ _ _ j u h => by simp at h⟩
      · cases h
        obtain ⟨vs, h1, h2⟩ := RdRows.vals hR
        refine ⟨vs, h1, fun w1 r1 hr1 hw1 j u hj => ?_⟩
        rw [Addr.add_mid, hw1.cellIm ⟨hg, by simp; omega⟩]
        exact h2 j u hj
    obtain ⟨rv, hrv, hnews⟩ := hex
    have hfl := (hrv.flat hes).2
    refine Sx.enter (l := [.slice (some ad) rows.length cap]) Try.func55 rfl (n := 8) rfl (by simp) ?_
    refine wc_eq (S := SH w []) (SH.refl _) ?_
    refine wc_seq ?_
    refine wc_region ?_
    refine wl_go 1 [(2, .slice none 0 0)] (by kernel_rfl) ?_
    refine nx_list ?_
    refine nx_then ?_
    refine wc_seq ?_
    refine wc_seq ?_
    refine wc_region ?_
    refine wl_go 2 [(4, .bool false), (3, .slice (some ad) rows.length cap)] (by kernel_rfl) ?_
    refine nx_list ?_
    refine nx_then ?_
    refine wc_cond false (by kernel_rfl) (by kernel_rfl) (fun h => by cases h) (fun _ => ?_)
    refine nx_skip ?_
    refine nx_then ?_
    refine wc_seq ?_
    refine wc_region ?_
    refine wl_new (d := 5) #[] 9 (fun r => .slice (some ⟨r, 0, none⟩) 0 0) (by kernel_rfl) (fun r => by kernel_rfl) ?_
    intro r1 hr1
    refine wl_go 1 [(6, .slice (some ad) rows.length cap)] (by kernel_rfl) ?_
    refine wl_append (R := [⟨r1, #[], 9⟩]) (L := []) (d := 7) 9 (.string ByteArray.empty) 1 16 (v := .slice (some ⟨r1, 0, none⟩) 0 0) (k := 0) (xs := []) (a := ad) (m := rows.length) (c := cap) rv.flatten (by kernel_rfl) rfl (by kernel_rfl) rfl (by decide) (by kernel_rfl) ⟨rfl, .inr ⟨r1, 0, #[], rfl, rfl, Nat.le_refl _, Nat.zero_le _, rfl, rfl⟩⟩ (by kernel_rfl) hfl (fun w1 hw1 => hnews w1 _ hr1 hw1) hrv.oneCell (by rw [Nat.zero_add]; exact hml) (by rw [Nat.zero_add]; exact hby) ?_
    intro w1 v1 R1 hown htr
    simp only [List.append_nil] at htr
    rw [show R1 ++ ([] : List Blk) = R1 from List.append_nil _]
    refine wl_go 1 [(2, v1)] (by kernel_rfl) ?_
    refine nx_list ?_
    refine nx_then ?_
    refine nx_ret ?_
    refine ret_tmp (v := v1) rfl (by kernel_rfl) ?_
    intro w2 hw2
    exact ⟨v1, R1, rv, rfl, cl_of_own hr1 hrv hown (htr.trans hw2.trHere) hw2.here⟩

theorem clone_nil_58 (w : World) (cap : Nat) (S : Nat → Prop) :
    Calls Try.prog 58 #[.slice none 0 cap] w fun e w' => ∃ v' R rv, e = .returned v' ∧ Cl 29 S w [] v' w' R rv := by
  refine Sx.enter (l := [.slice none 0 cap]) Try.func58 rfl (n := 8) rfl (by simp) ?_
  refine wc_eq (S := SH w []) (SH.refl _) ?_
  refine wc_seq ?_
  refine wc_region ?_
  refine wl_go 1 [(2, .slice none 0 0)] (by kernel_rfl) ?_
  refine nx_list ?_
  refine nx_then ?_
  refine wc_seq ?_
  refine wc_seq ?_
  refine wc_region ?_
  refine wl_go 2 [(4, .bool true), (3, .slice none 0 cap)] (by kernel_rfl) ?_
  refine nx_list ?_
  refine nx_then ?_
  refine wc_cond true (by kernel_rfl) (by kernel_rfl) (fun _ => ?_) (fun h => by cases h)
  refine wc_seq ?_
  refine wc_region ?_
  refine wl_go 1 [(2, .slice none 0 0)] (by kernel_rfl) ?_
  refine nx_list ?_
  refine nx_then ?_
  refine nx_ret ?_
  refine nx_then_ret ?_
  refine ret_tmp (v := .slice none 0 0) rfl (by kernel_rfl) ?_
  intro w' hw'
  exact ⟨_, [], [], rfl, ⟨hw'.below (Below.refl _ _) (Nat.le_refl _) (by simp), trivial, ⟨none, 0, rfl, .inl ⟨rfl, rfl⟩⟩, by simp⟩⟩

theorem clone_58 (rows : List (List D)) (S : Nat → Prop) (v : Value) (w : World) (hr : Rd S w (.sl rows) v) (hes : ∀ r ∈ rows, r.length = 5) (hby : rows.length * 80 ≤ 140737488355328) :
    Calls Try.prog 58 #[v] w fun e w' => ∃ v' R rv, e = .returned v' ∧ Cl 29 S w rows v' w' R rv := by
  rw [Rd] at hr
  obtain ⟨a, cap, rfl, hrows⟩ := hr
  have hml : rows.length ≤ maxLen := by simp only [maxLen]; omega
  cases a with
  | none =>
    have hn : rows = [] := by
      rcases hrows with h | ⟨g, off, h, _⟩
      · exact h
      · cases h
    subst hn
    exact clone_nil_58 w cap S
  | some ad =>
    have hex : ∃ rv, RdR S w rows rv ∧ ∀ w1 r1, w.heap.size ≤ r1 → SH w ([⟨r1, #[], 29⟩] ++ []) w1 → ∀ j u, rv.flatten[j]? = some u → w1.cell? (ad.add j) = some u := by
      rcases hrows with h | ⟨g, off, h, hS, hg, hR⟩
      · subst h; exact ⟨[], trivial, fun _ _ _ _ j u h => by simp at h⟩
      · cases h
        obtain ⟨vs, h1, h2⟩ := RdRows.vals hR
        refine ⟨vs, h1, fun w1 r1 hr1 hw1 j u hj => ?_⟩
        rw [Addr.add_mid, hw1.cellIm ⟨hg, by simp; omega⟩]
        exact h2 j u hj
    obtain ⟨rv, hrv, hnews⟩ := hex
    have hfl := (hrv.flat hes).2
    refine Sx.enter (l := [.slice (some ad) rows.length cap]) Try.func58 rfl (n := 8) rfl (by simp) ?_
    refine wc_eq (S := SH w []) (SH.refl _) ?_
    refine wc_seq ?_
    refine wc_region ?_
    refine wl_go 1 [(2, .slice none 0 0)] (by kernel_rfl) ?_
    refine nx_list ?_
    refine nx_then ?_
    refine wc_seq ?_
    refine wc_seq ?_
    refine wc_region ?_
    refine wl_go 2 [(4, .bool false), (3, .slice (some ad) rows.length cap)] (by kernel_rfl) ?_
    refine nx_list ?_
    refine nx_then ?_
    refine wc_cond false (by kernel_rfl) (by kernel_rfl) (fun h => by cases h) (fun _ => ?_)
    refine nx_skip ?_
    refine nx_then ?_
    refine wc_seq ?_
    refine wc_region ?_
    refine wl_new (d := 5) #[] 29 (fun r => .slice (some ⟨r, 0, none⟩) 0 0) (by kernel_rfl) (fun r => by kernel_rfl) ?_
    intro r1 hr1
    refine wl_go 1 [(6, .slice (some ad) rows.length cap)] (by kernel_rfl) ?_
    refine wl_append (R := [⟨r1, #[], 29⟩]) (L := []) (d := 7) 29 (.agg #[.int .i64 0, .int .i64 0, .string ByteArray.empty, .slice none 0 0, .slice none 0 0]) 5 80 (v := .slice (some ⟨r1, 0, none⟩) 0 0) (k := 0) (xs := []) (a := ad) (m := rows.length) (c := cap) rv.flatten (by kernel_rfl) rfl (by kernel_rfl) rfl (by decide) (by kernel_rfl) ⟨rfl, .inr ⟨r1, 0, #[], rfl, rfl, Nat.le_refl _, Nat.zero_le _, rfl, rfl⟩⟩ (by kernel_rfl) hfl (fun w1 hw1 => hnews w1 _ hr1 hw1) hrv.oneCell (by rw [Nat.zero_add]; exact hml) (by rw [Nat.zero_add]; exact hby) ?_
    intro w1 v1 R1 hown htr
    simp only [List.append_nil] at htr
    rw [show R1 ++ ([] : List Blk) = R1 from List.append_nil _]
    refine wl_go 1 [(2, v1)] (by kernel_rfl) ?_
    refine nx_list ?_
    refine nx_then ?_
    refine nx_ret ?_
    refine ret_tmp (v := v1) rfl (by kernel_rfl) ?_
    intro w2 hw2
    exact ⟨v1, R1, rv, rfl, cl_of_own hr1 hrv hown (htr.trans hw2.trHere) hw2.here⟩

theorem clone_nil_59 (w : World) (cap : Nat) (S : Nat → Prop) :
    Calls Try.prog 59 #[.slice none 0 cap] w fun e w' => ∃ v' R rv, e = .returned v' ∧ Cl 134 S w [] v' w' R rv := by
  refine Sx.enter (l := [.slice none 0 cap]) Try.func59 rfl (n := 8) rfl (by simp) ?_
  refine wc_eq (S := SH w []) (SH.refl _) ?_
  refine wc_seq ?_
  refine wc_region ?_
  refine wl_go 1 [(2, .slice none 0 0)] (by kernel_rfl) ?_
  refine nx_list ?_
  refine nx_then ?_
  refine wc_seq ?_
  refine wc_seq ?_
  refine wc_region ?_
  refine wl_go 2 [(4, .bool true), (3, .slice none 0 cap)] (by kernel_rfl) ?_
  refine nx_list ?_
  refine nx_then ?_
  refine wc_cond true (by kernel_rfl) (by kernel_rfl) (fun _ => ?_) (fun h => by cases h)
  refine wc_seq ?_
  refine wc_region ?_
  refine wl_go 1 [(2, .slice none 0 0)] (by kernel_rfl) ?_
  refine nx_list ?_
  refine nx_then ?_
  refine nx_ret ?_
  refine nx_then_ret ?_
  refine ret_tmp (v := .slice none 0 0) rfl (by kernel_rfl) ?_
  intro w' hw'
  exact ⟨_, [], [], rfl, ⟨hw'.below (Below.refl _ _) (Nat.le_refl _) (by simp), trivial, ⟨none, 0, rfl, .inl ⟨rfl, rfl⟩⟩, by simp⟩⟩

theorem clone_59 (rows : List (List D)) (S : Nat → Prop) (v : Value) (w : World) (hr : Rd S w (.sl rows) v) (hes : ∀ r ∈ rows, r.length = 22) (hby : rows.length * 328 ≤ 140737488355328) :
    Calls Try.prog 59 #[v] w fun e w' => ∃ v' R rv, e = .returned v' ∧ Cl 134 S w rows v' w' R rv := by
  rw [Rd] at hr
  obtain ⟨a, cap, rfl, hrows⟩ := hr
  have hml : rows.length ≤ maxLen := by simp only [maxLen]; omega
  cases a with
  | none =>
    have hn : rows = [] := by
      rcases hrows with h | ⟨g, off, h, _⟩
      · exact h
      · cases h
    subst hn
    exact clone_nil_59 w cap S
  | some ad =>
    have hex : ∃ rv, RdR S w rows rv ∧ ∀ w1 r1, w.heap.size ≤ r1 → SH w ([⟨r1, #[], 134⟩] ++ []) w1 → ∀ j u, rv.flatten[j]? = some u → w1.cell? (ad.add j) = some u := by
      rcases hrows with h | ⟨g, off, h, hS, hg, hR⟩
      · subst h; exact ⟨[], trivial, fun _ _ _ _ j u h => by simp at h⟩
      · cases h
        obtain ⟨vs, h1, h2⟩ := RdRows.vals hR
        refine ⟨vs, h1, fun w1 r1 hr1 hw1 j u hj => ?_⟩
        rw [Addr.add_mid, hw1.cellIm ⟨hg, by simp; omega⟩]
        exact h2 j u hj
    obtain ⟨rv, hrv, hnews⟩ := hex
    have hfl := (hrv.flat hes).2
    refine Sx.enter (l := [.slice (some ad) rows.length cap]) Try.func59 rfl (n := 8) rfl (by simp) ?_
    refine wc_eq (S := SH w []) (SH.refl _) ?_
    refine wc_seq ?_
    refine wc_region ?_
    refine wl_go 1 [(2, .slice none 0 0)] (by kernel_rfl) ?_
    refine nx_list ?_
    refine nx_then ?_
    refine wc_seq ?_
    refine wc_seq ?_
    refine wc_region ?_
    refine wl_go 2 [(4, .bool false), (3, .slice (some ad) rows.length cap)] (by kernel_rfl) ?_
    refine nx_list ?_
    refine nx_then ?_
    refine wc_cond false (by kernel_rfl) (by kernel_rfl) (fun h => by cases h) (fun _ => ?_)
    refine nx_skip ?_
    refine nx_then ?_
    refine wc_seq ?_
    refine wc_region ?_
    refine wl_new (d := 5) #[] 134 (fun r => .slice (some ⟨r, 0, none⟩) 0 0) (by kernel_rfl) (fun r => by kernel_rfl) ?_
    intro r1 hr1
    refine wl_go 1 [(6, .slice (some ad) rows.length cap)] (by kernel_rfl) ?_
    refine wl_append (R := [⟨r1, #[], 134⟩]) (L := []) (d := 7) 134 (.agg #[.string ByteArray.empty, .int .i64 0, .bool false, .int .i64 0, .int .i64 0, .string ByteArray.empty, .slice none 0 0, .slice none 0 0, .bool false, .int .i64 0, .int .i64 0, .string ByteArray.empty, .slice none 0 0, .slice none 0 0, .slice none 0 0, .int .i64 0, .int .i64 0, .slice none 0 0, .slice none 0 0, .bool false, .slice none 0 0, .bool false]) 22 328 (v := .slice (some ⟨r1, 0, none⟩) 0 0) (k := 0) (xs := []) (a := ad) (m := rows.length) (c := cap) rv.flatten (by kernel_rfl) rfl (by kernel_rfl) rfl (by decide) (by kernel_rfl) ⟨rfl, .inr ⟨r1, 0, #[], rfl, rfl, Nat.le_refl _, Nat.zero_le _, rfl, rfl⟩⟩ (by kernel_rfl) hfl (fun w1 hw1 => hnews w1 _ hr1 hw1) hrv.oneCell (by rw [Nat.zero_add]; exact hml) (by rw [Nat.zero_add]; exact hby) ?_
    intro w1 v1 R1 hown htr
    simp only [List.append_nil] at htr
    rw [show R1 ++ ([] : List Blk) = R1 from List.append_nil _]
    refine wl_go 1 [(2, v1)] (by kernel_rfl) ?_
    refine nx_list ?_
    refine nx_then ?_
    refine nx_ret ?_
    refine ret_tmp (v := v1) rfl (by kernel_rfl) ?_
    intro w2 hw2
    exact ⟨v1, R1, rv, rfl, cl_of_own hr1 hrv hown (htr.trans hw2.trHere) hw2.here⟩

theorem clone_nil_60 (w : World) (cap : Nat) (S : Nat → Prop) :
    Calls Try.prog 60 #[.slice none 0 cap] w fun e w' => ∃ v' R rv, e = .returned v' ∧ Cl 35 S w [] v' w' R rv := by
  refine Sx.enter (l := [.slice none 0 cap]) Try.func60 rfl (n := 8) rfl (by simp) ?_
  refine wc_eq (S := SH w []) (SH.refl _) ?_
  refine wc_seq ?_
  refine wc_region ?_
  refine wl_go 1 [(2, .slice none 0 0)] (by kernel_rfl) ?_
  refine nx_list ?_
  refine nx_then ?_
  refine wc_seq ?_
  refine wc_seq ?_
  refine wc_region ?_
  refine wl_go 2 [(4, .bool true), (3, .slice none 0 cap)] (by kernel_rfl) ?_
  refine nx_list ?_
  refine nx_then ?_
  refine wc_cond true (by kernel_rfl) (by kernel_rfl) (fun _ => ?_) (fun h => by cases h)
  refine wc_seq ?_
  refine wc_region ?_
  refine wl_go 1 [(2, .slice none 0 0)] (by kernel_rfl) ?_
  refine nx_list ?_
  refine nx_then ?_
  refine nx_ret ?_
  refine nx_then_ret ?_
  refine ret_tmp (v := .slice none 0 0) rfl (by kernel_rfl) ?_
  intro w' hw'
  exact ⟨_, [], [], rfl, ⟨hw'.below (Below.refl _ _) (Nat.le_refl _) (by simp), trivial, ⟨none, 0, rfl, .inl ⟨rfl, rfl⟩⟩, by simp⟩⟩

theorem clone_60 (rows : List (List D)) (S : Nat → Prop) (v : Value) (w : World) (hr : Rd S w (.sl rows) v) (hes : ∀ r ∈ rows, r.length = 21) (hby : rows.length * 312 ≤ 140737488355328) :
    Calls Try.prog 60 #[v] w fun e w' => ∃ v' R rv, e = .returned v' ∧ Cl 35 S w rows v' w' R rv := by
  rw [Rd] at hr
  obtain ⟨a, cap, rfl, hrows⟩ := hr
  have hml : rows.length ≤ maxLen := by simp only [maxLen]; omega
  cases a with
  | none =>
    have hn : rows = [] := by
      rcases hrows with h | ⟨g, off, h, _⟩
      · exact h
      · cases h
    subst hn
    exact clone_nil_60 w cap S
  | some ad =>
    have hex : ∃ rv, RdR S w rows rv ∧ ∀ w1 r1, w.heap.size ≤ r1 → SH w ([⟨r1, #[], 35⟩] ++ []) w1 → ∀ j u, rv.flatten[j]? = some u → w1.cell? (ad.add j) = some u := by
      rcases hrows with h | ⟨g, off, h, hS, hg, hR⟩
      · subst h; exact ⟨[], trivial, fun _ _ _ _ j u h => by simp at h⟩
      · cases h
        obtain ⟨vs, h1, h2⟩ := RdRows.vals hR
        refine ⟨vs, h1, fun w1 r1 hr1 hw1 j u hj => ?_⟩
        rw [Addr.add_mid, hw1.cellIm ⟨hg, by simp; omega⟩]
        exact h2 j u hj
    obtain ⟨rv, hrv, hnews⟩ := hex
    have hfl := (hrv.flat hes).2
    refine Sx.enter (l := [.slice (some ad) rows.length cap]) Try.func60 rfl (n := 8) rfl (by simp) ?_
    refine wc_eq (S := SH w []) (SH.refl _) ?_
    refine wc_seq ?_
    refine wc_region ?_
    refine wl_go 1 [(2, .slice none 0 0)] (by kernel_rfl) ?_
    refine nx_list ?_
    refine nx_then ?_
    refine wc_seq ?_
    refine wc_seq ?_
    refine wc_region ?_
    refine wl_go 2 [(4, .bool false), (3, .slice (some ad) rows.length cap)] (by kernel_rfl) ?_
    refine nx_list ?_
    refine nx_then ?_
    refine wc_cond false (by kernel_rfl) (by kernel_rfl) (fun h => by cases h) (fun _ => ?_)
    refine nx_skip ?_
    refine nx_then ?_
    refine wc_seq ?_
    refine wc_region ?_
    refine wl_new (d := 5) #[] 35 (fun r => .slice (some ⟨r, 0, none⟩) 0 0) (by kernel_rfl) (fun r => by kernel_rfl) ?_
    intro r1 hr1
    refine wl_go 1 [(6, .slice (some ad) rows.length cap)] (by kernel_rfl) ?_
    refine wl_append (R := [⟨r1, #[], 35⟩]) (L := []) (d := 7) 35 (.agg #[.int .i64 0, .bool false, .int .i64 0, .int .i64 0, .string ByteArray.empty, .slice none 0 0, .slice none 0 0, .bool false, .int .i64 0, .int .i64 0, .string ByteArray.empty, .slice none 0 0, .slice none 0 0, .slice none 0 0, .int .i64 0, .int .i64 0, .slice none 0 0, .slice none 0 0, .bool false, .slice none 0 0, .bool false]) 21 312 (v := .slice (some ⟨r1, 0, none⟩) 0 0) (k := 0) (xs := []) (a := ad) (m := rows.length) (c := cap) rv.flatten (by kernel_rfl) rfl (by kernel_rfl) rfl (by decide) (by kernel_rfl) ⟨rfl, .inr ⟨r1, 0, #[], rfl, rfl, Nat.le_refl _, Nat.zero_le _, rfl, rfl⟩⟩ (by kernel_rfl) hfl (fun w1 hw1 => hnews w1 _ hr1 hw1) hrv.oneCell (by rw [Nat.zero_add]; exact hml) (by rw [Nat.zero_add]; exact hby) ?_
    intro w1 v1 R1 hown htr
    simp only [List.append_nil] at htr
    rw [show R1 ++ ([] : List Blk) = R1 from List.append_nil _]
    refine wl_go 1 [(2, v1)] (by kernel_rfl) ?_
    refine nx_list ?_
    refine nx_then ?_
    refine nx_ret ?_
    refine ret_tmp (v := v1) rfl (by kernel_rfl) ?_
    intro w2 hw2
    exact ⟨v1, R1, rv, rfl, cl_of_own hr1 hrv hown (htr.trans hw2.trHere) hw2.here⟩

theorem clone_nil_61 (w : World) (cap : Nat) (S : Nat → Prop) :
    Calls Try.prog 61 #[.slice none 0 cap] w fun e w' => ∃ v' R rv, e = .returned v' ∧ Cl 138 S w [] v' w' R rv := by
  refine Sx.enter (l := [.slice none 0 cap]) Try.func61 rfl (n := 8) rfl (by simp) ?_
  refine wc_eq (S := SH w []) (SH.refl _) ?_
  refine wc_seq ?_
  refine wc_region ?_
  refine wl_go 1 [(2, .slice none 0 0)] (by kernel_rfl) ?_
  refine nx_list ?_
  refine nx_then ?_
  refine wc_seq ?_
  refine wc_seq ?_
  refine wc_region ?_
  refine wl_go 2 [(4, .bool true), (3, .slice none 0 cap)] (by kernel_rfl) ?_
  refine nx_list ?_
  refine nx_then ?_
  refine wc_cond true (by kernel_rfl) (by kernel_rfl) (fun _ => ?_) (fun h => by cases h)
  refine wc_seq ?_
  refine wc_region ?_
  refine wl_go 1 [(2, .slice none 0 0)] (by kernel_rfl) ?_
  refine nx_list ?_
  refine nx_then ?_
  refine nx_ret ?_
  refine nx_then_ret ?_
  refine ret_tmp (v := .slice none 0 0) rfl (by kernel_rfl) ?_
  intro w' hw'
  exact ⟨_, [], [], rfl, ⟨hw'.below (Below.refl _ _) (Nat.le_refl _) (by simp), trivial, ⟨none, 0, rfl, .inl ⟨rfl, rfl⟩⟩, by simp⟩⟩

theorem clone_61 (rows : List (List D)) (S : Nat → Prop) (v : Value) (w : World) (hr : Rd S w (.sl rows) v) (hes : ∀ r ∈ rows, r.length = 2) (hby : rows.length * 16 ≤ 140737488355328) :
    Calls Try.prog 61 #[v] w fun e w' => ∃ v' R rv, e = .returned v' ∧ Cl 138 S w rows v' w' R rv := by
  rw [Rd] at hr
  obtain ⟨a, cap, rfl, hrows⟩ := hr
  have hml : rows.length ≤ maxLen := by simp only [maxLen]; omega
  cases a with
  | none =>
    have hn : rows = [] := by
      rcases hrows with h | ⟨g, off, h, _⟩
      · exact h
      · cases h
    subst hn
    exact clone_nil_61 w cap S
  | some ad =>
    have hex : ∃ rv, RdR S w rows rv ∧ ∀ w1 r1, w.heap.size ≤ r1 → SH w ([⟨r1, #[], 138⟩] ++ []) w1 → ∀ j u, rv.flatten[j]? = some u → w1.cell? (ad.add j) = some u := by
      rcases hrows with h | ⟨g, off, h, hS, hg, hR⟩
      · subst h; exact ⟨[], trivial, fun _ _ _ _ j u h => by simp at h⟩
      · cases h
        obtain ⟨vs, h1, h2⟩ := RdRows.vals hR
        refine ⟨vs, h1, fun w1 r1 hr1 hw1 j u hj => ?_⟩
        rw [Addr.add_mid, hw1.cellIm ⟨hg, by simp; omega⟩]
        exact h2 j u hj
    obtain ⟨rv, hrv, hnews⟩ := hex
    have hfl := (hrv.flat hes).2
    refine Sx.enter (l := [.slice (some ad) rows.length cap]) Try.func61 rfl (n := 8) rfl (by simp) ?_
    refine wc_eq (S := SH w []) (SH.refl _) ?_
    refine wc_seq ?_
    refine wc_region ?_
    refine wl_go 1 [(2, .slice none 0 0)] (by kernel_rfl) ?_
    refine nx_list ?_
    refine nx_then ?_
    refine wc_seq ?_
    refine wc_seq ?_
    refine wc_region ?_
    refine wl_go 2 [(4, .bool false), (3, .slice (some ad) rows.length cap)] (by kernel_rfl) ?_
    refine nx_list ?_
    refine nx_then ?_
    refine wc_cond false (by kernel_rfl) (by kernel_rfl) (fun h => by cases h) (fun _ => ?_)
    refine nx_skip ?_
    refine nx_then ?_
    refine wc_seq ?_
    refine wc_region ?_
    refine wl_new (d := 5) #[] 138 (fun r => .slice (some ⟨r, 0, none⟩) 0 0) (by kernel_rfl) (fun r => by kernel_rfl) ?_
    intro r1 hr1
    refine wl_go 1 [(6, .slice (some ad) rows.length cap)] (by kernel_rfl) ?_
    refine wl_append (R := [⟨r1, #[], 138⟩]) (L := []) (d := 7) 138 (.agg #[.int .i64 0, .int .i64 0]) 2 16 (v := .slice (some ⟨r1, 0, none⟩) 0 0) (k := 0) (xs := []) (a := ad) (m := rows.length) (c := cap) rv.flatten (by kernel_rfl) rfl (by kernel_rfl) rfl (by decide) (by kernel_rfl) ⟨rfl, .inr ⟨r1, 0, #[], rfl, rfl, Nat.le_refl _, Nat.zero_le _, rfl, rfl⟩⟩ (by kernel_rfl) hfl (fun w1 hw1 => hnews w1 _ hr1 hw1) hrv.oneCell (by rw [Nat.zero_add]; exact hml) (by rw [Nat.zero_add]; exact hby) ?_
    intro w1 v1 R1 hown htr
    simp only [List.append_nil] at htr
    rw [show R1 ++ ([] : List Blk) = R1 from List.append_nil _]
    refine wl_go 1 [(2, v1)] (by kernel_rfl) ?_
    refine nx_list ?_
    refine nx_then ?_
    refine nx_ret ?_
    refine ret_tmp (v := v1) rfl (by kernel_rfl) ?_
    intro w2 hw2
    exact ⟨v1, R1, rv, rfl, cl_of_own hr1 hrv hown (htr.trans hw2.trHere) hw2.here⟩

theorem clone_nil_63 (w : World) (cap : Nat) (S : Nat → Prop) :
    Calls Try.prog 63 #[.slice none 0 cap] w fun e w' => ∃ v' R rv, e = .returned v' ∧ Cl 47 S w [] v' w' R rv := by
  refine Sx.enter (l := [.slice none 0 cap]) Try.func63 rfl (n := 8) rfl (by simp) ?_
  refine wc_eq (S := SH w []) (SH.refl _) ?_
  refine wc_seq ?_
  refine wc_region ?_
  refine wl_go 1 [(2, .slice none 0 0)] (by kernel_rfl) ?_
  refine nx_list ?_
  refine nx_then ?_
  refine wc_seq ?_
  refine wc_seq ?_
  refine wc_region ?_
  refine wl_go 2 [(4, .bool true), (3, .slice none 0 cap)] (by kernel_rfl) ?_
  refine nx_list ?_
  refine nx_then ?_
  refine wc_cond true (by kernel_rfl) (by kernel_rfl) (fun _ => ?_) (fun h => by cases h)
  refine wc_seq ?_
  refine wc_region ?_
  refine wl_go 1 [(2, .slice none 0 0)] (by kernel_rfl) ?_
  refine nx_list ?_
  refine nx_then ?_
  refine nx_ret ?_
  refine nx_then_ret ?_
  refine ret_tmp (v := .slice none 0 0) rfl (by kernel_rfl) ?_
  intro w' hw'
  exact ⟨_, [], [], rfl, ⟨hw'.below (Below.refl _ _) (Nat.le_refl _) (by simp), trivial, ⟨none, 0, rfl, .inl ⟨rfl, rfl⟩⟩, by simp⟩⟩

theorem clone_63 (rows : List (List D)) (S : Nat → Prop) (v : Value) (w : World) (hr : Rd S w (.sl rows) v) (hes : ∀ r ∈ rows, r.length = 25) (hby : rows.length * 400 ≤ 140737488355328) :
    Calls Try.prog 63 #[v] w fun e w' => ∃ v' R rv, e = .returned v' ∧ Cl 47 S w rows v' w' R rv := by
  rw [Rd] at hr
  obtain ⟨a, cap, rfl, hrows⟩ := hr
  have hml : rows.length ≤ maxLen := by simp only [maxLen]; omega
  cases a with
  | none =>
    have hn : rows = [] := by
      rcases hrows with h | ⟨g, off, h, _⟩
      · exact h
      · cases h
    subst hn
    exact clone_nil_63 w cap S
  | some ad =>
    have hex : ∃ rv, RdR S w rows rv ∧ ∀ w1 r1, w.heap.size ≤ r1 → SH w ([⟨r1, #[], 47⟩] ++ []) w1 → ∀ j u, rv.flatten[j]? = some u → w1.cell? (ad.add j) = some u := by
      rcases hrows with h | ⟨g, off, h, hS, hg, hR⟩
      · subst h; exact ⟨[], trivial, fun _ _ _ _ j u h => by simp at h⟩
      · cases h
        obtain ⟨vs, h1, h2⟩ := RdRows.vals hR
        refine ⟨vs, h1, fun w1 r1 hr1 hw1 j u hj => ?_⟩
        rw [Addr.add_mid, hw1.cellIm ⟨hg, by simp; omega⟩]
        exact h2 j u hj
    obtain ⟨rv, hrv, hnews⟩ := hex
    have hfl := (hrv.flat hes).2
    refine Sx.enter (l := [.slice (some ad) rows.length cap]) Try.func63 rfl (n := 8) rfl (by simp) ?_
    refine wc_eq (S := SH w []) (SH.refl _) ?_
    refine wc_seq ?_
    refine wc_region ?_
    refine wl_go 1 [(2, .slice none 0 0)] (by kernel_rfl) ?_
    refine nx_list ?_
    refine nx_then ?_
    refine wc_seq ?_
    refine wc_seq ?_
    refine wc_region ?_
    refine wl_go 2 [(4, .bool false), (3, .slice (some ad) rows.length cap)] (by kernel_rfl) ?_
    refine nx_list ?_
    refine nx_then ?_
    refine wc_cond false (by kernel_rfl) (by kernel_rfl) (fun h => by cases h) (fun _ => ?_)
    refine nx_skip ?_
    refine nx_then ?_
    refine wc_seq ?_
    refine wc_region ?_
    refine wl_new (d := 5) #[] 47 (fun r => .slice (some ⟨r, 0, none⟩) 0 0) (by kernel_rfl) (fun r => by kernel_rfl) ?_
    intro r1 hr1
    refine wl_go 1 [(6, .slice (some ad) rows.length cap)] (by kernel_rfl) ?_
    refine wl_append (R := [⟨r1, #[], 47⟩]) (L := []) (d := 7) 47 (.agg #[.int .i64 0, .slice none 0 0, .int .i64 0, .int .i64 0, .string ByteArray.empty, .slice none 0 0, .slice none 0 0, .slice none 0 0, .int .i64 0, .int .i64 0, .int .i64 0, .slice none 0 0, .int .i64 0, .int .i64 0, .slice none 0 0, .string ByteArray.empty, .slice none 0 0, .int .i64 0, .int .i64 0, .string ByteArray.empty, .slice none 0 0, .slice none 0 0, .int .i64 0, .slice none 0 0, .slice none 0 0]) 25 400 (v := .slice (some ⟨r1, 0, none⟩) 0 0) (k := 0) (xs := []) (a := ad) (m := rows.length) (c := cap) rv.flatten (by kernel_rfl) rfl (by kernel_rfl) rfl (by decide) (by kernel_rfl) ⟨rfl, .inr ⟨r1, 0, #[], rfl, rfl, Nat.le_refl _, Nat.zero_le _, rfl, rfl⟩⟩ (by kernel_rfl) hfl (fun w1 hw1 => hnews w1 _ hr1 hw1) hrv.oneCell (by rw [Nat.zero_add]; exact hml) (by rw [Nat.zero_add]; exact hby) ?_
    intro w1 v1 R1 hown htr
    simp only [List.append_nil] at htr
    rw [show R1 ++ ([] : List Blk) = R1 from List.append_nil _]
    refine wl_go 1 [(2, v1)] (by kernel_rfl) ?_
    refine nx_list ?_
    refine nx_then ?_
    refine nx_ret ?_
    refine ret_tmp (v := v1) rfl (by kernel_rfl) ?_
    intro w2 hw2
    exact ⟨v1, R1, rv, rfl, cl_of_own hr1 hrv hown (htr.trans hw2.trHere) hw2.here⟩

theorem clone_nil_67 (w : World) (cap : Nat) (S : Nat → Prop) :
    Calls Try.prog 67 #[.slice none 0 cap] w fun e w' => ∃ v' R rv, e = .returned v' ∧ Cl 44 S w [] v' w' R rv := by
  refine Sx.enter (l := [.slice none 0 cap]) Try.func67 rfl (n := 8) rfl (by simp) ?_
  refine wc_eq (S := SH w []) (SH.refl _) ?_
  refine wc_seq ?_
  refine wc_region ?_
  refine wl_go 1 [(2, .slice none 0 0)] (by kernel_rfl) ?_
  refine nx_list ?_
  refine nx_then ?_
  refine wc_seq ?_
  refine wc_seq ?_
  refine wc_region ?_
  refine wl_go 2 [(4, .bool true), (3, .slice none 0 cap)] (by kernel_rfl) ?_
  refine nx_list ?_
  refine nx_then ?_
  refine wc_cond true (by kernel_rfl) (by kernel_rfl) (fun _ => ?_) (fun h => by cases h)
  refine wc_seq ?_
  refine wc_region ?_
  refine wl_go 1 [(2, .slice none 0 0)] (by kernel_rfl) ?_
  refine nx_list ?_
  refine nx_then ?_
  refine nx_ret ?_
  refine nx_then_ret ?_
  refine ret_tmp (v := .slice none 0 0) rfl (by kernel_rfl) ?_
  intro w' hw'
  exact ⟨_, [], [], rfl, ⟨hw'.below (Below.refl _ _) (Nat.le_refl _) (by simp), trivial, ⟨none, 0, rfl, .inl ⟨rfl, rfl⟩⟩, by simp⟩⟩

theorem clone_67 (rows : List (List D)) (S : Nat → Prop) (v : Value) (w : World) (hr : Rd S w (.sl rows) v) (hes : ∀ r ∈ rows, r.length = 11) (hby : rows.length * 184 ≤ 140737488355328) :
    Calls Try.prog 67 #[v] w fun e w' => ∃ v' R rv, e = .returned v' ∧ Cl 44 S w rows v' w' R rv := by
  rw [Rd] at hr
  obtain ⟨a, cap, rfl, hrows⟩ := hr
  have hml : rows.length ≤ maxLen := by simp only [maxLen]; omega
  cases a with
  | none =>
    have hn : rows = [] := by
      rcases hrows with h | ⟨g, off, h, _⟩
      · exact h
      · cases h
    subst hn
    exact clone_nil_67 w cap S
  | some ad =>
    have hex : ∃ rv, RdR S w rows rv ∧ ∀ w1 r1, w.heap.size ≤ r1 → SH w ([⟨r1, #[], 44⟩] ++ []) w1 → ∀ j u, rv.flatten[j]? = some u → w1.cell? (ad.add j) = some u := by
      rcases hrows with h | ⟨g, off, h, hS, hg, hR⟩
      · subst h; exact ⟨[], trivial, fun _ _ _ _ j u h => by simp at h⟩
      · cases h
        obtain ⟨vs, h1, h2⟩ := RdRows.vals hR
        refine ⟨vs, h1, fun w1 r1 hr1 hw1 j u hj => ?_⟩
        rw [Addr.add_mid, hw1.cellIm ⟨hg, by simp; omega⟩]
        exact h2 j u hj
    obtain ⟨rv, hrv, hnews⟩ := hex
    have hfl := (hrv.flat hes).2
    refine Sx.enter (l := [.slice (some ad) rows.length cap]) Try.func67 rfl (n := 8) rfl (by simp) ?_
    refine wc_eq (S := SH w []) (SH.refl _) ?_
    refine wc_seq ?_
    refine wc_region ?_
    refine wl_go 1 [(2, .slice none 0 0)] (by kernel_rfl) ?_
    refine nx_list ?_
    refine nx_then ?_
    refine wc_seq ?_
    refine wc_seq ?_
    refine wc_region ?_
    refine wl_go 2 [(4, .bool false), (3, .slice (some ad) rows.length cap)] (by kernel_rfl) ?_
    refine nx_list ?_
    refine nx_then ?_
    refine wc_cond false (by kernel_rfl) (by kernel_rfl) (fun h => by cases h) (fun _ => ?_)
    refine nx_skip ?_
    refine nx_then ?_
    refine wc_seq ?_
    refine wc_region ?_
    refine wl_new (d := 5) #[] 44 (fun r => .slice (some ⟨r, 0, none⟩) 0 0) (by kernel_rfl) (fun r => by kernel_rfl) ?_
    intro r1 hr1
    refine wl_go 1 [(6, .slice (some ad) rows.length cap)] (by kernel_rfl) ?_
    refine wl_append (R := [⟨r1, #[], 44⟩]) (L := []) (d := 7) 44 (.agg #[.int .i64 0, .slice none 0 0, .string ByteArray.empty, .slice none 0 0, .int .i64 0, .int .i64 0, .string ByteArray.empty, .slice none 0 0, .slice none 0 0, .int .i64 0, .slice none 0 0]) 11 184 (v := .slice (some ⟨r1, 0, none⟩) 0 0) (k := 0) (xs := []) (a := ad) (m := rows.length) (c := cap) rv.flatten (by kernel_rfl) rfl (by kernel_rfl) rfl (by decide) (by kernel_rfl) ⟨rfl, .inr ⟨r1, 0, #[], rfl, rfl, Nat.le_refl _, Nat.zero_le _, rfl, rfl⟩⟩ (by kernel_rfl) hfl (fun w1 hw1 => hnews w1 _ hr1 hw1) hrv.oneCell (by rw [Nat.zero_add]; exact hml) (by rw [Nat.zero_add]; exact hby) ?_
    intro w1 v1 R1 hown htr
    simp only [List.append_nil] at htr
    rw [show R1 ++ ([] : List Blk) = R1 from List.append_nil _]
    refine wl_go 1 [(2, v1)] (by kernel_rfl) ?_
    refine nx_list ?_
    refine nx_then ?_
    refine nx_ret ?_
    refine ret_tmp (v := v1) rfl (by kernel_rfl) ?_
    intro w2 hw2
    exact ⟨v1, R1, rv, rfl, cl_of_own hr1 hrv hown (htr.trans hw2.trHere) hw2.here⟩

end Go.Proofs.Ytidkaipijocjcaa
