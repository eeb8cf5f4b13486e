/- Contracts of Same, Common and short, printed by a program of this repository (gen/rollback.py). -/
import Derived.Test.YthedokpgogopiaaApi
import Derived.Test.YthedokpgogopiaaBl
import Derived.Test.YthedokpgogopiaaProg
namespace Go.Proofs.Ythedokpgogopiaa
open Go.RowKit Go.Sx
set_option linter.unusedVariables false
set_option linter.unusedSimpArgs false

/-- the same term and the same stamp -/
def sameE : List D → List D → Bool
  | .int t :: .int s :: _, .int t' :: .int s' :: _ => (t == t') && (s == s')
  | _, _ => false
/-- the number of entries in common -/
def comm : List (List D) → List (List D) → Nat
  | r :: rs, q :: qs => bif sameE r q then comm rs qs + 1 else 0
  | _, _ => 0
theorem comm_yes {a b : List (List D)} {k : Nat} {r q : List D} (hr : a[k]? = some r) (hq : b[k]? = some q) (h : sameE r q = true) : comm (a.drop k) (b.drop k) = comm (a.drop (k + 1)) (b.drop (k + 1)) + 1 := by
  have h1 := (List.getElem?_eq_some_iff.1 hr)
  have h2 := (List.getElem?_eq_some_iff.1 hq)
  rw [List.drop_eq_getElem_cons h1.1, List.drop_eq_getElem_cons h2.1, comm, h1.2, h2.2, h]; rfl
theorem comm_no {a b : List (List D)} {k : Nat} {r q : List D} (hr : a[k]? = some r) (hq : b[k]? = some q) (h : sameE r q = false) : comm (a.drop k) (b.drop k) = 0 := by
  have h1 := (List.getElem?_eq_some_iff.1 hr)
  have h2 := (List.getElem?_eq_some_iff.1 hq)
  rw [List.drop_eq_getElem_cons h1.1, List.drop_eq_getElem_cons h2.1, comm, h1.2, h2.2, h]; rfl
theorem comm_end {a b : List (List D)} {k : Nat} (h : a.length ≤ k ∨ b.length ≤ k) : comm (a.drop k) (b.drop k) = 0 := by
  rcases h with h | h
  · rw [List.drop_eq_nil_of_le h]; rfl
  · rw [List.drop_eq_nil_of_le h]
    cases List.drop k a <;> rfl
theorem entry_at {w : World} {rows : List (List D)} {aa : Option Addr} {ca : Nat} (h : Rd (fun _ => True) w (.sl rows) (.slice aa rows.length ca)) (hf : FitR sh by_ rows (sh 13)) {k : Nat} (hk : k < rows.length) :
    ∃ g off t s r c, aa = some ⟨g, off, none⟩ ∧ rows[k]? = some (.int t :: .int s :: r) ∧ c.length = 80 ∧ w.rangeAt g (off + k * 82) (List.flatten [[Value.int .i64 t], [Value.int .i64 s], c]) := by
  obtain ⟨g, off, cap, rv, he, hR, hrg⟩ := h.rows (fun e => by rw [e] at hk; simp at hk)
  cases he
  have hr : rows[k]? = some rows[k] := List.getElem?_eq_getElem hk
  obtain ⟨v, hv, hrd⟩ := hR.get k _ hr
  have hfl := hf.get k _ hr
  have hfl' : FitL sh by_ rows[k] (.int :: .int :: ([.str, .int] ++ shWrite)) := hfl
  obtain ⟨d1, e1, h1, f1, hfl1⟩ := hfl'.cons
  obtain ⟨d2, e2, h2, f2, hfl2⟩ := hfl1.cons
  obtain ⟨t, rfl, _⟩ := f1.int
  obtain ⟨s, rfl, _⟩ := f2.int
  subst h2
  rw [h1] at hrd hr
  obtain ⟨c1, z1, rfl, g1, hrd1⟩ := hrd.cons
  obtain ⟨c2, z2, rfl, g2, hrd2⟩ := hrd1.cons
  rw [Rd] at g1 g2
  subst g1 g2
  have hl := (hR.flat (es := 82) (fun r hr => hf.length r hr)).1
  refine ⟨g, off, t, s, e2, z2, rfl, hr, ?_, ?_⟩
  · have := hrd2.length
    have h9 : e2.length = 80 := hfl2.length.trans (by kernel_rfl)
    omega
  · have := range_row hrg hl hv
    simpa using this

theorem same_9 (t1 s1 t2 s2 : Int) (c1 c2 : List Value) (l_c1 : c1.length = 80) (l_c2 : c2.length = 80) (w : World) :
    Calls Try.prog 9 #[.agg (List.flatten [[.int .i64 t1], [.int .i64 s1], c1]).toArray, .agg (List.flatten [[.int .i64 t2], [.int .i64 s2], c2]).toArray] w (fun e w' => e = .returned (.bool ((t1 == t2) && (s1 == s2))) ∧ Below w.heap.size w w') := by
  have hent := (@Sx.enter Try.prog 17 9 Try.f9 _ [.agg (List.flatten [[.int .i64 t1], [.int .i64 s1], c1]).toArray, .agg (List.flatten [[.int .i64 t2], [.int .i64 s2], c2]).toArray] w (fun e w' => e = .returned (.bool ((t1 == t2) && (s1 == s2))) ∧ Below w.heap.size w w') Try.func9 rfl rfl (by simp))
  refine hent ?_
  refine wc_eq (S := SH w []) (SH.refl _) ?_
  refine wc_seq ?_
  refine wc_region ?_
  refine wl_new (d := 2) (List.flatten [[.int .i64 t1], [.int .i64 s1], c1]).toArray 55 (fun r => .pointer (some ⟨r, 0, none⟩)) (by kernel_rfl) (fun r => by kernel_rfl) ?_
  intro r1 hr1
  refine wl_new (d := 3) (List.flatten [[.int .i64 t2], [.int .i64 s2], c2]).toArray 55 (fun r => .pointer (some ⟨r, 0, none⟩)) (by kernel_rfl) (fun r => by kernel_rfl) ?_
  intro r2 hr2
  refine wl_go 1 [(4, .bool false)] (by kernel_rfl) ?_
  refine nx_list ?_
  refine nx_then ?_
  refine wc_seq ?_
  refine wc_region ?_
  refine wl_go 1 [(5, .pointer (some ⟨r1, 0, none⟩))] (by kernel_rfl) ?_
  refine wl_yl (d := 6) (v := .int .i64 t1) (by kernel_rfl) (yl_load (b := r1) (off := 0) 1 rfl (by kernel_rfl) rfl (readAt_seg1 0 rfl (by simp [l_c1]) (by kernel_rfl))) ?_
  refine wl_go 1 [(7, .pointer (some ⟨r2, 0, none⟩))] (by kernel_rfl) ?_
  refine wl_yl (d := 8) (v := .int .i64 t2) (by kernel_rfl) (yl_load (b := r2) (off := 0) 0 rfl (by kernel_rfl) rfl (readAt_seg1 0 rfl (by simp [l_c2]) (by kernel_rfl))) ?_
  refine wl_go 2 [(10, .bool (t1 == t2)), (9, .bool (t1 == t2))] (by kernel_rfl) ?_
  cases hc1 : (t1 == t2)
  · skip
    refine wl_go 7 [(4, .bool false), (16, .bool false), (15, undef), (14, undef), (13, undef), (12, undef), (11, undef)] (by kernel_rfl) ?_
    refine nx_list ?_
    refine nx_then ?_
    refine nx_ret ?_
    refine ret_tmp (v := .bool false) rfl (by kernel_rfl) ?_
    intro w' hw'
    exact ⟨by simp [hc1], hw'.below (Below.refl _ _) (Nat.le_refl _) (ge_cons hr2 (ge_cons hr1 (ge_nil _)))⟩
  · skip
    refine wl_go 1 [(11, .pointer (some ⟨r1, 1, none⟩))] (by kernel_rfl) ?_
    refine wl_yl (d := 12) (v := .int .i64 s1) (by kernel_rfl) (yl_load (b := r1) (off := 1) 1 rfl (by kernel_rfl) rfl (readAt_seg1 1 rfl (by simp [l_c1]) (by kernel_rfl))) ?_
    refine wl_go 1 [(13, .pointer (some ⟨r2, 1, none⟩))] (by kernel_rfl) ?_
    refine wl_yl (d := 14) (v := .int .i64 s2) (by kernel_rfl) (yl_load (b := r2) (off := 1) 0 rfl (by kernel_rfl) rfl (readAt_seg1 1 rfl (by simp [l_c2]) (by kernel_rfl))) ?_
    refine wl_go 3 [(4, .bool (s1 == s2)), (16, .bool (s1 == s2)), (15, .bool (s1 == s2))] (by kernel_rfl) ?_
    refine nx_list ?_
    refine nx_then ?_
    refine nx_ret ?_
    refine ret_tmp (v := .bool (s1 == s2)) rfl (by kernel_rfl) ?_
    intro w' hw'
    exact ⟨by simp [hc1], hw'.below (Below.refl _ _) (Nat.le_refl _) (ge_cons hr2 (ge_cons hr1 (ge_nil _)))⟩

theorem same_10 (t1 s1 t2 s2 : Int) (c1 c2 : List Value) (l_c1 : c1.length = 80) (l_c2 : c2.length = 80) (w : World) :
    Calls Try.prog 10 #[.agg (List.flatten [[.int .i64 t1], [.int .i64 s1], c1]).toArray, .agg (List.flatten [[.int .i64 t2], [.int .i64 s2], c2]).toArray] w (fun e w' => e = .returned (.bool ((t1 == t2) && (s1 == s2))) ∧ Below w.heap.size w w') := by
  have hent := (@Sx.enter Try.prog 17 10 Try.f10 _ [.agg (List.flatten [[.int .i64 t1], [.int .i64 s1], c1]).toArray, .agg (List.flatten [[.int .i64 t2], [.int .i64 s2], c2]).toArray] w (fun e w' => e = .returned (.bool ((t1 == t2) && (s1 == s2))) ∧ Below w.heap.size w w') Try.func10 rfl rfl (by simp))
  refine hent ?_
  refine wc_eq (S := SH w []) (SH.refl _) ?_
  refine wc_seq ?_
  refine wc_region ?_
  refine wl_new (d := 2) (List.flatten [[.int .i64 t1], [.int .i64 s1], c1]).toArray 55 (fun r => .pointer (some ⟨r, 0, none⟩)) (by kernel_rfl) (fun r => by kernel_rfl) ?_
  intro r1 hr1
  refine wl_new (d := 3) (List.flatten [[.int .i64 t2], [.int .i64 s2], c2]).toArray 55 (fun r => .pointer (some ⟨r, 0, none⟩)) (by kernel_rfl) (fun r => by kernel_rfl) ?_
  intro r2 hr2
  refine wl_go 1 [(4, .bool false)] (by kernel_rfl) ?_
  refine nx_list ?_
  refine nx_then ?_
  refine wc_seq ?_
  refine wc_region ?_
  refine wl_go 1 [(5, .pointer (some ⟨r1, 0, none⟩))] (by kernel_rfl) ?_
  refine wl_yl (d := 6) (v := .int .i64 t1) (by kernel_rfl) (yl_load (b := r1) (off := 0) 1 rfl (by kernel_rfl) rfl (readAt_seg1 0 rfl (by simp [l_c1]) (by kernel_rfl))) ?_
  refine wl_go 1 [(7, .pointer (some ⟨r2, 0, none⟩))] (by kernel_rfl) ?_
  refine wl_yl (d := 8) (v := .int .i64 t2) (by kernel_rfl) (yl_load (b := r2) (off := 0) 0 rfl (by kernel_rfl) rfl (readAt_seg1 0 rfl (by simp [l_c2]) (by kernel_rfl))) ?_
  refine wl_go 2 [(10, .bool (t1 == t2)), (9, .bool (t1 == t2))] (by kernel_rfl) ?_
  cases hc1 : (t1 == t2)
  · skip
    refine wl_go 7 [(4, .bool false), (16, .bool false), (15, undef), (14, undef), (13, undef), (12, undef), (11, undef)] (by kernel_rfl) ?_
    refine nx_list ?_
    refine nx_then ?_
    refine nx_ret ?_
    refine ret_tmp (v := .bool false) rfl (by kernel_rfl) ?_
    intro w' hw'
    exact ⟨by simp [hc1], hw'.below (Below.refl _ _) (Nat.le_refl _) (ge_cons hr2 (ge_cons hr1 (ge_nil _)))⟩
  · skip
    refine wl_go 1 [(11, .pointer (some ⟨r1, 1, none⟩))] (by kernel_rfl) ?_
    refine wl_yl (d := 12) (v := .int .i64 s1) (by kernel_rfl) (yl_load (b := r1) (off := 1) 1 rfl (by kernel_rfl) rfl (readAt_seg1 1 rfl (by simp [l_c1]) (by kernel_rfl))) ?_
    refine wl_go 1 [(13, .pointer (some ⟨r2, 1, none⟩))] (by kernel_rfl) ?_
    refine wl_yl (d := 14) (v := .int .i64 s2) (by kernel_rfl) (yl_load (b := r2) (off := 1) 0 rfl (by kernel_rfl) rfl (readAt_seg1 1 rfl (by simp [l_c2]) (by kernel_rfl))) ?_
    refine wl_go 3 [(4, .bool (s1 == s2)), (16, .bool (s1 == s2)), (15, .bool (s1 == s2))] (by kernel_rfl) ?_
    refine nx_list ?_
    refine nx_then ?_
    refine nx_ret ?_
    refine ret_tmp (v := .bool (s1 == s2)) rfl (by kernel_rfl) ?_
    intro w' hw'
    exact ⟨by simp [hc1], hw'.below (Below.refl _ _) (Nat.le_refl _) (ge_cons hr2 (ge_cons hr1 (ge_nil _)))⟩

theorem common_11 (ra rb : List (List D)) (aa ab : Option Addr) (na nb : Nat) (w : World) (h_va : Rd (fun _ => True) w (.sl ra) (.slice aa ra.length na)) (h_vb : Rd (fun _ => True) w (.sl rb) (.slice ab rb.length nb)) (f_ra : FitR sh by_ ra (sh 13)) (f_rb : FitR sh by_ rb (sh 13))
    (b_a : ra.length ≤ 140737488355328) (b_b : rb.length ≤ 140737488355328) : Calls Try.prog 11 #[.slice aa ra.length na, .slice ab rb.length nb] w (fun e w' => e = .returned (.int .i64 (comm ra rb : Int)) ∧ Below w.heap.size w w') := by
  refine Sx.enter (l := [.slice aa ra.length na, .slice ab rb.length nb]) Try.func11 rfl (n := 30) rfl (by simp) ?_
  refine wc_eq (S := Bl w) (Below.refl _ _) ?_
  refine wc_seq ?_
  refine wc_region ?_
  refine wl_go 1 [(4, .int .i64 0)] (by kernel_rfl) ?_
  refine nx_list ?_
  refine nx_then ?_
  refine wc_seq ?_
  refine wc_region ?_
  refine wl_go 1 [(5, .int .i64 0)] (by kernel_rfl) ?_
  refine nx_list ?_
  refine nx_then ?_
  refine wc_seq ?_
  refine wc_block ?_
  refine wc_loop (σ := { k : Nat // k ≤ ra.length ∧ comm ra rb = k + comm (ra.drop k) (rb.drop k) }) (fun x => [(0, .slice aa ra.length na), (1, .slice ab rb.length nb), (4, .int .i64 0), (5, .int .i64 (x.1 : Int))]) (fun _ => Bl w) (fun x => ra.length - x.1) (fun w3 h3 => ⟨⟨0, Nat.zero_le _, by simp⟩, h3, (subEnv_cons (by kernel_rfl) (subEnv_cons (by kernel_rfl) (subEnv_cons (by kernel_rfl) (subEnv_cons (by kernel_rfl) (subEnv_nil _)))))⟩) (fun x => ?_)
  refine wc_seq ?_
  refine wc_seq ?_
  refine wc_draw 21 (Bl w) rfl (by decide) (fun w h => Bl.drew h) ?_
  refine wd_go [0, 1, 2, 3, 4] [(10, .bool (decide ((x.1 : Int) < (ra.length : Int)))), (9, .bool (decide ((x.1 : Int) < (ra.length : Int)))), (8, .int .i64 (ra.length : Int)), (7, .slice aa ra.length na), (6, .int .i64 (x.1 : Int))] #[true, true, true, true, true, false, false, false, false, false, false, false, false, false, false, false, false, false, false, false, false] (f := 16) rfl (by kernel_rfl) (fun w h => h) ?_
  cases ha : (decide ((x.1 : Int) < (ra.length : Int)))
  · skip
    refine wd_go [5, 6, 7, 8, 9, 10, 11, 12, 13, 14, 15, 16, 17, 18, 19, 20] [(26, .bool false), (25, undef), (24, undef), (23, undef), (22, undef), (21, undef), (20, undef), (19, undef), (18, undef), (17, undef), (16, .bool false), (15, .bool false), (14, undef), (13, undef), (12, undef), (11, undef)] #[true, true, true, true, true, true, true, true, true, true, true, true, true, true, true, true, true, true, true, true, true] (f := 0) rfl (by kernel_rfl) (fun w h => h) ?_
    refine wd_done (by kernel_rfl) ?_
    refine nx_list ?_
    refine nx_on ?_
    refine nx_then ?_
    refine wc_cond false (by kernel_rfl) (by kernel_rfl) (fun h => by cases h) (fun _ => ?_)
    refine nx_exit ?_
    refine nx_then_exit ?_
    refine nx_then_exit ?_
    refine nx_block_here ?_
    refine nx_then ?_
    refine wc_seq ?_
    refine wc_region ?_
    refine wl_go 2 [(4, .int .i64 (x.1 : Int)), (29, .int .i64 (x.1 : Int))] (by kernel_rfl) ?_
    refine nx_list ?_
    refine nx_then ?_
    refine nx_ret ?_
    refine ret_tmp (v := .int .i64 (x.1 : Int)) rfl (by kernel_rfl) ?_
    intro w' hw'
    refine ⟨?_, hw'⟩
    have h0 : comm (ra.drop x.1) (rb.drop x.1) = 0 := by first | exact comm_end (.inl (by simpa using ha)) | exact comm_end (.inr (by simpa using hb)) | exact comm_no hra hrb hs
    have hc : comm ra rb = x.1 := by have h1 := x.2.2; omega
    exact congrArg (fun m : Nat => Ending.returned (.int .i64 (m : Int))) hc.symm
  · skip
    have hka : x.1 < ra.length := by simpa using ha
    obtain ⟨ga, oa, ta, sa, da, ca, rfl, hra, l_ca, hga⟩ := entry_at h_va f_ra hka
    refine wd_go [5, 6, 7, 8, 9, 10] [(16, .bool (decide ((x.1 : Int) < (rb.length : Int)))), (15, .bool (decide ((x.1 : Int) < (rb.length : Int)))), (14, .bool (decide ((x.1 : Int) < (rb.length : Int)))), (13, .int .i64 (rb.length : Int)), (12, .slice ab rb.length nb), (11, .int .i64 (x.1 : Int))] #[true, true, true, true, true, true, true, true, true, true, true, false, false, false, false, false, false, false, false, false, false] (f := 10) rfl (by kernel_rfl) (fun w h => h) ?_
    cases hb : (decide ((x.1 : Int) < (rb.length : Int)))
    · skip
      refine wd_go [11, 12, 13, 14, 15, 16, 17, 18, 19, 20] [(26, .bool false), (25, undef), (24, undef), (23, undef), (22, undef), (21, undef), (20, undef), (19, undef), (18, undef), (17, undef)] #[true, true, true, true, true, true, true, true, true, true, true, true, true, true, true, true, true, true, true, true, true] (f := 0) rfl (by kernel_rfl) (fun w h => h) ?_
      refine wd_done (by kernel_rfl) ?_
      refine nx_list ?_
      refine nx_on ?_
      refine nx_then ?_
      refine wc_cond false (by kernel_rfl) (by kernel_rfl) (fun h => by cases h) (fun _ => ?_)
      refine nx_exit ?_
      refine nx_then_exit ?_
      refine nx_then_exit ?_
      refine nx_block_here ?_
      refine nx_then ?_
      refine wc_seq ?_
      refine wc_region ?_
      refine wl_go 2 [(4, .int .i64 (x.1 : Int)), (29, .int .i64 (x.1 : Int))] (by kernel_rfl) ?_
      refine nx_list ?_
      refine nx_then ?_
      refine nx_ret ?_
      refine ret_tmp (v := .int .i64 (x.1 : Int)) rfl (by kernel_rfl) ?_
      intro w' hw'
      refine ⟨?_, hw'⟩
      have h0 : comm (ra.drop x.1) (rb.drop x.1) = 0 := by first | exact comm_end (.inl (by simpa using ha)) | exact comm_end (.inr (by simpa using hb)) | exact comm_no hra hrb hs
      have hc : comm ra rb = x.1 := by have h1 := x.2.2; omega
      exact congrArg (fun m : Nat => Ending.returned (.int .i64 (m : Int))) hc.symm
    · skip
      have hkb : x.1 < rb.length := by simpa using hb
      obtain ⟨gb, ob, tb, sb, db, cb, rfl, hrb, l_cb, hgb⟩ := entry_at h_vb f_rb hkb
      refine wd_go [11, 12] [(18, .int .i64 (x.1 : Int)), (17, .slice (some ⟨ga, oa, none⟩) ra.length na)] #[true, true, true, true, true, true, true, true, true, true, true, true, true, false, false, false, false, false, false, false, false] (f := 8) rfl (by kernel_rfl) (fun w h => h) ?_
      refine wd_yl 13 (d := 19) (v := .pointer (some ⟨ga, oa + x.1 * 82, none⟩)) (f := 7) rfl (by kernel_rfl) (by kernel_rfl) (fun w h => h) (yl_index (E := 55) (b := ga) (off := oa) (len := ra.length) (cap := na) (k := x.1) (es := 82) rfl (by kernel_rfl) (by kernel_rfl) (by kernel_rfl) (by omega)) ?_
      refine wd_yl 14 (d := 20) (v := .agg (List.flatten [[.int .i64 ta], [.int .i64 sa], ca]).toArray) (f := 6) rfl (by kernel_rfl) (by kernel_rfl) (fun w h => h) (yl_loadsB (b := ga) (off := oa + x.1 * 82) (cs := (List.flatten [[.int .i64 ta], [.int .i64 sa], ca])) rfl (by kernel_rfl) (by rw [show (List.flatten [[.int .i64 ta], [.int .i64 sa], ca]).length = 82 from by simp [l_ca]]; kernel_rfl) hga) ?_
      refine wd_go [15, 16] [(22, .int .i64 (x.1 : Int)), (21, .slice (some ⟨gb, ob, none⟩) rb.length nb)] #[true, true, true, true, true, true, true, true, true, true, true, true, true, true, true, true, true, false, false, false, false] (f := 4) rfl (by kernel_rfl) (fun w h => h) ?_
      refine wd_yl 17 (d := 23) (v := .pointer (some ⟨gb, ob + x.1 * 82, none⟩)) (f := 3) rfl (by kernel_rfl) (by kernel_rfl) (fun w h => h) (yl_index (E := 55) (b := gb) (off := ob) (len := rb.length) (cap := nb) (k := x.1) (es := 82) rfl (by kernel_rfl) (by kernel_rfl) (by kernel_rfl) (by omega)) ?_
      refine wd_yl 18 (d := 24) (v := .agg (List.flatten [[.int .i64 tb], [.int .i64 sb], cb]).toArray) (f := 2) rfl (by kernel_rfl) (by kernel_rfl) (fun w h => h) (yl_loadsB (b := gb) (off := ob + x.1 * 82) (cs := (List.flatten [[.int .i64 tb], [.int .i64 sb], cb])) rfl (by kernel_rfl) (by rw [show (List.flatten [[.int .i64 tb], [.int .i64 sb], cb]).length = 82 from by simp [l_cb]]; kernel_rfl) hgb) ?_
      refine wd_callQ 19 (d := 25) (fu := 1) (v := .bool ((ta == tb) && (sa == sb))) rfl (by decide) (by kernel_rfl) (by kernel_rfl) (by kernel_rfl) (fun w1 h1 => same_9 ta sa tb sb ca cb l_ca l_cb w1) ?_
      refine wd_go [20] [(26, .bool ((ta == tb) && (sa == sb)))] #[true, true, true, true, true, true, true, true, true, true, true, true, true, true, true, true, true, true, true, true, true] (f := 0) rfl (by kernel_rfl) (fun w h => h) ?_
      refine wd_done (by kernel_rfl) ?_
      refine nx_list ?_
      refine nx_on ?_
      refine nx_then ?_
      refine wc_cond ((ta == tb) && (sa == sb)) (by kernel_rfl) (by kernel_rfl) (fun hs => ?_) (fun hs => ?_)
      · skip
        have hsT : ((ta == tb) && (sa == sb)) = true := hs
        refine nx_skip ?_
        refine nx_then ?_
        refine wc_block ?_
        refine wc_region ?_
        refine wl_go 1 [(27, .int .i64 (x.1 : Int))] (by kernel_rfl) ?_
        refine wl_yl (d := 28) (v := .int .i64 ((x.1 : Int) + 1)) (by kernel_rfl) (yl_int (t := (x.1 : Int) + 1) (r := (x.1 : Int) + 1) (by kernel_rfl) (i64w (by omega) (by omega))) ?_
        refine wl_go 1 [(5, .int .i64 ((x.1 : Int) + 1))] (by kernel_rfl) ?_
        refine nx_list ?_
        refine nx_block ?_
        refine nx_round (y := ⟨x.1 + 1, by omega, by have h1 := x.2.2; have h2 := comm_yes hra hrb hsT; omega⟩) (show ra.length - (x.1 + 1) < ra.length - x.1 by omega) (subEnv_cons (by kernel_rfl) (subEnv_cons (by kernel_rfl) (subEnv_cons (by kernel_rfl) (subEnv_cons (by kernel_rfl) (subEnv_nil _))))) (fun w h => h)
      · skip
        refine nx_exit ?_
        refine nx_then_exit ?_
        refine nx_then_exit ?_
        refine nx_block_here ?_
        refine nx_then ?_
        refine wc_seq ?_
        refine wc_region ?_
        refine wl_go 2 [(4, .int .i64 (x.1 : Int)), (29, .int .i64 (x.1 : Int))] (by kernel_rfl) ?_
        refine nx_list ?_
        refine nx_then ?_
        refine nx_ret ?_
        refine ret_tmp (v := .int .i64 (x.1 : Int)) rfl (by kernel_rfl) ?_
        intro w' hw'
        refine ⟨?_, hw'⟩
        have h0 : comm (ra.drop x.1) (rb.drop x.1) = 0 := by first | exact comm_end (.inl (by simpa using ha)) | exact comm_end (.inr (by simpa using hb)) | exact comm_no hra hrb hs
        have hc : comm ra rb = x.1 := by have h1 := x.2.2; omega
        exact congrArg (fun m : Nat => Ending.returned (.int .i64 (m : Int))) hc.symm

theorem common_12 (ra rb : List (List D)) (aa ab : Option Addr) (na nb : Nat) (w : World) (h_va : Rd (fun _ => True) w (.sl ra) (.slice aa ra.length na)) (h_vb : Rd (fun _ => True) w (.sl rb) (.slice ab rb.length nb)) (f_ra : FitR sh by_ ra (sh 13)) (f_rb : FitR sh by_ rb (sh 13))
    (b_a : ra.length ≤ 140737488355328) (b_b : rb.length ≤ 140737488355328) : Calls Try.prog 12 #[.slice aa ra.length na, .slice ab rb.length nb] w (fun e w' => e = .returned (.int .i64 (comm ra rb : Int)) ∧ Below w.heap.size w w') := by
  refine Sx.enter (l := [.slice aa ra.length na, .slice ab rb.length nb]) Try.func12 rfl (n := 30) rfl (by simp) ?_
  refine wc_eq (S := Bl w) (Below.refl _ _) ?_
  refine wc_seq ?_
  refine wc_region ?_
  refine wl_go 1 [(4, .int .i64 0)] (by kernel_rfl) ?_
  refine nx_list ?_
  refine nx_then ?_
  refine wc_seq ?_
  refine wc_region ?_
  refine wl_go 1 [(5, .int .i64 0)] (by kernel_rfl) ?_
  refine nx_list ?_
  refine nx_then ?_
  refine wc_seq ?_
  refine wc_block ?_
  refine wc_loop (σ := { k : Nat // k ≤ ra.length ∧ comm ra rb = k + comm (ra.drop k) (rb.drop k) }) (fun x => [(0, .slice aa ra.length na), (1, .slice ab rb.length nb), (4, .int .i64 0), (5, .int .i64 (x.1 : Int))]) (fun _ => Bl w) (fun x => ra.length - x.1) (fun w3 h3 => ⟨⟨0, Nat.zero_le _, by simp⟩, h3, (subEnv_cons (by kernel_rfl) (subEnv_cons (by kernel_rfl) (subEnv_cons (by kernel_rfl) (subEnv_cons (by kernel_rfl) (subEnv_nil _)))))⟩) (fun x => ?_)
  refine wc_seq ?_
  refine wc_seq ?_
  refine wc_draw 21 (Bl w) rfl (by decide) (fun w h => Bl.drew h) ?_
  refine wd_go [0, 1, 2, 3, 4] [(10, .bool (decide ((x.1 : Int) < (ra.length : Int)))), (9, .bool (decide ((x.1 : Int) < (ra.length : Int)))), (8, .int .i64 (ra.length : Int)), (7, .slice aa ra.length na), (6, .int .i64 (x.1 : Int))] #[true, true, true, true, true, false, false, false, false, false, false, false, false, false, false, false, false, false, false, false, false] (f := 16) rfl (by kernel_rfl) (fun w h => h) ?_
  cases ha : (decide ((x.1 : Int) < (ra.length : Int)))
  · skip
    refine wd_go [5, 6, 7, 8, 9, 10, 11, 12, 13, 14, 15, 16, 17, 18, 19, 20] [(26, .bool false), (25, undef), (24, undef), (23, undef), (22, undef), (21, undef), (20, undef), (19, undef), (18, undef), (17, undef), (16, .bool false), (15, .bool false), (14, undef), (13, undef), (12, undef), (11, undef)] #[true, true, true, true, true, true, true, true, true, true, true, true, true, true, true, true, true, true, true, true, true] (f := 0) rfl (by kernel_rfl) (fun w h => h) ?_
    refine wd_done (by kernel_rfl) ?_
    refine nx_list ?_
    refine nx_on ?_
    refine nx_then ?_
    refine wc_cond false (by kernel_rfl) (by kernel_rfl) (fun h => by cases h) (fun _ => ?_)
    refine nx_exit ?_
    refine nx_then_exit ?_
    refine nx_then_exit ?_
    refine nx_block_here ?_
    refine nx_then ?_
    refine wc_seq ?_
    refine wc_region ?_
    refine wl_go 2 [(4, .int .i64 (x.1 : Int)), (29, .int .i64 (x.1 : Int))] (by kernel_rfl) ?_
    refine nx_list ?_
    refine nx_then ?_
    refine nx_ret ?_
    refine ret_tmp (v := .int .i64 (x.1 : Int)) rfl (by kernel_rfl) ?_
    intro w' hw'
    refine ⟨?_, hw'⟩
    have h0 : comm (ra.drop x.1) (rb.drop x.1) = 0 := by first | exact comm_end (.inl (by simpa using ha)) | exact comm_end (.inr (by simpa using hb)) | exact comm_no hra hrb hs
    have hc : comm ra rb = x.1 := by have h1 := x.2.2; omega
    exact congrArg (fun m : Nat => Ending.returned (.int .i64 (m : Int))) hc.symm
  · skip
    have hka : x.1 < ra.length := by simpa using ha
    obtain ⟨ga, oa, ta, sa, da, ca, rfl, hra, l_ca, hga⟩ := entry_at h_va f_ra hka
    refine wd_go [5, 6, 7, 8, 9, 10] [(16, .bool (decide ((x.1 : Int) < (rb.length : Int)))), (15, .bool (decide ((x.1 : Int) < (rb.length : Int)))), (14, .bool (decide ((x.1 : Int) < (rb.length : Int)))), (13, .int .i64 (rb.length : Int)), (12, .slice ab rb.length nb), (11, .int .i64 (x.1 : Int))] #[true, true, true, true, true, true, true, true, true, true, true, false, false, false, false, false, false, false, false, false, false] (f := 10) rfl (by kernel_rfl) (fun w h => h) ?_
    cases hb : (decide ((x.1 : Int) < (rb.length : Int)))
    · skip
      refine wd_go [11, 12, 13, 14, 15, 16, 17, 18, 19, 20] [(26, .bool false), (25, undef), (24, undef), (23, undef), (22, undef), (21, undef), (20, undef), (19, undef), (18, undef), (17, undef)] #[true, true, true, true, true, true, true, true, true, true, true, true, true, true, true, true, true, true, true, true, true] (f := 0) rfl (by kernel_rfl) (fun w h => h) ?_
      refine wd_done (by kernel_rfl) ?_
      refine nx_list ?_
      refine nx_on ?_
      refine nx_then ?_
      refine wc_cond false (by kernel_rfl) (by kernel_rfl) (fun h => by cases h) (fun _ => ?_)
      refine nx_exit ?_
      refine nx_then_exit ?_
      refine nx_then_exit ?_
      refine nx_block_here ?_
      refine nx_then ?_
      refine wc_seq ?_
      refine wc_region ?_
      refine wl_go 2 [(4, .int .i64 (x.1 : Int)), (29, .int .i64 (x.1 : Int))] (by kernel_rfl) ?_
      refine nx_list ?_
      refine nx_then ?_
      refine nx_ret ?_
      refine ret_tmp (v := .int .i64 (x.1 : Int)) rfl (by kernel_rfl) ?_
      intro w' hw'
      refine ⟨?_, hw'⟩
      have h0 : comm (ra.drop x.1) (rb.drop x.1) = 0 := by first | exact comm_end (.inl (by simpa using ha)) | exact comm_end (.inr (by simpa using hb)) | exact comm_no hra hrb hs
      have hc : comm ra rb = x.1 := by have h1 := x.2.2; omega
      exact congrArg (fun m : Nat => Ending.returned (.int .i64 (m : Int))) hc.symm
    · skip
      have hkb : x.1 < rb.length := by simpa using hb
      obtain ⟨gb, ob, tb, sb, db, cb, rfl, hrb, l_cb, hgb⟩ := entry_at h_vb f_rb hkb
      refine wd_go [11, 12] [(18, .int .i64 (x.1 : Int)), (17, .slice (some ⟨ga, oa, none⟩) ra.length na)] #[true, true, true, true, true, true, true, true, true, true, true, true, true, false, false, false, false, false, false, false, false] (f := 8) rfl (by kernel_rfl) (fun w h => h) ?_
      refine wd_yl 13 (d := 19) (v := .pointer (some ⟨ga, oa + x.1 * 82, none⟩)) (f := 7) rfl (by kernel_rfl) (by kernel_rfl) (fun w h => h) (yl_index (E := 55) (b := ga) (off := oa) (len := ra.length) (cap := na) (k := x.1) (es := 82) rfl (by kernel_rfl) (by kernel_rfl) (by kernel_rfl) (by omega)) ?_
      refine wd_yl 14 (d := 20) (v := .agg (List.flatten [[.int .i64 ta], [.int .i64 sa], ca]).toArray) (f := 6) rfl (by kernel_rfl) (by kernel_rfl) (fun w h => h) (yl_loadsB (b := ga) (off := oa + x.1 * 82) (cs := (List.flatten [[.int .i64 ta], [.int .i64 sa], ca])) rfl (by kernel_rfl) (by rw [show (List.flatten [[.int .i64 ta], [.int .i64 sa], ca]).length = 82 from by simp [l_ca]]; kernel_rfl) hga) ?_
      refine wd_go [15, 16] [(22, .int .i64 (x.1 : Int)), (21, .slice (some ⟨gb, ob, none⟩) rb.length nb)] #[true, true, true, true, true, true, true, true, true, true, true, true, true, true, true, true, true, false, false, false, false] (f := 4) rfl (by kernel_rfl) (fun w h => h) ?_
      refine wd_yl 17 (d := 23) (v := .pointer (some ⟨gb, ob + x.1 * 82, none⟩)) (f := 3) rfl (by kernel_rfl) (by kernel_rfl) (fun w h => h) (yl_index (E := 55) (b := gb) (off := ob) (len := rb.length) (cap := nb) (k := x.1) (es := 82) rfl (by kernel_rfl) (by kernel_rfl) (by kernel_rfl) (by omega)) ?_
      refine wd_yl 18 (d := 24) (v := .agg (List.flatten [[.int .i64 tb], [.int .i64 sb], cb]).toArray) (f := 2) rfl (by kernel_rfl) (by kernel_rfl) (fun w h => h) (yl_loadsB (b := gb) (off := ob + x.1 * 82) (cs := (List.flatten [[.int .i64 tb], [.int .i64 sb], cb])) rfl (by kernel_rfl) (by rw [show (List.flatten [[.int .i64 tb], [.int .i64 sb], cb]).length = 82 from by simp [l_cb]]; kernel_rfl) hgb) ?_
      refine wd_callQ 19 (d := 25) (fu := 1) (v := .bool ((ta == tb) && (sa == sb))) rfl (by decide) (by kernel_rfl) (by kernel_rfl) (by kernel_rfl) (fun w1 h1 => same_10 ta sa tb sb ca cb l_ca l_cb w1) ?_
      refine wd_go [20] [(26, .bool ((ta == tb) && (sa == sb)))] #[true, true, true, true, true, true, true, true, true, true, true, true, true, true, true, true, true, true, true, true, true] (f := 0) rfl (by kernel_rfl) (fun w h => h) ?_
      refine wd_done (by kernel_rfl) ?_
      refine nx_list ?_
      refine nx_on ?_
      refine nx_then ?_
      refine wc_cond ((ta == tb) && (sa == sb)) (by kernel_rfl) (by kernel_rfl) (fun hs => ?_) (fun hs => ?_)
      · skip
        have hsT : ((ta == tb) && (sa == sb)) = true := hs
        refine nx_skip ?_
        refine nx_then ?_
        refine wc_block ?_
        refine wc_region ?_
        refine wl_go 1 [(27, .int .i64 (x.1 : Int))] (by kernel_rfl) ?_
        refine wl_yl (d := 28) (v := .int .i64 ((x.1 : Int) + 1)) (by kernel_rfl) (yl_int (t := (x.1 : Int) + 1) (r := (x.1 : Int) + 1) (by kernel_rfl) (i64w (by omega) (by omega))) ?_
        refine wl_go 1 [(5, .int .i64 ((x.1 : Int) + 1))] (by kernel_rfl) ?_
        refine nx_list ?_
        refine nx_block ?_
        refine nx_round (y := ⟨x.1 + 1, by omega, by have h1 := x.2.2; have h2 := comm_yes hra hrb hsT; omega⟩) (show ra.length - (x.1 + 1) < ra.length - x.1 by omega) (subEnv_cons (by kernel_rfl) (subEnv_cons (by kernel_rfl) (subEnv_cons (by kernel_rfl) (subEnv_cons (by kernel_rfl) (subEnv_nil _))))) (fun w h => h)
      · skip
        refine nx_exit ?_
        refine nx_then_exit ?_
        refine nx_then_exit ?_
        refine nx_block_here ?_
        refine nx_then ?_
        refine wc_seq ?_
        refine wc_region ?_
        refine wl_go 2 [(4, .int .i64 (x.1 : Int)), (29, .int .i64 (x.1 : Int))] (by kernel_rfl) ?_
        refine nx_list ?_
        refine nx_then ?_
        refine nx_ret ?_
        refine ret_tmp (v := .int .i64 (x.1 : Int)) rfl (by kernel_rfl) ?_
        intro w' hw'
        refine ⟨?_, hw'⟩
        have h0 : comm (ra.drop x.1) (rb.drop x.1) = 0 := by first | exact comm_end (.inl (by simpa using ha)) | exact comm_end (.inr (by simpa using hb)) | exact comm_no hra hrb hs
        have hc : comm ra rb = x.1 := by have h1 := x.2.2; omega
        exact congrArg (fun m : Nat => Ending.returned (.int .i64 (m : Int))) hc.symm

end Go.Proofs.Ythedokpgogopiaa
