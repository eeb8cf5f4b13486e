/- The walk of the law RollbackMeets, printed by a program of this repository (gen/rbmeets.py). -/
import Derived.Test.YthedokpgogopiaaRbSame
import Derived.Test.YthedokpgogopiaaRbCommon
import Derived.Test.YthedokpgogopiaaRbCut
import Derived.Test.YthedokpgogopiaaAwake
import Derived.Test.YthedokpgogopiaaLaw
namespace Go.Proofs.Ythedokpgogopiaa
open Go.RowKit Go.Sx
set_option linter.unusedVariables false
set_option linter.unusedSimpArgs false

theorem entry_im {wb : World} {L : List Blk} {rows : List (List D)} {aa : Option Addr} {n ca : Nat} (h : Rd (Im wb L) wb (.sl rows) (.slice aa n ca)) (hf : FitR sh by_ rows (sh 13)) {k : Nat} (hk : k < rows.length) :
    ∃ g off t s r c, aa = some ⟨g, off, none⟩ ∧ rows[k]? = some (.int t :: .int s :: r) ∧ c.length = 80 ∧ Im wb L g ∧ wb.rangeAt g (off + k * 82) (List.flatten [[Value.int .i64 t], [Value.int .i64 s], c]) := by
  obtain rfl := h.slice_len
  obtain ⟨g, off, t, s, r, c, h1, h2, h3, h4⟩ := entry_at h.any hf hk
  subst h1
  rw [Rd] at h
  obtain ⟨a', cap', he, hr⟩ := h
  cases he
  rcases hr with rfl | ⟨g', off', h5, hS, _⟩
  · simp at hk
  · cases h5
    exact ⟨g, off, t, s, r, c, rfl, h2, h3, hS, h4⟩
theorem comm_le : ∀ (a b : List (List D)), comm a b ≤ a.length ∧ comm a b ≤ b.length
  | [], b => by simp [comm]
  | _ :: _, [] => by simp [comm]
  | r :: a, q :: b => by
    have := comm_le a b
    rw [comm]
    cases sameE r q <;> simp <;> omega
theorem sameE_symm (r q : List D) : sameE r q = sameE q r := by
  unfold sameE
  split
  · rw [Bool.eq_iff_iff]
    simp only [Bool.and_eq_true, beq_iff_eq]
    constructor <;> (rintro ⟨rfl, rfl⟩; exact ⟨rfl, rfl⟩)
  · split
    · rename_i h
      exact (h _ _ _ _ _ _ rfl rfl).elim
    · rfl
theorem comm_symm : ∀ (a b : List (List D)), comm a b = comm b a
  | [], [] => rfl
  | [], _ :: _ => rfl
  | _ :: _, [] => rfl
  | r :: a, q :: b => by rw [comm, comm, sameE_symm r q, comm_symm a b]
theorem comm_at : ∀ {a b : List (List D)} {i : Nat}, i < comm a b → ∃ r q, a[i]? = some r ∧ b[i]? = some q ∧ sameE r q = true
  | [], _, _, h => by simp [comm] at h
  | _ :: _, [], _, h => by simp [comm] at h
  | r :: a, q :: b, i, h => by
    rw [comm] at h
    cases hs : sameE r q with
    | false => rw [hs] at h; simp at h
    | true =>
      cases i with
      | zero => exact ⟨r, q, rfl, rfl, hs⟩
      | succ i =>
        rw [hs] at h
        simp only [cond_true] at h
        obtain ⟨r', q', h1, h2, h3⟩ := comm_at (a := a) (b := b) (i := i) (by omega)
        exact ⟨r', q', by simpa using h1, by simpa using h2, h3⟩
theorem comm_stop : ∀ {a b : List (List D)} {r q : List D}, a[comm a b]? = some r → b[comm a b]? = some q → sameE r q = false
  | [], _, _, _, h, _ => by simp at h
  | _ :: _, [], _, _, _, h => by simp at h
  | x :: a, y :: b, r, q, h1, h2 => by
    rw [comm] at h1 h2
    cases hs : sameE x y with
    | false => rw [hs] at h1 h2; simp at h1 h2; subst h1 h2; exact hs
    | true =>
      rw [hs] at h1 h2
      simp only [cond_true, List.getElem?_cons_succ] at h1 h2
      exact comm_stop h1 h2
theorem comm_self : ∀ (a : List (List D)), FitR sh by_ a (sh 13) → comm a a = a.length
  | [], _ => rfl
  | r :: a, h => by
    rw [FitR] at h
    have h1 : FitL sh by_ r (.int :: .int :: ([.str, .int] ++ shWrite)) := h.1
    obtain ⟨d1, e1, rfl, f1, g1⟩ := h1.cons
    obtain ⟨d2, e2, rfl, f2, g2⟩ := g1.cons
    obtain ⟨t, rfl, _⟩ := f1.int
    obtain ⟨s, rfl, _⟩ := f2.int
    rw [comm, comm_self a h.2]
    simp [sameE]
theorem comm_take : ∀ (a b : List (List D)), comm (a.take (comm a b)) b = comm a b
  | [], b => by simp [comm]
  | _ :: _, [] => by simp [comm]
  | r :: a, q :: b => by
    rw [comm]
    cases hs : sameE r q with
    | false => simp [comm]
    | true =>
      simp only [cond_true, List.take_succ_cons]
      rw [comm, hs, comm_take a b]
      rfl

theorem cut_log (ra : List (List D)) (aa : Option Addr) (na k : Nat) (w : World) (S : Nat → Prop) (h_a : Rd S w (.sl ra) (.slice aa ra.length na)) (hca : ra.length ≤ na) (f_ra : FitR sh by_ ra (sh 13)) (b_a : ra.length * 1208 ≤ 140737488355328) (hka : k ≤ ra.length) :
    Calls Try.prog 13 #[.agg #[.int .i64 0, .int .i64 0, .int .i64 0, .int .i64 0, .int .i64 0, .int .i64 0, .int .i64 0, .int .i64 0, .slice aa ra.length na, .int .i64 0, .slice none 0 0, .slice none 0 0], .int .i64 (k : Int)] w (fun z w' => ∃ x : List Value × List Value, z = .returned (.tuple #[.agg x.1.toArray, .agg x.2.toArray]) ∧
      (fun wa (y : List Value × List Value) wz => RdL (fun k => wa.heap.size ≤ k) wz [.int 0, .int 0, .int 0, .int 0, .int 0, .int 0, .int 0, .int 0, .sl (ra.take k), .int 0, .sl [], .sl []] y.1 ∧ RdL (fun k => wa.heap.size ≤ k) wz [.int 0, .int 0, .int (k : Int), .sl (ra.drop k)] y.2 ∧ Below wa.heap.size wa wz) w x w') := by
  have := cut_ok 0 0 0 0 0 0 0 0 0 ra [] [] aa na (.slice none 0 0) (.slice none 0 0) (k : Int) w S h_a hca (by rw [Rd]; exact ⟨none, 0, rfl, .inl rfl⟩) (by rw [Rd]; exact ⟨none, 0, rfl, .inl rfl⟩) f_ra b_a (by rw [FitR]; trivial) (by simp) (by rw [FitR]; trivial) (by simp) (by simp)
  rw [cutAt_at k ra.length hka] at this
  exact this.mono (fun e w' ⟨m, r, h1, h2, h3, h4⟩ => ⟨(m, r), h1, h2, h3, h4⟩)

theorem walk_meets (ra rb : List (List D)) (aa ab : Option Addr) (na nb : Nat) (w : World) (h_a : Rd (Im w []) w (.sl ra) (.slice aa ra.length na)) (h_b : Rd (Im w []) w (.sl rb) (.slice ab rb.length nb)) (f_ra : FitR sh by_ ra (sh 13)) (f_rb : FitR sh by_ rb (sh 13))
    (b_a : ra.length * 1208 ≤ 140737488355328) (b_b : rb.length * 1208 ≤ 140737488355328) (hca : ra.length ≤ na) : Calls Try.prog 4 #[.slice aa ra.length na, .slice ab rb.length nb] w (fun e w' => e = .returned (.bool true) ∧ Below w.heap.size w w') := by
  obtain ⟨k, hk⟩ : ∃ k, k = comm ra rb := ⟨_, rfl⟩
  have hka : k ≤ ra.length := hk ▸ (comm_le ra rb).1
  have hkb : k ≤ rb.length := hk ▸ (comm_le ra rb).2
  have hl : (ra.take k).length = k := by rw [List.length_take]; exact Nat.min_eq_left hka
  have b_a2 := b_a
  have b_a : ra.length ≤ 140737488355328 := by omega
  have b_b : rb.length ≤ 140737488355328 := by omega
  refine Sx.enter (l := [.slice aa ra.length na, .slice ab rb.length nb]) Try.func4 rfl (n := 116) rfl (by simp) ?_
  refine wc_eq (S := SH w []) (SH.refl _) ?_
  refine wc_seq ?_
  refine wc_region ?_
  refine wl_go 1 [(4, .bool false)] (by kernel_rfl) ?_
  refine nx_list ?_
  refine nx_then ?_
  refine wc_seq ?_
  refine wc_seq ?_
  refine wc_region ?_
  refine wl_go 1 [(9, .slice aa ra.length na)] (by kernel_rfl) ?_
  refine wl_callK shK (d := 10) (v := .bool (decide ((ra.length : Int) ≤ 60))) (by kernel_rfl) (by kernel_rfl) (fun w1 h1 => (short_ok aa ra.length na w1).mono (fun e w' h => ⟨h.1, h.2 ▸ Below.refl _ _⟩)) ?_
  refine wl_go 2 [(12, .bool (!(decide ((ra.length : Int) ≤ 60)))), (11, .bool (!(decide ((ra.length : Int) ≤ 60))))] (by kernel_rfl) ?_
  cases hc1 : (!(decide ((ra.length : Int) ≤ 60)))
  · skip
    refine wl_go 1 [(13, .slice ab rb.length nb)] (by kernel_rfl) ?_
    refine wl_callK shK (d := 14) (v := .bool (decide ((rb.length : Int) ≤ 60))) (by kernel_rfl) (by kernel_rfl) (fun w1 h1 => (short_ok ab rb.length nb w1).mono (fun e w' h => ⟨h.1, h.2 ▸ Below.refl _ _⟩)) ?_
    refine wl_go 2 [(16, .bool (!(decide ((rb.length : Int) ≤ 60)))), (15, .bool (!(decide ((rb.length : Int) ≤ 60))))] (by kernel_rfl) ?_
    refine nx_list ?_
    refine nx_then ?_
    refine wc_cond (!(decide ((rb.length : Int) ≤ 60))) (by kernel_rfl) (by kernel_rfl) (fun hc2 => ?_) (fun hc2 => ?_)
    · skip
      refine wc_seq ?_
      refine wc_region ?_
      refine wl_callK shK (d := 17) (v := .bool true) (by kernel_rfl) (by kernel_rfl) (fun w1 h1 => awake_ok w1) ?_
      refine wl_go 1 [(4, .bool true)] (by kernel_rfl) ?_
      refine nx_list ?_
      refine nx_then ?_
      refine nx_ret ?_
      refine nx_then_ret ?_
      refine ret_tmp (v := .bool true) rfl (by kernel_rfl) ?_
      intro w' hw'
      exact ⟨rfl, hw'.below (Below.refl _ _) (Nat.le_refl _) (ge_nil _)⟩
    · skip
      refine nx_skip ?_
      refine nx_then ?_
      refine wc_seq ?_
      refine wc_region ?_
      refine wl_go 2 [(19, .slice ab rb.length nb), (18, .slice aa ra.length na)] (by kernel_rfl) ?_
      refine wl_callK shK (d := 20) (v := .int .i64 (k : Int)) (by kernel_rfl) (by kernel_rfl) (fun w1 h1 => hk ▸ common_11 ra rb aa ab na nb w1 (h_a.stays (h1.staysC (L0 := []) rfl)).any (h_b.stays (h1.staysC (L0 := []) rfl)).any f_ra f_rb b_a b_b) ?_
      refine wl_go 1 [(5, .int .i64 (k : Int))] (by kernel_rfl) ?_
      refine nx_list ?_
      refine nx_then ?_
      refine wc_seq ?_
      refine wc_seq ?_
      refine wc_region ?_
      refine wl_go 2 [(22, .bool (decide ((k : Int) < 0))), (21, .int .i64 (k : Int))] (by kernel_rfl) ?_
      rw [show decide ((k : Int) < 0) = false from by simp]
      refine wl_go 5 [(27, .bool (decide ((k : Int) > (ra.length : Int)))), (26, .int .i64 (ra.length : Int)), (25, .slice aa ra.length na), (24, .int .i64 (k : Int)), (23, .bool false)] (by kernel_rfl) ?_
      rw [show decide ((k : Int) > (ra.length : Int)) = false from by simp; exact hka]
      refine wl_go 6 [(33, .bool (decide ((k : Int) > (rb.length : Int)))), (32, .int .i64 (rb.length : Int)), (31, .slice ab rb.length nb), (30, .int .i64 (k : Int)), (29, .bool false), (28, .bool false)] (by kernel_rfl) ?_
      rw [show decide ((k : Int) > (rb.length : Int)) = false from by simp; exact hkb]
      refine wl_go 5 [(38, .slice aa ra.length na), (37, .slice ab rb.length nb), (36, .int .i64 (k : Int)), (35, .bool false), (34, .bool false)] (by kernel_rfl) ?_
      refine wl_callK shK (d := 39) (v := .int .i64 (comm rb ra : Int)) (by kernel_rfl) (by kernel_rfl) (fun w1 h1 => common_11 rb ra ab aa nb na w1 (h_b.stays (h1.staysC (L0 := []) rfl)).any (h_a.stays (h1.staysC (L0 := []) rfl)).any f_rb f_ra b_b b_a) ?_
      refine wl_go 1 [(40, .bool ((k : Int) != (comm rb ra : Int)))] (by kernel_rfl) ?_
      rw [show ((k : Int) != (comm rb ra : Int)) = false from by rw [hk, comm_symm ra rb]; simp]
      refine wl_go 4 [(44, .slice aa ra.length na), (43, .slice aa ra.length na), (42, .bool false), (41, .bool false)] (by kernel_rfl) ?_
      refine wl_callK shK (d := 45) (v := .int .i64 (comm ra ra : Int)) (by kernel_rfl) (by kernel_rfl) (fun w1 h1 => common_11 ra ra aa aa na na w1 (h_a.stays (h1.staysC (L0 := []) rfl)).any (h_a.stays (h1.staysC (L0 := []) rfl)).any f_ra f_ra b_a b_a) ?_
      refine wl_go 3 [(48, .bool ((comm ra ra : Int) != (ra.length : Int))), (47, .int .i64 (ra.length : Int)), (46, .slice aa ra.length na)] (by kernel_rfl) ?_
      rw [show ((comm ra ra : Int) != (ra.length : Int)) = false from by rw [comm_self ra f_ra]; simp]
      refine wl_go 4 [(52, .int .i64 (k : Int)), (51, .slice aa ra.length na), (50, .bool false), (49, .bool false)] (by kernel_rfl) ?_
      refine wl_yl (d := 53) (v := sliced aa 0 k na 82) (by kernel_rfl) (yl_to (E := 55) (a := aa) (len := ra.length) (cap := na) (k := k) (es := 82) rfl (by kernel_rfl) (by kernel_rfl) (by kernel_rfl) (Nat.le_trans hka hca)) ?_
      have h_t := rd_to (es := 82) (k := k) h_a hka hca
      generalize hgen_t : sliced aa 0 k na 82 = vt at h_t ⊢
      obtain ⟨at_, ct, rfl⟩ := h_t.slv
      refine wl_go 1 [(54, .slice ab rb.length nb)] (by kernel_rfl) ?_
      refine wl_callK shK (d := 55) (v := .int .i64 (comm (ra.take k) rb : Int)) (by kernel_rfl) (by kernel_rfl) (fun w1 h1 => common_11 (ra.take k) rb at_ ab ct nb w1 (h_t.stays (h1.staysC (L0 := []) rfl)).any (h_b.stays (h1.staysC (L0 := []) rfl)).any (FitR.take f_ra k) f_rb (Nat.le_trans (List.length_take_le k ra |> fun h => by simp only [List.length_take]; exact Nat.min_le_right _ _) b_a) b_b) ?_
      refine wl_go 2 [(57, .bool ((comm (ra.take k) rb : Int) != (k : Int))), (56, .int .i64 (k : Int))] (by kernel_rfl) ?_
      rw [show ((comm (ra.take k) rb : Int) != (k : Int)) = false from by rw [hk, comm_take]; simp]
      refine wl_go 1 [(58, .bool false)] (by kernel_rfl) ?_
      refine nx_list ?_
      refine nx_then ?_
      refine wc_cond false (by kernel_rfl) (by kernel_rfl) (fun h => by cases h) (fun _ => ?_)
      refine nx_skip ?_
      refine nx_then ?_
      refine wc_seq ?_
      refine wc_region ?_
      refine wl_go 3 [(62, .int .i64 (k : Int)), (61, .agg #[.int .i64 0, .int .i64 0, .int .i64 0, .int .i64 0, .int .i64 0, .int .i64 0, .int .i64 0, .int .i64 0, .slice aa ra.length na, .int .i64 0, .slice none 0 0, .slice none 0 0]), (60, .slice aa ra.length na)] (by kernel_rfl) ?_
      refine wl_callB (X := List Value × List Value) (d := 63) (fun x => .tuple #[.agg x.1.toArray, .agg x.2.toArray]) (fun wa y wz => RdL (fun k => wa.heap.size ≤ k) wz [.int 0, .int 0, .int 0, .int 0, .int 0, .int 0, .int 0, .int 0, .sl (ra.take k), .int 0, .sl [], .sl []] y.1 ∧ RdL (fun k => wa.heap.size ≤ k) wz [.int 0, .int 0, .int (k : Int), .sl (ra.drop k)] y.2 ∧ Below wa.heap.size wa wz) (by kernel_rfl) (by kernel_rfl) (fun w1 h1 => cut_log ra aa na k w1 _ (h_a.stays (h1.staysC (L0 := []) rfl)) hca f_ra b_a2 hka) ?_
      rintro w1 ⟨m, r⟩ w2 h1 ⟨h_m, h_r, hb⟩
      simp only at h_m h_r
      have h_m := h_m.stays (stays_newN h1 h1.size)
      have h_r := h_r.stays (stays_newN h1 h1.size)
      have hT := (h1.tr hb).cong (L0 := []) rfl
      have h_a := h_a.stays hT.stays
      have h_b := h_b.stays hT.stays
      have hbel := h1.belowCall (Below.refl w.heap.size w) (ge_nil _) hb
      obtain ⟨c0, z0, rfl, h_c0, hm0⟩ := RdL.cons h_m
      rw [Rd] at h_c0; subst h_c0
      obtain ⟨c1, z1, rfl, h_c1, hm1⟩ := RdL.cons hm0
      rw [Rd] at h_c1; subst h_c1
      obtain ⟨c2, z2, rfl, h_c2, hm2⟩ := RdL.cons hm1
      rw [Rd] at h_c2; subst h_c2
      obtain ⟨c3, z3, rfl, h_c3, hm3⟩ := RdL.cons hm2
      rw [Rd] at h_c3; subst h_c3
      obtain ⟨c4, z4, rfl, h_c4, hm4⟩ := RdL.cons hm3
      rw [Rd] at h_c4; subst h_c4
      obtain ⟨c5, z5, rfl, h_c5, hm5⟩ := RdL.cons hm4
      rw [Rd] at h_c5; subst h_c5
      obtain ⟨c6, z6, rfl, h_c6, hm6⟩ := RdL.cons hm5
      rw [Rd] at h_c6; subst h_c6
      obtain ⟨c7, z7, rfl, h_c7, hm7⟩ := RdL.cons hm6
      rw [Rd] at h_c7; subst h_c7
      obtain ⟨c8, z8, rfl, h_c8, hm8⟩ := RdL.cons hm7
      obtain ⟨a8, cap8, rfl⟩ : ∃ a c, c8 = .slice a k c := by obtain ⟨a, c, h⟩ := h_c8.slv; exact ⟨a, c, by rw [h, hl]⟩
      obtain ⟨c9, z9, rfl, h_c9, hm9⟩ := RdL.cons hm8
      rw [Rd] at h_c9; subst h_c9
      obtain ⟨c10, z10, rfl, h_c10, hm10⟩ := RdL.cons hm9
      obtain ⟨a10, cap10, rfl⟩ := h_c10.slv
      obtain ⟨c11, z11, rfl, h_c11, hm11⟩ := RdL.cons hm10
      obtain ⟨a11, cap11, rfl⟩ := h_c11.slv
      obtain rfl := RdL.nil hm11
      obtain ⟨e0, y0, rfl, h_e0, hr0⟩ := RdL.cons h_r
      rw [Rd] at h_e0; subst h_e0
      obtain ⟨e1, y1, rfl, h_e1, hr1⟩ := RdL.cons hr0
      rw [Rd] at h_e1; subst h_e1
      obtain ⟨e2, y2, rfl, h_e2, hr2⟩ := RdL.cons hr1
      rw [Rd] at h_e2; subst h_e2
      obtain ⟨e3, y3, rfl, h_e3, hr3⟩ := RdL.cons hr2
      obtain ⟨ae, cape, rfl⟩ := h_e3.slv
      obtain rfl := RdL.nil hr3
      refine wl_eq (S := SH w2 []) (h1.after hb) ?_
      refine wl_go 3 [(65, .agg #[.int .i64 0, .int .i64 0, .int .i64 (k : Int), .slice ae ((ra.drop k).length) cape]), (64, .agg #[.int .i64 0, .int .i64 0, .int .i64 0, .int .i64 0, .int .i64 0, .int .i64 0, .int .i64 0, .int .i64 0, .slice a8 k cap8, .int .i64 0, .slice a10 (([] : List (List D)).length) cap10, .slice a11 (([] : List (List D)).length) cap11]), (59, .tuple #[.agg #[.int .i64 0, .int .i64 0, .int .i64 0, .int .i64 0, .int .i64 0, .int .i64 0, .int .i64 0, .int .i64 0, .slice a8 k cap8, .int .i64 0, .slice a10 (([] : List (List D)).length) cap10, .slice a11 (([] : List (List D)).length) cap11], .agg #[.int .i64 0, .int .i64 0, .int .i64 (k : Int), .slice ae ((ra.drop k).length) cape]])] (by kernel_rfl) ?_
      refine wl_new (d := 6) #[.int .i64 0, .int .i64 0, .int .i64 0, .int .i64 0, .int .i64 0, .int .i64 0, .int .i64 0, .int .i64 0, .slice none 0 0, .int .i64 0, .slice none 0 0, .slice none 0 0] 59 (fun r => .pointer (some ⟨r, 0, none⟩)) (by kernel_rfl) (fun r => by kernel_rfl) ?_
      intro r1 hr1
      have h_a := h_a.stays (im_more (L := []) (c := #[.int .i64 0, .int .i64 0, .int .i64 0, .int .i64 0, .int .i64 0, .int .i64 0, .int .i64 0, .int .i64 0, .slice none 0 0, .int .i64 0, .slice none 0 0, .slice none 0 0]) (t := 59) hr1)
      have h_b := h_b.stays (im_more (L := []) (c := #[.int .i64 0, .int .i64 0, .int .i64 0, .int .i64 0, .int .i64 0, .int .i64 0, .int .i64 0, .int .i64 0, .slice none 0 0, .int .i64 0, .slice none 0 0, .slice none 0 0]) (t := 59) hr1)
      have h_c8 := h_c8.stays (nw_more (L := []) (c := #[.int .i64 0, .int .i64 0, .int .i64 0, .int .i64 0, .int .i64 0, .int .i64 0, .int .i64 0, .int .i64 0, .slice none 0 0, .int .i64 0, .slice none 0 0, .slice none 0 0]) (t := 59) hr1)
      refine wl_new (d := 7) #[.int .i64 0, .int .i64 0, .int .i64 0, .slice none 0 0] 61 (fun r => .pointer (some ⟨r, 0, none⟩)) (by kernel_rfl) (fun r => by kernel_rfl) ?_
      intro r2 hr2
      have h_a := h_a.stays (im_more (L := [⟨r1, #[.int .i64 0, .int .i64 0, .int .i64 0, .int .i64 0, .int .i64 0, .int .i64 0, .int .i64 0, .int .i64 0, .slice none 0 0, .int .i64 0, .slice none 0 0, .slice none 0 0], 59⟩]) (c := #[.int .i64 0, .int .i64 0, .int .i64 0, .slice none 0 0]) (t := 61) hr2)
      have h_b := h_b.stays (im_more (L := [⟨r1, #[.int .i64 0, .int .i64 0, .int .i64 0, .int .i64 0, .int .i64 0, .int .i64 0, .int .i64 0, .int .i64 0, .slice none 0 0, .int .i64 0, .slice none 0 0, .slice none 0 0], 59⟩]) (c := #[.int .i64 0, .int .i64 0, .int .i64 0, .slice none 0 0]) (t := 61) hr2)
      have h_c8 := h_c8.stays (nw_more (L := [⟨r1, #[.int .i64 0, .int .i64 0, .int .i64 0, .int .i64 0, .int .i64 0, .int .i64 0, .int .i64 0, .int .i64 0, .slice none 0 0, .int .i64 0, .slice none 0 0, .slice none 0 0], 59⟩]) (c := #[.int .i64 0, .int .i64 0, .int .i64 0, .slice none 0 0]) (t := 61) hr2)
      refine wl_store (b := r1) (off := 0) (v := .agg #[.int .i64 0, .int .i64 0, .int .i64 0, .int .i64 0, .int .i64 0, .int .i64 0, .int .i64 0, .int .i64 0, .slice a8 k cap8, .int .i64 0, .slice a10 (([] : List (List D)).length) cap10, .slice a11 (([] : List (List D)).length) cap11]) (c' := #[.int .i64 0, .int .i64 0, .int .i64 0, .int .i64 0, .int .i64 0, .int .i64 0, .int .i64 0, .int .i64 0, .slice a8 k cap8, .int .i64 0, .slice a10 (([] : List (List D)).length) cap10, .slice a11 (([] : List (List D)).length) cap11]) (L' := [⟨r2, #[.int .i64 0, .int .i64 0, .int .i64 0, .slice none 0 0], 61⟩, ⟨r1, #[.int .i64 0, .int .i64 0, .int .i64 0, .int .i64 0, .int .i64 0, .int .i64 0, .int .i64 0, .int .i64 0, .slice a8 k cap8, .int .i64 0, .slice a10 (([] : List (List D)).length) cap10, .slice a11 (([] : List (List D)).length) cap11], 59⟩]) 1 (by kernel_rfl) rfl (by kernel_rfl) (by kernel_rfl) rfl (by kernel_rfl) rfl ?_
      refine wl_store (b := r2) (off := 0) (v := .agg #[.int .i64 0, .int .i64 0, .int .i64 (k : Int), .slice ae ((ra.drop k).length) cape]) (c' := #[.int .i64 0, .int .i64 0, .int .i64 (k : Int), .slice ae ((ra.drop k).length) cape]) (L' := [⟨r2, #[.int .i64 0, .int .i64 0, .int .i64 (k : Int), .slice ae ((ra.drop k).length) cape], 61⟩, ⟨r1, #[.int .i64 0, .int .i64 0, .int .i64 0, .int .i64 0, .int .i64 0, .int .i64 0, .int .i64 0, .int .i64 0, .slice a8 k cap8, .int .i64 0, .slice a10 (([] : List (List D)).length) cap10, .slice a11 (([] : List (List D)).length) cap11], 59⟩]) 0 (by kernel_rfl) rfl (by kernel_rfl) (by kernel_rfl) rfl (by kernel_rfl) rfl ?_
      refine nx_list ?_
      refine nx_then ?_
      refine wc_seq ?_
      refine wc_seq ?_
      refine wc_region ?_
      refine wl_go 1 [(66, .pointer (some ⟨r1, 8, none⟩))] (by kernel_rfl) ?_
      refine wl_yl (d := 67) (v := .slice a8 k cap8) (by kernel_rfl) (yl_load (b := r1) (off := 8) 1 rfl (by kernel_rfl) rfl (by kernel_rfl)) ?_
      refine wl_go 2 [(69, .int .i64 0), (68, .int .i64 (k : Int))] (by kernel_rfl) ?_
      refine nx_list ?_
      refine nx_then ?_
      refine wc_block ?_
      have h_a := h_a.stays (im_congS (L := [⟨r2, #[.int .i64 0, .int .i64 0, .int .i64 0, .slice none 0 0], 61⟩, ⟨r1, #[.int .i64 0, .int .i64 0, .int .i64 0, .int .i64 0, .int .i64 0, .int .i64 0, .int .i64 0, .int .i64 0, .slice none 0 0, .int .i64 0, .slice none 0 0, .slice none 0 0], 59⟩]) (L' := [⟨r2, #[.int .i64 0, .int .i64 0, .int .i64 (k : Int), .slice ae ((ra.drop k).length) cape], 61⟩, ⟨r1, #[.int .i64 0, .int .i64 0, .int .i64 0, .int .i64 0, .int .i64 0, .int .i64 0, .int .i64 0, .int .i64 0, .slice a8 k cap8, .int .i64 0, .slice a10 (([] : List (List D)).length) cap10, .slice a11 (([] : List (List D)).length) cap11], 59⟩]) rfl)
      have h_b := h_b.stays (im_congS (L := [⟨r2, #[.int .i64 0, .int .i64 0, .int .i64 0, .slice none 0 0], 61⟩, ⟨r1, #[.int .i64 0, .int .i64 0, .int .i64 0, .int .i64 0, .int .i64 0, .int .i64 0, .int .i64 0, .int .i64 0, .slice none 0 0, .int .i64 0, .slice none 0 0, .slice none 0 0], 59⟩]) (L' := [⟨r2, #[.int .i64 0, .int .i64 0, .int .i64 (k : Int), .slice ae ((ra.drop k).length) cape], 61⟩, ⟨r1, #[.int .i64 0, .int .i64 0, .int .i64 0, .int .i64 0, .int .i64 0, .int .i64 0, .int .i64 0, .int .i64 0, .slice a8 k cap8, .int .i64 0, .slice a10 (([] : List (List D)).length) cap10, .slice a11 (([] : List (List D)).length) cap11], 59⟩]) rfl)
      have h_c8 := (h_c8.stays (nw_cong (L := [⟨r2, #[.int .i64 0, .int .i64 0, .int .i64 0, .slice none 0 0], 61⟩, ⟨r1, #[.int .i64 0, .int .i64 0, .int .i64 0, .int .i64 0, .int .i64 0, .int .i64 0, .int .i64 0, .int .i64 0, .slice none 0 0, .int .i64 0, .slice none 0 0, .slice none 0 0], 59⟩]) (L' := [⟨r2, #[.int .i64 0, .int .i64 0, .int .i64 (k : Int), .slice ae ((ra.drop k).length) cape], 61⟩, ⟨r1, #[.int .i64 0, .int .i64 0, .int .i64 0, .int .i64 0, .int .i64 0, .int .i64 0, .int .i64 0, .int .i64 0, .slice a8 k cap8, .int .i64 0, .slice a10 (([] : List (List D)).length) cap10, .slice a11 (([] : List (List D)).length) cap11], 59⟩]) rfl)).stays (S' := Im w2 [⟨r2, #[.int .i64 0, .int .i64 0, .int .i64 (k : Int), .slice ae ((ra.drop k).length) cape], 61⟩, ⟨r1, #[.int .i64 0, .int .i64 0, .int .i64 0, .int .i64 0, .int .i64 0, .int .i64 0, .int .i64 0, .int .i64 0, .slice a8 k cap8, .int .i64 0, .slice a10 (([] : List (List D)).length) cap10, .slice a11 (([] : List (List D)).length) cap11], 59⟩]) ⟨Nat.le_refl _, fun k _ h => h.2, fun _ _ _ => rfl⟩
      refine wc_loop (σ := { i : Nat // i ≤ k }) (fun x => [(0, .slice aa ra.length na), (1, .slice ab rb.length nb), (5, .int .i64 (k : Int)), (6, .pointer (some ⟨r1, 0, none⟩)), (68, .int .i64 (k : Int)), (69, .int .i64 (x.1 : Int))]) (fun _ => SH w2 [⟨r2, #[.int .i64 0, .int .i64 0, .int .i64 (k : Int), .slice ae ((ra.drop k).length) cape], 61⟩, ⟨r1, #[.int .i64 0, .int .i64 0, .int .i64 0, .int .i64 0, .int .i64 0, .int .i64 0, .int .i64 0, .int .i64 0, .slice a8 k cap8, .int .i64 0, .slice a10 (([] : List (List D)).length) cap10, .slice a11 (([] : List (List D)).length) cap11], 59⟩]) (fun x => k - x.1) (fun w3 h3 => ⟨⟨0, Nat.zero_le _⟩, h3, (subEnv_cons (by kernel_rfl) (subEnv_cons (by kernel_rfl) (subEnv_cons (by kernel_rfl) (subEnv_cons (by kernel_rfl) (subEnv_cons (by kernel_rfl) (subEnv_cons (by kernel_rfl) (subEnv_nil _)))))))⟩) (fun x => ?_)
      refine wc_seq ?_
      refine wc_region ?_
      refine wl_go 1 [(70, .bool (decide ((x.1 : Int) < (k : Int))))] (by kernel_rfl) ?_
      refine nx_list ?_
      refine nx_then ?_
      refine wc_seq ?_
      refine wc_cond (decide ((x.1 : Int) < (k : Int))) (by kernel_rfl) (by kernel_rfl) (fun hc => ?_) (fun hc => ?_)
      · skip
        have hlt : x.1 < k := by simpa using hc
        obtain ⟨ga, oa, ta, sa, da, ca, rfl, hra, l_ca, hIa, hga⟩ := entry_im h_c8 (FitR.take f_ra k) (k := x.1) (by rw [hl]; exact hlt)
        obtain ⟨gb, ob, tb, sb, db, cb, rfl, hrb, l_cb, hIb, hgb⟩ := entry_im h_b f_rb (k := x.1) (Nat.lt_of_lt_of_le hlt hkb)
        have hsT : ((ta == tb) && (sa == sb)) = true := by
          obtain ⟨r1, q1, e1, e2, e3⟩ := comm_at (a := ra) (b := rb) (i := x.1) (by rw [← hk]; exact hlt)
          rw [List.getElem?_take_of_lt hlt] at hra
          rw [hra] at e1
          rw [hrb] at e2
          cases e1; cases e2; exact e3
        refine nx_skip ?_
        refine nx_then ?_
        refine wc_seq ?_
        refine wc_block ?_
        refine wc_seq ?_
        refine wc_region ?_
        refine wl_go 2 [(8, .int .i64 (x.1 : Int)), (71, .int .i64 (x.1 : Int))] (by kernel_rfl) ?_
        refine nx_list ?_
        refine nx_then ?_
        refine wc_seq ?_
        refine wc_draw 11 (SH w2 [⟨r2, #[.int .i64 0, .int .i64 0, .int .i64 (k : Int), .slice ae ((ra.drop k).length) cape], 61⟩, ⟨r1, #[.int .i64 0, .int .i64 0, .int .i64 0, .int .i64 0, .int .i64 0, .int .i64 0, .int .i64 0, .int .i64 0, .slice (some ⟨ga, oa, none⟩) k cap8, .int .i64 0, .slice a10 (([] : List (List D)).length) cap10, .slice a11 (([] : List (List D)).length) cap11], 59⟩]) rfl (by decide) (fun w h => SH.drew h) ?_
        refine wd_go [0] [(72, .pointer (some ⟨r1, 8, none⟩))] #[true, false, false, false, false, false, false, false, false, false, false] (f := 10) rfl (by kernel_rfl) (fun w h => h) ?_
        refine wd_yl 1 (d := 73) (v := .slice (some ⟨ga, oa, none⟩) k cap8) (f := 9) rfl (by kernel_rfl) (by kernel_rfl) (fun w h => h) (yl_load (b := r1) (off := 8) 1 rfl (by kernel_rfl) rfl (by kernel_rfl)) ?_
        refine wd_go [2] [(74, .int .i64 (x.1 : Int))] #[true, true, true, false, false, false, false, false, false, false, false] (f := 8) rfl (by kernel_rfl) (fun w h => h) ?_
        refine wd_yl 3 (d := 75) (v := .pointer (some ⟨ga, oa + x.1 * 82, none⟩)) (f := 7) rfl (by kernel_rfl) (by kernel_rfl) (fun w h => h) (yl_index (E := 55) (b := ga) (off := oa) (len := k) (cap := cap8) (k := x.1) (es := 82) rfl (by kernel_rfl) (by kernel_rfl) (by kernel_rfl) (by omega)) ?_
        refine wd_yl 4 (d := 76) (v := .agg (List.flatten [[.int .i64 ta], [.int .i64 sa], ca]).toArray) (f := 6) rfl (by kernel_rfl) (by kernel_rfl) (fun w h => h) (yl_loads_im (b := ga) (off := oa + x.1 * 82) (cs := (List.flatten [[.int .i64 ta], [.int .i64 sa], ca])) rfl (by kernel_rfl) hIa (by rw [show (List.flatten [[.int .i64 ta], [.int .i64 sa], ca]).length = 82 from by simp [l_ca]]; kernel_rfl) hga) ?_
        refine wd_go [5, 6] [(78, .int .i64 (x.1 : Int)), (77, .slice (some ⟨gb, ob, none⟩) rb.length nb)] #[true, true, true, true, true, true, true, false, false, false, false] (f := 4) rfl (by kernel_rfl) (fun w h => h) ?_
        refine wd_yl 7 (d := 79) (v := .pointer (some ⟨gb, ob + x.1 * 82, none⟩)) (f := 3) rfl (by kernel_rfl) (by kernel_rfl) (fun w h => h) (yl_index (E := 55) (b := gb) (off := ob) (len := rb.length) (cap := nb) (k := x.1) (es := 82) rfl (by kernel_rfl) (by kernel_rfl) (by kernel_rfl) (by omega)) ?_
        refine wd_yl 8 (d := 80) (v := .agg (List.flatten [[.int .i64 tb], [.int .i64 sb], cb]).toArray) (f := 2) rfl (by kernel_rfl) (by kernel_rfl) (fun w h => h) (yl_loads_im (b := gb) (off := ob + x.1 * 82) (cs := (List.flatten [[.int .i64 tb], [.int .i64 sb], cb])) rfl (by kernel_rfl) hIb (by rw [show (List.flatten [[.int .i64 tb], [.int .i64 sb], cb]).length = 82 from by simp [l_cb]]; kernel_rfl) hgb) ?_
        refine wd_callK shK 9 (d := 81) (fu := 1) (v := .bool ((ta == tb) && (sa == sb))) rfl (by decide) (by kernel_rfl) (by kernel_rfl) (by kernel_rfl) (fun w1 h1 => same_9 ta sa tb sb ca cb l_ca l_cb w1) ?_
        rw [show ((ta == tb) && (sa == sb)) = true from hsT]
        refine wd_go [10] [(82, .bool false)] #[true, true, true, true, true, true, true, true, true, true, true] (f := 0) rfl (by kernel_rfl) (fun w h => h) ?_
        refine wd_done (by kernel_rfl) ?_
        refine nx_list ?_
        refine nx_on ?_
        refine nx_then ?_
        refine wc_cond false (by kernel_rfl) (by kernel_rfl) (fun h => by cases h) (fun _ => ?_)
        refine nx_skip ?_
        refine nx_block ?_
        refine nx_then ?_
        refine wc_region ?_
        refine wl_yl (d := 83) (v := .int .i64 ((x.1 : Int) + 1)) (by kernel_rfl) (yl_int (t := (x.1 : Int) + 1) (r := (x.1 : Int) + 1) (by kernel_rfl) (i64w (by omega) (by omega))) ?_
        refine wl_go 1 [(69, .int .i64 ((x.1 : Int) + 1))] (by kernel_rfl) ?_
        refine nx_list ?_
        refine nx_round (y := ⟨x.1 + 1, hlt⟩) (show k - (x.1 + 1) < k - x.1 by omega) (subEnv_cons (by kernel_rfl) (subEnv_cons (by kernel_rfl) (subEnv_cons (by kernel_rfl) (subEnv_cons (by kernel_rfl) (subEnv_cons (by kernel_rfl) (subEnv_cons (by kernel_rfl) (subEnv_nil _))))))) (fun w h => h)
      · skip
        refine nx_exit ?_
        refine nx_then_exit ?_
        refine nx_then_exit ?_
        refine nx_block_here ?_
        refine nx_then ?_
        refine wc_seq ?_
        refine wc_draw 33 (SH w2 [⟨r2, #[.int .i64 0, .int .i64 0, .int .i64 (k : Int), .slice ae ((ra.drop k).length) cape], 61⟩, ⟨r1, #[.int .i64 0, .int .i64 0, .int .i64 0, .int .i64 0, .int .i64 0, .int .i64 0, .int .i64 0, .int .i64 0, .slice a8 k cap8, .int .i64 0, .slice a10 (([] : List (List D)).length) cap10, .slice a11 (([] : List (List D)).length) cap11], 59⟩]) rfl (by decide) (fun w h => SH.drew h) ?_
        refine wd_go [0] [(84, .pointer (some ⟨r1, 8, none⟩))] #[true, false, false, false, false, false, false, false, false, false, false, false, false, false, false, false, false, false, false, false, false, false, false, false, false, false, false, false, false, false, false, false, false] (f := 32) rfl (by kernel_rfl) (fun w h => h) ?_
        refine wd_yl 1 (d := 85) (v := .slice a8 k cap8) (f := 31) rfl (by kernel_rfl) (by kernel_rfl) (fun w h => h) (yl_load (b := r1) (off := 8) 1 rfl (by kernel_rfl) rfl (by kernel_rfl)) ?_
        refine wd_go [2, 3, 4] [(88, .bool ((k : Int) == (k : Int))), (87, .int .i64 (k : Int)), (86, .int .i64 (k : Int))] #[true, true, true, true, true, false, false, false, false, false, false, false, false, false, false, false, false, false, false, false, false, false, false, false, false, false, false, false, false, false, false, false, false] (f := 28) rfl (by kernel_rfl) (fun w h => h) ?_
        rw [show ((k : Int) == (k : Int)) = true from by simp]
        refine wd_go [5, 6, 7, 8, 9, 10] [(94, .bool ((k : Int) == (ra.length : Int))), (93, .bool ((k : Int) == (ra.length : Int))), (92, .int .i64 (ra.length : Int)), (91, .slice aa ra.length na), (90, .int .i64 (k : Int)), (89, .bool true)] #[true, true, true, true, true, true, true, true, true, true, true, false, false, false, false, false, false, false, false, false, false, false, false, false, false, false, false, false, false, false, false, false, false] (f := 22) rfl (by kernel_rfl) (fun w h => h) ?_
        cases hea : ((k : Int) == (ra.length : Int))
        · skip
          refine wd_go [11, 12, 13, 14, 15, 16] [(100, .bool ((k : Int) == (rb.length : Int))), (99, .bool ((k : Int) == (rb.length : Int))), (98, .bool ((k : Int) == (rb.length : Int))), (97, .int .i64 (rb.length : Int)), (96, .slice ab rb.length nb), (95, .int .i64 (k : Int))] #[true, true, true, true, true, true, true, true, true, true, true, true, true, true, true, true, true, false, false, false, false, false, false, false, false, false, false, false, false, false, false, false, false] (f := 16) rfl (by kernel_rfl) (fun w h => h) ?_
          cases heb : ((k : Int) == (rb.length : Int))
          · skip
            have hkA : k < ra.length := by
              have h9 : ¬ ((k : Int) = (ra.length : Int)) := by simpa using hea
              omega
            have hkB : k < rb.length := by
              have h9 : ¬ ((k : Int) = (rb.length : Int)) := by simpa using heb
              omega
            obtain ⟨ga, oa, ta, sa, da, ca, rfl, hra, l_ca, hIa, hga⟩ := entry_im h_a f_ra hkA
            obtain ⟨gb, ob, tb, sb, db, cb, rfl, hrb, l_cb, hIb, hgb⟩ := entry_im h_b f_rb hkB
            have hsF : ((ta == tb) && (sa == sb)) = false := by
              rw [hk] at hra hrb
              exact comm_stop hra hrb
            refine wd_go [17, 18] [(102, .int .i64 (k : Int)), (101, .slice (some ⟨ga, oa, none⟩) ra.length na)] #[true, true, true, true, true, true, true, true, true, true, true, true, true, true, true, true, true, true, true, false, false, false, false, false, false, false, false, false, false, false, false, false, false] (f := 14) rfl (by kernel_rfl) (fun w h => h) ?_
            refine wd_yl 19 (d := 103) (v := .pointer (some ⟨ga, oa + k * 82, none⟩)) (f := 13) rfl (by kernel_rfl) (by kernel_rfl) (fun w h => h) (yl_index (E := 55) (b := ga) (off := oa) (len := ra.length) (cap := na) (k := k) (es := 82) rfl (by kernel_rfl) (by kernel_rfl) (by kernel_rfl) (by omega)) ?_
            refine wd_yl 20 (d := 104) (v := .agg (List.flatten [[.int .i64 ta], [.int .i64 sa], ca]).toArray) (f := 12) rfl (by kernel_rfl) (by kernel_rfl) (fun w h => h) (yl_loads_im (b := ga) (off := oa + k * 82) (cs := (List.flatten [[.int .i64 ta], [.int .i64 sa], ca])) rfl (by kernel_rfl) hIa (by rw [show (List.flatten [[.int .i64 ta], [.int .i64 sa], ca]).length = 82 from by simp [l_ca]]; kernel_rfl) hga) ?_
            refine wd_go [21, 22] [(106, .int .i64 (k : Int)), (105, .slice (some ⟨gb, ob, none⟩) rb.length nb)] #[true, true, true, true, true, true, true, true, true, true, true, true, true, true, true, true, true, true, true, true, true, true, true, false, false, false, false, false, false, false, false, false, false] (f := 10) rfl (by kernel_rfl) (fun w h => h) ?_
            refine wd_yl 23 (d := 107) (v := .pointer (some ⟨gb, ob + k * 82, none⟩)) (f := 9) rfl (by kernel_rfl) (by kernel_rfl) (fun w h => h) (yl_index (E := 55) (b := gb) (off := ob) (len := rb.length) (cap := nb) (k := k) (es := 82) rfl (by kernel_rfl) (by kernel_rfl) (by kernel_rfl) (by omega)) ?_
            refine wd_yl 24 (d := 108) (v := .agg (List.flatten [[.int .i64 tb], [.int .i64 sb], cb]).toArray) (f := 8) rfl (by kernel_rfl) (by kernel_rfl) (fun w h => h) (yl_loads_im (b := gb) (off := ob + k * 82) (cs := (List.flatten [[.int .i64 tb], [.int .i64 sb], cb])) rfl (by kernel_rfl) hIb (by rw [show (List.flatten [[.int .i64 tb], [.int .i64 sb], cb]).length = 82 from by simp [l_cb]]; kernel_rfl) hgb) ?_
            refine wd_callK shK 25 (d := 109) (fu := 7) (v := .bool ((ta == tb) && (sa == sb))) rfl (by decide) (by kernel_rfl) (by kernel_rfl) (by kernel_rfl) (fun w1 h1 => same_9 ta sa tb sb ca cb l_ca l_cb w1) ?_
            rw [show ((ta == tb) && (sa == sb)) = false from hsF]
            refine wd_go [26, 27, 28, 29] [(113, .bool true), (112, .bool true), (111, .bool true), (110, .bool true)] #[true, true, true, true, true, true, true, true, true, true, true, true, true, true, true, true, true, true, true, true, true, true, true, true, true, true, true, true, true, true, false, false, false] (f := 3) rfl (by kernel_rfl) (fun w h => h) ?_
            refine wd_callK shK 30 (d := 114) (fu := 2) (v := .bool true) rfl (by decide) (by kernel_rfl) (by kernel_rfl) (by kernel_rfl) (fun w1 h1 => awake_ok w1) ?_
            refine wd_go [31, 32] [(4, .bool true), (115, .bool true)] #[true, true, true, true, true, true, true, true, true, true, true, true, true, true, true, true, true, true, true, true, true, true, true, true, true, true, true, true, true, true, true, true, true] (f := 0) rfl (by kernel_rfl) (fun w h => h) ?_
            refine wd_done (by kernel_rfl) ?_
            refine nx_list ?_
            refine nx_on ?_
            refine nx_then ?_
            refine nx_ret ?_
            refine ret_tmp (v := .bool true) rfl (by kernel_rfl) ?_
            intro w' hw'
            exact ⟨rfl, hw'.below hbel hbel.size (ge_cons (Nat.le_trans hbel.size hr2) (ge_cons (Nat.le_trans hbel.size hr1) (ge_nil _)))⟩
          · skip
            refine wd_go [17, 18, 19, 20, 21, 22, 23, 24, 25, 26, 27, 28, 29] [(113, .bool true), (112, .bool true), (111, .bool true), (110, undef), (109, undef), (108, undef), (107, undef), (106, undef), (105, undef), (104, undef), (103, undef), (102, undef), (101, undef)] #[true, true, true, true, true, true, true, true, true, true, true, true, true, true, true, true, true, true, true, true, true, true, true, true, true, true, true, true, true, true, false, false, false] (f := 3) rfl (by kernel_rfl) (fun w h => h) ?_
            refine wd_callK shK 30 (d := 114) (fu := 2) (v := .bool true) rfl (by decide) (by kernel_rfl) (by kernel_rfl) (by kernel_rfl) (fun w1 h1 => awake_ok w1) ?_
            refine wd_go [31, 32] [(4, .bool true), (115, .bool true)] #[true, true, true, true, true, true, true, true, true, true, true, true, true, true, true, true, true, true, true, true, true, true, true, true, true, true, true, true, true, true, true, true, true] (f := 0) rfl (by kernel_rfl) (fun w h => h) ?_
            refine wd_done (by kernel_rfl) ?_
            refine nx_list ?_
            refine nx_on ?_
            refine nx_then ?_
            refine nx_ret ?_
            refine ret_tmp (v := .bool true) rfl (by kernel_rfl) ?_
            intro w' hw'
            exact ⟨rfl, hw'.below hbel hbel.size (ge_cons (Nat.le_trans hbel.size hr2) (ge_cons (Nat.le_trans hbel.size hr1) (ge_nil _)))⟩
        · skip
          refine wd_go [11, 12, 13, 14, 15, 16, 17, 18, 19, 20, 21, 22, 23, 24, 25, 26, 27, 28, 29] [(113, .bool true), (112, .bool true), (111, .bool true), (110, undef), (109, undef), (108, undef), (107, undef), (106, undef), (105, undef), (104, undef), (103, undef), (102, undef), (101, undef), (100, .bool true), (99, .bool true), (98, undef), (97, undef), (96, undef), (95, undef)] #[true, true, true, true, true, true, true, true, true, true, true, true, true, true, true, true, true, true, true, true, true, true, true, true, true, true, true, true, true, true, false, false, false] (f := 3) rfl (by kernel_rfl) (fun w h => h) ?_
          refine wd_callK shK 30 (d := 114) (fu := 2) (v := .bool true) rfl (by decide) (by kernel_rfl) (by kernel_rfl) (by kernel_rfl) (fun w1 h1 => awake_ok w1) ?_
          refine wd_go [31, 32] [(4, .bool true), (115, .bool true)] #[true, true, true, true, true, true, true, true, true, true, true, true, true, true, true, true, true, true, true, true, true, true, true, true, true, true, true, true, true, true, true, true, true] (f := 0) rfl (by kernel_rfl) (fun w h => h) ?_
          refine wd_done (by kernel_rfl) ?_
          refine nx_list ?_
          refine nx_on ?_
          refine nx_then ?_
          refine nx_ret ?_
          refine ret_tmp (v := .bool true) rfl (by kernel_rfl) ?_
          intro w' hw'
          exact ⟨rfl, hw'.below hbel hbel.size (ge_cons (Nat.le_trans hbel.size hr2) (ge_cons (Nat.le_trans hbel.size hr1) (ge_nil _)))⟩
  · skip
    refine wl_go 4 [(16, .bool true), (15, undef), (14, undef), (13, undef)] (by kernel_rfl) ?_
    refine nx_list ?_
    refine nx_then ?_
    refine wc_cond true (by kernel_rfl) (by kernel_rfl) (fun _ => ?_) (fun h => by cases h)
    refine wc_seq ?_
    refine wc_region ?_
    refine wl_callK shK (d := 17) (v := .bool true) (by kernel_rfl) (by kernel_rfl) (fun w1 h1 => awake_ok w1) ?_
    refine wl_go 1 [(4, .bool true)] (by kernel_rfl) ?_
    refine nx_list ?_
    refine nx_then ?_
    refine nx_ret ?_
    refine nx_then_ret ?_
    refine ret_tmp (v := .bool true) rfl (by kernel_rfl) ?_
    intro w' hw'
    exact ⟨rfl, hw'.below (Below.refl _ _) (Nat.le_refl _) (ge_nil _)⟩

end Go.Proofs.Ythedokpgogopiaa
