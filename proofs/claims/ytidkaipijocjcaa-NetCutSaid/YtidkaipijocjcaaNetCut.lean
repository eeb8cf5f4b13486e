/- The walk of the law NetCut, printed by a program of this repository (gen). -/
import Derived.Test.YtidkaipijocjcaaNetCutA
namespace Go.Proofs.Ytidkaipijocjcaa
open Go.RowKit Go.Sx
set_option linter.unusedVariables false
set_option linter.unusedSimpArgs false

/-- what was there when the call began is as it was, and the known blocks are new -/
def Cool (w wb : World) (L : List Blk) : Prop := Below w.heap.size w wb ∧ ∀ x ∈ L, w.heap.size ≤ x.b
theorem Cool.step {w wb w' : World} {L L' : List Blk} (h : Cool w wb L) (ht : Tr wb L w' L') : Cool w w' L' :=
  ⟨h.1.trans (ht.below h.1.size h.2), fun x hx => by
    rcases ht.new hx with h1 | ⟨y, hy, he⟩
    · exact Nat.le_trans h.1.size h1
    · rw [← he]; exact h.2 y hy⟩
theorem Cool.sh {w wb w' : World} {L : List Blk} (h : Cool w wb L) (hs : SH wb L w') : Cool w w' L := h.step hs.trHere
theorem Cool.cons {w wb : World} {L : List Blk} (h : Cool w wb L) (x : Blk) (hx : wb.heap.size ≤ x.b) : Cool w wb (x :: L) :=
  ⟨h.1, fun y hy => by
    rcases List.mem_cons.1 hy with rfl | hy
    · exact Nat.le_trans h.1.size hx
    · exact h.2 y hy⟩
theorem yl_val {P : Program} {e : Env} {S : World → Prop} {o : Oper} {v v' : Value} (h : pureVal P (execOp (rho e) o) = some (.value v)) (hv : v = v') : Yl P S e o v' := by
  rw [← hv]; exact yl_pure h
theorem RowV.nil {wb : World} {L : List Blk} {B : Nat} {v : Value} (h : RowV wb L B v []) : ∃ a c, v = .slice a 0 c := by
  obtain ⟨a, c, rfl, _⟩ := h
  exact ⟨a, c, rfl⟩
theorem RowV.bare {wb : World} {L : List Blk} {B : Nat} {v : Value} {rv : List (List Value)} (h : RowV wb L B v rv) : RowV wb [] B v rv := by
  obtain ⟨a, c, rfl, h⟩ := h
  refine ⟨a, c, rfl, ?_⟩
  rcases h with h | ⟨g, ha, hB, hI, hr⟩
  · exact .inl h
  · exact .inr ⟨g, ha, hB, ⟨hI.1, by simp⟩, hr⟩
theorem RowV.below {w w' : World} {B : Nat} {v : Value} {rv : List (List Value)} (h : RowV w [] B v rv) (hb : Below w.heap.size w w') : RowV w' [] B v rv := by
  obtain ⟨a, c, rfl, h⟩ := h
  refine ⟨a, c, rfl, ?_⟩
  rcases h with h | ⟨g, ha, hB, hI, hr⟩
  · exact .inl h
  · refine .inr ⟨g, ha, hB, ⟨Nat.lt_of_lt_of_le hI.1 hb.size, by simp⟩, fun j u hj => ?_⟩
    rw [hb.cell (p := ⟨g, 0 + j, none⟩) hI.1]
    exact hr j u hj

/-! ### what the law says, without the program -/
theorem lk_off {cut : Nat → Bool} {f t q : Nat} {c : Bool} (hf : f < 7) (ht : t < 7) (hq : q < 7) (hne : f ≠ t) (h : q ≠ t) : lk cut f t c (f * 7 + q) = cut (f * 7 + q) := by
  simp only [lk]
  rw [if_neg (by omega)]
def ms1 (f t : Nat) (ea : Option Addr) (ec : Nat) : Msg := ⟨(f : Int), (t : Int), 0, 3, 0, 0, 0, .slice ea 0 ec, false⟩
def ms2 (f q : Nat) (ea : Option Addr) (ec : Nat) : Msg := ⟨(f : Int), (q : Int), 9, 0, 0, 0, 0, .slice ea 0 ec, false⟩
/-- the messages on the way -/
def wayC (D : Nat) (c : Bool) (f t q : Nat) (ea eb : Option Addr) (ec ed : Nat) : List (Int × Msg) :=
  (if c then [] else [((D : Int), ms1 f t ea ec)]) ++ (if (q = t ∧ c = true) then [] else [((D : Int), ms2 f q eb ed)])
theorem adds_way {D : Nat} {c : Bool} {f t q : Nat} {ea eb : Option Addr} {ec ed : Nat} {ps : List (Int × Msg)} (hf : f < 7) (ht : t < 7) (hq : q < 7) (hne : f ≠ t) :
    ([] ++ adds ⟨7, (D : Int), 0, lk (fun _ => false) f t c, []⟩ f t 0 3 ea ec) ++ adds ⟨7, (D : Int), 0, lk (fun _ => false) f t c, ps⟩ f q 9 0 eb ed = wayC D c f t q ea eb ec ed := by
  simp only [adds, wayC, lk_at, List.nil_append, Int.zero_add, ms1, ms2]
  congr 1
  by_cases h : q = t
  · subst h
    simp [lk_at]
  · rw [lk_off hf ht hq hne h]
    simp [h]
section
variable {D : Nat} {c : Bool} {f t q : Nat} {ea eb : Option Addr} {ec ed : Nat}
theorem way_len : (wayC D c f t q ea eb ec ed).length ≤ 2 := by
  unfold wayC
  split <;> split <;> simp
theorem way_ok (hf : f < 7) (ht : t < 7) (hq : q < 7) : ∀ p ∈ wayC D c f t q ea eb ec ed, okP p := fun p hp => by
  unfold wayC at hp
  rcases List.mem_append.1 hp with hp | hp
  · split at hp
    · cases hp
    · rw [List.mem_singleton] at hp
      subst hp
      exact ⟨f, t, ea, 0, ec, hf, ht, rfl, rfl, rfl⟩
  · split at hp
    · cases hp
    · rw [List.mem_singleton] at hp
      subst hp
      exact ⟨f, q, eb, 0, ed, hf, hq, rfl, rfl, rfl⟩
theorem way_due : ∀ p ∈ wayC D c f t q ea eb ec ed, p.1 = (D : Int) := fun p hp => by
  unfold wayC at hp
  rcases List.mem_append.1 hp with hp | hp
  · split at hp
    · cases hp
    · rw [List.mem_singleton] at hp
      subst hp
      rfl
  · split at hp
    · cases hp
    · rw [List.mem_singleton] at hp
      subst hp
      rfl
end
theorem keep_all {now D : Int} {ps : List (Int × Msg)} (h : ∀ p ∈ ps, p.1 = D) (hlt : now < D) : keepP now ps = ps := by
  unfold keepP
  rw [List.filter_eq_self]
  intro p hp
  rw [h p hp]
  simpa using hlt
theorem keep_none {now D : Int} {ps : List (Int × Msg)} (h : ∀ p ∈ ps, p.1 = D) (hge : D ≤ now) : keepP now ps = [] := by
  unfold keepP
  rw [List.filter_eq_nil_iff]
  intro p hp
  rw [h p hp]
  simpa using hge
theorem dlvr_none {now D : Int} {cut : Nat → Bool} {ps : List (Int × Msg)} (h : ∀ p ∈ ps, p.1 = D) (hlt : now < D) : dlvr now cut ps = [] := by
  unfold dlvr
  rw [List.map_eq_nil_iff, List.filter_eq_nil_iff]
  intro p hp
  rw [h p hp]
  simp [hlt]
theorem hit_eq {D : Nat} {c1 c3 : Bool} {f t q : Nat} {ea eb : Option Addr} {ec ed : Nat} {cut : Nat → Bool} {now : Int} (hnow : (D : Int) ≤ now) (h1 : cut (f * 7 + t) = c3) :
    (dlvr now cut (wayC D c1 f t q ea eb ec ed)).any (fun m => m.term == 3) = (!c1 && !c3) := by
  have hn : ¬ now < (D : Int) := by omega
  unfold dlvr wayC
  rw [List.filter_append, List.map_append, List.any_append]
  have h2 : (List.map (·.2) (List.filter (fun p : Int × Msg => !decide (now < p.1) && !cutOf cut p.2) (if (q = t ∧ c1 = true) then [] else [((D : Int), ms2 f q eb ed)]))).any (fun m => m.term == 3) = false := by
    rw [List.any_eq_false]
    intro m hm
    obtain ⟨p, hp, rfl⟩ := List.mem_map.1 hm
    have hp := (List.mem_filter.1 hp).1
    split at hp
    · cases hp
    · rw [List.mem_singleton] at hp
      subst hp
      simp [ms2]
  rw [h2]
  cases c1
  · simp only [Bool.false_eq_true, if_false, Bool.or_false, Bool.not_false, Bool.true_and]
    cases c3 <;> simp [cutOf, ms1, hn, h1]
  · simp
theorem other_eq {D : Nat} {c1 : Bool} {f t q : Nat} {ea eb : Option Addr} {ec ed : Nat} {cut : Nat → Bool} {now : Int} (hnow : (D : Int) ≤ now) (hqt : q ≠ t) (h1 : cut (f * 7 + q) = false) :
    (dlvr now cut (wayC D c1 f t q ea eb ec ed)).any (fun m => m.kind == 9) = true := by
  have hn : ¬ now < (D : Int) := by omega
  unfold dlvr wayC
  rw [List.filter_append, List.map_append, List.any_append, show (if (q = t ∧ c1 = true) then [] else [((D : Int), ms2 f q eb ed)]) = [((D : Int), ms2 f q eb ed)] from if_neg (fun h => hqt h.1), Bool.or_eq_true]
  exact .inr (by simp [cutOf, ms2, hn, h1])

theorem netCut_e1 (D x4 x5 f t q : Nat) (c1 c2 c3 : Bool) (w : World) (hD : D < 256) (h4 : x4 < 256) (h5 : x5 < 256) (hfd : f = x4 % 7) (htd : t = x5 % 7) (hqd : q = (f + 1) % 7) (k1 : (decide ((D : Int) < 2)) = true) : Calls Try.prog 4 #[.int .u8 (D : Int), .bool c1, .bool c2, .bool c3, .int .u8 (x4 : Int), .int .u8 (x5 : Int)] w fun e w' => e = .returned (.bool true) ∧ Below w.heap.size w w' := by
  refine Sx.enter (l := [.int .u8 (D : Int), .bool c1, .bool c2, .bool c3, .int .u8 (x4 : Int), .int .u8 (x5 : Int)]) Try.func4 rfl (n := 122) rfl (by simp) ?_
  refine wc_eq (S := SH w []) (SH.refl _) ?_
  refine wc_seq ?_
  refine wc_region ?_
  refine wl_go 1 [(12, .bool false)] (by kernel_rfl) ?_
  refine nx_list ?_
  refine nx_then ?_
  refine wc_seq ?_
  refine wc_region ?_
  refine wl_go 1 [(21, .int .u8 (x4 : Int))] (by kernel_rfl) ?_
  refine wl_yl (d := 22) (v := .int .i64 (x4 : Int)) (by kernel_rfl) (yl_int (t := (x4 : Int)) (r := (x4 : Int)) (by kernel_rfl) (i64w (by omega) (by omega))) ?_
  refine wl_yl (d := 23) (v := .int .i64 (f : Int)) (by kernel_rfl) (yl_val (v := .int .i64 (Int.tmod ((x4 : Int)) 7)) (by kernel_rfl) (by rw [hfd]; rfl)) ?_
  refine wl_go 1 [(24, .int .u8 (x5 : Int))] (by kernel_rfl) ?_
  refine wl_yl (d := 25) (v := .int .i64 (x5 : Int)) (by kernel_rfl) (yl_int (t := (x5 : Int)) (r := (x5 : Int)) (by kernel_rfl) (i64w (by omega) (by omega))) ?_
  refine wl_yl (d := 26) (v := .int .i64 (t : Int)) (by kernel_rfl) (yl_val (v := .int .i64 (Int.tmod ((x5 : Int)) 7)) (by kernel_rfl) (by rw [htd]; rfl)) ?_
  refine wl_new (d := 13) #[.int .i64 0] 3 (fun r => .pointer (some ⟨r, 0, none⟩)) (by kernel_rfl) (fun r => by kernel_rfl) ?_
  intro r1 hr1
  refine wl_new (d := 14) #[.int .i64 0] 3 (fun r => .pointer (some ⟨r, 0, none⟩)) (by kernel_rfl) (fun r => by kernel_rfl) ?_
  intro r2 hr2
  refine wl_store (b := r1) (off := 0) (v := .int .i64 (f : Int)) (c' := #[.int .i64 (f : Int)]) (L' := [⟨r2, #[.int .i64 0], 3⟩, ⟨r1, #[.int .i64 (f : Int)], 3⟩]) 1 (by kernel_rfl) rfl (by kernel_rfl) (by kernel_rfl) rfl (by kernel_rfl) rfl ?_
  refine wl_store (b := r2) (off := 0) (v := .int .i64 (t : Int)) (c' := #[.int .i64 (t : Int)]) (L' := [⟨r2, #[.int .i64 (t : Int)], 3⟩, ⟨r1, #[.int .i64 (f : Int)], 3⟩]) 0 (by kernel_rfl) rfl (by kernel_rfl) (by kernel_rfl) rfl (by kernel_rfl) rfl ?_
  refine nx_list ?_
  refine nx_then ?_
  refine wc_seq ?_
  refine wc_seq ?_
  refine wc_region ?_
  refine wl_go 2 [(28, .bool (decide ((D : Int) < 2))), (27, .int .u8 (D : Int))] (by kernel_rfl) ?_
  rw [k1]
  refine wl_go 9 [(37, .bool true), (36, undef), (35, undef), (34, undef), (33, .bool true), (32, .bool true), (31, undef), (30, undef), (29, .bool true)] (by kernel_rfl) ?_
  refine nx_list ?_
  refine nx_then ?_
  refine wc_cond true (by kernel_rfl) (by kernel_rfl) (fun _ => ?_) (fun h => by cases h)
  refine wc_seq ?_
  refine wc_region ?_
  refine wl_callB (X := Unit) (d := 38) (fun _ => .bool true) (fun wa y wz => Below wa.heap.size wa wz) (by kernel_rfl) (by kernel_rfl) (fun w1 h1 => (awake_ok w1).mono (fun e w' h => ⟨(), h⟩)) ?_
  rintro w7 _ w8 h7 hb8
  refine wl_go 1 [(12, .bool true)] (by kernel_rfl) ?_
  refine nx_list ?_
  refine nx_then ?_
  refine nx_ret ?_
  refine nx_then_ret ?_
  refine ret_tmp (v := .bool true) rfl (by kernel_rfl) ?_
  intro w' hw'
  subst hw'
  exact ⟨rfl, SH.belowCall h7 (Below.refl _ _) (ge_cons hr2 (ge_cons hr1 (ge_nil _))) hb8⟩

theorem netCut_e2 (D x4 x5 f t q : Nat) (c1 c2 c3 : Bool) (w : World) (hD : D < 256) (h4 : x4 < 256) (h5 : x5 < 256) (hfd : f = x4 % 7) (htd : t = x5 % 7) (hqd : q = (f + 1) % 7) (k1 : (decide ((D : Int) < 2)) = false) (k2 : (decide ((D : Int) > 16)) = true) : Calls Try.prog 4 #[.int .u8 (D : Int), .bool c1, .bool c2, .bool c3, .int .u8 (x4 : Int), .int .u8 (x5 : Int)] w fun e w' => e = .returned (.bool true) ∧ Below w.heap.size w w' := by
  refine Sx.enter (l := [.int .u8 (D : Int), .bool c1, .bool c2, .bool c3, .int .u8 (x4 : Int), .int .u8 (x5 : Int)]) Try.func4 rfl (n := 122) rfl (by simp) ?_
  refine wc_eq (S := SH w []) (SH.refl _) ?_
  refine wc_seq ?_
  refine wc_region ?_
  refine wl_go 1 [(12, .bool false)] (by kernel_rfl) ?_
  refine nx_list ?_
  refine nx_then ?_
  refine wc_seq ?_
  refine wc_region ?_
  refine wl_go 1 [(21, .int .u8 (x4 : Int))] (by kernel_rfl) ?_
  refine wl_yl (d := 22) (v := .int .i64 (x4 : Int)) (by kernel_rfl) (yl_int (t := (x4 : Int)) (r := (x4 : Int)) (by kernel_rfl) (i64w (by omega) (by omega))) ?_
  refine wl_yl (d := 23) (v := .int .i64 (f : Int)) (by kernel_rfl) (yl_val (v := .int .i64 (Int.tmod ((x4 : Int)) 7)) (by kernel_rfl) (by rw [hfd]; rfl)) ?_
  refine wl_go 1 [(24, .int .u8 (x5 : Int))] (by kernel_rfl) ?_
  refine wl_yl (d := 25) (v := .int .i64 (x5 : Int)) (by kernel_rfl) (yl_int (t := (x5 : Int)) (r := (x5 : Int)) (by kernel_rfl) (i64w (by omega) (by omega))) ?_
  refine wl_yl (d := 26) (v := .int .i64 (t : Int)) (by kernel_rfl) (yl_val (v := .int .i64 (Int.tmod ((x5 : Int)) 7)) (by kernel_rfl) (by rw [htd]; rfl)) ?_
  refine wl_new (d := 13) #[.int .i64 0] 3 (fun r => .pointer (some ⟨r, 0, none⟩)) (by kernel_rfl) (fun r => by kernel_rfl) ?_
  intro r1 hr1
  refine wl_new (d := 14) #[.int .i64 0] 3 (fun r => .pointer (some ⟨r, 0, none⟩)) (by kernel_rfl) (fun r => by kernel_rfl) ?_
  intro r2 hr2
  refine wl_store (b := r1) (off := 0) (v := .int .i64 (f : Int)) (c' := #[.int .i64 (f : Int)]) (L' := [⟨r2, #[.int .i64 0], 3⟩, ⟨r1, #[.int .i64 (f : Int)], 3⟩]) 1 (by kernel_rfl) rfl (by kernel_rfl) (by kernel_rfl) rfl (by kernel_rfl) rfl ?_
  refine wl_store (b := r2) (off := 0) (v := .int .i64 (t : Int)) (c' := #[.int .i64 (t : Int)]) (L' := [⟨r2, #[.int .i64 (t : Int)], 3⟩, ⟨r1, #[.int .i64 (f : Int)], 3⟩]) 0 (by kernel_rfl) rfl (by kernel_rfl) (by kernel_rfl) rfl (by kernel_rfl) rfl ?_
  refine nx_list ?_
  refine nx_then ?_
  refine wc_seq ?_
  refine wc_seq ?_
  refine wc_region ?_
  refine wl_go 2 [(28, .bool (decide ((D : Int) < 2))), (27, .int .u8 (D : Int))] (by kernel_rfl) ?_
  rw [k1]
  refine wl_go 3 [(31, .bool (decide ((D : Int) > 16))), (30, .int .u8 (D : Int)), (29, .bool false)] (by kernel_rfl) ?_
  rw [k2]
  refine wl_go 6 [(37, .bool true), (36, undef), (35, undef), (34, undef), (33, .bool true), (32, .bool true)] (by kernel_rfl) ?_
  refine nx_list ?_
  refine nx_then ?_
  refine wc_cond true (by kernel_rfl) (by kernel_rfl) (fun _ => ?_) (fun h => by cases h)
  refine wc_seq ?_
  refine wc_region ?_
  refine wl_callB (X := Unit) (d := 38) (fun _ => .bool true) (fun wa y wz => Below wa.heap.size wa wz) (by kernel_rfl) (by kernel_rfl) (fun w1 h1 => (awake_ok w1).mono (fun e w' h => ⟨(), h⟩)) ?_
  rintro w7 _ w8 h7 hb8
  refine wl_go 1 [(12, .bool true)] (by kernel_rfl) ?_
  refine nx_list ?_
  refine nx_then ?_
  refine nx_ret ?_
  refine nx_then_ret ?_
  refine ret_tmp (v := .bool true) rfl (by kernel_rfl) ?_
  intro w' hw'
  subst hw'
  exact ⟨rfl, SH.belowCall h7 (Below.refl _ _) (ge_cons hr2 (ge_cons hr1 (ge_nil _))) hb8⟩

theorem netCut_e3 (D x4 x5 f t q : Nat) (c1 c2 c3 : Bool) (w : World) (hD : D < 256) (h4 : x4 < 256) (h5 : x5 < 256) (hfd : f = x4 % 7) (htd : t = x5 % 7) (hqd : q = (f + 1) % 7) (k1 : (decide ((D : Int) < 2)) = false) (k2 : (decide ((D : Int) > 16)) = false) (k3 : ((f : Int) == (t : Int)) = true) : Calls Try.prog 4 #[.int .u8 (D : Int), .bool c1, .bool c2, .bool c3, .int .u8 (x4 : Int), .int .u8 (x5 : Int)] w fun e w' => e = .returned (.bool true) ∧ Below w.heap.size w w' := by
  refine Sx.enter (l := [.int .u8 (D : Int), .bool c1, .bool c2, .bool c3, .int .u8 (x4 : Int), .int .u8 (x5 : Int)]) Try.func4 rfl (n := 122) rfl (by simp) ?_
  refine wc_eq (S := SH w []) (SH.refl _) ?_
  refine wc_seq ?_
  refine wc_region ?_
  refine wl_go 1 [(12, .bool false)] (by kernel_rfl) ?_
  refine nx_list ?_
  refine nx_then ?_
  refine wc_seq ?_
  refine wc_region ?_
  refine wl_go 1 [(21, .int .u8 (x4 : Int))] (by kernel_rfl) ?_
  refine wl_yl (d := 22) (v := .int .i64 (x4 : Int)) (by kernel_rfl) (yl_int (t := (x4 : Int)) (r := (x4 : Int)) (by kernel_rfl) (i64w (by omega) (by omega))) ?_
  refine wl_yl (d := 23) (v := .int .i64 (f : Int)) (by kernel_rfl) (yl_val (v := .int .i64 (Int.tmod ((x4 : Int)) 7)) (by kernel_rfl) (by rw [hfd]; rfl)) ?_
  refine wl_go 1 [(24, .int .u8 (x5 : Int))] (by kernel_rfl) ?_
  refine wl_yl (d := 25) (v := .int .i64 (x5 : Int)) (by kernel_rfl) (yl_int (t := (x5 : Int)) (r := (x5 : Int)) (by kernel_rfl) (i64w (by omega) (by omega))) ?_
  refine wl_yl (d := 26) (v := .int .i64 (t : Int)) (by kernel_rfl) (yl_val (v := .int .i64 (Int.tmod ((x5 : Int)) 7)) (by kernel_rfl) (by rw [htd]; rfl)) ?_
  refine wl_new (d := 13) #[.int .i64 0] 3 (fun r => .pointer (some ⟨r, 0, none⟩)) (by kernel_rfl) (fun r => by kernel_rfl) ?_
  intro r1 hr1
  refine wl_new (d := 14) #[.int .i64 0] 3 (fun r => .pointer (some ⟨r, 0, none⟩)) (by kernel_rfl) (fun r => by kernel_rfl) ?_
  intro r2 hr2
  refine wl_store (b := r1) (off := 0) (v := .int .i64 (f : Int)) (c' := #[.int .i64 (f : Int)]) (L' := [⟨r2, #[.int .i64 0], 3⟩, ⟨r1, #[.int .i64 (f : Int)], 3⟩]) 1 (by kernel_rfl) rfl (by kernel_rfl) (by kernel_rfl) rfl (by kernel_rfl) rfl ?_
  refine wl_store (b := r2) (off := 0) (v := .int .i64 (t : Int)) (c' := #[.int .i64 (t : Int)]) (L' := [⟨r2, #[.int .i64 (t : Int)], 3⟩, ⟨r1, #[.int .i64 (f : Int)], 3⟩]) 0 (by kernel_rfl) rfl (by kernel_rfl) (by kernel_rfl) rfl (by kernel_rfl) rfl ?_
  refine nx_list ?_
  refine nx_then ?_
  refine wc_seq ?_
  refine wc_seq ?_
  refine wc_region ?_
  refine wl_go 2 [(28, .bool (decide ((D : Int) < 2))), (27, .int .u8 (D : Int))] (by kernel_rfl) ?_
  rw [k1]
  refine wl_go 3 [(31, .bool (decide ((D : Int) > 16))), (30, .int .u8 (D : Int)), (29, .bool false)] (by kernel_rfl) ?_
  rw [k2]
  refine wl_go 2 [(33, .bool false), (32, .bool false)] (by kernel_rfl) ?_
  refine wl_yl (d := 34) (v := .int .i64 (f : Int)) (by kernel_rfl) (yl_load (b := r1) (off := 0) 1 rfl (by kernel_rfl) rfl (by kernel_rfl)) ?_
  refine wl_yl (d := 35) (v := .int .i64 (t : Int)) (by kernel_rfl) (yl_load (b := r2) (off := 0) 0 rfl (by kernel_rfl) rfl (by kernel_rfl)) ?_
  refine wl_go 1 [(36, .bool ((f : Int) == (t : Int)))] (by kernel_rfl) ?_
  rw [k3]
  refine wl_go 1 [(37, .bool true)] (by kernel_rfl) ?_
  refine nx_list ?_
  refine nx_then ?_
  refine wc_cond true (by kernel_rfl) (by kernel_rfl) (fun _ => ?_) (fun h => by cases h)
  refine wc_seq ?_
  refine wc_region ?_
  refine wl_callB (X := Unit) (d := 38) (fun _ => .bool true) (fun wa y wz => Below wa.heap.size wa wz) (by kernel_rfl) (by kernel_rfl) (fun w1 h1 => (awake_ok w1).mono (fun e w' h => ⟨(), h⟩)) ?_
  rintro w7 _ w8 h7 hb8
  refine wl_go 1 [(12, .bool true)] (by kernel_rfl) ?_
  refine nx_list ?_
  refine nx_then ?_
  refine nx_ret ?_
  refine nx_then_ret ?_
  refine ret_tmp (v := .bool true) rfl (by kernel_rfl) ?_
  intro w' hw'
  subst hw'
  exact ⟨rfl, SH.belowCall h7 (Below.refl _ _) (ge_cons hr2 (ge_cons hr1 (ge_nil _))) hb8⟩

structure Lp (w : World) (b : Nat) (D : Nat) (cut : Nat → Bool) (W : List (Int × Msg)) (BX : List Blk) where
  i : Nat
  wb : World
  A : List Blk
  hi : i ≤ D - 1
  hn : IsNet b ⟨7, (D : Int), (i : Int), cut, W⟩ A
  hs : SH wb (BX ++ A) wb
  hc : Cool w wb (BX ++ A)

theorem netCut_main (D x4 x5 f t q : Nat) (c1 c2 c3 : Bool) (w : World) (hD : D < 256) (h4 : x4 < 256) (h5 : x5 < 256) (hfd : f = x4 % 7) (htd : t = x5 % 7) (hqd : q = (f + 1) % 7) (k1 : (decide ((D : Int) < 2)) = false) (k2 : (decide ((D : Int) > 16)) = false) (k3 : ((f : Int) == (t : Int)) = false) : Calls Try.prog 4 #[.int .u8 (D : Int), .bool c1, .bool c2, .bool c3, .int .u8 (x4 : Int), .int .u8 (x5 : Int)] w fun e w' => e = .returned (.bool true) ∧ Below w.heap.size w w' := by
  have hd1 : ¬ (D : Int) < 2 := by simpa using k1
  have hd2 : ¬ (D : Int) > 16 := by simpa using k2
  have hf : f < 7 := by omega
  have ht : t < 7 := by omega
  have hq : q < 7 := by omega
  have hne : f ≠ t := fun h => by rw [h] at k3; simp at k3
  have hfq : f ≠ q := by omega
  refine Sx.enter (l := [.int .u8 (D : Int), .bool c1, .bool c2, .bool c3, .int .u8 (x4 : Int), .int .u8 (x5 : Int)]) Try.func4 rfl (n := 122) rfl (by simp) ?_
  refine wc_eq (S := SH w []) (SH.refl _) ?_
  refine wc_seq ?_
  refine wc_region ?_
  refine wl_go 1 [(12, .bool false)] (by kernel_rfl) ?_
  refine nx_list ?_
  refine nx_then ?_
  refine wc_seq ?_
  refine wc_region ?_
  refine wl_go 1 [(21, .int .u8 (x4 : Int))] (by kernel_rfl) ?_
  refine wl_yl (d := 22) (v := .int .i64 (x4 : Int)) (by kernel_rfl) (yl_int (t := (x4 : Int)) (r := (x4 : Int)) (by kernel_rfl) (i64w (by omega) (by omega))) ?_
  refine wl_yl (d := 23) (v := .int .i64 (f : Int)) (by kernel_rfl) (yl_val (v := .int .i64 (Int.tmod ((x4 : Int)) 7)) (by kernel_rfl) (by rw [hfd]; rfl)) ?_
  refine wl_go 1 [(24, .int .u8 (x5 : Int))] (by kernel_rfl) ?_
  refine wl_yl (d := 25) (v := .int .i64 (x5 : Int)) (by kernel_rfl) (yl_int (t := (x5 : Int)) (r := (x5 : Int)) (by kernel_rfl) (i64w (by omega) (by omega))) ?_
  refine wl_yl (d := 26) (v := .int .i64 (t : Int)) (by kernel_rfl) (yl_val (v := .int .i64 (Int.tmod ((x5 : Int)) 7)) (by kernel_rfl) (by rw [htd]; rfl)) ?_
  refine wl_new (d := 13) #[.int .i64 0] 3 (fun r => .pointer (some ⟨r, 0, none⟩)) (by kernel_rfl) (fun r => by kernel_rfl) ?_
  intro r1 hr1
  refine wl_new (d := 14) #[.int .i64 0] 3 (fun r => .pointer (some ⟨r, 0, none⟩)) (by kernel_rfl) (fun r => by kernel_rfl) ?_
  intro r2 hr2
  refine wl_store (b := r1) (off := 0) (v := .int .i64 (f : Int)) (c' := #[.int .i64 (f : Int)]) (L' := [⟨r2, #[.int .i64 0], 3⟩, ⟨r1, #[.int .i64 (f : Int)], 3⟩]) 1 (by kernel_rfl) rfl (by kernel_rfl) (by kernel_rfl) rfl (by kernel_rfl) rfl ?_
  refine wl_store (b := r2) (off := 0) (v := .int .i64 (t : Int)) (c' := #[.int .i64 (t : Int)]) (L' := [⟨r2, #[.int .i64 (t : Int)], 3⟩, ⟨r1, #[.int .i64 (f : Int)], 3⟩]) 0 (by kernel_rfl) rfl (by kernel_rfl) (by kernel_rfl) rfl (by kernel_rfl) rfl ?_
  refine nx_list ?_
  refine nx_then ?_
  refine wc_seq ?_
  refine wc_seq ?_
  refine wc_region ?_
  refine wl_go 2 [(28, .bool (decide ((D : Int) < 2))), (27, .int .u8 (D : Int))] (by kernel_rfl) ?_
  rw [k1]
  refine wl_go 3 [(31, .bool (decide ((D : Int) > 16))), (30, .int .u8 (D : Int)), (29, .bool false)] (by kernel_rfl) ?_
  rw [k2]
  refine wl_go 2 [(33, .bool false), (32, .bool false)] (by kernel_rfl) ?_
  refine wl_yl (d := 34) (v := .int .i64 (f : Int)) (by kernel_rfl) (yl_load (b := r1) (off := 0) 1 rfl (by kernel_rfl) rfl (by kernel_rfl)) ?_
  refine wl_yl (d := 35) (v := .int .i64 (t : Int)) (by kernel_rfl) (yl_load (b := r2) (off := 0) 0 rfl (by kernel_rfl) rfl (by kernel_rfl)) ?_
  refine wl_go 1 [(36, .bool ((f : Int) == (t : Int)))] (by kernel_rfl) ?_
  rw [k3]
  refine wl_go 1 [(37, .bool false)] (by kernel_rfl) ?_
  refine nx_list ?_
  refine nx_then ?_
  refine wc_cond false (by kernel_rfl) (by kernel_rfl) (fun h => by cases h) (fun _ => ?_)
  refine nx_skip ?_
  refine nx_then ?_
  refine wc_seq ?_
  refine wc_region ?_
  refine wl_go 1 [(40, .int .u8 (D : Int))] (by kernel_rfl) ?_
  refine wl_yl (d := 41) (v := .int .i64 (D : Int)) (by kernel_rfl) (yl_int (t := (D : Int)) (r := (D : Int)) (by kernel_rfl) (i64w (by omega) (by omega))) ?_
  refine wl_callB (X := Nat × List Blk) (d := 42) (fun x => .tuple #[.pointer (some ⟨x.1, 0, none⟩), .int .i64 0]) (fun wa y wz => IsNet y.1 ⟨7, (D : Int), 0, fun _ => false, []⟩ y.2 ∧ SH wz y.2 wz ∧ Tr wa [] wz y.2 ∧ wa.heap.size ≤ y.1) (by kernel_rfl) (by kernel_rfl) (fun w1 h1 => (new_ok 7 (D : Int) w1 (by decide) (by decide) (by omega) (by omega)).mono (fun e w' ⟨b, A, he, h⟩ => ⟨(b, A), he, h⟩)) ?_
  rintro w1 ⟨b, A0⟩ w0 h1 ⟨hn0, hs, ht0, _⟩
  have hfr := SH.frame (A := []) (L := [⟨r2, #[.int .i64 (t : Int)], 3⟩, ⟨r1, #[.int .i64 (f : Int)], 3⟩]) h1 hs ht0
  have hc0 : Cool w w0 ([⟨r2, #[.int .i64 (t : Int)], 3⟩, ⟨r1, #[.int .i64 (f : Int)], 3⟩] ++ A0) := ((((show Cool w w [] from ⟨Below.refl _ _, by simp⟩).cons ⟨r1, #[.int .i64 (f : Int)], 3⟩ hr1).cons ⟨r2, #[.int .i64 (t : Int)], 3⟩ hr2).step (Tr.swap (R := []) (A := [⟨r2, #[.int .i64 (t : Int)], 3⟩, ⟨r1, #[.int .i64 (f : Int)], 3⟩]) hfr.2 |> fun h => by simpa using h))
  refine wl_eq (S := SH w0 ([⟨r2, #[.int .i64 (t : Int)], 3⟩, ⟨r1, #[.int .i64 (f : Int)], 3⟩] ++ A0)) (SH.swap hfr.1) ?_
  refine wl_go 3 [(44, .int .i64 0), (43, .pointer (some ⟨b, 0, none⟩)), (39, .tuple #[.pointer (some ⟨b, 0, none⟩), .int .i64 0])] (by kernel_rfl) ?_
  refine wl_new (d := 15) #[.pointer none] 22 (fun r => .pointer (some ⟨r, 0, none⟩)) (by kernel_rfl) (fun r => by kernel_rfl) ?_
  intro r3 hr3
  have hc0 : Cool w w0 ([⟨r3, #[.pointer (some ⟨b, 0, none⟩)], 22⟩, ⟨r2, #[.int .i64 (t : Int)], 3⟩, ⟨r1, #[.int .i64 (f : Int)], 3⟩] ++ A0) := hc0.cons ⟨r3, #[.pointer (some ⟨b, 0, none⟩)], 22⟩ hr3
  refine wl_store (b := r3) (off := 0) (v := .pointer (some ⟨b, 0, none⟩)) (c' := #[.pointer (some ⟨b, 0, none⟩)]) (L' := ([⟨r3, #[.pointer (some ⟨b, 0, none⟩)], 22⟩, ⟨r2, #[.int .i64 (t : Int)], 3⟩, ⟨r1, #[.int .i64 (f : Int)], 3⟩] ++ A0)) 0 (by kernel_rfl) rfl (by kernel_rfl) (by kernel_rfl) rfl (by kernel_rfl) rfl ?_
  refine wl_go 1 [(16, .int .i64 0)] (by kernel_rfl) ?_
  refine nx_list ?_
  refine nx_then ?_
  refine wc_seq ?_
  refine wc_seq ?_
  refine wc_region ?_
  refine wl_go 2 [(46, .bool false), (45, .int .i64 0)] (by kernel_rfl) ?_
  refine nx_list ?_
  refine nx_then ?_
  refine wc_cond false (by kernel_rfl) (by kernel_rfl) (fun h => by cases h) (fun _ => ?_)
  refine nx_skip ?_
  refine nx_then ?_
  refine wc_seq ?_
  refine wc_region ?_
  refine wl_go 2 [(17, .func (.func 12) #[] #[.pointer (some ⟨r3, 0, none⟩), .pointer (some ⟨r2, 0, none⟩), .pointer (some ⟨r1, 0, none⟩)]), (47, .func (.func 12) #[] #[.pointer (some ⟨r3, 0, none⟩), .pointer (some ⟨r2, 0, none⟩), .pointer (some ⟨r1, 0, none⟩)])] (by kernel_rfl) ?_
  refine nx_list ?_
  refine nx_then ?_
  refine wc_seq ?_
  refine wc_seq ?_
  refine wc_region ?_
  refine wl_go 2 [(49, .bool c1), (48, .func (.func 12) #[] #[.pointer (some ⟨r3, 0, none⟩), .pointer (some ⟨r2, 0, none⟩), .pointer (some ⟨r1, 0, none⟩)])] (by kernel_rfl) ?_
  refine wl_callB (X := List Blk) (d := 50) (fun _ => .bool true) (fun wa y wz => IsNet b ⟨7, (D : Int), 0, (lk (fun _ => false) f t c1), []⟩ y ∧ SH wz ([⟨r3, #[.pointer (some ⟨b, 0, none⟩)], 22⟩, ⟨r2, #[.int .i64 (t : Int)], 3⟩, ⟨r1, #[.int .i64 (f : Int)], 3⟩] ++ y) wz ∧ Tr wa ([⟨r3, #[.pointer (some ⟨b, 0, none⟩)], 22⟩, ⟨r2, #[.int .i64 (t : Int)], 3⟩, ⟨r1, #[.int .i64 (f : Int)], 3⟩] ++ A0) wz ([⟨r3, #[.pointer (some ⟨b, 0, none⟩)], 22⟩, ⟨r2, #[.int .i64 (t : Int)], 3⟩, ⟨r1, #[.int .i64 (f : Int)], 3⟩] ++ y)) (by kernel_rfl) (by kernel_rfl) (fun w1 h1 => setTo b ⟨7, (D : Int), 0, (fun _ => false), []⟩ A0 r1 r2 r3 f t c1 w1 (SH.here h1) hn0 rfl hf ht hne) ?_
  rintro wa A1 w1 h1 ⟨hn1, hs1, htr⟩
  have hc1 := (hc0.sh h1).step htr
  refine wl_eq (S := SH w1 ([⟨r3, #[.pointer (some ⟨b, 0, none⟩)], 22⟩, ⟨r2, #[.int .i64 (t : Int)], 3⟩, ⟨r1, #[.int .i64 (f : Int)], 3⟩] ++ A1)) hs1 ?_
  refine wl_go 2 [(52, .bool false), (51, .bool false)] (by kernel_rfl) ?_
  refine wl_yl (d := 53) (v := .pointer (some ⟨b, 0, none⟩)) (by kernel_rfl) (yl_load (b := r3) (off := 0) 0 rfl (by kernel_rfl) rfl (by kernel_rfl)) ?_
  refine wl_yl (d := 54) (v := .int .i64 (f : Int)) (by kernel_rfl) (yl_load (b := r1) (off := 0) 2 rfl (by kernel_rfl) rfl (by kernel_rfl)) ?_
  refine wl_yl (d := 55) (v := .int .i64 (t : Int)) (by kernel_rfl) (yl_load (b := r2) (off := 0) 1 rfl (by kernel_rfl) rfl (by kernel_rfl)) ?_
  refine wl_go 1 [(56, .agg #[.int .i64 (f : Int), .int .i64 (t : Int), .int .i64 0, .int .i64 3, .int .i64 0, .int .i64 0, .int .i64 0, .slice none 0 0, .bool false])] (by kernel_rfl) ?_
  refine wl_callB (X := List Blk × Option Addr × Nat) (d := 57) (fun _ => .int .i64 0) (fun wa y wz => IsNet b ⟨7, (D : Int), 0, (lk (fun _ => false) f t c1), ([] ++ adds ⟨7, (D : Int), 0, (lk (fun _ => false) f t c1), []⟩ f t 0 3 y.2.1 y.2.2)⟩ y.1 ∧ SH wz y.1 wz ∧ Tr wa A1 wz y.1) (by kernel_rfl) (by kernel_rfl) (fun w1 h1 => (send_any b ⟨7, (D : Int), 0, (lk (fun _ => false) f t c1), []⟩ A1 f t 0 3 w1 (SH.part (SH.swap h1)) hn1 (pair7 rfl hf ht hne) hf ht (by simp) (by simp) (by simp) (by simp; omega) (by simp)).mono (fun e w' ⟨A', ea, ec, he, h⟩ => ⟨(A', ea, ec), he, h⟩)) ?_
  rintro wa ⟨A2, ea, ec⟩ w2 h1 ⟨hn2, hs, ht1⟩
  have hfr := SH.frame (SH.swap h1) hs ht1
  have hc2 := hc1.step (Tr.swap hfr.2)
  refine wl_eq (S := SH w2 ([⟨r3, #[.pointer (some ⟨b, 0, none⟩)], 22⟩, ⟨r2, #[.int .i64 (t : Int)], 3⟩, ⟨r1, #[.int .i64 (f : Int)], 3⟩] ++ A2)) (SH.swap hfr.1) ?_
  refine wl_go 3 [(60, .bool false), (59, .bool false), (58, .bool false)] (by kernel_rfl) ?_
  refine wl_yl (d := 61) (v := .pointer (some ⟨b, 0, none⟩)) (by kernel_rfl) (yl_load (b := r3) (off := 0) 0 rfl (by kernel_rfl) rfl (by kernel_rfl)) ?_
  refine wl_yl (d := 62) (v := .int .i64 (f : Int)) (by kernel_rfl) (yl_load (b := r1) (off := 0) 2 rfl (by kernel_rfl) rfl (by kernel_rfl)) ?_
  refine wl_yl (d := 63) (v := .int .i64 (f : Int)) (by kernel_rfl) (yl_load (b := r1) (off := 0) 2 rfl (by kernel_rfl) rfl (by kernel_rfl)) ?_
  refine wl_yl (d := 64) (v := .int .i64 ((f : Int) + 1)) (by kernel_rfl) (yl_int (t := (f : Int) + 1) (r := (f : Int) + 1) (by kernel_rfl) (i64w (by omega) (by omega))) ?_
  refine wl_yl (d := 65) (v := .int .i64 (q : Int)) (by kernel_rfl) (yl_val (v := .int .i64 (Int.tmod ((f : Int) + 1) 7)) (by kernel_rfl) (by rw [hqd]; rfl)) ?_
  refine wl_go 1 [(66, .agg #[.int .i64 (f : Int), .int .i64 (q : Int), .int .i64 9, .int .i64 0, .int .i64 0, .int .i64 0, .int .i64 0, .slice none 0 0, .bool false])] (by kernel_rfl) ?_
  refine wl_callB (X := List Blk × Option Addr × Nat) (d := 67) (fun _ => .int .i64 0) (fun wa y wz => IsNet b ⟨7, (D : Int), 0, (lk (fun _ => false) f t c1), (([] ++ adds ⟨7, (D : Int), 0, (lk (fun _ => false) f t c1), []⟩ f t 0 3 ea ec) ++ adds ⟨7, (D : Int), 0, (lk (fun _ => false) f t c1), ([] ++ adds ⟨7, (D : Int), 0, (lk (fun _ => false) f t c1), []⟩ f t 0 3 ea ec)⟩ f q 9 0 y.2.1 y.2.2)⟩ y.1 ∧ SH wz y.1 wz ∧ Tr wa A2 wz y.1) (by kernel_rfl) (by kernel_rfl) (fun w1 h1 => (send_any b ⟨7, (D : Int), 0, (lk (fun _ => false) f t c1), ([] ++ adds ⟨7, (D : Int), 0, (lk (fun _ => false) f t c1), []⟩ f t 0 3 ea ec)⟩ A2 f q 9 0 w1 (SH.part (SH.swap h1)) hn2 (pair7 rfl hf hq hfq) hf hq (by simp) (by simp) (by simp) (by simp; omega) (by simp only [adds]; split <;> simp)).mono (fun e w' ⟨A', ea, ec, he, h⟩ => ⟨(A', ea, ec), he, h⟩)) ?_
  rintro wa ⟨A3, eb, ed⟩ w3 h1 ⟨hn3, hs, ht1⟩
  have hfr := SH.frame (SH.swap h1) hs ht1
  have hc3 := hc2.step (Tr.swap hfr.2)
  refine wl_eq (S := SH w3 ([⟨r3, #[.pointer (some ⟨b, 0, none⟩)], 22⟩, ⟨r2, #[.int .i64 (t : Int)], 3⟩, ⟨r1, #[.int .i64 (f : Int)], 3⟩] ++ A3)) (SH.swap hfr.1) ?_
  have hn3 : IsNet b ⟨7, (D : Int), 0, (lk (fun _ => false) f t c1), (wayC D c1 f t q ea eb ec ed)⟩ A3 := by
    have h := hn3
    rw [adds_way (D := D) (c := c1) (ea := ea) (eb := eb) (ec := ec) (ed := ed) hf ht hq hne] at h
    exact h
  refine wl_go 5 [(72, .bool c2), (71, .func (.func 12) #[] #[.pointer (some ⟨r3, 0, none⟩), .pointer (some ⟨r2, 0, none⟩), .pointer (some ⟨r1, 0, none⟩)]), (70, .bool false), (69, .bool false), (68, .bool false)] (by kernel_rfl) ?_
  refine wl_callB (X := List Blk) (d := 73) (fun _ => .bool true) (fun wa y wz => IsNet b ⟨7, (D : Int), 0, (lk (lk (fun _ => false) f t c1) f t c2), (wayC D c1 f t q ea eb ec ed)⟩ y ∧ SH wz ([⟨r3, #[.pointer (some ⟨b, 0, none⟩)], 22⟩, ⟨r2, #[.int .i64 (t : Int)], 3⟩, ⟨r1, #[.int .i64 (f : Int)], 3⟩] ++ y) wz ∧ Tr wa ([⟨r3, #[.pointer (some ⟨b, 0, none⟩)], 22⟩, ⟨r2, #[.int .i64 (t : Int)], 3⟩, ⟨r1, #[.int .i64 (f : Int)], 3⟩] ++ A3) wz ([⟨r3, #[.pointer (some ⟨b, 0, none⟩)], 22⟩, ⟨r2, #[.int .i64 (t : Int)], 3⟩, ⟨r1, #[.int .i64 (f : Int)], 3⟩] ++ y)) (by kernel_rfl) (by kernel_rfl) (fun w1 h1 => setTo b ⟨7, (D : Int), 0, (lk (fun _ => false) f t c1), (wayC D c1 f t q ea eb ec ed)⟩ A3 r1 r2 r3 f t c2 w1 (SH.here h1) hn3 rfl hf ht hne) ?_
  rintro wa A4 w4 h1 ⟨hn4, hs4, htr⟩
  have hc4 := (hc3.sh h1).step htr
  refine wl_eq (S := SH w4 ([⟨r3, #[.pointer (some ⟨b, 0, none⟩)], 22⟩, ⟨r2, #[.int .i64 (t : Int)], 3⟩, ⟨r1, #[.int .i64 (f : Int)], 3⟩] ++ A4)) hs4 ?_
  refine wl_go 2 [(75, .bool false), (74, .bool false)] (by kernel_rfl) ?_
  refine nx_list ?_
  refine nx_then ?_
  refine wc_cond false (by kernel_rfl) (by kernel_rfl) (fun h => by cases h) (fun _ => ?_)
  refine nx_skip ?_
  refine nx_then ?_
  refine wc_seq ?_
  refine wc_seq ?_
  refine wc_region ?_
  refine wl_go 1 [(76, .int .u8 (D : Int))] (by kernel_rfl) ?_
  refine wl_yl (d := 77) (v := .int .i64 (D : Int)) (by kernel_rfl) (yl_int (t := (D : Int)) (r := (D : Int)) (by kernel_rfl) (i64w (by omega) (by omega))) ?_
  refine wl_yl (d := 78) (v := .int .i64 ((D : Int) - 1)) (by kernel_rfl) (yl_int (t := (D : Int) - 1) (r := (D : Int) - 1) (by kernel_rfl) (i64w (by omega) (by omega))) ?_
  refine wl_go 1 [(79, .int .i64 0)] (by kernel_rfl) ?_
  refine nx_list ?_
  refine nx_then ?_
  refine wc_block ?_
  refine wc_loop (σ := Lp w b D (lk (lk (fun _ => false) f t c1) f t c2) (wayC D c1 f t q ea eb ec ed) [⟨r3, #[.pointer (some ⟨b, 0, none⟩)], 22⟩, ⟨r2, #[.int .i64 (t : Int)], 3⟩, ⟨r1, #[.int .i64 (f : Int)], 3⟩]) (fun x => [(0, .int .u8 (D : Int)), (1, .bool c1), (2, .bool c2), (3, .bool c3), (13, .pointer (some ⟨r1, 0, none⟩)), (14, .pointer (some ⟨r2, 0, none⟩)), (15, .pointer (some ⟨r3, 0, none⟩)), (17, .func (.func 12) #[] #[.pointer (some ⟨r3, 0, none⟩), .pointer (some ⟨r2, 0, none⟩), .pointer (some ⟨r1, 0, none⟩)]), (78, .int .i64 ((D : Int) - 1)), (79, .int .i64 (x.i : Int))]) (fun x => SH x.wb ([⟨r3, #[.pointer (some ⟨b, 0, none⟩)], 22⟩, ⟨r2, #[.int .i64 (t : Int)], 3⟩, ⟨r1, #[.int .i64 (f : Int)], 3⟩] ++ x.A)) (fun x => D - x.i) (fun w3 h3 => ⟨⟨0, w3, A4, Nat.zero_le _, hn4, SH.here h3, hc4.sh h3⟩, SH.here h3, (subEnv_cons (by kernel_rfl) (subEnv_cons (by kernel_rfl) (subEnv_cons (by kernel_rfl) (subEnv_cons (by kernel_rfl) (subEnv_cons (by kernel_rfl) (subEnv_cons (by kernel_rfl) (subEnv_cons (by kernel_rfl) (subEnv_cons (by kernel_rfl) (subEnv_cons (by kernel_rfl) (subEnv_cons (by kernel_rfl) (subEnv_nil _)))))))))))⟩) (fun x => ?_)
  have hxi := x.hi
  refine wc_seq ?_
  refine wc_region ?_
  refine wl_go 1 [(80, .bool (decide ((x.i : Int) < (D : Int) - 1)))] (by kernel_rfl) ?_
  refine nx_list ?_
  refine nx_then ?_
  refine wc_seq ?_
  refine wc_cond (decide ((x.i : Int) < (D : Int) - 1)) (by kernel_rfl) (by kernel_rfl) (fun hcl => ?_) (fun hcl => ?_)
  · skip
    have hlt : (x.i : Int) < (D : Int) - 1 := by simpa using hcl
    refine nx_skip ?_
    refine nx_then ?_
    refine wc_seq ?_
    refine wc_block ?_
    refine wc_seq ?_
    refine wc_region ?_
    refine wl_yl (d := 81) (v := .pointer (some ⟨b, 0, none⟩)) (by kernel_rfl) (yl_load (b := r3) (off := 0) 0 rfl (by kernel_rfl) rfl (by kernel_rfl)) ?_
    refine wl_callB (X := Value × List Blk) (d := 82) (fun x => x.1) (fun wa y wz => IsNet b ⟨7, (D : Int), (x.i : Int) + 1, (lk (lk (fun _ => false) f t c1) f t c2), keepP ((x.i : Int) + 1) (wayC D c1 f t q ea eb ec ed)⟩ y.2 ∧ SH wz y.2 wz ∧ Tr wa x.A wz y.2 ∧ RowV wz y.2 0 y.1 ((dlvr ((x.i : Int) + 1) (lk (lk (fun _ => false) f t c1) f t c2) (wayC D c1 f t q ea eb ec ed)).map Msg.cells)) (by kernel_rfl) (by kernel_rfl) (fun w1 h1 => (tick_ok b _ x.A w1 (SH.part (SH.swap h1)) x.hn (way_ok hf ht hq) (by simp) (by simp; omega) (by have := way_len (D := D) (c := c1) (f := f) (t := t) (q := q) (ea := ea) (eb := eb) (ec := ec) (ed := ed); simp only; omega)).mono (fun e w' ⟨v, A', he, h⟩ => ⟨(v, A'), he, h⟩)) ?_
    rintro wa ⟨v7, A7⟩ w7 h1 ⟨hn7, hs, ht1, hv⟩
    rw [keep_all (D := (D : Int)) way_due (by omega)] at hn7
    rw [dlvr_none (D := (D : Int)) way_due (by omega)] at hv
    obtain ⟨a7, d7, rfl⟩ := RowV.nil hv
    have hfr := SH.frame (SH.swap h1) hs ht1
    have hc7 := x.hc.step (Tr.swap hfr.2)
    refine wl_eq (S := SH w7 ([⟨r3, #[.pointer (some ⟨b, 0, none⟩)], 22⟩, ⟨r2, #[.int .i64 (t : Int)], 3⟩, ⟨r1, #[.int .i64 (f : Int)], 3⟩] ++ A7)) (SH.swap hfr.1) ?_
    have hn7 : IsNet b ⟨7, (D : Int), ((x.i + 1 : Nat) : Int), (lk (lk (fun _ => false) f t c1) f t c2), (wayC D c1 f t q ea eb ec ed)⟩ A7 := by simpa using hn7
    refine wl_go 2 [(84, .bool false), (83, .int .i64 0)] (by kernel_rfl) ?_
    refine nx_list ?_
    refine nx_then ?_
    refine wc_cond false (by kernel_rfl) (by kernel_rfl) (fun h => by cases h) (fun _ => ?_)
    refine nx_skip ?_
    refine nx_block ?_
    refine nx_then ?_
    refine wc_region ?_
    refine wl_yl (d := 85) (v := .int .i64 ((x.i : Int) + 1)) (by kernel_rfl) (yl_int (t := (x.i : Int) + 1) (r := (x.i : Int) + 1) (by kernel_rfl) (i64w (by omega) (by omega))) ?_
    refine wl_go 1 [(79, .int .i64 ((x.i : Int) + 1))] (by kernel_rfl) ?_
    refine nx_list ?_
    refine nx_round_w (fun w9 h9 => ⟨⟨x.i + 1, w9, A7, by omega, hn7, SH.here h9, hc7.sh h9⟩, (show D - (x.i + 1) < D - x.i by omega), (subEnv_cons (by kernel_rfl) (subEnv_cons (by kernel_rfl) (subEnv_cons (by kernel_rfl) (subEnv_cons (by kernel_rfl) (subEnv_cons (by kernel_rfl) (subEnv_cons (by kernel_rfl) (subEnv_cons (by kernel_rfl) (subEnv_cons (by kernel_rfl) (subEnv_cons (by kernel_rfl) (subEnv_cons (by kernel_rfl) (subEnv_nil _))))))))))), SH.here h9⟩)
  · skip
    have hge : ¬ (x.i : Int) < (D : Int) - 1 := by simpa using hcl
    have hxe : (x.i : Int) = (D : Int) - 1 := by omega
    obtain ⟨A9, hA9⟩ : ∃ A9, A9 = x.A := ⟨_, rfl⟩
    obtain ⟨w9, hw9⟩ : ∃ w9, w9 = x.wb := ⟨_, rfl⟩
    have hn9 := x.hn
    have hc9 := x.hc
    rw [← hA9] at hn9 hc9 ⊢
    rw [← hw9] at hc9 ⊢
    refine nx_exit ?_
    refine nx_then_exit ?_
    refine nx_then_exit ?_
    refine nx_block_here ?_
    refine nx_then ?_
    refine wc_seq ?_
    refine wc_seq ?_
    refine wc_region ?_
    refine wl_go 2 [(87, .bool c3), (86, .func (.func 12) #[] #[.pointer (some ⟨r3, 0, none⟩), .pointer (some ⟨r2, 0, none⟩), .pointer (some ⟨r1, 0, none⟩)])] (by kernel_rfl) ?_
    refine wl_callB (X := List Blk) (d := 88) (fun _ => .bool true) (fun wa y wz => IsNet b ⟨7, (D : Int), (x.i : Int), (lk (lk (lk (fun _ => false) f t c1) f t c2) f t c3), (wayC D c1 f t q ea eb ec ed)⟩ y ∧ SH wz ([⟨r3, #[.pointer (some ⟨b, 0, none⟩)], 22⟩, ⟨r2, #[.int .i64 (t : Int)], 3⟩, ⟨r1, #[.int .i64 (f : Int)], 3⟩] ++ y) wz ∧ Tr wa ([⟨r3, #[.pointer (some ⟨b, 0, none⟩)], 22⟩, ⟨r2, #[.int .i64 (t : Int)], 3⟩, ⟨r1, #[.int .i64 (f : Int)], 3⟩] ++ A9) wz ([⟨r3, #[.pointer (some ⟨b, 0, none⟩)], 22⟩, ⟨r2, #[.int .i64 (t : Int)], 3⟩, ⟨r1, #[.int .i64 (f : Int)], 3⟩] ++ y)) (by kernel_rfl) (by kernel_rfl) (fun w1 h1 => setTo b ⟨7, (D : Int), (x.i : Int), (lk (lk (fun _ => false) f t c1) f t c2), (wayC D c1 f t q ea eb ec ed)⟩ A9 r1 r2 r3 f t c3 w1 (SH.here h1) hn9 rfl hf ht hne) ?_
    rintro wa A10 w10 h1 ⟨hn10, hs10, htr⟩
    have hc10 := (hc9.sh h1).step htr
    refine wl_eq (S := SH w10 ([⟨r3, #[.pointer (some ⟨b, 0, none⟩)], 22⟩, ⟨r2, #[.int .i64 (t : Int)], 3⟩, ⟨r1, #[.int .i64 (f : Int)], 3⟩] ++ A10)) hs10 ?_
    refine wl_go 1 [(89, .bool false)] (by kernel_rfl) ?_
    refine nx_list ?_
    refine nx_then ?_
    refine wc_cond false (by kernel_rfl) (by kernel_rfl) (fun h => by cases h) (fun _ => ?_)
    refine nx_skip ?_
    refine nx_then ?_
    refine wc_seq ?_
    refine wc_region ?_
    refine wl_yl (d := 90) (v := .pointer (some ⟨b, 0, none⟩)) (by kernel_rfl) (yl_load (b := r3) (off := 0) 0 rfl (by kernel_rfl) rfl (by kernel_rfl)) ?_
    refine wl_callB (X := Value × List Blk) (d := 91) (fun x => x.1) (fun wa y wz => IsNet b ⟨7, (D : Int), (x.i : Int) + 1, (lk (lk (lk (fun _ => false) f t c1) f t c2) f t c3), keepP ((x.i : Int) + 1) (wayC D c1 f t q ea eb ec ed)⟩ y.2 ∧ SH wz y.2 wz ∧ Tr wa A10 wz y.2 ∧ RowV wz y.2 0 y.1 ((dlvr ((x.i : Int) + 1) (lk (lk (lk (fun _ => false) f t c1) f t c2) f t c3) (wayC D c1 f t q ea eb ec ed)).map Msg.cells)) (by kernel_rfl) (by kernel_rfl) (fun w1 h1 => (tick_ok b _ A10 w1 (SH.part (SH.swap h1)) hn10 (way_ok hf ht hq) (by simp) (by simp; omega) (by have := way_len (D := D) (c := c1) (f := f) (t := t) (q := q) (ea := ea) (eb := eb) (ec := ec) (ed := ed); simp only; omega)).mono (fun e w' ⟨v, A', he, h⟩ => ⟨(v, A'), he, h⟩)) ?_
    rintro wa ⟨v, A11⟩ w11 h1 ⟨hn11, hs, ht1, hv⟩
    have hfr := SH.frame (SH.swap h1) hs ht1
    have hs11 := SH.swap hfr.1
    have hc11 := hc10.step (Tr.swap hfr.2)
    have hhit := hit_eq (D := D) (c1 := c1) (c3 := c3) (f := f) (t := t) (q := q) (ea := ea) (eb := eb) (ec := ec) (ed := ed) (cut := (lk (lk (lk (fun _ => false) f t c1) f t c2) f t c3)) (now := (x.i : Int) + 1) (by omega) (lk_at _ _ _ _)
    have hoth : q ≠ t → _ := fun hqt => other_eq (D := D) (c1 := c1) (f := f) (t := t) (q := q) (ea := ea) (eb := eb) (ec := ec) (ed := ed) (cut := (lk (lk (lk (fun _ => false) f t c1) f t c2) f t c3)) (now := (x.i : Int) + 1) (by omega) hqt (by rw [lk_off hf ht hq hne hqt, lk_off hf ht hq hne hqt, lk_off hf ht hq hne hqt])
    have hml : (dlvr ((x.i : Int) + 1) (lk (lk (lk (fun _ => false) f t c1) f t c2) f t c3) (wayC D c1 f t q ea eb ec ed)).length ≤ 1000000 := Nat.le_trans (dlvr_le _ _ _) (Nat.le_trans way_len (by decide))
    obtain ⟨ms, hms⟩ : ∃ ms, ms = dlvr ((x.i : Int) + 1) (lk (lk (lk (fun _ => false) f t c1) f t c2) f t c3) (wayC D c1 f t q ea eb ec ed) := ⟨_, rfl⟩
    rw [← hms] at hv hhit hoth hml
    rw [keep_none (D := (D : Int)) way_due (by omega)] at hn11
    obtain ⟨av, cv, rfl, hv0⟩ := id hv
    have hrow : RowV w11 [] 0 (.slice av ms.length cv) (ms.map Msg.cells) := by simpa using RowV.bare hv
    rw [List.length_map]
    refine wl_go 1 [(18, .slice av ms.length cv)] (by kernel_rfl) ?_
    refine nx_list ?_
    refine nx_then ?_
    refine wc_seq ?_
    refine wc_region ?_
    refine wl_go 1 [(92, .slice av ms.length cv)] (by kernel_rfl) ?_
    refine wl_callB (X := Unit) (d := 93) (fun _ => .bool (!c1 && !c3)) (fun wa y wz => Below wa.heap.size wa wz) (by kernel_rfl) (by kernel_rfl) (fun w1 h1 => by subst h1; rw [← hhit]; exact (has_c2 ms av cv _ hrow hml).mono (fun e w' h => ⟨(), h⟩)) ?_
    rintro wa _ w12 rfl hb1
    have hrow := RowV.below hrow hb1
    have hs12 := SH.after hs11 hb1
    have hc12 : Cool w w12 ([⟨r3, #[.pointer (some ⟨b, 0, none⟩)], 22⟩, ⟨r2, #[.int .i64 (t : Int)], 3⟩, ⟨r1, #[.int .i64 (f : Int)], 3⟩] ++ A11) := ⟨hc11.1.trans (hb1.mono hc11.1.size), hc11.2⟩
    have hn12 := hn11
    obtain ⟨A12, hA12⟩ : ∃ A12, A12 = A11 := ⟨_, rfl⟩
    rw [← hA12] at hs12 hc12 hn12
    refine wl_go 1 [(19, .bool (!c1 && !c3))] (by kernel_rfl) ?_
    refine nx_list ?_
    refine nx_then ?_
    refine wc_seq ?_
    refine wc_region ?_
    refine wl_go 1 [(94, .slice av ms.length cv)] (by kernel_rfl) ?_
    obtain ⟨tw, htw⟩ : ∃ tw, tw = ms.any (fun m => m.kind == 9) := ⟨_, rfl⟩
    refine wl_callB (X := Unit) (d := 95) (fun _ => .bool tw) (fun wa y wz => Below wa.heap.size wa wz) (by kernel_rfl) (by kernel_rfl) (fun w1 h1 => by subst h1; rw [htw]; exact (has_c3 ms av cv _ hrow hml).mono (fun e w' h => ⟨(), h⟩)) ?_
    rintro wa _ w13 rfl hb1
    have hrow := RowV.below hrow hb1
    have hs13 := SH.after hs12 hb1
    have hc13 : Cool w w13 ([⟨r3, #[.pointer (some ⟨b, 0, none⟩)], 22⟩, ⟨r2, #[.int .i64 (t : Int)], 3⟩, ⟨r1, #[.int .i64 (f : Int)], 3⟩] ++ A12) := ⟨hc12.1.trans (hb1.mono hc12.1.size), hc12.2⟩
    have hn13 := hn12
    obtain ⟨A13, hA13⟩ : ∃ A13, A13 = A12 := ⟨_, rfl⟩
    rw [← hA13] at hs13 hc13 hn13
    refine wl_eq (S := SH w13 ([⟨r3, #[.pointer (some ⟨b, 0, none⟩)], 22⟩, ⟨r2, #[.int .i64 (t : Int)], 3⟩, ⟨r1, #[.int .i64 (f : Int)], 3⟩] ++ A13)) hs13 ?_
    refine wl_go 1 [(20, .bool tw)] (by kernel_rfl) ?_
    refine nx_list ?_
    refine nx_then ?_
    refine wc_seq ?_
    refine wc_region ?_
    cases c1
    · cases c3
      · by_cases hqt : q = t
        · skip
          have htq : ((t : Int) == (q : Int)) = true := by simp; omega
          refine wl_go 9 [(104, .bool true), (103, .bool true), (102, .bool true), (101, .bool true), (100, .bool false), (99, .bool true), (98, .bool true), (97, .bool false), (96, .bool true)] (by kernel_rfl) ?_
          refine wl_yl (d := 105) (v := .int .i64 (t : Int)) (by kernel_rfl) (yl_load (b := r2) (off := 0) 1 rfl (by kernel_rfl) rfl (by kernel_rfl)) ?_
          refine wl_yl (d := 106) (v := .int .i64 (f : Int)) (by kernel_rfl) (yl_load (b := r1) (off := 0) 2 rfl (by kernel_rfl) rfl (by kernel_rfl)) ?_
          refine wl_yl (d := 107) (v := .int .i64 ((f : Int) + 1)) (by kernel_rfl) (yl_int (t := (f : Int) + 1) (r := (f : Int) + 1) (by kernel_rfl) (i64w (by omega) (by omega))) ?_
          refine wl_yl (d := 108) (v := .int .i64 (q : Int)) (by kernel_rfl) (yl_val (v := .int .i64 (Int.tmod ((f : Int) + 1) 7)) (by kernel_rfl) (by rw [hqd]; rfl)) ?_
          refine wl_go 1 [(109, .bool ((t : Int) == (q : Int)))] (by kernel_rfl) ?_
          rw [htq]
          refine wl_go 5 [(114, .bool true), (113, .bool true), (112, .bool true), (111, undef), (110, .bool true)] (by kernel_rfl) ?_
          refine wl_yl (d := 115) (v := .pointer (some ⟨b, 0, none⟩)) (by kernel_rfl) (yl_load (b := r3) (off := 0) 0 rfl (by kernel_rfl) rfl (by kernel_rfl)) ?_
          refine wl_callS (d := 116) (v := .int .i64 0) (by kernel_rfl) (by kernel_rfl) (fun w1 h1 => len_ok b _ A13 w1 (SH.part (SH.swap h1)) hn13) ?_
          refine wl_go 3 [(119, .bool true), (118, .bool true), (117, .bool true)] (by kernel_rfl) ?_
          refine wl_callB (X := Unit) (d := 120) (fun _ => .bool true) (fun wa y wz => Below wa.heap.size wa wz) (by kernel_rfl) (by kernel_rfl) (fun w1 h1 => (awake_ok w1).mono (fun e w' h => ⟨(), h⟩)) ?_
          rintro wa _ w30 h30 hb30
          refine wl_go 2 [(12, .bool true), (121, .bool true)] (by kernel_rfl) ?_
          refine nx_list ?_
          refine nx_then ?_
          refine nx_ret ?_
          refine ret_tmp (v := .bool true) rfl (by kernel_rfl) ?_
          intro w' hw'
          subst hw'
          have hcf := hc13.sh h30
          exact ⟨rfl, hcf.1.trans (hb30.mono hcf.1.size)⟩
        · skip
          have htq : ((t : Int) == (q : Int)) = false := by simp; omega
          obtain rfl : tw = true := htw.trans (hoth hqt)
          refine wl_go 9 [(104, .bool true), (103, .bool true), (102, .bool true), (101, .bool true), (100, .bool false), (99, .bool true), (98, .bool true), (97, .bool false), (96, .bool true)] (by kernel_rfl) ?_
          refine wl_yl (d := 105) (v := .int .i64 (t : Int)) (by kernel_rfl) (yl_load (b := r2) (off := 0) 1 rfl (by kernel_rfl) rfl (by kernel_rfl)) ?_
          refine wl_yl (d := 106) (v := .int .i64 (f : Int)) (by kernel_rfl) (yl_load (b := r1) (off := 0) 2 rfl (by kernel_rfl) rfl (by kernel_rfl)) ?_
          refine wl_yl (d := 107) (v := .int .i64 ((f : Int) + 1)) (by kernel_rfl) (yl_int (t := (f : Int) + 1) (r := (f : Int) + 1) (by kernel_rfl) (i64w (by omega) (by omega))) ?_
          refine wl_yl (d := 108) (v := .int .i64 (q : Int)) (by kernel_rfl) (yl_val (v := .int .i64 (Int.tmod ((f : Int) + 1) 7)) (by kernel_rfl) (by rw [hqd]; rfl)) ?_
          refine wl_go 1 [(109, .bool ((t : Int) == (q : Int)))] (by kernel_rfl) ?_
          rw [htq]
          refine wl_go 5 [(114, .bool true), (113, .bool true), (112, .bool true), (111, .bool true), (110, .bool false)] (by kernel_rfl) ?_
          refine wl_yl (d := 115) (v := .pointer (some ⟨b, 0, none⟩)) (by kernel_rfl) (yl_load (b := r3) (off := 0) 0 rfl (by kernel_rfl) rfl (by kernel_rfl)) ?_
          refine wl_callS (d := 116) (v := .int .i64 0) (by kernel_rfl) (by kernel_rfl) (fun w1 h1 => len_ok b _ A13 w1 (SH.part (SH.swap h1)) hn13) ?_
          refine wl_go 3 [(119, .bool true), (118, .bool true), (117, .bool true)] (by kernel_rfl) ?_
          refine wl_callB (X := Unit) (d := 120) (fun _ => .bool true) (fun wa y wz => Below wa.heap.size wa wz) (by kernel_rfl) (by kernel_rfl) (fun w1 h1 => (awake_ok w1).mono (fun e w' h => ⟨(), h⟩)) ?_
          rintro wa _ w30 h30 hb30
          refine wl_go 2 [(12, .bool true), (121, .bool true)] (by kernel_rfl) ?_
          refine nx_list ?_
          refine nx_then ?_
          refine nx_ret ?_
          refine ret_tmp (v := .bool true) rfl (by kernel_rfl) ?_
          intro w' hw'
          subst hw'
          have hcf := hc13.sh h30
          exact ⟨rfl, hcf.1.trans (hb30.mono hcf.1.size)⟩
      · by_cases hqt : q = t
        · skip
          have htq : ((t : Int) == (q : Int)) = true := by simp; omega
          refine wl_go 9 [(104, .bool true), (103, .bool true), (102, .bool false), (101, .bool false), (100, .bool true), (99, .bool true), (98, .bool true), (97, .bool false), (96, .bool false)] (by kernel_rfl) ?_
          refine wl_yl (d := 105) (v := .int .i64 (t : Int)) (by kernel_rfl) (yl_load (b := r2) (off := 0) 1 rfl (by kernel_rfl) rfl (by kernel_rfl)) ?_
          refine wl_yl (d := 106) (v := .int .i64 (f : Int)) (by kernel_rfl) (yl_load (b := r1) (off := 0) 2 rfl (by kernel_rfl) rfl (by kernel_rfl)) ?_
          refine wl_yl (d := 107) (v := .int .i64 ((f : Int) + 1)) (by kernel_rfl) (yl_int (t := (f : Int) + 1) (r := (f : Int) + 1) (by kernel_rfl) (i64w (by omega) (by omega))) ?_
          refine wl_yl (d := 108) (v := .int .i64 (q : Int)) (by kernel_rfl) (yl_val (v := .int .i64 (Int.tmod ((f : Int) + 1) 7)) (by kernel_rfl) (by rw [hqd]; rfl)) ?_
          refine wl_go 1 [(109, .bool ((t : Int) == (q : Int)))] (by kernel_rfl) ?_
          rw [htq]
          refine wl_go 5 [(114, .bool true), (113, .bool true), (112, .bool true), (111, undef), (110, .bool true)] (by kernel_rfl) ?_
          refine wl_yl (d := 115) (v := .pointer (some ⟨b, 0, none⟩)) (by kernel_rfl) (yl_load (b := r3) (off := 0) 0 rfl (by kernel_rfl) rfl (by kernel_rfl)) ?_
          refine wl_callS (d := 116) (v := .int .i64 0) (by kernel_rfl) (by kernel_rfl) (fun w1 h1 => len_ok b _ A13 w1 (SH.part (SH.swap h1)) hn13) ?_
          refine wl_go 3 [(119, .bool true), (118, .bool true), (117, .bool true)] (by kernel_rfl) ?_
          refine wl_callB (X := Unit) (d := 120) (fun _ => .bool true) (fun wa y wz => Below wa.heap.size wa wz) (by kernel_rfl) (by kernel_rfl) (fun w1 h1 => (awake_ok w1).mono (fun e w' h => ⟨(), h⟩)) ?_
          rintro wa _ w30 h30 hb30
          refine wl_go 2 [(12, .bool true), (121, .bool true)] (by kernel_rfl) ?_
          refine nx_list ?_
          refine nx_then ?_
          refine nx_ret ?_
          refine ret_tmp (v := .bool true) rfl (by kernel_rfl) ?_
          intro w' hw'
          subst hw'
          have hcf := hc13.sh h30
          exact ⟨rfl, hcf.1.trans (hb30.mono hcf.1.size)⟩
        · skip
          have htq : ((t : Int) == (q : Int)) = false := by simp; omega
          obtain rfl : tw = true := htw.trans (hoth hqt)
          refine wl_go 9 [(104, .bool true), (103, .bool true), (102, .bool false), (101, .bool false), (100, .bool true), (99, .bool true), (98, .bool true), (97, .bool false), (96, .bool false)] (by kernel_rfl) ?_
          refine wl_yl (d := 105) (v := .int .i64 (t : Int)) (by kernel_rfl) (yl_load (b := r2) (off := 0) 1 rfl (by kernel_rfl) rfl (by kernel_rfl)) ?_
          refine wl_yl (d := 106) (v := .int .i64 (f : Int)) (by kernel_rfl) (yl_load (b := r1) (off := 0) 2 rfl (by kernel_rfl) rfl (by kernel_rfl)) ?_
          refine wl_yl (d := 107) (v := .int .i64 ((f : Int) + 1)) (by kernel_rfl) (yl_int (t := (f : Int) + 1) (r := (f : Int) + 1) (by kernel_rfl) (i64w (by omega) (by omega))) ?_
          refine wl_yl (d := 108) (v := .int .i64 (q : Int)) (by kernel_rfl) (yl_val (v := .int .i64 (Int.tmod ((f : Int) + 1) 7)) (by kernel_rfl) (by rw [hqd]; rfl)) ?_
          refine wl_go 1 [(109, .bool ((t : Int) == (q : Int)))] (by kernel_rfl) ?_
          rw [htq]
          refine wl_go 5 [(114, .bool true), (113, .bool true), (112, .bool true), (111, .bool true), (110, .bool false)] (by kernel_rfl) ?_
          refine wl_yl (d := 115) (v := .pointer (some ⟨b, 0, none⟩)) (by kernel_rfl) (yl_load (b := r3) (off := 0) 0 rfl (by kernel_rfl) rfl (by kernel_rfl)) ?_
          refine wl_callS (d := 116) (v := .int .i64 0) (by kernel_rfl) (by kernel_rfl) (fun w1 h1 => len_ok b _ A13 w1 (SH.part (SH.swap h1)) hn13) ?_
          refine wl_go 3 [(119, .bool true), (118, .bool true), (117, .bool true)] (by kernel_rfl) ?_
          refine wl_callB (X := Unit) (d := 120) (fun _ => .bool true) (fun wa y wz => Below wa.heap.size wa wz) (by kernel_rfl) (by kernel_rfl) (fun w1 h1 => (awake_ok w1).mono (fun e w' h => ⟨(), h⟩)) ?_
          rintro wa _ w30 h30 hb30
          refine wl_go 2 [(12, .bool true), (121, .bool true)] (by kernel_rfl) ?_
          refine nx_list ?_
          refine nx_then ?_
          refine nx_ret ?_
          refine ret_tmp (v := .bool true) rfl (by kernel_rfl) ?_
          intro w' hw'
          subst hw'
          have hcf := hc13.sh h30
          exact ⟨rfl, hcf.1.trans (hb30.mono hcf.1.size)⟩
    · cases c3
      · by_cases hqt : q = t
        · skip
          have htq : ((t : Int) == (q : Int)) = true := by simp; omega
          refine wl_go 9 [(104, .bool true), (103, .bool true), (102, .bool false), (101, undef), (100, undef), (99, .bool false), (98, .bool false), (97, .bool true), (96, .bool false)] (by kernel_rfl) ?_
          refine wl_yl (d := 105) (v := .int .i64 (t : Int)) (by kernel_rfl) (yl_load (b := r2) (off := 0) 1 rfl (by kernel_rfl) rfl (by kernel_rfl)) ?_
          refine wl_yl (d := 106) (v := .int .i64 (f : Int)) (by kernel_rfl) (yl_load (b := r1) (off := 0) 2 rfl (by kernel_rfl) rfl (by kernel_rfl)) ?_
          refine wl_yl (d := 107) (v := .int .i64 ((f : Int) + 1)) (by kernel_rfl) (yl_int (t := (f : Int) + 1) (r := (f : Int) + 1) (by kernel_rfl) (i64w (by omega) (by omega))) ?_
          refine wl_yl (d := 108) (v := .int .i64 (q : Int)) (by kernel_rfl) (yl_val (v := .int .i64 (Int.tmod ((f : Int) + 1) 7)) (by kernel_rfl) (by rw [hqd]; rfl)) ?_
          refine wl_go 1 [(109, .bool ((t : Int) == (q : Int)))] (by kernel_rfl) ?_
          rw [htq]
          refine wl_go 5 [(114, .bool true), (113, .bool true), (112, .bool true), (111, undef), (110, .bool true)] (by kernel_rfl) ?_
          refine wl_yl (d := 115) (v := .pointer (some ⟨b, 0, none⟩)) (by kernel_rfl) (yl_load (b := r3) (off := 0) 0 rfl (by kernel_rfl) rfl (by kernel_rfl)) ?_
          refine wl_callS (d := 116) (v := .int .i64 0) (by kernel_rfl) (by kernel_rfl) (fun w1 h1 => len_ok b _ A13 w1 (SH.part (SH.swap h1)) hn13) ?_
          refine wl_go 3 [(119, .bool true), (118, .bool true), (117, .bool true)] (by kernel_rfl) ?_
          refine wl_callB (X := Unit) (d := 120) (fun _ => .bool true) (fun wa y wz => Below wa.heap.size wa wz) (by kernel_rfl) (by kernel_rfl) (fun w1 h1 => (awake_ok w1).mono (fun e w' h => ⟨(), h⟩)) ?_
          rintro wa _ w30 h30 hb30
          refine wl_go 2 [(12, .bool true), (121, .bool true)] (by kernel_rfl) ?_
          refine nx_list ?_
          refine nx_then ?_
          refine nx_ret ?_
          refine ret_tmp (v := .bool true) rfl (by kernel_rfl) ?_
          intro w' hw'
          subst hw'
          have hcf := hc13.sh h30
          exact ⟨rfl, hcf.1.trans (hb30.mono hcf.1.size)⟩
        · skip
          have htq : ((t : Int) == (q : Int)) = false := by simp; omega
          obtain rfl : tw = true := htw.trans (hoth hqt)
          refine wl_go 9 [(104, .bool true), (103, .bool true), (102, .bool false), (101, undef), (100, undef), (99, .bool false), (98, .bool false), (97, .bool true), (96, .bool false)] (by kernel_rfl) ?_
          refine wl_yl (d := 105) (v := .int .i64 (t : Int)) (by kernel_rfl) (yl_load (b := r2) (off := 0) 1 rfl (by kernel_rfl) rfl (by kernel_rfl)) ?_
          refine wl_yl (d := 106) (v := .int .i64 (f : Int)) (by kernel_rfl) (yl_load (b := r1) (off := 0) 2 rfl (by kernel_rfl) rfl (by kernel_rfl)) ?_
          refine wl_yl (d := 107) (v := .int .i64 ((f : Int) + 1)) (by kernel_rfl) (yl_int (t := (f : Int) + 1) (r := (f : Int) + 1) (by kernel_rfl) (i64w (by omega) (by omega))) ?_
          refine wl_yl (d := 108) (v := .int .i64 (q : Int)) (by kernel_rfl) (yl_val (v := .int .i64 (Int.tmod ((f : Int) + 1) 7)) (by kernel_rfl) (by rw [hqd]; rfl)) ?_
          refine wl_go 1 [(109, .bool ((t : Int) == (q : Int)))] (by kernel_rfl) ?_
          rw [htq]
          refine wl_go 5 [(114, .bool true), (113, .bool true), (112, .bool true), (111, .bool true), (110, .bool false)] (by kernel_rfl) ?_
          refine wl_yl (d := 115) (v := .pointer (some ⟨b, 0, none⟩)) (by kernel_rfl) (yl_load (b := r3) (off := 0) 0 rfl (by kernel_rfl) rfl (by kernel_rfl)) ?_
          refine wl_callS (d := 116) (v := .int .i64 0) (by kernel_rfl) (by kernel_rfl) (fun w1 h1 => len_ok b _ A13 w1 (SH.part (SH.swap h1)) hn13) ?_
          refine wl_go 3 [(119, .bool true), (118, .bool true), (117, .bool true)] (by kernel_rfl) ?_
          refine wl_callB (X := Unit) (d := 120) (fun _ => .bool true) (fun wa y wz => Below wa.heap.size wa wz) (by kernel_rfl) (by kernel_rfl) (fun w1 h1 => (awake_ok w1).mono (fun e w' h => ⟨(), h⟩)) ?_
          rintro wa _ w30 h30 hb30
          refine wl_go 2 [(12, .bool true), (121, .bool true)] (by kernel_rfl) ?_
          refine nx_list ?_
          refine nx_then ?_
          refine nx_ret ?_
          refine ret_tmp (v := .bool true) rfl (by kernel_rfl) ?_
          intro w' hw'
          subst hw'
          have hcf := hc13.sh h30
          exact ⟨rfl, hcf.1.trans (hb30.mono hcf.1.size)⟩
      · by_cases hqt : q = t
        · skip
          have htq : ((t : Int) == (q : Int)) = true := by simp; omega
          refine wl_go 9 [(104, .bool true), (103, .bool true), (102, .bool false), (101, undef), (100, undef), (99, .bool false), (98, .bool false), (97, .bool true), (96, .bool false)] (by kernel_rfl) ?_
          refine wl_yl (d := 105) (v := .int .i64 (t : Int)) (by kernel_rfl) (yl_load (b := r2) (off := 0) 1 rfl (by kernel_rfl) rfl (by kernel_rfl)) ?_
          refine wl_yl (d := 106) (v := .int .i64 (f : Int)) (by kernel_rfl) (yl_load (b := r1) (off := 0) 2 rfl (by kernel_rfl) rfl (by kernel_rfl)) ?_
          refine wl_yl (d := 107) (v := .int .i64 ((f : Int) + 1)) (by kernel_rfl) (yl_int (t := (f : Int) + 1) (r := (f : Int) + 1) (by kernel_rfl) (i64w (by omega) (by omega))) ?_
          refine wl_yl (d := 108) (v := .int .i64 (q : Int)) (by kernel_rfl) (yl_val (v := .int .i64 (Int.tmod ((f : Int) + 1) 7)) (by kernel_rfl) (by rw [hqd]; rfl)) ?_
          refine wl_go 1 [(109, .bool ((t : Int) == (q : Int)))] (by kernel_rfl) ?_
          rw [htq]
          refine wl_go 5 [(114, .bool true), (113, .bool true), (112, .bool true), (111, undef), (110, .bool true)] (by kernel_rfl) ?_
          refine wl_yl (d := 115) (v := .pointer (some ⟨b, 0, none⟩)) (by kernel_rfl) (yl_load (b := r3) (off := 0) 0 rfl (by kernel_rfl) rfl (by kernel_rfl)) ?_
          refine wl_callS (d := 116) (v := .int .i64 0) (by kernel_rfl) (by kernel_rfl) (fun w1 h1 => len_ok b _ A13 w1 (SH.part (SH.swap h1)) hn13) ?_
          refine wl_go 3 [(119, .bool true), (118, .bool true), (117, .bool true)] (by kernel_rfl) ?_
          refine wl_callB (X := Unit) (d := 120) (fun _ => .bool true) (fun wa y wz => Below wa.heap.size wa wz) (by kernel_rfl) (by kernel_rfl) (fun w1 h1 => (awake_ok w1).mono (fun e w' h => ⟨(), h⟩)) ?_
          rintro wa _ w30 h30 hb30
          refine wl_go 2 [(12, .bool true), (121, .bool true)] (by kernel_rfl) ?_
          refine nx_list ?_
          refine nx_then ?_
          refine nx_ret ?_
          refine ret_tmp (v := .bool true) rfl (by kernel_rfl) ?_
          intro w' hw'
          subst hw'
          have hcf := hc13.sh h30
          exact ⟨rfl, hcf.1.trans (hb30.mono hcf.1.size)⟩
        · skip
          have htq : ((t : Int) == (q : Int)) = false := by simp; omega
          obtain rfl : tw = true := htw.trans (hoth hqt)
          refine wl_go 9 [(104, .bool true), (103, .bool true), (102, .bool false), (101, undef), (100, undef), (99, .bool false), (98, .bool false), (97, .bool true), (96, .bool false)] (by kernel_rfl) ?_
          refine wl_yl (d := 105) (v := .int .i64 (t : Int)) (by kernel_rfl) (yl_load (b := r2) (off := 0) 1 rfl (by kernel_rfl) rfl (by kernel_rfl)) ?_
          refine wl_yl (d := 106) (v := .int .i64 (f : Int)) (by kernel_rfl) (yl_load (b := r1) (off := 0) 2 rfl (by kernel_rfl) rfl (by kernel_rfl)) ?_
          refine wl_yl (d := 107) (v := .int .i64 ((f : Int) + 1)) (by kernel_rfl) (yl_int (t := (f : Int) + 1) (r := (f : Int) + 1) (by kernel_rfl) (i64w (by omega) (by omega))) ?_
          refine wl_yl (d := 108) (v := .int .i64 (q : Int)) (by kernel_rfl) (yl_val (v := .int .i64 (Int.tmod ((f : Int) + 1) 7)) (by kernel_rfl) (by rw [hqd]; rfl)) ?_
          refine wl_go 1 [(109, .bool ((t : Int) == (q : Int)))] (by kernel_rfl) ?_
          rw [htq]
          refine wl_go 5 [(114, .bool true), (113, .bool true), (112, .bool true), (111, .bool true), (110, .bool false)] (by kernel_rfl) ?_
          refine wl_yl (d := 115) (v := .pointer (some ⟨b, 0, none⟩)) (by kernel_rfl) (yl_load (b := r3) (off := 0) 0 rfl (by kernel_rfl) rfl (by kernel_rfl)) ?_
          refine wl_callS (d := 116) (v := .int .i64 0) (by kernel_rfl) (by kernel_rfl) (fun w1 h1 => len_ok b _ A13 w1 (SH.part (SH.swap h1)) hn13) ?_
          refine wl_go 3 [(119, .bool true), (118, .bool true), (117, .bool true)] (by kernel_rfl) ?_
          refine wl_callB (X := Unit) (d := 120) (fun _ => .bool true) (fun wa y wz => Below wa.heap.size wa wz) (by kernel_rfl) (by kernel_rfl) (fun w1 h1 => (awake_ok w1).mono (fun e w' h => ⟨(), h⟩)) ?_
          rintro wa _ w30 h30 hb30
          refine wl_go 2 [(12, .bool true), (121, .bool true)] (by kernel_rfl) ?_
          refine nx_list ?_
          refine nx_then ?_
          refine nx_ret ?_
          refine ret_tmp (v := .bool true) rfl (by kernel_rfl) ?_
          intro w' hw'
          subst hw'
          have hcf := hc13.sh h30
          exact ⟨rfl, hcf.1.trans (hb30.mono hcf.1.size)⟩

end Go.Proofs.Ytidkaipijocjcaa
