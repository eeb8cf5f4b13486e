/- Contracts of functions, printed by a program of this repository (gen). -/
import Derived.Test.YtidkaipijocjcaaNetFns
namespace Go.Proofs.Ytidkaipijocjcaa
open Go.RowKit Go.Sx
set_option linter.unusedVariables false
set_option linter.unusedSimpArgs false

theorem yl_cell {P : Program} {e : Env} {o : Oper} {T : TypeId} {x : Operand} {a : Addr} {v : Value} {w : World} (ho : o.op = .load T x) (hx : rho e x = .pointer (some a)) (hk : kindOf P T = some none) (hv : w.cell? a = some v) : Yl P (· = w) e o v := fun w' h => by
  subst h
  unfold execOp
  simp only [ho, hx, Instr.loadAt, Instr.sureAddr, Sem.run_bind, Sem.run_pure, Result.andThen_ok, run_load_one w' T a v hk hv]

theorem rd_nil (S : Nat → Prop) (w : World) : Rd S w (.sl []) (.slice none 0 0) := by rw [Rd]; exact ⟨none, 0, rfl, .inl rfl⟩
theorem fitR_nil (ks : List K) : FitR sh by_ [] ks := by rw [FitR]; trivial

/-- a link that was cut -/
def C1 : Nat → Bool := upd (upd (fun _ => false) 15 true) 9 true
def C2 : Nat → Bool := upd (upd C1 9 false) 15 false

theorem awake_ok (w : World) : Calls Try.prog 11 #[] w fun e w' => e = .returned (.bool true) ∧ Below w.heap.size w w' := by
  refine Sx.enter (l := []) Try.func11 rfl (n := 109) rfl (by simp) ?_
  refine wc_seq ?_
  refine wc_region ?_
  refine wl_go 1 [(0, .bool false)] (by kernel_rfl) ?_
  refine nx_list ?_
  refine nx_then ?_
  refine wc_seq ?_
  refine wc_region ?_
  refine wl_callB (X := Nat × List Blk) (d := 10) (fun x => .tuple #[.pointer (some ⟨x.1, 0, none⟩), .int .i64 0]) (fun wa y wz => IsNet y.1 ⟨3, 2, 0, fun _ => false, []⟩ y.2 ∧ SH wz y.2 wz ∧ Tr wa [] wz y.2 ∧ wa.heap.size ≤ y.1) (by kernel_rfl) (by kernel_rfl) (fun w1 h1 => (new_ok 3 2 w1 (by decide) (by decide) (by decide) (by decide)).mono (fun e w' ⟨b, A, he, h⟩ => ⟨(b, A), he, h⟩)) ?_
  rintro w1 ⟨b, A0⟩ w2 h1 ⟨hn0, hs0, ht0, hb0⟩
  obtain rfl := h1.symm
  refine wl_go 5 [(2, .int .i64 0), (1, .pointer (some ⟨b, 0, none⟩)), (12, .int .i64 0), (11, .pointer (some ⟨b, 0, none⟩)), (9, .tuple #[.pointer (some ⟨b, 0, none⟩), .int .i64 0])] (by kernel_rfl) ?_
  refine nx_list ?_
  refine nx_then ?_
  refine wc_seq ?_
  refine wc_region ?_
  refine wl_callS (d := 14) (v := .tuple #[.pointer none, .int .i64 1]) (by kernel_rfl) (by kernel_rfl) (fun w1 h1 => by subst h1; exact new_no 8 1 _ (by decide)) ?_
  refine wl_go 5 [(4, .int .i64 1), (3, .pointer none), (16, .int .i64 1), (15, .pointer none), (13, .tuple #[.pointer none, .int .i64 1])] (by kernel_rfl) ?_
  refine nx_list ?_
  refine nx_then ?_
  refine wc_seq ?_
  refine wc_seq ?_
  refine wc_region ?_
  refine wl_go 13 [(29, .agg #[.int .i64 1, .int .i64 1, .int .i64 0, .int .i64 0, .int .i64 0, .int .i64 0, .int .i64 0, .slice none 0 0, .bool false]), (28, .pointer (some ⟨b, 0, none⟩)), (27, .bool false), (26, .bool false), (25, .bool false), (24, .pointer (some ⟨b, 0, none⟩)), (23, .bool false), (22, .bool false), (21, .bool false), (20, .int .i64 1), (19, .bool false), (18, .bool false), (17, .int .i64 0)] (by kernel_rfl) ?_
  refine wl_callB (X := List Blk) (d := 30) (fun _ => .int .i64 1) (fun wa y wz => IsNet b ⟨3, 2, 0, fun _ => false, []⟩ y ∧ SH wz y wz ∧ Tr wa A0 wz y) (by kernel_rfl) (by kernel_rfl) (fun w1 h1 => by subst h1; exact (send_no b _ A0 1 1 0 0 0 0 0 (.slice none 0 0) false _ hs0 hn0 (by kernel_rfl)).mono (fun e w' h => ⟨A0, h.1, hn0, h.2⟩)) ?_
  rintro w1 A1 wx1 rfl ⟨hn1, hs1, ht⟩
  have ht1 := ht0.trans ht
  refine wl_go 5 [(35, .agg #[.int .i64 0, .int .i64 1, .int .i64 0, .int .i64 7, .int .i64 0, .int .i64 0, .int .i64 0, .slice none 0 0, .bool false]), (34, .pointer (some ⟨b, 0, none⟩)), (33, .bool false), (32, .bool false), (31, .bool false)] (by kernel_rfl) ?_
  refine wl_callB (X := List Blk × Value) (d := 36) (fun _ => .int .i64 0) (fun wa y wz => IsNet b ⟨3, 2, 0, fun _ => false, [(2, ⟨0, 1, 0, 7, 0, 0, 0, y.2, false⟩)]⟩ y.1 ∧ SH wz y.1 wz ∧ Tr wa A1 wz y.1 ∧ Rd (Nw wa.heap.size wz y.1) wz (.sl []) y.2) (by kernel_rfl) (by kernel_rfl) (fun w1 h1 => by subst h1; exact (send_yes b _ A1 0 1 0 7 0 0 0 (.slice none 0 0) false [] _ hs1 hn1 (by kernel_rfl) (by decide) (by decide) rfl (rd_nil _ _) (fitR_nil _) (by decide) (by decide) (by decide) (by decide) (by decide) (by decide)).mono (fun e w' ⟨A', en, he, h⟩ => ⟨(A', en), he, h⟩)) ?_
  rintro w1 ⟨A2, en⟩ wx2 rfl ⟨hn2, hs2, ht, hen⟩
  obtain ⟨ea, ec, rfl⟩ : ∃ a c, en = .slice a 0 c := Rd.slv hen
  have ht2 := ht1.trans ht
  refine wl_go 4 [(40, .pointer (some ⟨b, 0, none⟩)), (39, .bool false), (38, .bool false), (37, .bool false)] (by kernel_rfl) ?_
  refine wl_callB (X := List Blk) (d := 41) (fun _ => .int .i64 0) (fun wa y wz => IsNet b ⟨3, 2, 0, C1, [(2, ⟨0, 1, 0, 7, 0, 0, 0, .slice ea 0 ec, false⟩)]⟩ y ∧ SH wz y wz ∧ Tr wa A2 wz y) (by kernel_rfl) (by kernel_rfl) (fun w1 h1 => by subst h1; exact (cut_yes b _ A2 2 1 _ hs2 hn2 (by kernel_rfl) (by decide) (by decide)).mono (fun e w' ⟨A', he, h⟩ => ⟨A', he, h⟩)) ?_
  rintro w1 A3 wx3 rfl ⟨hn3, hs3, ht⟩
  have ht3 := ht2.trans ht
  refine wl_go 5 [(46, .agg #[.int .i64 1, .int .i64 2, .int .i64 0, .int .i64 0, .int .i64 0, .int .i64 0, .int .i64 0, .slice none 0 0, .bool false]), (45, .pointer (some ⟨b, 0, none⟩)), (44, .bool false), (43, .bool false), (42, .bool false)] (by kernel_rfl) ?_
  refine wl_callB (X := List Blk) (d := 47) (fun _ => .int .i64 0) (fun wa y wz => IsNet b ⟨3, 2, 0, C1, [(2, ⟨0, 1, 0, 7, 0, 0, 0, .slice ea 0 ec, false⟩)]⟩ y ∧ SH wz y wz ∧ Tr wa A3 wz y) (by kernel_rfl) (by kernel_rfl) (fun w1 h1 => by subst h1; exact (send_cut b _ A3 1 2 0 0 0 0 0 (.slice none 0 0) false _ hs3 hn3 (by kernel_rfl) (by decide) (by decide) rfl).mono (fun e w' h => ⟨A3, h.1, hn3, h.2⟩)) ?_
  rintro w1 A4 wx4 rfl ⟨hn4, hs4, ht⟩
  have ht4 := ht3.trans ht
  refine wl_go 2 [(49, .bool false), (48, .bool false)] (by kernel_rfl) ?_
  refine nx_list ?_
  refine nx_then ?_
  refine wc_cond false (by kernel_rfl) (by kernel_rfl) (fun h => by cases h) (fun _ => ?_)
  refine nx_skip ?_
  refine nx_then ?_
  refine wc_seq ?_
  refine wc_region ?_
  refine wl_go 1 [(50, .pointer (some ⟨b, 0, none⟩))] (by kernel_rfl) ?_
  refine wl_callB (X := Value × List Blk) (d := 51) (fun x => x.1) (fun wa y wz => IsNet b ⟨3, 2, 1, C1, [(2, ⟨0, 1, 0, 7, 0, 0, 0, .slice ea 0 ec, false⟩)]⟩ y.2 ∧ SH wz y.2 wz ∧ Tr wa A4 wz y.2 ∧ RowV wz y.2 0 y.1 []) (by kernel_rfl) (by kernel_rfl) (fun w1 h1 => by subst h1; exact (tick_ok b _ A4 _ hs4 hn4 (by intro p hp; simp only [List.mem_singleton] at hp; subst hp; exact ⟨0, 1, ea, 0, ec, by decide, by decide, rfl, rfl, rfl⟩) (by simp) (by simp) (by simp)).mono (fun e w' ⟨v, A', he, h⟩ => ⟨(v, A'), he, h⟩)) ?_
  rintro w1 ⟨va, A5⟩ wx5 rfl ⟨hn5, hs5, ht, hva⟩
  have ht5 := ht4.trans ht
  obtain ⟨aa, ca, rfl, hrowa⟩ := hva
  refine wl_go 1 [(52, .pointer (some ⟨b, 0, none⟩))] (by kernel_rfl) ?_
  refine wl_callS (d := 53) (v := .int .i64 1) (by kernel_rfl) (by kernel_rfl) (fun w1 h1 => by subst h1; exact len_ok b _ A5 _ hs5 hn5) ?_
  refine wl_go 2 [(6, .int .i64 1), (5, .slice aa 0 ca)] (by kernel_rfl) ?_
  refine nx_list ?_
  refine nx_then ?_
  refine wc_seq ?_
  refine wc_region ?_
  refine wl_go 1 [(54, .pointer (some ⟨b, 0, none⟩))] (by kernel_rfl) ?_
  refine wl_callB (X := Value × List Blk) (d := 55) (fun x => x.1) (fun wa y wz => IsNet b ⟨3, 2, 2, C1, []⟩ y.2 ∧ SH wz y.2 wz ∧ Tr wa A5 wz y.2 ∧ RowV wz y.2 0 y.1 [[.int .i64 0, .int .i64 1, .int .i64 0, .int .i64 7, .int .i64 0, .int .i64 0, .int .i64 0, .slice ea 0 ec, .bool false]]) (by kernel_rfl) (by kernel_rfl) (fun w1 h1 => by subst h1; exact (tick_ok b _ A5 _ hs5 hn5 (by intro p hp; simp only [List.mem_singleton] at hp; subst hp; exact ⟨0, 1, ea, 0, ec, by decide, by decide, rfl, rfl, rfl⟩) (by simp) (by simp) (by simp)).mono (fun e w' ⟨v, A', he, h⟩ => ⟨(v, A'), he, h⟩)) ?_
  rintro w1 ⟨vc, A6⟩ wx6 rfl ⟨hn6, hs6, ht, hvc⟩
  have ht6 := ht5.trans ht
  obtain ⟨ac, cc, rfl, hrowc⟩ := hvc
  obtain ⟨g, rfl, hrg⟩ : ∃ g, ac = some ⟨g, 0, none⟩ ∧ wx6.rangeAt g 0 [.int .i64 0, .int .i64 1, .int .i64 0, .int .i64 7, .int .i64 0, .int .i64 0, .int .i64 0, .slice ea 0 ec, .bool false] := by
    rcases hrowc with h | ⟨g, ha, _, _, hr⟩
    · cases h
    · exact ⟨g, ha, hr⟩
  refine wl_go 1 [(7, .slice (some ⟨g, 0, none⟩) 1 cc)] (by kernel_rfl) ?_
  refine nx_list ?_
  refine nx_then ?_
  refine wc_seq ?_
  refine wc_region ?_
  refine wl_go 1 [(8, .pointer none)] (by kernel_rfl) ?_
  refine nx_list ?_
  refine nx_then ?_
  refine wc_seq ?_
  refine wc_region ?_
  refine wl_go 16 [(71, .pointer (some ⟨g, 3, none⟩)), (70, .pointer (some ⟨g, 0, none⟩)), (69, .slice (some ⟨g, 0, none⟩) 1 cc), (68, .bool true), (67, .bool true), (66, .bool true), (65, .int .i64 1), (64, .slice (some ⟨g, 0, none⟩) 1 cc), (63, .bool true), (62, .bool true), (61, .bool true), (60, .int .i64 1), (59, .bool true), (58, .bool true), (57, .int .i64 0), (56, .slice aa 0 ca)] (by kernel_rfl) ?_
  refine wl_yl (d := 72) (v := .int .i64 7) (by kernel_rfl) (yl_cell (a := ⟨g, 3, none⟩) rfl (by kernel_rfl) (by kernel_rfl) (by have := hrg 3 _ rfl; simpa using this)) ?_
  refine wl_go 4 [(76, .pointer (some ⟨b, 0, none⟩)), (75, .bool true), (74, .bool true), (73, .bool true)] (by kernel_rfl) ?_
  refine wl_callS (d := 77) (v := .int .i64 0) (by kernel_rfl) (by kernel_rfl) (fun w1 h1 => by subst h1; exact len_ok b _ A6 _ hs6 hn6) ?_
  refine wl_go 4 [(81, .pointer (some ⟨b, 0, none⟩)), (80, .bool true), (79, .bool true), (78, .bool true)] (by kernel_rfl) ?_
  refine wl_callS (d := 82) (v := .bool true) (by kernel_rfl) (by kernel_rfl) (fun w1 h1 => by subst h1; exact up_yes b _ A6 0 1 _ hs6 hn6 (by kernel_rfl) (by decide) (by decide)) ?_
  refine wl_go 3 [(85, .pointer (some ⟨b, 0, none⟩)), (84, .bool true), (83, .bool true)] (by kernel_rfl) ?_
  refine wl_callS (d := 86) (v := .bool false) (by kernel_rfl) (by kernel_rfl) (fun w1 h1 => by subst h1; exact up_yes b _ A6 1 2 _ hs6 hn6 (by kernel_rfl) (by decide) (by decide)) ?_
  refine wl_go 4 [(90, .pointer (some ⟨b, 0, none⟩)), (89, .bool true), (88, .bool true), (87, .bool true)] (by kernel_rfl) ?_
  refine wl_callB (X := List Blk) (d := 91) (fun _ => .int .i64 0) (fun wa y wz => IsNet b ⟨3, 2, 2, C2, []⟩ y ∧ SH wz y wz ∧ Tr wa A6 wz y) (by kernel_rfl) (by kernel_rfl) (fun w1 h1 => by subst h1; exact (heal_yes b _ A6 1 2 _ hs6 hn6 (by kernel_rfl) (by decide) (by decide)).mono (fun e w' ⟨A', he, h⟩ => ⟨A', he, h⟩)) ?_
  rintro w1 A7 wx7 rfl ⟨hn7, hs7, ht⟩
  have ht7 := ht6.trans ht
  refine wl_go 4 [(95, .pointer (some ⟨b, 0, none⟩)), (94, .bool true), (93, .bool true), (92, .bool true)] (by kernel_rfl) ?_
  refine wl_callS (d := 96) (v := .bool true) (by kernel_rfl) (by kernel_rfl) (fun w1 h1 => by subst h1; exact up_yes b _ A7 2 1 _ hs7 hn7 (by kernel_rfl) (by decide) (by decide)) ?_
  refine wl_go 4 [(100, .agg #[.int .i64 0, .int .i64 0, .int .i64 0, .int .i64 0, .int .i64 0, .int .i64 0, .int .i64 0, .slice none 0 0, .bool false]), (99, .pointer none), (98, .bool true), (97, .bool true)] (by kernel_rfl) ?_
  refine wl_callB (X := Unit) (d := 101) (fun _ => .int .i64 3) (fun wa y wz => Below wa.heap.size wa wz) (by kernel_rfl) (by kernel_rfl) (fun w1 h1 => (send_nil 0 0 0 0 0 0 0 (.slice none 0 0) false w1).mono (fun e w' h => ⟨(), h⟩)) ?_
  rintro w1 _ w9 rfl hb9
  refine wl_go 4 [(105, .pointer none), (104, .bool true), (103, .bool true), (102, .bool true)] (by kernel_rfl) ?_
  refine wl_callS (d := 106) (v := .int .i64 0) (by kernel_rfl) (by kernel_rfl) (fun w1 h1 => by subst h1; exact len_nil _) ?_
  refine wl_go 3 [(0, .bool true), (108, .bool true), (107, .bool true)] (by kernel_rfl) ?_
  refine nx_list ?_
  refine nx_then ?_
  refine nx_ret ?_
  refine ret_tmp (v := .bool true) rfl (by kernel_rfl) ?_
  intro w' hw'
  subst hw'
  exact ⟨rfl, (Tr.below (B := w.heap.size) ht7 (Nat.le_refl _) (by simp)).trans (hb9.mono ht7.size)⟩

end Go.Proofs.Ytidkaipijocjcaa
