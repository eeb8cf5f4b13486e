/- The walk of the law NetLent, printed by a program of this repository (gen). -/
import Derived.Test.YtidkaipijocjcaaNetAwake
namespace Go.Proofs.Ytidkaipijocjcaa
open Go.RowKit Go.Sx
set_option linter.unusedVariables false
set_option linter.unusedSimpArgs false

def zD : K → D
  | .int => .int 0
  | .bool => .bool false
  | .str => .str ByteArray.empty
  | .sl _ => .sl []
def zV : D → Value
  | .int n => .int .i64 n
  | .bool b => .bool b
  | .str s => .string s
  | .sl _ => .slice none 0 0
/-- an entry that holds a stamp and a write of nothing -/
def eD (n : Int) : List D := .int 0 :: .int n :: .str ByteArray.empty :: .int 0 :: .int 1 :: shWrite.tail.map zD
def eC (n : Int) : Array Value := ((eD n).map zV).toArray
def wC : Array Value := ((.int 1 :: shWrite.tail.map zD).map zV).toArray

theorem rdl_z {S : Nat → Prop} {w : World} : ∀ (ks : List K), RdL S w (ks.map zD) ((ks.map zD).map zV)
  | [] => trivial
  | k :: ks => ⟨by cases k <;> simp [zD, zV, Rd], rdl_z ks⟩
theorem fitl_z : ∀ (ks : List K), FitL sh by_ (ks.map zD) ks
  | [] => by simp [FitL]
  | k :: ks => by
    rw [List.map_cons, FitL]
    exact ⟨k, ks, rfl, by cases k <;> simp [zD, Fit, FitR], fitl_z ks⟩
theorem rdl_e {S : Nat → Prop} {w : World} (n : Int) : RdL S w (eD n) ((eD n).map zV) :=
  ⟨by simp [zV, Rd], by simp [zV, Rd], by simp [zV, Rd], by simp [zV, Rd], by simp [zV, Rd], rdl_z _⟩
theorem fit_e (n : Int) (h1 : -9223372036854775808 ≤ n) (h2 : n ≤ 9223372036854775807) : FitR sh by_ [eD n] (sh 13) := by
  rw [FitR]
  refine ⟨?_, by rw [FitR]; trivial⟩
  have hz : ByteArray.empty.size ≤ 140737488355328 := by decide
  have h5 : FitL sh by_ (.int 1 :: shWrite.tail.map zD) shWrite := by
    rw [FitL]
    exact ⟨.int, shWrite.tail, rfl, by simp [Fit], fitl_z _⟩
  have h4 : FitL sh by_ (.int 0 :: .int 1 :: shWrite.tail.map zD) (.int :: shWrite) := by
    rw [FitL]
    exact ⟨.int, _, rfl, by simp [Fit], h5⟩
  have h3 : FitL sh by_ (.str ByteArray.empty :: .int 0 :: .int 1 :: shWrite.tail.map zD) (.str :: .int :: shWrite) := by
    rw [FitL]
    exact ⟨.str, _, rfl, by rw [Fit]; exact ⟨rfl, hz⟩, h4⟩
  have h2' : FitL sh by_ (.int n :: .str ByteArray.empty :: .int 0 :: .int 1 :: shWrite.tail.map zD) (.int :: .str :: .int :: shWrite) := by
    rw [FitL]
    exact ⟨.int, _, rfl, by rw [Fit]; exact ⟨rfl, h1, h2⟩, h3⟩
  show FitL sh by_ (eD n) _
  rw [eD, FitL]
  exact ⟨.int, _, rfl, by simp [Fit], h2'⟩

theorem Tr.ge {w w' : World} {A A' : List Blk} (h : Tr w A w' A') {B : Nat} (hA : ∀ x ∈ A, B ≤ x.b) (hB : B ≤ w.heap.size) : ∀ x ∈ A', B ≤ x.b := fun x hx => by
  rcases h.new hx with h1 | ⟨y, hy, he⟩
  · omega
  · rw [← he]; exact hA y hy

/-- a block that was laid beside the known ones reads as an entry -/
theorem rd_e {wb w : World} {r : Nat} {L : List Blk} {n : Int} {t : TypeId} (h : SH wb (⟨r, eC n, t⟩ :: L) w) : Rd (Im w L) w (.sl [eD n]) (.slice (some ⟨r, 0, none⟩) 1 1) := by
  have hr : r < w.heap.size := h.lt (x := ⟨r, eC n, t⟩) (by simp)
  rw [Rd]
  refine ⟨_, _, rfl, .inr ⟨r, 0, rfl, ⟨hr, fun x hx he => ?_⟩, hr, RdRows.mk (vs := [(eD n).map zV]) ⟨rdl_e n, trivial⟩ (fun j v hj => ?_)⟩⟩
  · obtain ⟨i, hi⟩ := List.getElem?_of_mem hx
    have := h.dis (i + 1) 0 x ⟨r, eC n, t⟩ (by simpa using hi) rfl he
    omega
  · rw [Nat.zero_add, h.cell 0 (b := r) (c := eC n) (t := t) rfl j]
    simpa [eC] using hj
theorem rd_stamp {S : Nat → Prop} {w : World} {n : Int} {v : Value} (h : Rd S w (.sl [eD n]) v) : ∃ q qo c, v = .slice (some ⟨q, qo, none⟩) 1 c ∧ S q ∧ q < w.heap.size ∧ w.cell? ⟨q, qo + 1, none⟩ = some (.int .i64 n) := by
  rw [Rd] at h
  obtain ⟨a, c, rfl, h⟩ := h
  rcases h with h | ⟨g, off, rfl, hS, hg, h⟩
  · cases h
  · rw [RdRows] at h
    have h1 := h.1
    rw [eD, RdCells] at h1
    have h2 := h1.2
    rw [RdCells] at h2
    obtain ⟨v, hv, hr⟩ := h2.1
    rw [Rd] at hr
    subst hr
    exact ⟨g, off, c, rfl, hS, hg, hv⟩

theorem netLent_walk (a0 : Int) (hl1 : -9223372036854775808 ≤ a0) (hl2 : a0 ≤ 9223372036854775807) (w : World) : Calls Try.prog 3 #[.int .i64 a0] w fun e w' => e = .returned (.bool true) ∧ Below w.heap.size w w' := by
  have hself : (a0 == a0) = true := by simp
  refine Sx.enter (l := [.int .i64 a0]) Try.func3 rfl (n := 56) rfl (by simp) ?_
  refine wc_seq ?_
  refine wc_region ?_
  refine wl_go 1 [(2, .bool false)] (by kernel_rfl) ?_
  refine nx_list ?_
  refine nx_then ?_
  refine wc_seq ?_
  refine wc_region ?_
  refine wl_callB (X := Nat × List Blk) (d := 8) (fun x => .tuple #[.pointer (some ⟨x.1, 0, none⟩), .int .i64 0]) (fun wa y wz => IsNet y.1 ⟨2, 1, 0, fun _ => false, []⟩ y.2 ∧ SH wz y.2 wz ∧ Tr wa [] wz y.2 ∧ wa.heap.size ≤ y.1) (by kernel_rfl) (by kernel_rfl) (fun w1 h1 => (new_ok 2 1 w1 (by decide) (by decide) (by decide) (by decide)).mono (fun e w' ⟨b, A, he, h⟩ => ⟨(b, A), he, h⟩)) ?_
  rintro w1 ⟨b, A0⟩ w2 h1 ⟨hn0, hs0, ht0, hb0⟩
  obtain rfl := h1.symm
  refine wl_go 5 [(4, .int .i64 0), (3, .pointer (some ⟨b, 0, none⟩)), (10, .int .i64 0), (9, .pointer (some ⟨b, 0, none⟩)), (7, .tuple #[.pointer (some ⟨b, 0, none⟩), .int .i64 0])] (by kernel_rfl) ?_
  refine nx_list ?_
  refine nx_then ?_
  refine wc_seq ?_
  refine wc_region ?_
  refine wl_go 3 [(13, .agg (eC a0)), (12, .agg wC), (11, .int .i64 a0)] (by kernel_rfl) ?_
  refine wl_eq (S := SH w2 A0) hs0 ?_
  refine wl_new (d := 14) (eC a0) 55 (fun r => .slice (some ⟨r, 0, none⟩) 1 1) (by kernel_rfl) (fun r => by kernel_rfl) ?_
  intro r1 hr1
  refine wl_go 1 [(5, .slice (some ⟨r1, 0, none⟩) 1 1)] (by kernel_rfl) ?_
  refine nx_list ?_
  refine nx_then ?_
  refine wc_seq ?_
  refine wc_seq ?_
  refine wc_region ?_
  refine wl_go 6 [(20, .agg #[.int .i64 0, .int .i64 1, .int .i64 0, .int .i64 0, .int .i64 0, .int .i64 0, .int .i64 0, .slice (some ⟨r1, 0, none⟩) 1 1, .bool false]), (19, .slice (some ⟨r1, 0, none⟩) 1 1), (18, .pointer (some ⟨b, 0, none⟩)), (17, .bool false), (16, .bool false), (15, .int .i64 0)] (by kernel_rfl) ?_
  refine wl_callB (X := List Blk × Value) (d := 21) (fun _ => .int .i64 0) (fun wa y wz => IsNet b ⟨2, 1, 0, fun _ => false, [(1, ⟨0, 1, 0, 0, 0, 0, 0, y.2, false⟩)]⟩ y.1 ∧ SH wz y.1 wz ∧ Tr wa A0 wz y.1 ∧ Rd (Nw wa.heap.size wz y.1) wz (.sl [eD a0]) y.2) (by kernel_rfl) (by kernel_rfl) (fun w1 h1 => (send_yes b _ A0 0 1 0 0 0 0 0 (.slice (some ⟨r1, 0, none⟩) 1 1) false [eD a0] w1 (SH.drop1 h1) hn0 (by kernel_rfl) (by decide) (by decide) rfl (rd_e h1) (fit_e a0 hl1 hl2) (by simp) (by decide) (by decide) (by decide) (by decide) (by decide)).mono (fun e w' ⟨A', en, he, h⟩ => ⟨(A', en), he, h⟩)) ?_
  rintro w3 ⟨A1, en⟩ w4 h3 ⟨hn1, hs1, ht1, hen⟩
  obtain ⟨q, qo, ec, rfl, hq, hql, hqr⟩ := rd_stamp hen
  have hf := SH.frame (A := A0) (L := [⟨r1, eC a0, 55⟩]) (SH.swap (A := [⟨r1, eC a0, 55⟩]) (R := A0) h3) hs1 ht1
  have hfs := SH.swap hf.1
  have hr3 : r1 < w3.heap.size := h3.lt (x := ⟨r1, eC a0, 55⟩) (by simp)
  refine wl_go 2 [(23, .bool false), (22, .bool false)] (by kernel_rfl) ?_
  refine nx_list ?_
  refine nx_then ?_
  refine wc_cond false (by kernel_rfl) (by kernel_rfl) (fun h => by cases h) (fun _ => ?_)
  refine nx_skip ?_
  refine nx_then ?_
  refine wc_seq ?_
  refine wc_region ?_
  refine wl_eq (S := SH w4 ([⟨r1, eC a0, 55⟩] ++ A1)) hfs ?_
  refine wl_go 5 [(28, .pointer (some ⟨r1, 1, none⟩)), (27, .pointer (some ⟨r1, 0, none⟩)), (26, .int .i64 (IntKind.i64.wrap (a0 + 1))), (25, .int .i64 a0), (24, .slice (some ⟨r1, 0, none⟩) 1 1)] (by kernel_rfl) ?_
  refine wl_store (b := r1) (off := 1) (v := .int .i64 (IntKind.i64.wrap (a0 + 1))) (c' := eC (IntKind.i64.wrap (a0 + 1))) (L' := ([⟨r1, eC (IntKind.i64.wrap (a0 + 1)), 55⟩] ++ A1)) 0 (by kernel_rfl) rfl (by kernel_rfl) (by kernel_rfl) rfl (by kernel_rfl) rfl ?_
  refine nx_list ?_
  refine nx_then ?_
  refine wc_seq ?_
  refine wc_region ?_
  refine wl_go 1 [(29, .pointer (some ⟨b, 0, none⟩))] (by kernel_rfl) ?_
  refine wl_callB (X := Value × List Blk) (d := 30) (fun x => x.1) (fun wa y wz => Tr wa A1 wz y.2 ∧ RowV wz y.2 0 y.1 [[.int .i64 0, .int .i64 1, .int .i64 0, .int .i64 0, .int .i64 0, .int .i64 0, .int .i64 0, .slice (some ⟨q, qo, none⟩) 1 ec, .bool false]]) (by kernel_rfl) (by kernel_rfl) (fun w1 h1 => (tick_ok b _ A1 w1 (SH.drop1 h1) hn1 (by intro p hp; simp only [List.mem_singleton] at hp; subst hp; exact ⟨0, 1, some ⟨q, qo, none⟩, 1, ec, by decide, by decide, rfl, rfl, rfl⟩) (by simp) (by simp) (by simp)).mono (fun e w' ⟨v, A', he, h⟩ => ⟨(v, A'), he, h.2.2⟩)) ?_
  rintro w5 ⟨v, A2⟩ w6 h5 ⟨ht2, hv⟩
  obtain ⟨av, cv, rfl, hrow⟩ := hv
  obtain ⟨g, rfl, hrg⟩ : ∃ g, av = some ⟨g, 0, none⟩ ∧ w6.rangeAt g 0 [.int .i64 0, .int .i64 1, .int .i64 0, .int .i64 0, .int .i64 0, .int .i64 0, .int .i64 0, .slice (some ⟨q, qo, none⟩) 1 ec, .bool false] := by
    rcases hrow with h | ⟨g, ha, _, _, hr⟩
    · cases h
    · exact ⟨g, ha, hr⟩
  have hq5 : Im w4 ([⟨r1, eC (IntKind.i64.wrap (a0 + 1)), 55⟩] ++ A1) q := ⟨hql, fun x hx => by
    rcases List.mem_cons.1 hx with rfl | hx
    · show r1 ≠ q
      have := hq.1; omega
    · exact hq.2.2 x hx⟩
  have hqc : w6.cell? ⟨q, qo + 1, none⟩ = some (.int .i64 a0) := by
    rw [World.cell?_of_block (w := w5) (w' := w6) (a := ⟨q, qo + 1, none⟩) (ht2.same q ⟨Nat.lt_of_lt_of_le hql h5.size, hq.2.2⟩), SH.cellIm h5 hq5]
    exact hqr
  refine wl_go 1 [(6, .slice (some ⟨g, 0, none⟩) 1 cv)] (by kernel_rfl) ?_
  refine nx_list ?_
  refine nx_then ?_
  refine wc_seq ?_
  refine wc_region ?_
  refine wl_go 7 [(37, .pointer (some ⟨g, 7, none⟩)), (36, .pointer (some ⟨g, 0, none⟩)), (35, .slice (some ⟨g, 0, none⟩) 1 cv), (34, .bool true), (33, .bool true), (32, .int .i64 1), (31, .slice (some ⟨g, 0, none⟩) 1 cv)] (by kernel_rfl) ?_
  refine wl_yl (d := 38) (v := .slice (some ⟨q, qo, none⟩) 1 ec) (by kernel_rfl) (yl_cell (a := ⟨g, 7, none⟩) rfl (by kernel_rfl) (by kernel_rfl) (by have := hrg 7 _ rfl; simpa using this)) ?_
  refine wl_go 7 [(45, .pointer (some ⟨g, 7, none⟩)), (44, .pointer (some ⟨g, 0, none⟩)), (43, .slice (some ⟨g, 0, none⟩) 1 cv), (42, .bool true), (41, .bool true), (40, .bool true), (39, .int .i64 1)] (by kernel_rfl) ?_
  refine wl_yl (d := 46) (v := .slice (some ⟨q, qo, none⟩) 1 ec) (by kernel_rfl) (yl_cell (a := ⟨g, 7, none⟩) rfl (by kernel_rfl) (by kernel_rfl) (by have := hrg 7 _ rfl; simpa using this)) ?_
  refine wl_go 2 [(48, .pointer (some ⟨q, qo + 1, none⟩)), (47, .pointer (some ⟨q, qo, none⟩))] (by kernel_rfl) ?_
  refine wl_yl (d := 49) (v := .int .i64 a0) (by kernel_rfl) (yl_cell (a := ⟨q, qo + 1, none⟩) rfl (by kernel_rfl) (by kernel_rfl) hqc) ?_
  refine wl_go 2 [(51, .bool (a0 == a0)), (50, .int .i64 a0)] (by kernel_rfl) ?_
  rw [hself]
  refine wl_go 2 [(53, .bool true), (52, .bool true)] (by kernel_rfl) ?_
  refine wl_callB (X := Unit) (d := 54) (fun _ => .bool true) (fun wa y wz => Below wa.heap.size wa wz) (by kernel_rfl) (by kernel_rfl) (fun w1 h1 => (awake_ok w1).mono (fun e w' h => ⟨(), h⟩)) ?_
  rintro w7 _ w8 h7 hb8
  obtain rfl := h7.symm
  refine wl_go 2 [(2, .bool true), (55, .bool true)] (by kernel_rfl) ?_
  refine nx_list ?_
  refine nx_then ?_
  refine nx_ret ?_
  refine ret_tmp (v := .bool true) rfl (by kernel_rfl) ?_
  intro w' hw'
  subst hw'
  have g0 : ∀ x ∈ A0, w.heap.size ≤ x.b := Tr.ge ht0 (by simp) (Nat.le_refl _)
  have z1 := ht0.size
  have z2 := hf.2.size
  have z5 := h5.size
  have z6 := ht2.size
  have g1 : ∀ x ∈ A1, w.heap.size ≤ x.b := Tr.ge ht1 g0 (Nat.le_trans z1 h3.size)
  have b1 : Below w.heap.size w w2 := ht0.below (Nat.le_refl _) (by simp)
  have b2 : Below w.heap.size w2 w4 := hf.2.below z1 (fun x hx => by
    rcases List.mem_append.1 hx with hx | hx
    · exact g0 x hx
    · rw [List.mem_singleton] at hx
      subst hx
      exact Nat.le_trans z1 hr1)
  have b3 : Below w.heap.size w4 w5 := (SH.trHere h5).below (by omega) (fun x hx => by
    rcases List.mem_cons.1 hx with rfl | hx
    · exact Nat.le_trans z1 hr1
    · exact g1 x hx)
  have b4 : Below w.heap.size w5 w6 := ht2.below (by omega) g1
  exact ⟨rfl, (((b1.trans b2).trans b3).trans b4).trans (hb8.mono (by omega))⟩

end Go.Proofs.Ytidkaipijocjcaa
