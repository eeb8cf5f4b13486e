/- Contracts of docstoreref46, the second part, printed by a program of this repository (gen/netref2.py). -/
import Derived.Test.YtidkaipijocjcaaNetRef
namespace Go.Proofs.Ytidkaipijocjcaa
open Go.RowKit Go.Sx
set_option linter.unusedVariables false
set_option linter.unusedSimpArgs false

structure Rk (w : World) (L0 B : List Blk) (E es m : Nat) (g : Nat → List (List D)) where
  i : Nat
  wb : World
  v : Value
  R : List Blk
  rc : List (List Value)
  hi : i ≤ m
  own : Own E es v rc.length rc.flatten R
  hrd : RdR (Im wb ((B ++ L0) ++ R)) wb (g i) rc
  htr : Tr w L0 wb ((B ++ L0) ++ R)
def Rk.next {w : World} {L0 B : List Blk} {E es m : Nat} {g : Nat → List (List D)} (x : Rk w L0 B E es m g) (hlt : x.i < m) {w' : World} {v : Value} {R : List Blk} {rc : List (List Value)} (own : Own E es v rc.length rc.flatten R) (hrd : RdR (Im w' ((B ++ L0) ++ R)) w' (g (x.i + 1)) rc) (htr : Tr w L0 w' ((B ++ L0) ++ R)) : Rk w L0 B E es m g :=
  ⟨x.i + 1, w', v, R, rc, hlt, own, hrd, htr⟩
def Rk.begin {w : World} {L0 B : List Blk} {E es m : Nat} {g : Nat → List (List D)} (h0 : g 0 = []) {w' : World} (h : Tr w L0 w' (B ++ L0)) : Rk w L0 B E es m g :=
  ⟨0, w', .slice none 0 0, [], [], Nat.zero_le _, Own.nil _ _, by rw [h0]; trivial, by rw [List.append_nil]; exact h⟩
theorem SH.addNil {wb w : World} {A : List Blk} (h : SH wb A w) : SH wb (A ++ []) w := by rw [List.append_nil]; exact h
theorem filter_one {α : Type} {f : α → Bool} {x : α} : [x].filter f = if f x = true then [x] else [] := by
  rw [List.filter_cons, List.filter_nil]
theorem wo_snoc {a c : Int} {l : List (Int × Int)} {p : Int × Int} : wo a c (l ++ [p]) = wo a c l ++ (if (!isK a c p) = true then [p] else []) := by
  rw [wo, List.filter_append, filter_one]; rfl
theorem clearD_snoc {mb : Int} {l : List (Int × List D)} {x : Int × List D} : clearD mb (l ++ [x]) = clearD mb l ++ (if ((frD x.2 != mb) && (toD x.2 != mb)) = true then [x] else []) := by
  rw [clearD, List.filter_append, filter_one]; rfl
theorem keepD_snoc {now : Int} {l : List (Int × List D)} {x : Int × List D} : keepD now (l ++ [x]) = keepD now l ++ (if decide (now < x.1) = true then [x] else []) := by
  rw [keepD, List.filter_append, filter_one]; rfl
def dlvR (n now : Int) (gl : List (Int × Int)) (xs : List (Int × List D)) : List (List D) := (xs.filter (fun x => !decide (now < x.1) && upR n gl (frD x.2) (toD x.2))).map (·.2)
theorem dlvR_snoc {n now : Int} {gl : List (Int × Int)} {l : List (Int × List D)} {x : Int × List D} : dlvR n now gl (l ++ [x]) = dlvR n now gl l ++ (if (!decide (now < x.1) && upR n gl (frD x.2) (toD x.2)) = true then [x.2] else []) := by
  rw [dlvR, List.filter_append, List.map_append]
  congr 1
  rw [List.filter_cons]
  split <;> rfl
theorem rowS_len {xs : List (Int × List D)} (h : FitR sh by_ (xs.map (·.2)) (sh 14)) : ∀ r ∈ xs.map rowS, r.length = 10 := fun r hr => by
  obtain ⟨x, hx, rfl⟩ := List.mem_map.1 hr
  have := h.length x.2 (List.mem_map.2 ⟨x, hx, rfl⟩)
  rw [rowS, List.length_cons, this]
  rfl
theorem row_open {S : Nat → Prop} {w : World} {x : Int × List D} {c : List Value} (h : RdL S w (rowS x) c) : ∃ cm, c = .int .i64 x.1 :: cm ∧ RdL S w x.2 cm := by
  obtain ⟨c0, z0, rfl, h0, h1⟩ := RdL.cons h
  rw [Rd] at h0
  subst h0
  exact ⟨z0, rfl, h1⟩
theorem RdR.snoc {S : Nat → Prop} {w : World} {a : List (List D)} {u : List (List Value)} {r : List D} {c : List Value} (h : RdR S w a u) (h' : RdL S w r c) : RdR S w (a ++ [r]) (u ++ [c]) := h.app ⟨h', trivial⟩
theorem rWithout_ok (n d now : Int) (wv : Value) (gl : List (Int × Int)) (ga : Option Addr) (gc : Nat) (a c : Int) (L0 : List Blk) (w : World) (hsh : SH w L0 w) (hg : Rd (Im w L0) w (.sl (gl.map gRow)) (.slice ga gl.length gc)) (hgl : gl.length ≤ 1000) : Calls Try.prog 39 #[.agg #[.int .i64 n, .int .i64 d, .int .i64 now, wv, .slice ga gl.length gc], .int .i64 a, .int .i64 c] w (fun e w' => ∃ v R rc, e = .returned v ∧ Own 108 2 v rc.length rc.flatten R ∧ RdR (Im w' (L0 ++ R)) w' ((wo a c gl).map gRow) rc ∧ SH w' (L0 ++ R) w' ∧ Tr w L0 w' (L0 ++ R)) := by
  refine Sx.enter (l := [.agg #[.int .i64 n, .int .i64 d, .int .i64 now, wv, .slice ga gl.length gc], .int .i64 a, .int .i64 c]) Try.func39 rfl (n := 38) rfl (by simp) ?_
  refine wc_eq (S := SH w (([] : List Blk) ++ L0)) hsh ?_
  have htr : Tr w L0 w (([] : List Blk) ++ L0) := Tr.refl w L0
  refine wc_seq ?_
  refine wc_region ?_
  refine wl_new (d := 3) #[.int .i64 n, .int .i64 d, .int .i64 now, wv, .slice ga gl.length gc] 79 (fun r => .pointer (some ⟨r, 0, none⟩)) (by kernel_rfl) (fun r => by kernel_rfl) ?_
  intro r1 hr1
  have htr := htr.more (c := #[.int .i64 n, .int .i64 d, .int .i64 now, wv, .slice ga gl.length gc]) (t := 79) hr1
  refine wl_go 1 [(6, .slice none 0 0)] (by kernel_rfl) ?_
  refine nx_list ?_
  refine nx_then ?_
  refine wc_seq ?_
  refine wc_region ?_
  refine wl_go 1 [(7, .slice none 0 0)] (by kernel_rfl) ?_
  refine nx_list ?_
  refine nx_then ?_
  refine wc_seq ?_
  refine wc_seq ?_
  refine wc_region ?_
  refine wl_go 1 [(8, .int .i64 0)] (by kernel_rfl) ?_
  refine nx_list ?_
  refine nx_then ?_
  refine wc_block ?_
  have htr := htr.congR (L0 := (([⟨r1, #[.int .i64 n, .int .i64 d, .int .i64 now, wv, .slice ga gl.length gc], 79⟩] : List Blk) ++ L0)) rfl
  refine wc_loop (σ := Rk w L0 [⟨r1, #[.int .i64 n, .int .i64 d, .int .i64 now, wv, .slice ga gl.length gc], 79⟩] 108 2 gl.length (fun i => (wo a c (gl.take i)).map gRow)) (fun x => [(1, .int .i64 a), (2, .int .i64 c), (3, .pointer (some ⟨r1, 0, none⟩)), (7, x.v), (8, .int .i64 (x.i : Int))]) (fun x => SH x.wb ((([⟨r1, #[.int .i64 n, .int .i64 d, .int .i64 now, wv, .slice ga gl.length gc], 79⟩] : List Blk) ++ L0) ++ x.R)) (fun x => gl.length - x.i) (fun w3 h3 => ⟨Rk.begin (by simp [wo]) (htr.trans (SH.trHere h3)), SH.addNil (SH.here h3), (subEnv_cons (by kernel_rfl) (subEnv_cons (by kernel_rfl) (subEnv_cons (by kernel_rfl) (subEnv_cons (by kernel_rfl) (subEnv_cons (by kernel_rfl) (subEnv_nil _))))))⟩) (fun x => ?_)
  have hxi := x.hi
  have htr := x.htr
  have hrl := x.hrd.length
  refine wc_seq ?_
  refine wc_seq ?_
  refine wc_region ?_
  refine wl_go 2 [(10, .pointer (some ⟨r1, 4, none⟩)), (9, .int .i64 (x.i : Int))] (by kernel_rfl) ?_
  refine wl_yl (d := 11) (v := .slice ga gl.length gc) (by kernel_rfl) (yl_load (b := r1) (off := 4) 0 rfl (by kernel_rfl) rfl (by kernel_rfl)) ?_
  refine wl_go 2 [(13, .bool (decide ((x.i : Int) < (gl.length : Int)))), (12, .int .i64 (gl.length : Int))] (by kernel_rfl) ?_
  refine nx_list ?_
  refine nx_then ?_
  refine wc_cond (decide ((x.i : Int) < (gl.length : Int))) (by kernel_rfl) (by kernel_rfl) (fun hcl => ?_) (fun hcl => ?_)
  · skip
    have hlt : x.i < gl.length := by simpa using hcl
    obtain ⟨p, hp⟩ : ∃ p, gl[x.i]? = some p := ⟨_, List.getElem?_eq_getElem hlt⟩
    obtain ⟨g, o, cs, rfl, hI, h_c, l_c, hgr⟩ := Rd.row_at (es := 2) (hg.stays htr.stays) gRow_len (i := x.i) (r := gRow p) (by simp [hp])
    obtain rfl := gRow_vals h_c
    have hwl : (wo a c (gl.take x.i)).length ≤ gl.length := by
      refine Nat.le_trans (List.length_filter_le _ _) ?_
      rw [List.length_take]
      omega
    have hrl : (wo a c (gl.take x.i)).length = x.rc.length := by simpa using hrl
    refine nx_skip ?_
    refine nx_then ?_
    refine wc_seq ?_
    refine wc_block ?_
    refine wc_seq ?_
    refine wc_region ?_
    refine wl_go 1 [(16, .pointer (some ⟨r1, 4, none⟩))] (by kernel_rfl) ?_
    refine wl_yl (d := 17) (v := .slice (some ⟨g, o, none⟩) gl.length gc) (by kernel_rfl) (yl_load (b := r1) (off := 4) 0 rfl (by kernel_rfl) rfl (by kernel_rfl)) ?_
    refine wl_go 1 [(18, .int .i64 (x.i : Int))] (by kernel_rfl) ?_
    refine wl_yl (d := 19) (v := .pointer (some ⟨g, o + x.i * 2, none⟩)) (by kernel_rfl) (yl_index (E := 108) (b := g) (off := o) (len := gl.length) (cap := gc) (k := x.i) (es := 2) rfl (by kernel_rfl) (by kernel_rfl) (by kernel_rfl) (by omega)) ?_
    refine wl_yl (d := 20) (v := .agg #[.int .i64 p.1, .int .i64 p.2]) (by kernel_rfl) (yl_loads_im (b := g) (off := o + x.i * 2) (cs := gCells p) rfl (by kernel_rfl) hI (by kernel_rfl) hgr) ?_
    refine wl_go 7 [(27, .agg #[.int .i64 (mn a c), .int .i64 (mx a c)]), (26, .int .i64 (mx a c)), (25, .int .i64 c), (24, .int .i64 a), (23, .int .i64 (mn a c)), (22, .int .i64 c), (21, .int .i64 a)] (by kernel_rfl) ?_
    refine wl_yl (d := 28) (v := .bool (!isK a c p)) (by kernel_rfl) (yl_ne2' 3 rfl (by kernel_rfl) (by kernel_rfl) (by kernel_rfl)) ?_
    refine nx_list ?_
    refine nx_then ?_
    refine wc_cond (!isK a c p) (by kernel_rfl) (by kernel_rfl) (fun hck => ?_) (fun hck => ?_)
    · skip
      refine wc_region ?_
      refine wl_go 2 [(30, .pointer (some ⟨r1, 4, none⟩)), (29, x.v)] (by kernel_rfl) ?_
      refine wl_yl (d := 31) (v := .slice (some ⟨g, o, none⟩) gl.length gc) (by kernel_rfl) (yl_load (b := r1) (off := 4) 0 rfl (by kernel_rfl) rfl (by kernel_rfl)) ?_
      refine wl_go 1 [(32, .int .i64 (x.i : Int))] (by kernel_rfl) ?_
      refine wl_yl (d := 33) (v := .pointer (some ⟨g, o + x.i * 2, none⟩)) (by kernel_rfl) (yl_index (E := 108) (b := g) (off := o) (len := gl.length) (cap := gc) (k := x.i) (es := 2) rfl (by kernel_rfl) (by kernel_rfl) (by kernel_rfl) (by omega)) ?_
      refine wl_yl (d := 34) (v := .agg #[.int .i64 p.1, .int .i64 p.2]) (by kernel_rfl) (yl_loads_im (b := g) (off := o + x.i * 2) (cs := gCells p) rfl (by kernel_rfl) hI (by kernel_rfl) hgr) ?_
      refine wl_new (d := 35) #[.int .i64 p.1, .int .i64 p.2] 108 (fun r => .slice (some ⟨r, 0, none⟩) 1 1) (by kernel_rfl) (fun r => by kernel_rfl) ?_
      intro r2 hr2
      have htr := htr.more (c := #[.int .i64 p.1, .int .i64 p.2]) (t := 108) hr2
      have htr := htr.congR (L0 := ((([⟨r2, #[.int .i64 p.1, .int .i64 p.2], 108⟩, ⟨r1, #[.int .i64 n, .int .i64 d, .int .i64 now, wv, .slice (some ⟨g, o, none⟩) gl.length gc], 79⟩] : List Blk) ++ L0) ++ x.R)) rfl
      refine wl_append' (L := ([⟨r2, #[.int .i64 p.1, .int .i64 p.2], 108⟩, ⟨r1, #[.int .i64 n, .int .i64 d, .int .i64 now, wv, .slice (some ⟨g, o, none⟩) gl.length gc], 79⟩] : List Blk) ++ L0) (R := x.R) (d := 36) 108 (.agg #[.int .i64 0, .int .i64 0]) 2 16 (v := x.v) (k := x.rc.length) (xs := x.rc.flatten) (a := ⟨r2, 0, none⟩) (m := 1) (c := 1) (gCells p) (by kernel_rfl) rfl (by kernel_rfl) rfl (by decide) (by kernel_rfl) x.own (by kernel_rfl) rfl (fun w3 h3 => h3.news 0 rfl) (by intro u hu; simp only [gCells, List.mem_cons, List.not_mem_nil, or_false] at hu; rcases hu with rfl | rfl <;> rfl) (by simp only [maxLen]; omega) (by omega) ?_
      intro w2 v2 R2 hown2 hT
      have hrd2 := (x.hrd.stays (im_more (c := #[.int .i64 p.1, .int .i64 p.2]) (t := 108) hr2)).stays hT.stays
      have htr := htr.trans hT
      refine wl_go 1 [(7, v2)] (by kernel_rfl) ?_
      refine nx_list ?_
      refine nx_block ?_
      refine nx_then ?_
      refine wc_region ?_
      refine wl_go 1 [(14, .int .i64 (x.i : Int))] (by kernel_rfl) ?_
      refine wl_yl (d := 15) (v := .int .i64 ((x.i : Int) + 1)) (by kernel_rfl) (yl_int (t := (x.i : Int) + 1) (r := (x.i : Int) + 1) (by kernel_rfl) (i64w (by omega) (by omega))) ?_
      refine wl_go 1 [(8, .int .i64 ((x.i : Int) + 1))] (by kernel_rfl) ?_
      refine nx_list ?_
      refine nx_round_w (fun w9 h9 => ?_)
      have ht9 := SH.trHere h9
      exact ⟨x.next hlt (v := v2) (R := R2) (rc := x.rc ++ [gCells p]) (by rw [List.length_append, List.flatten_append]; simpa using hown2) (by rw [take_snocG hp, wo_snoc, if_pos hck, List.map_append]; exact RdR.snoc (hrd2.stays (Tr.drop1 ht9).stays) ⟨by rw [Rd], by rw [Rd], trivial⟩) ((htr.trans ht9).drop1), (show gl.length - (x.i + 1) < gl.length - x.i by omega), (subEnv_cons (by kernel_rfl) (subEnv_cons (by kernel_rfl) (subEnv_cons (by kernel_rfl) (subEnv_cons (by kernel_rfl) (subEnv_cons (by kernel_rfl) (subEnv_nil _)))))), SH.drop1 h9⟩
    · skip
      refine nx_skip ?_
      refine nx_block ?_
      refine nx_then ?_
      refine wc_region ?_
      refine wl_go 1 [(14, .int .i64 (x.i : Int))] (by kernel_rfl) ?_
      refine wl_yl (d := 15) (v := .int .i64 ((x.i : Int) + 1)) (by kernel_rfl) (yl_int (t := (x.i : Int) + 1) (r := (x.i : Int) + 1) (by kernel_rfl) (i64w (by omega) (by omega))) ?_
      refine wl_go 1 [(8, .int .i64 ((x.i : Int) + 1))] (by kernel_rfl) ?_
      refine nx_list ?_
      refine nx_round_w (fun w9 h9 => ?_)
      have ht9 := SH.trHere h9
      exact ⟨x.next hlt (v := x.v) (R := x.R) (rc := x.rc) x.own (by rw [take_snocG hp, wo_snoc, if_neg (by rw [hck]; simp), List.append_nil]; exact x.hrd.stays ht9.stays) (htr.trans ht9), (show gl.length - (x.i + 1) < gl.length - x.i by omega), (subEnv_cons (by kernel_rfl) (subEnv_cons (by kernel_rfl) (subEnv_cons (by kernel_rfl) (subEnv_cons (by kernel_rfl) (subEnv_cons (by kernel_rfl) (subEnv_nil _)))))), SH.here h9⟩
  · skip
    have hge : gl.length ≤ x.i := by simpa using hcl
    have et : gl.take x.i = gl := List.take_of_length_le hge
    refine nx_exit ?_
    refine nx_then_exit ?_
    refine nx_then_exit ?_
    refine nx_block_here ?_
    refine nx_then ?_
    refine wc_seq ?_
    refine wc_region ?_
    refine wl_go 2 [(6, x.v), (37, x.v)] (by kernel_rfl) ?_
    refine nx_list ?_
    refine nx_then ?_
    refine nx_ret ?_
    refine ret_tmp (v := x.v) rfl (by kernel_rfl) ?_
    intro w' hw'
    have ht9 := SH.trHere hw'
    have h5 := x.hrd.stays (Tr.drop1 ht9).stays
    rw [et] at h5
    exact ⟨x.v, x.R, x.rc, rfl, x.own, h5, SH.drop1 hw', (htr.trans ht9).drop1⟩

theorem SH.staysP {w : World} {A R : List Blk} (h : SH w (A ++ R) w) : Stays (Im w (A ++ R)) w (Im w A) w :=
  ⟨Nat.le_refl _, fun k hk hI => ⟨hk, fun x hx => hI.2 x (List.mem_append_left _ hx)⟩, fun _ _ _ => rfl⟩
theorem Im.push {wb : World} {L : List Blk} {g : Nat} {x : Blk} (h : Im wb L g) (hx : wb.heap.size ≤ x.b) : Im wb (x :: L) g := ⟨h.1, fun y hy => by
  rcases List.mem_cons.1 hy with rfl | hy
  · have := h.1; omega
  · exact h.2 y hy⟩
theorem rCut_no (n d now : Int) (wa : Option Addr) (wn wc : Nat) (ga : Option Addr) (gn gc : Nat) (a c : Int) (w : World) (hp : pairB n a c = false) : Calls Try.prog 26 #[.agg #[.int .i64 n, .int .i64 d, .int .i64 now, .slice wa wn wc, .slice ga gn gc], .int .i64 a, .int .i64 c] w (fun e w' => e = .returned (.tuple #[.agg #[.int .i64 n, .int .i64 d, .int .i64 now, .slice wa wn wc, .slice ga gn gc], .int .i64 1]) ∧ Below w.heap.size w w') := by
  refine Sx.enter (l := [.agg #[.int .i64 n, .int .i64 d, .int .i64 now, .slice wa wn wc, .slice ga gn gc], .int .i64 a, .int .i64 c]) Try.func26 rfl (n := 32) rfl (by simp) ?_
  refine wc_eq (S := SH w []) (SH.refl _) ?_
  refine wc_seq ?_
  refine wc_region ?_
  refine wl_new (d := 3) #[.int .i64 n, .int .i64 d, .int .i64 now, .slice wa wn wc, .slice ga gn gc] 79 (fun r => .pointer (some ⟨r, 0, none⟩)) (by kernel_rfl) (fun r => by kernel_rfl) ?_
  intro r1 hr1
  refine wl_new (d := 6) #[.int .i64 0, .int .i64 0, .int .i64 0, .slice none 0 0, .slice none 0 0] 79 (fun r => .pointer (some ⟨r, 0, none⟩)) (by kernel_rfl) (fun r => by kernel_rfl) ?_
  intro r2 hr2
  refine wl_go 1 [(7, .int .i64 0)] (by kernel_rfl) ?_
  refine nx_list ?_
  refine nx_then ?_
  refine wc_seq ?_
  refine wc_seq ?_
  refine wc_region ?_
  refine wl_yl (d := 9) (v := .agg #[.int .i64 n, .int .i64 d, .int .i64 now, .slice wa wn wc, .slice ga gn gc]) (by kernel_rfl) (yl_load (b := r1) (off := 0) 1 rfl (by kernel_rfl) rfl (by kernel_rfl)) ?_
  refine wl_go 2 [(11, .int .i64 c), (10, .int .i64 a)] (by kernel_rfl) ?_
  refine wl_callK shK (d := 12) (v := .bool (pairB n a c)) (by kernel_rfl) (by kernel_rfl) (fun w1 h1 => rPair_ok n d now (.slice wa wn wc) (.slice ga gn gc) a c w1) ?_
  rw [hp]
  refine wl_go 1 [(13, .bool true)] (by kernel_rfl) ?_
  refine nx_list ?_
  refine nx_then ?_
  refine wc_cond true (by kernel_rfl) (by kernel_rfl) (fun _ => ?_) (fun h => by cases h)
  refine wc_seq ?_
  refine wc_region ?_
  refine wl_yl (d := 14) (v := .agg #[.int .i64 n, .int .i64 d, .int .i64 now, .slice wa wn wc, .slice ga gn gc]) (by kernel_rfl) (yl_load (b := r1) (off := 0) 1 rfl (by kernel_rfl) rfl (by kernel_rfl)) ?_
  refine wl_store (b := r2) (off := 0) (v := .agg #[.int .i64 n, .int .i64 d, .int .i64 now, .slice wa wn wc, .slice ga gn gc]) (c' := #[.int .i64 n, .int .i64 d, .int .i64 now, .slice wa wn wc, .slice ga gn gc]) (L' := [⟨r2, #[.int .i64 n, .int .i64 d, .int .i64 now, .slice wa wn wc, .slice ga gn gc], 79⟩, ⟨r1, #[.int .i64 n, .int .i64 d, .int .i64 now, .slice wa wn wc, .slice ga gn gc], 79⟩]) 0 (by kernel_rfl) rfl (by kernel_rfl) (by kernel_rfl) rfl (by kernel_rfl) rfl ?_
  refine wl_go 1 [(7, .int .i64 1)] (by kernel_rfl) ?_
  refine nx_list ?_
  refine nx_then ?_
  refine nx_ret ?_
  refine nx_then_ret ?_
  refine ret_cellT (v := .agg #[.int .i64 n, .int .i64 d, .int .i64 now, .slice wa wn wc, .slice ga gn gc]) (v' := .int .i64 1) (b := r2) (off := 0) 0 rfl (by kernel_rfl) rfl (by kernel_rfl) (by kernel_rfl) ?_
  intro w' hw'
  exact ⟨rfl, hw'.below (Below.refl _ _) (Nat.le_refl _) (ge_cons hr2 (ge_cons hr1 (ge_nil _)))⟩

theorem rHeal_no (n d now : Int) (wa : Option Addr) (wn wc : Nat) (ga : Option Addr) (gn gc : Nat) (a c : Int) (w : World) (hp : pairB n a c = false) : Calls Try.prog 27 #[.agg #[.int .i64 n, .int .i64 d, .int .i64 now, .slice wa wn wc, .slice ga gn gc], .int .i64 a, .int .i64 c] w (fun e w' => e = .returned (.tuple #[.agg #[.int .i64 n, .int .i64 d, .int .i64 now, .slice wa wn wc, .slice ga gn gc], .int .i64 1]) ∧ Below w.heap.size w w') := by
  refine Sx.enter (l := [.agg #[.int .i64 n, .int .i64 d, .int .i64 now, .slice wa wn wc, .slice ga gn gc], .int .i64 a, .int .i64 c]) Try.func27 rfl (n := 20) rfl (by simp) ?_
  refine wc_eq (S := SH w []) (SH.refl _) ?_
  refine wc_seq ?_
  refine wc_region ?_
  refine wl_new (d := 3) #[.int .i64 n, .int .i64 d, .int .i64 now, .slice wa wn wc, .slice ga gn gc] 79 (fun r => .pointer (some ⟨r, 0, none⟩)) (by kernel_rfl) (fun r => by kernel_rfl) ?_
  intro r1 hr1
  refine wl_new (d := 6) #[.int .i64 0, .int .i64 0, .int .i64 0, .slice none 0 0, .slice none 0 0] 79 (fun r => .pointer (some ⟨r, 0, none⟩)) (by kernel_rfl) (fun r => by kernel_rfl) ?_
  intro r2 hr2
  refine wl_go 1 [(7, .int .i64 0)] (by kernel_rfl) ?_
  refine nx_list ?_
  refine nx_then ?_
  refine wc_seq ?_
  refine wc_seq ?_
  refine wc_region ?_
  refine wl_yl (d := 8) (v := .agg #[.int .i64 n, .int .i64 d, .int .i64 now, .slice wa wn wc, .slice ga gn gc]) (by kernel_rfl) (yl_load (b := r1) (off := 0) 1 rfl (by kernel_rfl) rfl (by kernel_rfl)) ?_
  refine wl_go 2 [(10, .int .i64 c), (9, .int .i64 a)] (by kernel_rfl) ?_
  refine wl_callK shK (d := 11) (v := .bool (pairB n a c)) (by kernel_rfl) (by kernel_rfl) (fun w1 h1 => rPair_ok n d now (.slice wa wn wc) (.slice ga gn gc) a c w1) ?_
  rw [hp]
  refine wl_go 1 [(12, .bool true)] (by kernel_rfl) ?_
  refine nx_list ?_
  refine nx_then ?_
  refine wc_cond true (by kernel_rfl) (by kernel_rfl) (fun _ => ?_) (fun h => by cases h)
  refine wc_seq ?_
  refine wc_region ?_
  refine wl_yl (d := 13) (v := .agg #[.int .i64 n, .int .i64 d, .int .i64 now, .slice wa wn wc, .slice ga gn gc]) (by kernel_rfl) (yl_load (b := r1) (off := 0) 1 rfl (by kernel_rfl) rfl (by kernel_rfl)) ?_
  refine wl_store (b := r2) (off := 0) (v := .agg #[.int .i64 n, .int .i64 d, .int .i64 now, .slice wa wn wc, .slice ga gn gc]) (c' := #[.int .i64 n, .int .i64 d, .int .i64 now, .slice wa wn wc, .slice ga gn gc]) (L' := [⟨r2, #[.int .i64 n, .int .i64 d, .int .i64 now, .slice wa wn wc, .slice ga gn gc], 79⟩, ⟨r1, #[.int .i64 n, .int .i64 d, .int .i64 now, .slice wa wn wc, .slice ga gn gc], 79⟩]) 0 (by kernel_rfl) rfl (by kernel_rfl) (by kernel_rfl) rfl (by kernel_rfl) rfl ?_
  refine wl_go 1 [(7, .int .i64 1)] (by kernel_rfl) ?_
  refine nx_list ?_
  refine nx_then ?_
  refine nx_ret ?_
  refine nx_then_ret ?_
  refine ret_cellT (v := .agg #[.int .i64 n, .int .i64 d, .int .i64 now, .slice wa wn wc, .slice ga gn gc]) (v' := .int .i64 1) (b := r2) (off := 0) 0 rfl (by kernel_rfl) rfl (by kernel_rfl) (by kernel_rfl) ?_
  intro w' hw'
  exact ⟨rfl, hw'.below (Below.refl _ _) (Nat.le_refl _) (ge_cons hr2 (ge_cons hr1 (ge_nil _)))⟩

theorem rCut_yes (n d now : Int) (wa : Option Addr) (wn wc : Nat) (gl : List (Int × Int)) (ga : Option Addr) (gc : Nat) (a c : Int) (L0 : List Blk) (w : World) (hsh : SH w L0 w) (hg : Rd (Im w L0) w (.sl (gl.map gRow)) (.slice ga gl.length gc)) (hgl : gl.length ≤ 1000) (hp : pairB n a c = true) : Calls Try.prog 26 #[.agg #[.int .i64 n, .int .i64 d, .int .i64 now, .slice wa wn wc, .slice ga gl.length gc], .int .i64 a, .int .i64 c] w (fun e w' => ∃ v, e = .returned (.tuple #[.agg #[.int .i64 n, .int .i64 d, .int .i64 now, .slice wa wn wc, v], .int .i64 0]) ∧ SH w' L0 w' ∧ Tr w L0 w' L0 ∧ Rd (Im w' L0) w' (.sl ((wo a c gl ++ [(mn a c, mx a c)]).map gRow)) v) := by
  refine Sx.enter (l := [.agg #[.int .i64 n, .int .i64 d, .int .i64 now, .slice wa wn wc, .slice ga gl.length gc], .int .i64 a, .int .i64 c]) Try.func26 rfl (n := 32) rfl (by simp) ?_
  refine wc_eq (S := SH w (([] : List Blk) ++ L0)) hsh ?_
  have htr : Tr w L0 w (([] : List Blk) ++ L0) := Tr.refl w L0
  refine wc_seq ?_
  refine wc_region ?_
  refine wl_new (d := 3) #[.int .i64 n, .int .i64 d, .int .i64 now, .slice wa wn wc, .slice ga gl.length gc] 79 (fun r => .pointer (some ⟨r, 0, none⟩)) (by kernel_rfl) (fun r => by kernel_rfl) ?_
  intro r1 hr1
  have htr := htr.more (c := #[.int .i64 n, .int .i64 d, .int .i64 now, .slice wa wn wc, .slice ga gl.length gc]) (t := 79) hr1
  refine wl_new (d := 6) #[.int .i64 0, .int .i64 0, .int .i64 0, .slice none 0 0, .slice none 0 0] 79 (fun r => .pointer (some ⟨r, 0, none⟩)) (by kernel_rfl) (fun r => by kernel_rfl) ?_
  intro r2 hr2
  have htr := htr.more (c := #[.int .i64 0, .int .i64 0, .int .i64 0, .slice none 0 0, .slice none 0 0]) (t := 79) hr2
  refine wl_go 1 [(7, .int .i64 0)] (by kernel_rfl) ?_
  refine nx_list ?_
  refine nx_then ?_
  refine wc_seq ?_
  refine wc_seq ?_
  refine wc_region ?_
  refine wl_yl (d := 9) (v := .agg #[.int .i64 n, .int .i64 d, .int .i64 now, .slice wa wn wc, .slice ga gl.length gc]) (by kernel_rfl) (yl_load (b := r1) (off := 0) 1 rfl (by kernel_rfl) rfl (by kernel_rfl)) ?_
  refine wl_go 2 [(11, .int .i64 c), (10, .int .i64 a)] (by kernel_rfl) ?_
  refine wl_callK shK (d := 12) (v := .bool (pairB n a c)) (by kernel_rfl) (by kernel_rfl) (fun w1 h1 => rPair_ok n d now (.slice wa wn wc) (.slice ga gl.length gc) a c w1) ?_
  rw [hp]
  refine wl_go 1 [(13, .bool false)] (by kernel_rfl) ?_
  refine nx_list ?_
  refine nx_then ?_
  refine wc_cond false (by kernel_rfl) (by kernel_rfl) (fun h => by cases h) (fun _ => ?_)
  refine nx_skip ?_
  refine nx_then ?_
  refine wc_seq ?_
  refine wc_region ?_
  refine wl_yl (d := 15) (v := .agg #[.int .i64 n, .int .i64 d, .int .i64 now, .slice wa wn wc, .slice ga gl.length gc]) (by kernel_rfl) (yl_load (b := r1) (off := 0) 1 rfl (by kernel_rfl) rfl (by kernel_rfl)) ?_
  refine wl_go 2 [(17, .int .i64 c), (16, .int .i64 a)] (by kernel_rfl) ?_
  have htr := htr.congR (L0 := (([⟨r2, #[.int .i64 0, .int .i64 0, .int .i64 0, .slice none 0 0, .slice none 0 0], 79⟩, ⟨r1, #[.int .i64 n, .int .i64 d, .int .i64 now, .slice wa wn wc, .slice ga gl.length gc], 79⟩] : List Blk) ++ L0)) rfl
  have hgx := hg.stays htr.stays
  refine wl_callB (X := Value × List Blk × List (List Value)) (d := 18) (fun x => x.1) (fun wi y wz => Own 108 2 y.1 y.2.2.length y.2.2.flatten y.2.1 ∧ RdR (Im wz ((([⟨r2, #[.int .i64 0, .int .i64 0, .int .i64 0, .slice none 0 0, .slice none 0 0], 79⟩, ⟨r1, #[.int .i64 n, .int .i64 d, .int .i64 now, .slice wa wn wc, .slice ga gl.length gc], 79⟩] : List Blk) ++ L0) ++ y.2.1)) wz ((wo a c gl).map gRow) y.2.2 ∧ SH wz ((([⟨r2, #[.int .i64 0, .int .i64 0, .int .i64 0, .slice none 0 0, .slice none 0 0], 79⟩, ⟨r1, #[.int .i64 n, .int .i64 d, .int .i64 now, .slice wa wn wc, .slice ga gl.length gc], 79⟩] : List Blk) ++ L0) ++ y.2.1) wz ∧ Tr wi (([⟨r2, #[.int .i64 0, .int .i64 0, .int .i64 0, .slice none 0 0, .slice none 0 0], 79⟩, ⟨r1, #[.int .i64 n, .int .i64 d, .int .i64 now, .slice wa wn wc, .slice ga gl.length gc], 79⟩] : List Blk) ++ L0) wz ((([⟨r2, #[.int .i64 0, .int .i64 0, .int .i64 0, .slice none 0 0, .slice none 0 0], 79⟩, ⟨r1, #[.int .i64 n, .int .i64 d, .int .i64 now, .slice wa wn wc, .slice ga gl.length gc], 79⟩] : List Blk) ++ L0) ++ y.2.1)) (by kernel_rfl) (by kernel_rfl) (fun w1 h1 => (rWithout_ok n d now (.slice wa wn wc) gl ga gc a c (([⟨r2, #[.int .i64 0, .int .i64 0, .int .i64 0, .slice none 0 0, .slice none 0 0], 79⟩, ⟨r1, #[.int .i64 n, .int .i64 d, .int .i64 now, .slice wa wn wc, .slice ga gl.length gc], 79⟩] : List Blk) ++ L0) w1 (SH.here h1) (hgx.stays (SH.trHere h1).stays) hgl).mono (fun e w' ⟨v, R, rc, he, h⟩ => ⟨(v, R, rc), he, h⟩)) ?_
  rintro wq ⟨v2, R2, rc2⟩ w2 h1 ⟨own2, hrd2, hs2, ht2⟩
  simp only at own2 hrd2 hs2 ht2
  have htr := htr.trans ((SH.trHere h1).trans ht2)
  have hwl : (wo a c gl).length ≤ gl.length := List.length_filter_le _ _
  have hrl := hrd2.length
  rw [List.length_map] at hrl
  obtain ⟨a2, c2, rfl⟩ := own2.val
  refine wl_eq (S := SH w2 ((([⟨r2, #[.int .i64 0, .int .i64 0, .int .i64 0, .slice none 0 0, .slice none 0 0], 79⟩, ⟨r1, #[.int .i64 n, .int .i64 d, .int .i64 now, .slice wa wn wc, .slice ga gl.length gc], 79⟩] : List Blk) ++ L0) ++ R2)) hs2 ?_
  refine wl_go 1 [(8, .slice a2 rc2.length c2)] (by kernel_rfl) ?_
  refine nx_list ?_
  refine nx_then ?_
  refine wc_seq ?_
  refine wc_region ?_
  refine wl_go 8 [(26, .agg #[.int .i64 (mn a c), .int .i64 (mx a c)]), (25, .int .i64 (mx a c)), (24, .int .i64 c), (23, .int .i64 a), (22, .int .i64 (mn a c)), (21, .int .i64 c), (20, .int .i64 a), (19, .slice a2 rc2.length c2)] (by kernel_rfl) ?_
  refine wl_new (d := 27) #[.int .i64 (mn a c), .int .i64 (mx a c)] 108 (fun r => .slice (some ⟨r, 0, none⟩) 1 1) (by kernel_rfl) (fun r => by kernel_rfl) ?_
  intro r3 hr3
  have htr := htr.more (c := #[.int .i64 (mn a c), .int .i64 (mx a c)]) (t := 108) hr3
  have htr := htr.congR (L0 := ((([⟨r3, #[.int .i64 (mn a c), .int .i64 (mx a c)], 108⟩, ⟨r2, #[.int .i64 0, .int .i64 0, .int .i64 0, .slice none 0 0, .slice none 0 0], 79⟩, ⟨r1, #[.int .i64 n, .int .i64 d, .int .i64 now, .slice wa wn wc, .slice ga gl.length gc], 79⟩] : List Blk) ++ L0) ++ R2)) rfl
  refine wl_append' (L := ([⟨r3, #[.int .i64 (mn a c), .int .i64 (mx a c)], 108⟩, ⟨r2, #[.int .i64 0, .int .i64 0, .int .i64 0, .slice none 0 0, .slice none 0 0], 79⟩, ⟨r1, #[.int .i64 n, .int .i64 d, .int .i64 now, .slice wa wn wc, .slice ga gl.length gc], 79⟩] : List Blk) ++ L0) (R := R2) (d := 28) 108 (.agg #[.int .i64 0, .int .i64 0]) 2 16 (v := .slice a2 rc2.length c2) (k := rc2.length) (xs := rc2.flatten) (a := ⟨r3, 0, none⟩) (m := 1) (c := 1) (gCells (mn a c, mx a c)) (by kernel_rfl) rfl (by kernel_rfl) rfl (by decide) (by kernel_rfl) own2 (by kernel_rfl) rfl (fun w3 h3 => h3.news 0 rfl) (by intro u hu; simp only [gCells, List.mem_cons, List.not_mem_nil, or_false] at hu; rcases hu with rfl | rfl <;> rfl) (by simp only [maxLen]; omega) (by omega) ?_
  intro w3 v3 R3 own3 hT
  have hrd3 := (hrd2.stays (im_more (c := #[.int .i64 (mn a c), .int .i64 (mx a c)]) (t := 108) hr3)).stays hT.stays
  have htr := htr.trans hT
  obtain ⟨a3, c3, rfl⟩ := own3.val
  refine wl_go 1 [(8, .slice a3 (rc2.length + 1) c3)] (by kernel_rfl) ?_
  refine nx_list ?_
  refine nx_then ?_
  refine wc_seq ?_
  refine wc_region ?_
  refine wl_go 2 [(30, .pointer (some ⟨r1, 4, none⟩)), (29, .slice a3 (rc2.length + 1) c3)] (by kernel_rfl) ?_
  refine wl_store (b := r1) (off := 4) (v := .slice a3 (rc2.length + 1) c3) (c' := #[.int .i64 n, .int .i64 d, .int .i64 now, .slice wa wn wc, .slice a3 (rc2.length + 1) c3]) (L' := ((([⟨r3, #[.int .i64 (mn a c), .int .i64 (mx a c)], 108⟩, ⟨r2, #[.int .i64 0, .int .i64 0, .int .i64 0, .slice none 0 0, .slice none 0 0], 79⟩, ⟨r1, #[.int .i64 n, .int .i64 d, .int .i64 now, .slice wa wn wc, .slice a3 (rc2.length + 1) c3], 79⟩] : List Blk) ++ L0) ++ R3)) 2 (by kernel_rfl) rfl (by kernel_rfl) (by kernel_rfl) rfl (by kernel_rfl) rfl ?_
  refine nx_list ?_
  refine nx_then ?_
  refine wc_seq ?_
  refine wc_region ?_
  refine wl_yl (d := 31) (v := .agg #[.int .i64 n, .int .i64 d, .int .i64 now, .slice wa wn wc, .slice a3 (rc2.length + 1) c3]) (by kernel_rfl) (yl_load (b := r1) (off := 0) 2 rfl (by kernel_rfl) rfl (by kernel_rfl)) ?_
  refine wl_store (b := r2) (off := 0) (v := .agg #[.int .i64 n, .int .i64 d, .int .i64 now, .slice wa wn wc, .slice a3 (rc2.length + 1) c3]) (c' := #[.int .i64 n, .int .i64 d, .int .i64 now, .slice wa wn wc, .slice a3 (rc2.length + 1) c3]) (L' := ((([⟨r3, #[.int .i64 (mn a c), .int .i64 (mx a c)], 108⟩, ⟨r2, #[.int .i64 n, .int .i64 d, .int .i64 now, .slice wa wn wc, .slice a3 (rc2.length + 1) c3], 79⟩, ⟨r1, #[.int .i64 n, .int .i64 d, .int .i64 now, .slice wa wn wc, .slice a3 (rc2.length + 1) c3], 79⟩] : List Blk) ++ L0) ++ R3)) 1 (by kernel_rfl) rfl (by kernel_rfl) (by kernel_rfl) rfl (by kernel_rfl) rfl ?_
  refine wl_go 1 [(7, .int .i64 0)] (by kernel_rfl) ?_
  refine nx_list ?_
  refine nx_then ?_
  refine nx_ret ?_
  refine ret_cellT (v := .agg #[.int .i64 n, .int .i64 d, .int .i64 now, .slice wa wn wc, .slice a3 (rc2.length + 1) c3]) (v' := .int .i64 0) (b := r2) (off := 0) 1 rfl (by kernel_rfl) rfl (by kernel_rfl) (by kernel_rfl) ?_
  intro w' hw'
  have ht9 := (SH.trHere hw').cong (L0 := ((([⟨r3, #[.int .i64 (mn a c), .int .i64 (mx a c)], 108⟩, ⟨r2, #[.int .i64 0, .int .i64 0, .int .i64 0, .slice none 0 0, .slice none 0 0], 79⟩, ⟨r1, #[.int .i64 n, .int .i64 d, .int .i64 now, .slice wa wn wc, .slice ga gl.length gc], 79⟩] : List Blk) ++ L0) ++ R3)) rfl
  have hs9 := SH.drop1 (SH.drop1 (SH.drop1 (hw')))
  have ht8 := Tr.drop1 (Tr.drop1 (Tr.drop1 (ht9)))
  have h5 := RdR.snoc (hrd3.stays ht8.stays) (r := gRow (mn a c, mx a c)) (c := gCells (mn a c, mx a c)) ⟨by rw [Rd], by rw [Rd], trivial⟩
  have own9 : Own 108 2 (.slice a3 (rc2.length + 1) c3) ((wo a c gl ++ [(mn a c, mx a c)]).map gRow).length (rc2 ++ [gCells (mn a c, mx a c)]).flatten R3 := by
    rw [List.flatten_append, List.length_map, List.length_append, hrl]
    simpa using own3
  exact ⟨_, rfl, SH.part hs9, (htr.trans ht9 |> fun h => (Tr.drop1 (Tr.drop1 (Tr.drop1 (h))))).less (fun y hy => List.mem_append_left _ hy), own_rd own9 hs9 (by rw [List.map_append]; exact h5.stays (SH.staysP hs9))⟩

theorem rHeal_yes (n d now : Int) (wa : Option Addr) (wn wc : Nat) (gl : List (Int × Int)) (ga : Option Addr) (gc : Nat) (a c : Int) (L0 : List Blk) (w : World) (hsh : SH w L0 w) (hg : Rd (Im w L0) w (.sl (gl.map gRow)) (.slice ga gl.length gc)) (hgl : gl.length ≤ 1000) (hp : pairB n a c = true) : Calls Try.prog 27 #[.agg #[.int .i64 n, .int .i64 d, .int .i64 now, .slice wa wn wc, .slice ga gl.length gc], .int .i64 a, .int .i64 c] w (fun e w' => ∃ v, e = .returned (.tuple #[.agg #[.int .i64 n, .int .i64 d, .int .i64 now, .slice wa wn wc, v], .int .i64 0]) ∧ SH w' L0 w' ∧ Tr w L0 w' L0 ∧ Rd (Im w' L0) w' (.sl ((wo a c gl).map gRow)) v) := by
  refine Sx.enter (l := [.agg #[.int .i64 n, .int .i64 d, .int .i64 now, .slice wa wn wc, .slice ga gl.length gc], .int .i64 a, .int .i64 c]) Try.func27 rfl (n := 20) rfl (by simp) ?_
  refine wc_eq (S := SH w (([] : List Blk) ++ L0)) hsh ?_
  have htr : Tr w L0 w (([] : List Blk) ++ L0) := Tr.refl w L0
  refine wc_seq ?_
  refine wc_region ?_
  refine wl_new (d := 3) #[.int .i64 n, .int .i64 d, .int .i64 now, .slice wa wn wc, .slice ga gl.length gc] 79 (fun r => .pointer (some ⟨r, 0, none⟩)) (by kernel_rfl) (fun r => by kernel_rfl) ?_
  intro r1 hr1
  have htr := htr.more (c := #[.int .i64 n, .int .i64 d, .int .i64 now, .slice wa wn wc, .slice ga gl.length gc]) (t := 79) hr1
  refine wl_new (d := 6) #[.int .i64 0, .int .i64 0, .int .i64 0, .slice none 0 0, .slice none 0 0] 79 (fun r => .pointer (some ⟨r, 0, none⟩)) (by kernel_rfl) (fun r => by kernel_rfl) ?_
  intro r2 hr2
  have htr := htr.more (c := #[.int .i64 0, .int .i64 0, .int .i64 0, .slice none 0 0, .slice none 0 0]) (t := 79) hr2
  refine wl_go 1 [(7, .int .i64 0)] (by kernel_rfl) ?_
  refine nx_list ?_
  refine nx_then ?_
  refine wc_seq ?_
  refine wc_seq ?_
  refine wc_region ?_
  refine wl_yl (d := 8) (v := .agg #[.int .i64 n, .int .i64 d, .int .i64 now, .slice wa wn wc, .slice ga gl.length gc]) (by kernel_rfl) (yl_load (b := r1) (off := 0) 1 rfl (by kernel_rfl) rfl (by kernel_rfl)) ?_
  refine wl_go 2 [(10, .int .i64 c), (9, .int .i64 a)] (by kernel_rfl) ?_
  refine wl_callK shK (d := 11) (v := .bool (pairB n a c)) (by kernel_rfl) (by kernel_rfl) (fun w1 h1 => rPair_ok n d now (.slice wa wn wc) (.slice ga gl.length gc) a c w1) ?_
  rw [hp]
  refine wl_go 1 [(12, .bool false)] (by kernel_rfl) ?_
  refine nx_list ?_
  refine nx_then ?_
  refine wc_cond false (by kernel_rfl) (by kernel_rfl) (fun h => by cases h) (fun _ => ?_)
  refine nx_skip ?_
  refine nx_then ?_
  refine wc_seq ?_
  refine wc_region ?_
  refine wl_yl (d := 14) (v := .agg #[.int .i64 n, .int .i64 d, .int .i64 now, .slice wa wn wc, .slice ga gl.length gc]) (by kernel_rfl) (yl_load (b := r1) (off := 0) 1 rfl (by kernel_rfl) rfl (by kernel_rfl)) ?_
  refine wl_go 2 [(16, .int .i64 c), (15, .int .i64 a)] (by kernel_rfl) ?_
  have htr := htr.congR (L0 := (([⟨r2, #[.int .i64 0, .int .i64 0, .int .i64 0, .slice none 0 0, .slice none 0 0], 79⟩, ⟨r1, #[.int .i64 n, .int .i64 d, .int .i64 now, .slice wa wn wc, .slice ga gl.length gc], 79⟩] : List Blk) ++ L0)) rfl
  have hgx := hg.stays htr.stays
  refine wl_callB (X := Value × List Blk × List (List Value)) (d := 17) (fun x => x.1) (fun wi y wz => Own 108 2 y.1 y.2.2.length y.2.2.flatten y.2.1 ∧ RdR (Im wz ((([⟨r2, #[.int .i64 0, .int .i64 0, .int .i64 0, .slice none 0 0, .slice none 0 0], 79⟩, ⟨r1, #[.int .i64 n, .int .i64 d, .int .i64 now, .slice wa wn wc, .slice ga gl.length gc], 79⟩] : List Blk) ++ L0) ++ y.2.1)) wz ((wo a c gl).map gRow) y.2.2 ∧ SH wz ((([⟨r2, #[.int .i64 0, .int .i64 0, .int .i64 0, .slice none 0 0, .slice none 0 0], 79⟩, ⟨r1, #[.int .i64 n, .int .i64 d, .int .i64 now, .slice wa wn wc, .slice ga gl.length gc], 79⟩] : List Blk) ++ L0) ++ y.2.1) wz ∧ Tr wi (([⟨r2, #[.int .i64 0, .int .i64 0, .int .i64 0, .slice none 0 0, .slice none 0 0], 79⟩, ⟨r1, #[.int .i64 n, .int .i64 d, .int .i64 now, .slice wa wn wc, .slice ga gl.length gc], 79⟩] : List Blk) ++ L0) wz ((([⟨r2, #[.int .i64 0, .int .i64 0, .int .i64 0, .slice none 0 0, .slice none 0 0], 79⟩, ⟨r1, #[.int .i64 n, .int .i64 d, .int .i64 now, .slice wa wn wc, .slice ga gl.length gc], 79⟩] : List Blk) ++ L0) ++ y.2.1)) (by kernel_rfl) (by kernel_rfl) (fun w1 h1 => (rWithout_ok n d now (.slice wa wn wc) gl ga gc a c (([⟨r2, #[.int .i64 0, .int .i64 0, .int .i64 0, .slice none 0 0, .slice none 0 0], 79⟩, ⟨r1, #[.int .i64 n, .int .i64 d, .int .i64 now, .slice wa wn wc, .slice ga gl.length gc], 79⟩] : List Blk) ++ L0) w1 (SH.here h1) (hgx.stays (SH.trHere h1).stays) hgl).mono (fun e w' ⟨v, R, rc, he, h⟩ => ⟨(v, R, rc), he, h⟩)) ?_
  rintro wq ⟨v2, R2, rc2⟩ w2 h1 ⟨own2, hrd2, hs2, ht2⟩
  simp only at own2 hrd2 hs2 ht2
  have htr := htr.trans ((SH.trHere h1).trans ht2)
  have hwl : (wo a c gl).length ≤ gl.length := List.length_filter_le _ _
  have hrl := hrd2.length
  rw [List.length_map] at hrl
  obtain ⟨a2, c2, rfl⟩ := own2.val
  refine wl_eq (S := SH w2 ((([⟨r2, #[.int .i64 0, .int .i64 0, .int .i64 0, .slice none 0 0, .slice none 0 0], 79⟩, ⟨r1, #[.int .i64 n, .int .i64 d, .int .i64 now, .slice wa wn wc, .slice ga gl.length gc], 79⟩] : List Blk) ++ L0) ++ R2)) hs2 ?_
  refine wl_go 1 [(18, .pointer (some ⟨r1, 4, none⟩))] (by kernel_rfl) ?_
  refine wl_store (b := r1) (off := 4) (v := .slice a2 rc2.length c2) (c' := #[.int .i64 n, .int .i64 d, .int .i64 now, .slice wa wn wc, .slice a2 rc2.length c2]) (L' := ((([⟨r2, #[.int .i64 0, .int .i64 0, .int .i64 0, .slice none 0 0, .slice none 0 0], 79⟩, ⟨r1, #[.int .i64 n, .int .i64 d, .int .i64 now, .slice wa wn wc, .slice a2 rc2.length c2], 79⟩] : List Blk) ++ L0) ++ R2)) 1 (by kernel_rfl) rfl (by kernel_rfl) (by kernel_rfl) rfl (by kernel_rfl) rfl ?_
  refine nx_list ?_
  refine nx_then ?_
  refine wc_seq ?_
  refine wc_region ?_
  refine wl_yl (d := 19) (v := .agg #[.int .i64 n, .int .i64 d, .int .i64 now, .slice wa wn wc, .slice a2 rc2.length c2]) (by kernel_rfl) (yl_load (b := r1) (off := 0) 1 rfl (by kernel_rfl) rfl (by kernel_rfl)) ?_
  refine wl_store (b := r2) (off := 0) (v := .agg #[.int .i64 n, .int .i64 d, .int .i64 now, .slice wa wn wc, .slice a2 rc2.length c2]) (c' := #[.int .i64 n, .int .i64 d, .int .i64 now, .slice wa wn wc, .slice a2 rc2.length c2]) (L' := ((([⟨r2, #[.int .i64 n, .int .i64 d, .int .i64 now, .slice wa wn wc, .slice a2 rc2.length c2], 79⟩, ⟨r1, #[.int .i64 n, .int .i64 d, .int .i64 now, .slice wa wn wc, .slice a2 rc2.length c2], 79⟩] : List Blk) ++ L0) ++ R2)) 0 (by kernel_rfl) rfl (by kernel_rfl) (by kernel_rfl) rfl (by kernel_rfl) rfl ?_
  refine wl_go 1 [(7, .int .i64 0)] (by kernel_rfl) ?_
  refine nx_list ?_
  refine nx_then ?_
  refine nx_ret ?_
  refine ret_cellT (v := .agg #[.int .i64 n, .int .i64 d, .int .i64 now, .slice wa wn wc, .slice a2 rc2.length c2]) (v' := .int .i64 0) (b := r2) (off := 0) 0 rfl (by kernel_rfl) rfl (by kernel_rfl) (by kernel_rfl) ?_
  intro w' hw'
  have ht9 := (SH.trHere hw').cong (L0 := ((([⟨r2, #[.int .i64 0, .int .i64 0, .int .i64 0, .slice none 0 0, .slice none 0 0], 79⟩, ⟨r1, #[.int .i64 n, .int .i64 d, .int .i64 now, .slice wa wn wc, .slice ga gl.length gc], 79⟩] : List Blk) ++ L0) ++ R2)) rfl
  have hs9 := SH.drop1 (SH.drop1 (hw'))
  have ht8 := Tr.drop1 (Tr.drop1 (ht9))
  have h5 := hrd2.stays ht8.stays
  have own9 : Own 108 2 (.slice a2 rc2.length c2) ((wo a c gl).map gRow).length rc2.flatten R2 := by
    rw [List.length_map, hrl]
    exact own2
  exact ⟨_, rfl, SH.part hs9, (htr.trans ht9 |> fun h => (Tr.drop1 (Tr.drop1 (h)))).less (fun y hy => List.mem_append_left _ hy), own_rd own9 hs9 (h5.stays (SH.staysP hs9))⟩

theorem rClear_ok (n d now : Int) (xs : List (Int × List D)) (wa : Option Addr) (wc : Nat) (ga : Option Addr) (gn gc : Nat) (mb : Int) (L0 : List Blk) (w : World) (hsh : SH w L0 w) (hway : Rd (Im w L0) w (.sl (xs.map rowS)) (.slice wa xs.length wc)) (hfit : FitR sh by_ (xs.map (·.2)) (sh 14)) (hxs : xs.length ≤ 1000) : Calls Try.prog 30 #[.agg #[.int .i64 n, .int .i64 d, .int .i64 now, .slice wa xs.length wc, .slice ga gn gc], .int .i64 mb] w (fun e w' => ∃ v, e = .returned (.agg #[.int .i64 n, .int .i64 d, .int .i64 now, v, .slice ga gn gc]) ∧ SH w' L0 w' ∧ Tr w L0 w' L0 ∧ Rd (Im w' L0) w' (.sl ((clearD mb xs).map rowS)) v) := by
  refine Sx.enter (l := [.agg #[.int .i64 n, .int .i64 d, .int .i64 now, .slice wa xs.length wc, .slice ga gn gc], .int .i64 mb]) Try.func30 rfl (n := 45) rfl (by simp) ?_
  refine wc_eq (S := SH w (([] : List Blk) ++ L0)) hsh ?_
  have htr : Tr w L0 w (([] : List Blk) ++ L0) := Tr.refl w L0
  refine wc_seq ?_
  refine wc_region ?_
  refine wl_new (d := 2) #[.int .i64 n, .int .i64 d, .int .i64 now, .slice wa xs.length wc, .slice ga gn gc] 79 (fun r => .pointer (some ⟨r, 0, none⟩)) (by kernel_rfl) (fun r => by kernel_rfl) ?_
  intro r1 hr1
  have htr := htr.more (c := #[.int .i64 n, .int .i64 d, .int .i64 now, .slice wa xs.length wc, .slice ga gn gc]) (t := 79) hr1
  refine wl_new (d := 4) #[.int .i64 0, .int .i64 0, .int .i64 0, .slice none 0 0, .slice none 0 0] 79 (fun r => .pointer (some ⟨r, 0, none⟩)) (by kernel_rfl) (fun r => by kernel_rfl) ?_
  intro r2 hr2
  have htr := htr.more (c := #[.int .i64 0, .int .i64 0, .int .i64 0, .slice none 0 0, .slice none 0 0]) (t := 79) hr2
  refine nx_list ?_
  refine nx_then ?_
  refine wc_seq ?_
  refine wc_region ?_
  refine wl_go 1 [(5, .slice none 0 0)] (by kernel_rfl) ?_
  refine nx_list ?_
  refine nx_then ?_
  refine wc_seq ?_
  refine wc_seq ?_
  refine wc_region ?_
  refine wl_go 1 [(6, .int .i64 0)] (by kernel_rfl) ?_
  refine nx_list ?_
  refine nx_then ?_
  refine wc_block ?_
  have htr := htr.congR (L0 := (([⟨r2, #[.int .i64 0, .int .i64 0, .int .i64 0, .slice none 0 0, .slice none 0 0], 79⟩, ⟨r1, #[.int .i64 n, .int .i64 d, .int .i64 now, .slice wa xs.length wc, .slice ga gn gc], 79⟩] : List Blk) ++ L0)) rfl
  refine wc_loop (σ := Rk w L0 [⟨r2, #[.int .i64 0, .int .i64 0, .int .i64 0, .slice none 0 0, .slice none 0 0], 79⟩, ⟨r1, #[.int .i64 n, .int .i64 d, .int .i64 now, .slice wa xs.length wc, .slice ga gn gc], 79⟩] 105 10 xs.length (fun i => (clearD mb (xs.take i)).map rowS)) (fun x => [(1, .int .i64 mb), (2, .pointer (some ⟨r1, 0, none⟩)), (4, .pointer (some ⟨r2, 0, none⟩)), (5, x.v), (6, .int .i64 (x.i : Int))]) (fun x => SH x.wb ((([⟨r2, #[.int .i64 0, .int .i64 0, .int .i64 0, .slice none 0 0, .slice none 0 0], 79⟩, ⟨r1, #[.int .i64 n, .int .i64 d, .int .i64 now, .slice wa xs.length wc, .slice ga gn gc], 79⟩] : List Blk) ++ L0) ++ x.R)) (fun x => xs.length - x.i) (fun w3 h3 => ⟨Rk.begin (by simp [clearD]) (htr.trans (SH.trHere h3)), SH.addNil (SH.here h3), (subEnv_cons (by kernel_rfl) (subEnv_cons (by kernel_rfl) (subEnv_cons (by kernel_rfl) (subEnv_cons (by kernel_rfl) (subEnv_cons (by kernel_rfl) (subEnv_nil _))))))⟩) (fun x => ?_)
  have hxi := x.hi
  have htr := x.htr
  have hrl := x.hrd.length
  refine wc_seq ?_
  refine wc_seq ?_
  refine wc_region ?_
  refine wl_go 2 [(8, .pointer (some ⟨r1, 3, none⟩)), (7, .int .i64 (x.i : Int))] (by kernel_rfl) ?_
  refine wl_yl (d := 9) (v := .slice wa xs.length wc) (by kernel_rfl) (yl_load (b := r1) (off := 3) 1 rfl (by kernel_rfl) rfl (by kernel_rfl)) ?_
  refine wl_go 2 [(11, .bool (decide ((x.i : Int) < (xs.length : Int)))), (10, .int .i64 (xs.length : Int))] (by kernel_rfl) ?_
  refine nx_list ?_
  refine nx_then ?_
  refine wc_cond (decide ((x.i : Int) < (xs.length : Int))) (by kernel_rfl) (by kernel_rfl) (fun hcl => ?_) (fun hcl => ?_)
  · skip
    have hlt : x.i < xs.length := by simpa using hcl
    obtain ⟨y, hy⟩ : ∃ y, xs[x.i]? = some y := ⟨_, List.getElem?_eq_getElem hlt⟩
    obtain ⟨g, o, cs, rfl, hI, h_c, l_c, hgr⟩ := Rd.row_at (es := 10) (hway.stays htr.stays) (rowS_len hfit) (i := x.i) (r := rowS y) (by simp [hy])
    obtain ⟨cm, rfl, h_m⟩ := row_open h_c
    have hmem : y.2 ∈ xs.map (·.2) := List.mem_map.2 ⟨y, List.mem_of_getElem? hy, rfl⟩
    obtain ⟨due, m⟩ := y
    simp only at h_c h_m hmem hgr
    obtain ⟨fr, to, kind, term, index, last, commit, rows, ok, ents, rfl, rfl, hents, fR, hby⟩ := msg_open h_m (hfit.mem hmem)
    obtain ⟨ea, ec, rfl⟩ := hents.slv
    have e1 : frD [D.int fr, D.int to, D.int kind, D.int term, D.int index, D.int last, D.int commit, D.sl rows, D.bool ok] = fr := rfl
    have e2 : toD [D.int fr, D.int to, D.int kind, D.int term, D.int index, D.int last, D.int commit, D.sl rows, D.bool ok] = to := rfl
    have hwl : (clearD mb (xs.take x.i)).length ≤ xs.length := by
      refine Nat.le_trans (List.length_filter_le _ _) ?_
      rw [List.length_take]
      omega
    have hrl : (clearD mb (xs.take x.i)).length = x.rc.length := by simpa using hrl
    refine nx_skip ?_
    refine nx_then ?_
    refine wc_seq ?_
    refine wc_block ?_
    refine wc_seq ?_
    refine wc_region ?_
    refine wl_go 1 [(14, .pointer (some ⟨r1, 3, none⟩))] (by kernel_rfl) ?_
    refine wl_yl (d := 15) (v := .slice (some ⟨g, o, none⟩) xs.length wc) (by kernel_rfl) (yl_load (b := r1) (off := 3) 1 rfl (by kernel_rfl) rfl (by kernel_rfl)) ?_
    refine wl_go 1 [(16, .int .i64 (x.i : Int))] (by kernel_rfl) ?_
    refine wl_yl (d := 17) (v := .pointer (some ⟨g, o + x.i * 10, none⟩)) (by kernel_rfl) (yl_index (E := 105) (b := g) (off := o) (len := xs.length) (cap := wc) (k := x.i) (es := 10) rfl (by kernel_rfl) (by kernel_rfl) (by kernel_rfl) (by omega)) ?_
    refine wl_go 2 [(19, .pointer (some ⟨g, o + x.i * 10 + 1, none⟩)), (18, .pointer (some ⟨g, o + x.i * 10 + 1, none⟩))] (by kernel_rfl) ?_
    refine wl_yl (d := 20) (v := .int .i64 fr) (by kernel_rfl) (yl_load_im (b := g) (off := o + x.i * 10 + 1) rfl (by kernel_rfl) hI (by kernel_rfl) (by have := hgr 1 _ rfl; simpa [Nat.add_assoc] using this)) ?_
    refine wl_go 3 [(23, .bool (fr != mb)), (22, .bool (fr != mb)), (21, .int .i64 mb)] (by kernel_rfl) ?_
    cases hcf : (fr != mb)
    · skip
      refine wl_go 10 [(33, .bool false), (32, undef), (31, undef), (30, undef), (29, undef), (28, undef), (27, undef), (26, undef), (25, undef), (24, undef)] (by kernel_rfl) ?_
      refine nx_list ?_
      refine nx_then ?_
      refine wc_cond false (by kernel_rfl) (by kernel_rfl) (fun h => by cases h) (fun _ => ?_)
      refine nx_skip ?_
      refine nx_block ?_
      refine nx_then ?_
      refine wc_region ?_
      refine wl_go 1 [(12, .int .i64 (x.i : Int))] (by kernel_rfl) ?_
      refine wl_yl (d := 13) (v := .int .i64 ((x.i : Int) + 1)) (by kernel_rfl) (yl_int (t := (x.i : Int) + 1) (r := (x.i : Int) + 1) (by kernel_rfl) (i64w (by omega) (by omega))) ?_
      refine wl_go 1 [(6, .int .i64 ((x.i : Int) + 1))] (by kernel_rfl) ?_
      refine nx_list ?_
      refine nx_round_w (fun w9 h9 => ?_)
      have ht9 := SH.trHere h9
      exact ⟨x.next hlt (v := x.v) (R := x.R) (rc := x.rc) x.own (by rw [take_snocG hy, clearD_snoc, if_neg (by simp only [e1, e2]; rw [hcf]; simp), List.append_nil]; exact x.hrd.stays ht9.stays) (htr.trans ht9), (show xs.length - (x.i + 1) < xs.length - x.i by omega), (subEnv_cons (by kernel_rfl) (subEnv_cons (by kernel_rfl) (subEnv_cons (by kernel_rfl) (subEnv_cons (by kernel_rfl) (subEnv_cons (by kernel_rfl) (subEnv_nil _)))))), SH.here h9⟩
    · skip
      refine wl_go 1 [(24, .pointer (some ⟨r1, 3, none⟩))] (by kernel_rfl) ?_
      refine wl_yl (d := 25) (v := .slice (some ⟨g, o, none⟩) xs.length wc) (by kernel_rfl) (yl_load (b := r1) (off := 3) 1 rfl (by kernel_rfl) rfl (by kernel_rfl)) ?_
      refine wl_go 1 [(26, .int .i64 (x.i : Int))] (by kernel_rfl) ?_
      refine wl_yl (d := 27) (v := .pointer (some ⟨g, o + x.i * 10, none⟩)) (by kernel_rfl) (yl_index (E := 105) (b := g) (off := o) (len := xs.length) (cap := wc) (k := x.i) (es := 10) rfl (by kernel_rfl) (by kernel_rfl) (by kernel_rfl) (by omega)) ?_
      refine wl_go 2 [(29, .pointer (some ⟨g, o + x.i * 10 + 1 + 1, none⟩)), (28, .pointer (some ⟨g, o + x.i * 10 + 1, none⟩))] (by kernel_rfl) ?_
      refine wl_yl (d := 30) (v := .int .i64 to) (by kernel_rfl) (yl_load_im (b := g) (off := o + x.i * 10 + 1 + 1) rfl (by kernel_rfl) hI (by kernel_rfl) (by have := hgr 2 _ rfl; simpa [Nat.add_assoc] using this)) ?_
      refine wl_go 3 [(33, .bool (to != mb)), (32, .bool (to != mb)), (31, .int .i64 mb)] (by kernel_rfl) ?_
      refine nx_list ?_
      refine nx_then ?_
      refine wc_cond (to != mb) (by kernel_rfl) (by kernel_rfl) (fun hct => ?_) (fun hct => ?_)
      · skip
        refine wc_region ?_
        refine wl_go 2 [(35, .pointer (some ⟨r1, 3, none⟩)), (34, x.v)] (by kernel_rfl) ?_
        refine wl_yl (d := 36) (v := .slice (some ⟨g, o, none⟩) xs.length wc) (by kernel_rfl) (yl_load (b := r1) (off := 3) 1 rfl (by kernel_rfl) rfl (by kernel_rfl)) ?_
        refine wl_go 1 [(37, .int .i64 (x.i : Int))] (by kernel_rfl) ?_
        refine wl_yl (d := 38) (v := .pointer (some ⟨g, o + x.i * 10, none⟩)) (by kernel_rfl) (yl_index (E := 105) (b := g) (off := o) (len := xs.length) (cap := wc) (k := x.i) (es := 10) rfl (by kernel_rfl) (by kernel_rfl) (by kernel_rfl) (by omega)) ?_
        refine wl_yl (d := 39) (v := .agg #[.int .i64 due, .int .i64 fr, .int .i64 to, .int .i64 kind, .int .i64 term, .int .i64 index, .int .i64 last, .int .i64 commit, .slice ea rows.length ec, .bool ok]) (by kernel_rfl) (yl_loads_im (b := g) (off := o + x.i * 10) (cs := [.int .i64 due, .int .i64 fr, .int .i64 to, .int .i64 kind, .int .i64 term, .int .i64 index, .int .i64 last, .int .i64 commit, .slice ea rows.length ec, .bool ok]) rfl (by kernel_rfl) hI (by kernel_rfl) hgr) ?_
        refine wl_new (d := 40) #[.int .i64 due, .int .i64 fr, .int .i64 to, .int .i64 kind, .int .i64 term, .int .i64 index, .int .i64 last, .int .i64 commit, .slice ea rows.length ec, .bool ok] 105 (fun r => .slice (some ⟨r, 0, none⟩) 1 1) (by kernel_rfl) (fun r => by kernel_rfl) ?_
        intro r3 hr3
        have htr := htr.more (c := #[.int .i64 due, .int .i64 fr, .int .i64 to, .int .i64 kind, .int .i64 term, .int .i64 index, .int .i64 last, .int .i64 commit, .slice ea rows.length ec, .bool ok]) (t := 105) hr3
        have htr := htr.congR (L0 := ((([⟨r3, #[.int .i64 due, .int .i64 fr, .int .i64 to, .int .i64 kind, .int .i64 term, .int .i64 index, .int .i64 last, .int .i64 commit, .slice ea rows.length ec, .bool ok], 105⟩, ⟨r2, #[.int .i64 0, .int .i64 0, .int .i64 0, .slice none 0 0, .slice none 0 0], 79⟩, ⟨r1, #[.int .i64 n, .int .i64 d, .int .i64 now, .slice (some ⟨g, o, none⟩) xs.length wc, .slice ga gn gc], 79⟩] : List Blk) ++ L0) ++ x.R)) rfl
        refine wl_append' (L := ([⟨r3, #[.int .i64 due, .int .i64 fr, .int .i64 to, .int .i64 kind, .int .i64 term, .int .i64 index, .int .i64 last, .int .i64 commit, .slice ea rows.length ec, .bool ok], 105⟩, ⟨r2, #[.int .i64 0, .int .i64 0, .int .i64 0, .slice none 0 0, .slice none 0 0], 79⟩, ⟨r1, #[.int .i64 n, .int .i64 d, .int .i64 now, .slice (some ⟨g, o, none⟩) xs.length wc, .slice ga gn gc], 79⟩] : List Blk) ++ L0) (R := x.R) (d := 41) 105 (.agg #[.int .i64 0, .int .i64 0, .int .i64 0, .int .i64 0, .int .i64 0, .int .i64 0, .int .i64 0, .int .i64 0, .slice none 0 0, .bool false]) 10 96 (v := x.v) (k := x.rc.length) (xs := x.rc.flatten) (a := ⟨r3, 0, none⟩) (m := 1) (c := 1) [.int .i64 due, .int .i64 fr, .int .i64 to, .int .i64 kind, .int .i64 term, .int .i64 index, .int .i64 last, .int .i64 commit, .slice ea rows.length ec, .bool ok] (by kernel_rfl) rfl (by kernel_rfl) rfl (by decide) (by kernel_rfl) x.own (by kernel_rfl) rfl (fun w3 h3 => h3.news 0 rfl) (h_c.oneCell) (by simp only [maxLen]; omega) (by omega) ?_
        intro w2 v2 R2 hown2 hT
        have hst := im_more (c := #[.int .i64 due, .int .i64 fr, .int .i64 to, .int .i64 kind, .int .i64 term, .int .i64 index, .int .i64 last, .int .i64 commit, .slice ea rows.length ec, .bool ok]) (t := 105) (L := ((([⟨r2, #[.int .i64 0, .int .i64 0, .int .i64 0, .slice none 0 0, .slice none 0 0], 79⟩, ⟨r1, #[.int .i64 n, .int .i64 d, .int .i64 now, .slice (some ⟨g, o, none⟩) xs.length wc, .slice ga gn gc], 79⟩] : List Blk) ++ L0) ++ x.R)) hr3
        have hrd2 := (x.hrd.stays hst).stays hT.stays
        have rc2 := RdL.stays hT.stays (RdL.stays hst h_c)
        have htr := htr.trans hT
        refine wl_go 1 [(5, v2)] (by kernel_rfl) ?_
        refine nx_list ?_
        refine nx_block ?_
        refine nx_then ?_
        refine wc_region ?_
        refine wl_go 1 [(12, .int .i64 (x.i : Int))] (by kernel_rfl) ?_
        refine wl_yl (d := 13) (v := .int .i64 ((x.i : Int) + 1)) (by kernel_rfl) (yl_int (t := (x.i : Int) + 1) (r := (x.i : Int) + 1) (by kernel_rfl) (i64w (by omega) (by omega))) ?_
        refine wl_go 1 [(6, .int .i64 ((x.i : Int) + 1))] (by kernel_rfl) ?_
        refine nx_list ?_
        refine nx_round_w (fun w9 h9 => ?_)
        have ht9 := SH.trHere h9
        exact ⟨x.next hlt (v := v2) (R := R2) (rc := x.rc ++ [[.int .i64 due, .int .i64 fr, .int .i64 to, .int .i64 kind, .int .i64 term, .int .i64 index, .int .i64 last, .int .i64 commit, .slice ea rows.length ec, .bool ok]]) (by rw [List.length_append, List.flatten_append]; simpa using hown2) (by rw [take_snocG hy, clearD_snoc, if_pos (by simp only [e1, e2]; rw [hcf, hct]; rfl), List.map_append]; exact RdR.snoc (hrd2.stays (Tr.drop1 ht9).stays) (RdL.stays (Tr.drop1 ht9).stays rc2)) ((htr.trans ht9).drop1), (show xs.length - (x.i + 1) < xs.length - x.i by omega), (subEnv_cons (by kernel_rfl) (subEnv_cons (by kernel_rfl) (subEnv_cons (by kernel_rfl) (subEnv_cons (by kernel_rfl) (subEnv_cons (by kernel_rfl) (subEnv_nil _)))))), SH.drop1 h9⟩
      · skip
        refine nx_skip ?_
        refine nx_block ?_
        refine nx_then ?_
        refine wc_region ?_
        refine wl_go 1 [(12, .int .i64 (x.i : Int))] (by kernel_rfl) ?_
        refine wl_yl (d := 13) (v := .int .i64 ((x.i : Int) + 1)) (by kernel_rfl) (yl_int (t := (x.i : Int) + 1) (r := (x.i : Int) + 1) (by kernel_rfl) (i64w (by omega) (by omega))) ?_
        refine wl_go 1 [(6, .int .i64 ((x.i : Int) + 1))] (by kernel_rfl) ?_
        refine nx_list ?_
        refine nx_round_w (fun w9 h9 => ?_)
        have ht9 := SH.trHere h9
        exact ⟨x.next hlt (v := x.v) (R := x.R) (rc := x.rc) x.own (by rw [take_snocG hy, clearD_snoc, if_neg (by simp only [e1, e2]; rw [hct]; simp), List.append_nil]; exact x.hrd.stays ht9.stays) (htr.trans ht9), (show xs.length - (x.i + 1) < xs.length - x.i by omega), (subEnv_cons (by kernel_rfl) (subEnv_cons (by kernel_rfl) (subEnv_cons (by kernel_rfl) (subEnv_cons (by kernel_rfl) (subEnv_cons (by kernel_rfl) (subEnv_nil _)))))), SH.here h9⟩
  · skip
    have hge : xs.length ≤ x.i := by simpa using hcl
    have et : xs.take x.i = xs := List.take_of_length_le hge
    obtain ⟨av, cv, hv⟩ := x.own.val
    rw [hv]
    refine nx_exit ?_
    refine nx_then_exit ?_
    refine nx_then_exit ?_
    refine nx_block_here ?_
    refine nx_then ?_
    refine wc_seq ?_
    refine wc_region ?_
    refine wl_go 2 [(43, .pointer (some ⟨r1, 3, none⟩)), (42, .slice av x.rc.length cv)] (by kernel_rfl) ?_
    refine wl_store (b := r1) (off := 3) (v := .slice av x.rc.length cv) (c' := #[.int .i64 n, .int .i64 d, .int .i64 now, .slice av x.rc.length cv, .slice ga gn gc]) (L' := ((([⟨r2, #[.int .i64 0, .int .i64 0, .int .i64 0, .slice none 0 0, .slice none 0 0], 79⟩, ⟨r1, #[.int .i64 n, .int .i64 d, .int .i64 now, .slice av x.rc.length cv, .slice ga gn gc], 79⟩] : List Blk) ++ L0) ++ x.R)) 1 (by kernel_rfl) rfl (by kernel_rfl) (by kernel_rfl) rfl (by kernel_rfl) rfl ?_
    refine nx_list ?_
    refine nx_then ?_
    refine wc_seq ?_
    refine wc_region ?_
    refine wl_yl (d := 44) (v := .agg #[.int .i64 n, .int .i64 d, .int .i64 now, .slice av x.rc.length cv, .slice ga gn gc]) (by kernel_rfl) (yl_load (b := r1) (off := 0) 1 rfl (by kernel_rfl) rfl (by kernel_rfl)) ?_
    refine wl_store (b := r2) (off := 0) (v := .agg #[.int .i64 n, .int .i64 d, .int .i64 now, .slice av x.rc.length cv, .slice ga gn gc]) (c' := #[.int .i64 n, .int .i64 d, .int .i64 now, .slice av x.rc.length cv, .slice ga gn gc]) (L' := ((([⟨r2, #[.int .i64 n, .int .i64 d, .int .i64 now, .slice av x.rc.length cv, .slice ga gn gc], 79⟩, ⟨r1, #[.int .i64 n, .int .i64 d, .int .i64 now, .slice av x.rc.length cv, .slice ga gn gc], 79⟩] : List Blk) ++ L0) ++ x.R)) 0 (by kernel_rfl) rfl (by kernel_rfl) (by kernel_rfl) rfl (by kernel_rfl) rfl ?_
    refine nx_list ?_
    refine nx_then ?_
    refine nx_ret ?_
    refine ret_cell (v := .agg #[.int .i64 n, .int .i64 d, .int .i64 now, .slice av x.rc.length cv, .slice ga gn gc]) (b := r2) (off := 0) 0 rfl (by kernel_rfl) rfl (by kernel_rfl) ?_
    intro w' hw'
    have ht9 := (SH.trHere hw').cong (L0 := ((([⟨r2, #[.int .i64 0, .int .i64 0, .int .i64 0, .slice none 0 0, .slice none 0 0], 79⟩, ⟨r1, #[.int .i64 n, .int .i64 d, .int .i64 now, .slice wa xs.length wc, .slice ga gn gc], 79⟩] : List Blk) ++ L0) ++ x.R)) rfl
    have hs9 := SH.drop1 (SH.drop1 hw')
    have ht8 := Tr.drop1 (Tr.drop1 ht9)
    have h5 := x.hrd.stays ht8.stays
    rw [et] at h5
    have own9 := x.own
    rw [hv, ← h5.length] at own9
    rw [← h5.length]
    exact ⟨_, rfl, SH.part hs9, (htr.trans ht8).less (fun y hy => List.mem_append_left _ hy), own_rd own9 hs9 (h5.stays (SH.staysP hs9))⟩

theorem rSend_no (n d now : Int) (wa : Option Addr) (wn wc : Nat) (gl : List (Int × Int)) (ga : Option Addr) (gc : Nat) (fr to kind term index last commit : Int) (rows : List (List D)) (ea : Option Addr) (ec : Nat) (ok : Bool) (w : World) (S : Nat → Prop) (hg : Rd S w (.sl (gl.map gRow)) (.slice ga gl.length gc)) (hgl : gl.length ≤ 1000) (hp : pairB n fr to = false) : Calls Try.prog 23 #[.agg #[.int .i64 n, .int .i64 d, .int .i64 now, .slice wa wn wc, .slice ga gl.length gc], .agg #[.int .i64 fr, .int .i64 to, .int .i64 kind, .int .i64 term, .int .i64 index, .int .i64 last, .int .i64 commit, .slice ea rows.length ec, .bool ok]] w (fun e w' => e = .returned (.tuple #[.agg #[.int .i64 n, .int .i64 d, .int .i64 now, .slice wa wn wc, .slice ga gl.length gc], .int .i64 1]) ∧ Below w.heap.size w w') := by
  refine Sx.enter (l := [.agg #[.int .i64 n, .int .i64 d, .int .i64 now, .slice wa wn wc, .slice ga gl.length gc], .agg #[.int .i64 fr, .int .i64 to, .int .i64 kind, .int .i64 term, .int .i64 index, .int .i64 last, .int .i64 commit, .slice ea rows.length ec, .bool ok]]) Try.func23 rfl (n := 38) rfl (by simp) ?_
  refine wc_eq (S := SH w []) (SH.refl _) ?_
  refine wc_seq ?_
  refine wc_region ?_
  refine wl_new (d := 2) #[.int .i64 n, .int .i64 d, .int .i64 now, .slice wa wn wc, .slice ga gl.length gc] 79 (fun r => .pointer (some ⟨r, 0, none⟩)) (by kernel_rfl) (fun r => by kernel_rfl) ?_
  intro r1 hr1
  refine wl_new (d := 3) #[.int .i64 fr, .int .i64 to, .int .i64 kind, .int .i64 term, .int .i64 index, .int .i64 last, .int .i64 commit, .slice ea rows.length ec, .bool ok] 59 (fun r => .pointer (some ⟨r, 0, none⟩)) (by kernel_rfl) (fun r => by kernel_rfl) ?_
  intro r2 hr2
  refine wl_new (d := 4) #[.int .i64 0, .int .i64 0, .int .i64 0, .slice none 0 0, .slice none 0 0] 79 (fun r => .pointer (some ⟨r, 0, none⟩)) (by kernel_rfl) (fun r => by kernel_rfl) ?_
  intro r3 hr3
  refine wl_go 1 [(5, .int .i64 0)] (by kernel_rfl) ?_
  refine nx_list ?_
  refine nx_then ?_
  refine wc_seq ?_
  refine wc_seq ?_
  refine wc_region ?_
  refine wl_yl (d := 7) (v := .agg #[.int .i64 n, .int .i64 d, .int .i64 now, .slice wa wn wc, .slice ga gl.length gc]) (by kernel_rfl) (yl_load (b := r1) (off := 0) 2 rfl (by kernel_rfl) rfl (by kernel_rfl)) ?_
  refine wl_go 1 [(8, .pointer (some ⟨r2, 0, none⟩))] (by kernel_rfl) ?_
  refine wl_yl (d := 9) (v := .int .i64 fr) (by kernel_rfl) (yl_load (b := r2) (off := 0) 1 rfl (by kernel_rfl) rfl (by kernel_rfl)) ?_
  refine wl_go 1 [(10, .pointer (some ⟨r2, 1, none⟩))] (by kernel_rfl) ?_
  refine wl_yl (d := 11) (v := .int .i64 to) (by kernel_rfl) (yl_load (b := r2) (off := 1) 1 rfl (by kernel_rfl) rfl (by kernel_rfl)) ?_
  refine wl_callK shK (d := 12) (v := .bool (pairB n fr to)) (by kernel_rfl) (by kernel_rfl) (fun w1 h1 => rPair_ok n d now (.slice wa wn wc) (.slice ga gl.length gc) fr to w1) ?_
  rw [hp]
  refine wl_go 1 [(13, .bool true)] (by kernel_rfl) ?_
  refine nx_list ?_
  refine nx_then ?_
  refine wc_cond true (by kernel_rfl) (by kernel_rfl) (fun _ => ?_) (fun h => by cases h)
  refine wc_seq ?_
  refine wc_region ?_
  refine wl_yl (d := 14) (v := .agg #[.int .i64 n, .int .i64 d, .int .i64 now, .slice wa wn wc, .slice ga gl.length gc]) (by kernel_rfl) (yl_load (b := r1) (off := 0) 2 rfl (by kernel_rfl) rfl (by kernel_rfl)) ?_
  refine wl_store (b := r3) (off := 0) (v := .agg #[.int .i64 n, .int .i64 d, .int .i64 now, .slice wa wn wc, .slice ga gl.length gc]) (c' := #[.int .i64 n, .int .i64 d, .int .i64 now, .slice wa wn wc, .slice ga gl.length gc]) (L' := [⟨r3, #[.int .i64 n, .int .i64 d, .int .i64 now, .slice wa wn wc, .slice ga gl.length gc], 79⟩, ⟨r2, #[.int .i64 fr, .int .i64 to, .int .i64 kind, .int .i64 term, .int .i64 index, .int .i64 last, .int .i64 commit, .slice ea rows.length ec, .bool ok], 59⟩, ⟨r1, #[.int .i64 n, .int .i64 d, .int .i64 now, .slice wa wn wc, .slice ga gl.length gc], 79⟩]) 0 (by kernel_rfl) rfl (by kernel_rfl) (by kernel_rfl) rfl (by kernel_rfl) rfl ?_
  refine wl_go 1 [(5, .int .i64 1)] (by kernel_rfl) ?_
  refine nx_list ?_
  refine nx_then ?_
  refine nx_ret ?_
  refine nx_then_ret ?_
  refine ret_cellT (v := .agg #[.int .i64 n, .int .i64 d, .int .i64 now, .slice wa wn wc, .slice ga gl.length gc]) (v' := .int .i64 1) (b := r3) (off := 0) 0 rfl (by kernel_rfl) rfl (by kernel_rfl) (by kernel_rfl) ?_
  intro w' hw'
  exact ⟨rfl, hw'.below (Below.refl _ _) (Nat.le_refl _) (ge_cons hr3 (ge_cons hr2 (ge_cons hr1 (ge_nil _))))⟩

theorem rSend_cut (n d now : Int) (wa : Option Addr) (wn wc : Nat) (gl : List (Int × Int)) (ga : Option Addr) (gc : Nat) (fr to kind term index last commit : Int) (rows : List (List D)) (ea : Option Addr) (ec : Nat) (ok : Bool) (w : World) (S : Nat → Prop) (hg : Rd S w (.sl (gl.map gRow)) (.slice ga gl.length gc)) (hgl : gl.length ≤ 1000) (hp : pairB n fr to = true) (hu : upR n gl fr to = false) : Calls Try.prog 23 #[.agg #[.int .i64 n, .int .i64 d, .int .i64 now, .slice wa wn wc, .slice ga gl.length gc], .agg #[.int .i64 fr, .int .i64 to, .int .i64 kind, .int .i64 term, .int .i64 index, .int .i64 last, .int .i64 commit, .slice ea rows.length ec, .bool ok]] w (fun e w' => e = .returned (.tuple #[.agg #[.int .i64 n, .int .i64 d, .int .i64 now, .slice wa wn wc, .slice ga gl.length gc], .int .i64 0]) ∧ Below w.heap.size w w') := by
  refine Sx.enter (l := [.agg #[.int .i64 n, .int .i64 d, .int .i64 now, .slice wa wn wc, .slice ga gl.length gc], .agg #[.int .i64 fr, .int .i64 to, .int .i64 kind, .int .i64 term, .int .i64 index, .int .i64 last, .int .i64 commit, .slice ea rows.length ec, .bool ok]]) Try.func23 rfl (n := 38) rfl (by simp) ?_
  refine wc_eq (S := SH w []) (SH.refl _) ?_
  refine wc_seq ?_
  refine wc_region ?_
  refine wl_new (d := 2) #[.int .i64 n, .int .i64 d, .int .i64 now, .slice wa wn wc, .slice ga gl.length gc] 79 (fun r => .pointer (some ⟨r, 0, none⟩)) (by kernel_rfl) (fun r => by kernel_rfl) ?_
  intro r1 hr1
  refine wl_new (d := 3) #[.int .i64 fr, .int .i64 to, .int .i64 kind, .int .i64 term, .int .i64 index, .int .i64 last, .int .i64 commit, .slice ea rows.length ec, .bool ok] 59 (fun r => .pointer (some ⟨r, 0, none⟩)) (by kernel_rfl) (fun r => by kernel_rfl) ?_
  intro r2 hr2
  refine wl_new (d := 4) #[.int .i64 0, .int .i64 0, .int .i64 0, .slice none 0 0, .slice none 0 0] 79 (fun r => .pointer (some ⟨r, 0, none⟩)) (by kernel_rfl) (fun r => by kernel_rfl) ?_
  intro r3 hr3
  refine wl_go 1 [(5, .int .i64 0)] (by kernel_rfl) ?_
  refine nx_list ?_
  refine nx_then ?_
  refine wc_seq ?_
  refine wc_seq ?_
  refine wc_region ?_
  refine wl_yl (d := 7) (v := .agg #[.int .i64 n, .int .i64 d, .int .i64 now, .slice wa wn wc, .slice ga gl.length gc]) (by kernel_rfl) (yl_load (b := r1) (off := 0) 2 rfl (by kernel_rfl) rfl (by kernel_rfl)) ?_
  refine wl_go 1 [(8, .pointer (some ⟨r2, 0, none⟩))] (by kernel_rfl) ?_
  refine wl_yl (d := 9) (v := .int .i64 fr) (by kernel_rfl) (yl_load (b := r2) (off := 0) 1 rfl (by kernel_rfl) rfl (by kernel_rfl)) ?_
  refine wl_go 1 [(10, .pointer (some ⟨r2, 1, none⟩))] (by kernel_rfl) ?_
  refine wl_yl (d := 11) (v := .int .i64 to) (by kernel_rfl) (yl_load (b := r2) (off := 1) 1 rfl (by kernel_rfl) rfl (by kernel_rfl)) ?_
  refine wl_callK shK (d := 12) (v := .bool (pairB n fr to)) (by kernel_rfl) (by kernel_rfl) (fun w1 h1 => rPair_ok n d now (.slice wa wn wc) (.slice ga gl.length gc) fr to w1) ?_
  rw [hp]
  refine wl_go 1 [(13, .bool false)] (by kernel_rfl) ?_
  refine nx_list ?_
  refine nx_then ?_
  refine wc_cond false (by kernel_rfl) (by kernel_rfl) (fun h => by cases h) (fun _ => ?_)
  refine nx_skip ?_
  refine nx_then ?_
  refine wc_seq ?_
  refine wc_seq ?_
  refine wc_region ?_
  refine wl_yl (d := 15) (v := .agg #[.int .i64 n, .int .i64 d, .int .i64 now, .slice wa wn wc, .slice ga gl.length gc]) (by kernel_rfl) (yl_load (b := r1) (off := 0) 2 rfl (by kernel_rfl) rfl (by kernel_rfl)) ?_
  refine wl_go 1 [(16, .pointer (some ⟨r2, 0, none⟩))] (by kernel_rfl) ?_
  refine wl_yl (d := 17) (v := .int .i64 fr) (by kernel_rfl) (yl_load (b := r2) (off := 0) 1 rfl (by kernel_rfl) rfl (by kernel_rfl)) ?_
  refine wl_go 1 [(18, .pointer (some ⟨r2, 1, none⟩))] (by kernel_rfl) ?_
  refine wl_yl (d := 19) (v := .int .i64 to) (by kernel_rfl) (yl_load (b := r2) (off := 1) 1 rfl (by kernel_rfl) rfl (by kernel_rfl)) ?_
  refine wl_callK shK (d := 20) (v := .bool (upR n gl fr to)) (by kernel_rfl) (by kernel_rfl) (fun w1 h1 => rUp_ok n d now (.slice wa wn wc) gl ga gc fr to w1 _ (hg.any.stays (Bl.stays (h1.below (Below.refl _ _) (Nat.le_refl _) (ge_cons hr3 (ge_cons hr2 (ge_cons hr1 (ge_nil _))))))) hgl) ?_
  rw [hu]
  refine nx_list ?_
  refine nx_then ?_
  refine wc_cond false (by kernel_rfl) (by kernel_rfl) (fun h => by cases h) (fun _ => ?_)
  refine nx_skip ?_
  refine nx_then ?_
  refine wc_seq ?_
  refine wc_region ?_
  refine wl_yl (d := 37) (v := .agg #[.int .i64 n, .int .i64 d, .int .i64 now, .slice wa wn wc, .slice ga gl.length gc]) (by kernel_rfl) (yl_load (b := r1) (off := 0) 2 rfl (by kernel_rfl) rfl (by kernel_rfl)) ?_
  refine wl_store (b := r3) (off := 0) (v := .agg #[.int .i64 n, .int .i64 d, .int .i64 now, .slice wa wn wc, .slice ga gl.length gc]) (c' := #[.int .i64 n, .int .i64 d, .int .i64 now, .slice wa wn wc, .slice ga gl.length gc]) (L' := [⟨r3, #[.int .i64 n, .int .i64 d, .int .i64 now, .slice wa wn wc, .slice ga gl.length gc], 79⟩, ⟨r2, #[.int .i64 fr, .int .i64 to, .int .i64 kind, .int .i64 term, .int .i64 index, .int .i64 last, .int .i64 commit, .slice ea rows.length ec, .bool ok], 59⟩, ⟨r1, #[.int .i64 n, .int .i64 d, .int .i64 now, .slice wa wn wc, .slice ga gl.length gc], 79⟩]) 0 (by kernel_rfl) rfl (by kernel_rfl) (by kernel_rfl) rfl (by kernel_rfl) rfl ?_
  refine wl_go 1 [(5, .int .i64 0)] (by kernel_rfl) ?_
  refine nx_list ?_
  refine nx_then ?_
  refine nx_ret ?_
  refine ret_cellT (v := .agg #[.int .i64 n, .int .i64 d, .int .i64 now, .slice wa wn wc, .slice ga gl.length gc]) (v' := .int .i64 0) (b := r3) (off := 0) 0 rfl (by kernel_rfl) rfl (by kernel_rfl) (by kernel_rfl) ?_
  intro w' hw'
  exact ⟨rfl, hw'.below (Below.refl _ _) (Nat.le_refl _) (ge_cons hr3 (ge_cons hr2 (ge_cons hr1 (ge_nil _))))⟩

theorem rSend_yes (n d now : Int) (xs : List (Int × List D)) (wa : Option Addr) (wc : Nat) (gl : List (Int × Int)) (ga : Option Addr) (gc : Nat) (fr to kind term index last commit : Int) (rows : List (List D)) (ea : Option Addr) (ec : Nat) (ok : Bool) (L0 : List Blk) (w : World) (hsh : SH w L0 w) (hg : Rd (Im w L0) w (.sl (gl.map gRow)) (.slice ga gl.length gc)) (hgl : gl.length ≤ 1000) (hway : Rd (Im w L0) w (.sl (xs.map rowS)) (.slice wa xs.length wc)) (hfit : FitR sh by_ (xs.map (·.2)) (sh 14)) (hxs : xs.length ≤ 1000) (hm : RdL (Im w L0) w [D.int fr, D.int to, D.int kind, D.int term, D.int index, D.int last, D.int commit, D.sl rows, D.bool ok] [.int .i64 fr, .int .i64 to, .int .i64 kind, .int .i64 term, .int .i64 index, .int .i64 last, .int .i64 commit, .slice ea rows.length ec, .bool ok]) (hn1 : 0 ≤ now) (hn2 : now ≤ 1000000) (hd1 : 0 ≤ d) (hd2 : d ≤ 1000000) (hp : pairB n fr to = true) (hu : upR n gl fr to = true) : Calls Try.prog 23 #[.agg #[.int .i64 n, .int .i64 d, .int .i64 now, .slice wa xs.length wc, .slice ga gl.length gc], .agg #[.int .i64 fr, .int .i64 to, .int .i64 kind, .int .i64 term, .int .i64 index, .int .i64 last, .int .i64 commit, .slice ea rows.length ec, .bool ok]] w (fun e w' => ∃ v, e = .returned (.tuple #[.agg #[.int .i64 n, .int .i64 d, .int .i64 now, v, .slice ga gl.length gc], .int .i64 0]) ∧ SH w' L0 w' ∧ Tr w L0 w' L0 ∧ Rd (Im w' L0) w' (.sl ((xs ++ [(now + d, [D.int fr, D.int to, D.int kind, D.int term, D.int index, D.int last, D.int commit, D.sl rows, D.bool ok])]).map rowS)) v) := by
  refine Sx.enter (l := [.agg #[.int .i64 n, .int .i64 d, .int .i64 now, .slice wa xs.length wc, .slice ga gl.length gc], .agg #[.int .i64 fr, .int .i64 to, .int .i64 kind, .int .i64 term, .int .i64 index, .int .i64 last, .int .i64 commit, .slice ea rows.length ec, .bool ok]]) Try.func23 rfl (n := 38) rfl (by simp) ?_
  refine wc_eq (S := SH w (([] : List Blk) ++ L0)) hsh ?_
  have htr : Tr w L0 w (([] : List Blk) ++ L0) := Tr.refl w L0
  refine wc_seq ?_
  refine wc_region ?_
  refine wl_new (d := 2) #[.int .i64 n, .int .i64 d, .int .i64 now, .slice wa xs.length wc, .slice ga gl.length gc] 79 (fun r => .pointer (some ⟨r, 0, none⟩)) (by kernel_rfl) (fun r => by kernel_rfl) ?_
  intro r1 hr1
  have htr := htr.more (c := #[.int .i64 n, .int .i64 d, .int .i64 now, .slice wa xs.length wc, .slice ga gl.length gc]) (t := 79) hr1
  refine wl_new (d := 3) #[.int .i64 fr, .int .i64 to, .int .i64 kind, .int .i64 term, .int .i64 index, .int .i64 last, .int .i64 commit, .slice ea rows.length ec, .bool ok] 59 (fun r => .pointer (some ⟨r, 0, none⟩)) (by kernel_rfl) (fun r => by kernel_rfl) ?_
  intro r2 hr2
  have htr := htr.more (c := #[.int .i64 fr, .int .i64 to, .int .i64 kind, .int .i64 term, .int .i64 index, .int .i64 last, .int .i64 commit, .slice ea rows.length ec, .bool ok]) (t := 59) hr2
  refine wl_new (d := 4) #[.int .i64 0, .int .i64 0, .int .i64 0, .slice none 0 0, .slice none 0 0] 79 (fun r => .pointer (some ⟨r, 0, none⟩)) (by kernel_rfl) (fun r => by kernel_rfl) ?_
  intro r3 hr3
  have htr := htr.more (c := #[.int .i64 0, .int .i64 0, .int .i64 0, .slice none 0 0, .slice none 0 0]) (t := 79) hr3
  refine wl_go 1 [(5, .int .i64 0)] (by kernel_rfl) ?_
  refine nx_list ?_
  refine nx_then ?_
  refine wc_seq ?_
  refine wc_seq ?_
  refine wc_region ?_
  refine wl_yl (d := 7) (v := .agg #[.int .i64 n, .int .i64 d, .int .i64 now, .slice wa xs.length wc, .slice ga gl.length gc]) (by kernel_rfl) (yl_load (b := r1) (off := 0) 2 rfl (by kernel_rfl) rfl (by kernel_rfl)) ?_
  refine wl_go 1 [(8, .pointer (some ⟨r2, 0, none⟩))] (by kernel_rfl) ?_
  refine wl_yl (d := 9) (v := .int .i64 fr) (by kernel_rfl) (yl_load (b := r2) (off := 0) 1 rfl (by kernel_rfl) rfl (by kernel_rfl)) ?_
  refine wl_go 1 [(10, .pointer (some ⟨r2, 1, none⟩))] (by kernel_rfl) ?_
  refine wl_yl (d := 11) (v := .int .i64 to) (by kernel_rfl) (yl_load (b := r2) (off := 1) 1 rfl (by kernel_rfl) rfl (by kernel_rfl)) ?_
  refine wl_callK shK (d := 12) (v := .bool (pairB n fr to)) (by kernel_rfl) (by kernel_rfl) (fun w1 h1 => rPair_ok n d now (.slice wa xs.length wc) (.slice ga gl.length gc) fr to w1) ?_
  rw [hp]
  refine wl_go 1 [(13, .bool false)] (by kernel_rfl) ?_
  refine nx_list ?_
  refine nx_then ?_
  refine wc_cond false (by kernel_rfl) (by kernel_rfl) (fun h => by cases h) (fun _ => ?_)
  refine nx_skip ?_
  refine nx_then ?_
  refine wc_seq ?_
  refine wc_seq ?_
  refine wc_region ?_
  refine wl_yl (d := 15) (v := .agg #[.int .i64 n, .int .i64 d, .int .i64 now, .slice wa xs.length wc, .slice ga gl.length gc]) (by kernel_rfl) (yl_load (b := r1) (off := 0) 2 rfl (by kernel_rfl) rfl (by kernel_rfl)) ?_
  refine wl_go 1 [(16, .pointer (some ⟨r2, 0, none⟩))] (by kernel_rfl) ?_
  refine wl_yl (d := 17) (v := .int .i64 fr) (by kernel_rfl) (yl_load (b := r2) (off := 0) 1 rfl (by kernel_rfl) rfl (by kernel_rfl)) ?_
  refine wl_go 1 [(18, .pointer (some ⟨r2, 1, none⟩))] (by kernel_rfl) ?_
  refine wl_yl (d := 19) (v := .int .i64 to) (by kernel_rfl) (yl_load (b := r2) (off := 1) 1 rfl (by kernel_rfl) rfl (by kernel_rfl)) ?_
  have hgx := hg.stays (htr.congR (L0 := (([⟨r3, #[.int .i64 0, .int .i64 0, .int .i64 0, .slice none 0 0, .slice none 0 0], 79⟩, ⟨r2, #[.int .i64 fr, .int .i64 to, .int .i64 kind, .int .i64 term, .int .i64 index, .int .i64 last, .int .i64 commit, .slice ea rows.length ec, .bool ok], 59⟩, ⟨r1, #[.int .i64 n, .int .i64 d, .int .i64 now, .slice wa xs.length wc, .slice ga gl.length gc], 79⟩] : List Blk) ++ L0)) rfl).stays
  refine wl_callK shK (d := 20) (v := .bool (upR n gl fr to)) (by kernel_rfl) (by kernel_rfl) (fun w1 h1 => rUp_ok n d now (.slice wa xs.length wc) gl ga gc fr to w1 _ (hgx.stays (SH.trHere h1).stays) hgl) ?_
  rw [hu]
  refine nx_list ?_
  refine nx_then ?_
  refine wc_cond true (by kernel_rfl) (by kernel_rfl) (fun _ => ?_) (fun h => by cases h)
  refine wc_seq ?_
  refine wc_region ?_
  refine wl_go 1 [(6, .slice none 0 0)] (by kernel_rfl) ?_
  refine nx_list ?_
  refine nx_then ?_
  refine wc_seq ?_
  refine wc_region ?_
  refine wl_go 2 [(22, .pointer (some ⟨r1, 3, none⟩)), (21, .slice none 0 0)] (by kernel_rfl) ?_
  refine wl_yl (d := 23) (v := .slice wa xs.length wc) (by kernel_rfl) (yl_load (b := r1) (off := 3) 2 rfl (by kernel_rfl) rfl (by kernel_rfl)) ?_
  have htr := htr.congR (L0 := (([⟨r3, #[.int .i64 0, .int .i64 0, .int .i64 0, .slice none 0 0, .slice none 0 0], 79⟩, ⟨r2, #[.int .i64 fr, .int .i64 to, .int .i64 kind, .int .i64 term, .int .i64 index, .int .i64 last, .int .i64 commit, .slice ea rows.length ec, .bool ok], 59⟩, ⟨r1, #[.int .i64 n, .int .i64 d, .int .i64 now, .slice wa xs.length wc, .slice ga gl.length gc], 79⟩] : List Blk) ++ L0)) rfl
  refine wl_appendN (L := (([⟨r3, #[.int .i64 0, .int .i64 0, .int .i64 0, .slice none 0 0, .slice none 0 0], 79⟩, ⟨r2, #[.int .i64 fr, .int .i64 to, .int .i64 kind, .int .i64 term, .int .i64 index, .int .i64 last, .int .i64 commit, .slice ea rows.length ec, .bool ok], 59⟩, ⟨r1, #[.int .i64 n, .int .i64 d, .int .i64 now, .slice wa xs.length wc, .slice ga gl.length gc], 79⟩] : List Blk) ++ L0)) (d := 24) 105 (.agg #[.int .i64 0, .int .i64 0, .int .i64 0, .int .i64 0, .int .i64 0, .int .i64 0, .int .i64 0, .int .i64 0, .slice none 0 0, .bool false]) 10 96 (xs.map rowS) (by kernel_rfl) rfl (by kernel_rfl) rfl (by decide) (by kernel_rfl) (by kernel_rfl) (hway.stays htr.stays) (rowS_len hfit) (by simp only [maxLen, List.length_map]; omega) (by rw [List.length_map]; omega) ?_
  intro w2 v2 R2 rv own2 hrd2 hT
  have htr := htr.trans hT
  have own2 : Own 105 10 v2 xs.length rv.flatten R2 := by rw [List.length_map] at own2; exact own2
  refine wl_go 1 [(6, v2)] (by kernel_rfl) ?_
  refine nx_list ?_
  refine nx_then ?_
  refine wc_seq ?_
  refine wc_region ?_
  refine wl_go 2 [(26, .pointer (some ⟨r1, 2, none⟩)), (25, v2)] (by kernel_rfl) ?_
  refine wl_yl (d := 27) (v := .int .i64 now) (by kernel_rfl) (yl_load (b := r1) (off := 2) 2 rfl (by kernel_rfl) rfl (by kernel_rfl)) ?_
  refine wl_go 1 [(28, .pointer (some ⟨r1, 1, none⟩))] (by kernel_rfl) ?_
  refine wl_yl (d := 29) (v := .int .i64 d) (by kernel_rfl) (yl_load (b := r1) (off := 1) 2 rfl (by kernel_rfl) rfl (by kernel_rfl)) ?_
  refine wl_yl (d := 30) (v := .int .i64 (now + d)) (by kernel_rfl) (yl_int (t := now + d) (r := now + d) (by kernel_rfl) (i64w (by omega) (by omega))) ?_
  refine wl_yl (d := 31) (v := .agg #[.int .i64 fr, .int .i64 to, .int .i64 kind, .int .i64 term, .int .i64 index, .int .i64 last, .int .i64 commit, .slice ea rows.length ec, .bool ok]) (by kernel_rfl) (yl_load (b := r2) (off := 0) 1 rfl (by kernel_rfl) rfl (by kernel_rfl)) ?_
  refine wl_go 1 [(32, .agg #[.int .i64 (now + d), .int .i64 fr, .int .i64 to, .int .i64 kind, .int .i64 term, .int .i64 index, .int .i64 last, .int .i64 commit, .slice ea rows.length ec, .bool ok])] (by kernel_rfl) ?_
  refine wl_new (d := 33) #[.int .i64 (now + d), .int .i64 fr, .int .i64 to, .int .i64 kind, .int .i64 term, .int .i64 index, .int .i64 last, .int .i64 commit, .slice ea rows.length ec, .bool ok] 105 (fun r => .slice (some ⟨r, 0, none⟩) 1 1) (by kernel_rfl) (fun r => by kernel_rfl) ?_
  intro r4 hr4
  have htr := htr.more (c := #[.int .i64 (now + d), .int .i64 fr, .int .i64 to, .int .i64 kind, .int .i64 term, .int .i64 index, .int .i64 last, .int .i64 commit, .slice ea rows.length ec, .bool ok]) (t := 105) hr4
  have htr := htr.congR (L0 := ((([⟨r4, #[.int .i64 (now + d), .int .i64 fr, .int .i64 to, .int .i64 kind, .int .i64 term, .int .i64 index, .int .i64 last, .int .i64 commit, .slice ea rows.length ec, .bool ok], 105⟩, ⟨r3, #[.int .i64 0, .int .i64 0, .int .i64 0, .slice none 0 0, .slice none 0 0], 79⟩, ⟨r2, #[.int .i64 fr, .int .i64 to, .int .i64 kind, .int .i64 term, .int .i64 index, .int .i64 last, .int .i64 commit, .slice ea rows.length ec, .bool ok], 59⟩, ⟨r1, #[.int .i64 n, .int .i64 d, .int .i64 now, .slice wa xs.length wc, .slice ga gl.length gc], 79⟩] : List Blk) ++ L0) ++ R2)) rfl
  refine wl_append' (L := ([⟨r4, #[.int .i64 (now + d), .int .i64 fr, .int .i64 to, .int .i64 kind, .int .i64 term, .int .i64 index, .int .i64 last, .int .i64 commit, .slice ea rows.length ec, .bool ok], 105⟩, ⟨r3, #[.int .i64 0, .int .i64 0, .int .i64 0, .slice none 0 0, .slice none 0 0], 79⟩, ⟨r2, #[.int .i64 fr, .int .i64 to, .int .i64 kind, .int .i64 term, .int .i64 index, .int .i64 last, .int .i64 commit, .slice ea rows.length ec, .bool ok], 59⟩, ⟨r1, #[.int .i64 n, .int .i64 d, .int .i64 now, .slice wa xs.length wc, .slice ga gl.length gc], 79⟩] : List Blk) ++ L0) (R := R2) (d := 34) 105 (.agg #[.int .i64 0, .int .i64 0, .int .i64 0, .int .i64 0, .int .i64 0, .int .i64 0, .int .i64 0, .int .i64 0, .slice none 0 0, .bool false]) 10 96 (v := v2) (k := xs.length) (xs := rv.flatten) (a := ⟨r4, 0, none⟩) (m := 1) (c := 1) (.int .i64 (now + d) :: [.int .i64 fr, .int .i64 to, .int .i64 kind, .int .i64 term, .int .i64 index, .int .i64 last, .int .i64 commit, .slice ea rows.length ec, .bool ok]) (by kernel_rfl) rfl (by kernel_rfl) rfl (by decide) (by kernel_rfl) own2 (by kernel_rfl) rfl (fun w3 h3 => h3.news 0 rfl) (by intro u hu; rcases List.mem_cons.1 hu with rfl | hu; rfl; exact hm.oneCell u hu) (by simp only [maxLen]; omega) (by omega) ?_
  intro w3 v3 R3 own3 hT
  have hrd3 := (hrd2.stays (im_more (c := #[.int .i64 (now + d), .int .i64 fr, .int .i64 to, .int .i64 kind, .int .i64 term, .int .i64 index, .int .i64 last, .int .i64 commit, .slice ea rows.length ec, .bool ok]) (t := 105) hr4)).stays hT.stays
  have htr := htr.trans hT
  obtain ⟨a3, c3, rfl⟩ := own3.val
  refine wl_go 1 [(6, .slice a3 (xs.length + 1) c3)] (by kernel_rfl) ?_
  refine nx_list ?_
  refine nx_then ?_
  refine wc_region ?_
  refine wl_go 2 [(36, .pointer (some ⟨r1, 3, none⟩)), (35, .slice a3 (xs.length + 1) c3)] (by kernel_rfl) ?_
  refine wl_store (b := r1) (off := 3) (v := .slice a3 (xs.length + 1) c3) (c' := #[.int .i64 n, .int .i64 d, .int .i64 now, .slice a3 (xs.length + 1) c3, .slice ga gl.length gc]) (L' := ((([⟨r4, #[.int .i64 (now + d), .int .i64 fr, .int .i64 to, .int .i64 kind, .int .i64 term, .int .i64 index, .int .i64 last, .int .i64 commit, .slice ea rows.length ec, .bool ok], 105⟩, ⟨r3, #[.int .i64 0, .int .i64 0, .int .i64 0, .slice none 0 0, .slice none 0 0], 79⟩, ⟨r2, #[.int .i64 fr, .int .i64 to, .int .i64 kind, .int .i64 term, .int .i64 index, .int .i64 last, .int .i64 commit, .slice ea rows.length ec, .bool ok], 59⟩, ⟨r1, #[.int .i64 n, .int .i64 d, .int .i64 now, .slice a3 (xs.length + 1) c3, .slice ga gl.length gc], 79⟩] : List Blk) ++ L0) ++ R3)) 3 (by kernel_rfl) rfl (by kernel_rfl) (by kernel_rfl) rfl (by kernel_rfl) rfl ?_
  refine nx_list ?_
  refine nx_then ?_
  refine wc_seq ?_
  refine wc_region ?_
  refine wl_yl (d := 37) (v := .agg #[.int .i64 n, .int .i64 d, .int .i64 now, .slice a3 (xs.length + 1) c3, .slice ga gl.length gc]) (by kernel_rfl) (yl_load (b := r1) (off := 0) 3 rfl (by kernel_rfl) rfl (by kernel_rfl)) ?_
  refine wl_store (b := r3) (off := 0) (v := .agg #[.int .i64 n, .int .i64 d, .int .i64 now, .slice a3 (xs.length + 1) c3, .slice ga gl.length gc]) (c' := #[.int .i64 n, .int .i64 d, .int .i64 now, .slice a3 (xs.length + 1) c3, .slice ga gl.length gc]) (L' := ((([⟨r4, #[.int .i64 (now + d), .int .i64 fr, .int .i64 to, .int .i64 kind, .int .i64 term, .int .i64 index, .int .i64 last, .int .i64 commit, .slice ea rows.length ec, .bool ok], 105⟩, ⟨r3, #[.int .i64 n, .int .i64 d, .int .i64 now, .slice a3 (xs.length + 1) c3, .slice ga gl.length gc], 79⟩, ⟨r2, #[.int .i64 fr, .int .i64 to, .int .i64 kind, .int .i64 term, .int .i64 index, .int .i64 last, .int .i64 commit, .slice ea rows.length ec, .bool ok], 59⟩, ⟨r1, #[.int .i64 n, .int .i64 d, .int .i64 now, .slice a3 (xs.length + 1) c3, .slice ga gl.length gc], 79⟩] : List Blk) ++ L0) ++ R3)) 1 (by kernel_rfl) rfl (by kernel_rfl) (by kernel_rfl) rfl (by kernel_rfl) rfl ?_
  refine wl_go 1 [(5, .int .i64 0)] (by kernel_rfl) ?_
  refine nx_list ?_
  refine nx_then ?_
  refine nx_ret ?_
  refine ret_cellT (v := .agg #[.int .i64 n, .int .i64 d, .int .i64 now, .slice a3 (xs.length + 1) c3, .slice ga gl.length gc]) (v' := .int .i64 0) (b := r3) (off := 0) 1 rfl (by kernel_rfl) rfl (by kernel_rfl) (by kernel_rfl) ?_
  intro w' hw'
  have ht9 := (SH.trHere hw').cong (L0 := ((([⟨r4, #[.int .i64 (now + d), .int .i64 fr, .int .i64 to, .int .i64 kind, .int .i64 term, .int .i64 index, .int .i64 last, .int .i64 commit, .slice ea rows.length ec, .bool ok], 105⟩, ⟨r3, #[.int .i64 0, .int .i64 0, .int .i64 0, .slice none 0 0, .slice none 0 0], 79⟩, ⟨r2, #[.int .i64 fr, .int .i64 to, .int .i64 kind, .int .i64 term, .int .i64 index, .int .i64 last, .int .i64 commit, .slice ea rows.length ec, .bool ok], 59⟩, ⟨r1, #[.int .i64 n, .int .i64 d, .int .i64 now, .slice wa xs.length wc, .slice ga gl.length gc], 79⟩] : List Blk) ++ L0) ++ R3)) rfl
  have hs9 := SH.drop1 (SH.drop1 (SH.drop1 (SH.drop1 (hw'))))
  have ht8 := Tr.drop1 (Tr.drop1 (Tr.drop1 (Tr.drop1 (ht9))))
  have hm9 := RdL.stays (htr.trans ht8).stays hm
  have h5 := RdR.snoc (hrd3.stays ht8.stays) (r := rowS (now + d, [D.int fr, D.int to, D.int kind, D.int term, D.int index, D.int last, D.int commit, D.sl rows, D.bool ok])) (c := .int .i64 (now + d) :: [.int .i64 fr, .int .i64 to, .int .i64 kind, .int .i64 term, .int .i64 index, .int .i64 last, .int .i64 commit, .slice ea rows.length ec, .bool ok]) ⟨by rw [Rd], hm9⟩
  have own9 : Own 105 10 (.slice a3 (xs.length + 1) c3) ((xs ++ [(now + d, [D.int fr, D.int to, D.int kind, D.int term, D.int index, D.int last, D.int commit, D.sl rows, D.bool ok])]).map rowS).length (rv ++ [(Value.int .i64 (now + d) :: ([.int .i64 fr, .int .i64 to, .int .i64 kind, .int .i64 term, .int .i64 index, .int .i64 last, .int .i64 commit, .slice ea rows.length ec, .bool ok] : List Value))]).flatten R3 := by
    rw [List.flatten_append, List.length_map, List.length_append]
    simpa using own3
  exact ⟨_, rfl, SH.part hs9, (htr.trans ht8).less (fun y hy => List.mem_append_left _ hy), own_rd own9 hs9 (by rw [List.map_append]; exact h5.stays (SH.staysP hs9))⟩

structure Rk2 (w : World) (L0 B : List Blk) (m : Nat) (g4 g5 : Nat → List (List D)) where
  i : Nat
  wb : World
  v4 : Value
  v5 : Value
  R4 : List Blk
  R5 : List Blk
  rc4 : List (List Value)
  rc5 : List (List Value)
  hi : i ≤ m
  own4 : Own 105 10 v4 rc4.length rc4.flatten R4
  own5 : Own 59 9 v5 rc5.length rc5.flatten R5
  hrd4 : RdR (Im wb (((B ++ L0) ++ R5) ++ R4)) wb (g4 i) rc4
  hrd5 : RdR (Im wb (((B ++ L0) ++ R5) ++ R4)) wb (g5 i) rc5
  htr : Tr w L0 wb (((B ++ L0) ++ R5) ++ R4)
def Rk2.begin {w : World} {L0 B : List Blk} {m : Nat} {g4 g5 : Nat → List (List D)} (h4 : g4 0 = []) (h5 : g5 0 = []) {w' : World} (h : Tr w L0 w' (B ++ L0)) : Rk2 w L0 B m g4 g5 :=
  ⟨0, w', .slice none 0 0, .slice none 0 0, [], [], [], [], Nat.zero_le _, Own.nil _ _, Own.nil _ _, by rw [h4]; trivial, by rw [h5]; trivial, by rw [List.append_nil, List.append_nil]; exact h⟩
theorem rTick_ok (n d now : Int) (xs : List (Int × List D)) (wa : Option Addr) (wc : Nat) (gl : List (Int × Int)) (ga : Option Addr) (gc : Nat) (L0 : List Blk) (w : World) (hsh : SH w L0 w) (hg : Rd (Im w L0) w (.sl (gl.map gRow)) (.slice ga gl.length gc)) (hgl : gl.length ≤ 1000) (hway : Rd (Im w L0) w (.sl (xs.map rowS)) (.slice wa xs.length wc)) (hfit : FitR sh by_ (xs.map (·.2)) (sh 14)) (hxs : xs.length ≤ 1000) (hn1 : 0 ≤ now) (hn2 : now ≤ 1000000) : Calls Try.prog 24 #[.agg #[.int .i64 n, .int .i64 d, .int .i64 now, .slice wa xs.length wc, .slice ga gl.length gc]] w (fun e w' => ∃ v u, e = .returned (.tuple #[.agg #[.int .i64 n, .int .i64 d, .int .i64 (now + 1), v, .slice ga gl.length gc], u]) ∧ SH w' L0 w' ∧ Tr w L0 w' L0 ∧ Rd (Im w' L0) w' (.sl ((keepD (now + 1) xs).map rowS)) v ∧ Rd (Im w' L0) w' (.sl (dlvR n (now + 1) gl xs)) u) := by
  refine Sx.enter (l := [.agg #[.int .i64 n, .int .i64 d, .int .i64 now, .slice wa xs.length wc, .slice ga gl.length gc]]) Try.func24 rfl (n := 50) rfl (by simp) ?_
  refine wc_eq (S := SH w (([] : List Blk) ++ L0)) hsh ?_
  have htr : Tr w L0 w (([] : List Blk) ++ L0) := Tr.refl w L0
  refine wc_seq ?_
  refine wc_region ?_
  refine wl_new (d := 1) #[.int .i64 n, .int .i64 d, .int .i64 now, .slice wa xs.length wc, .slice ga gl.length gc] 79 (fun r => .pointer (some ⟨r, 0, none⟩)) (by kernel_rfl) (fun r => by kernel_rfl) ?_
  intro r1 hr1
  have htr := htr.more (c := #[.int .i64 n, .int .i64 d, .int .i64 now, .slice wa xs.length wc, .slice ga gl.length gc]) (t := 79) hr1
  refine wl_new (d := 2) #[.int .i64 0, .int .i64 0, .int .i64 0, .slice none 0 0, .slice none 0 0] 79 (fun r => .pointer (some ⟨r, 0, none⟩)) (by kernel_rfl) (fun r => by kernel_rfl) ?_
  intro r2 hr2
  have htr := htr.more (c := #[.int .i64 0, .int .i64 0, .int .i64 0, .slice none 0 0, .slice none 0 0]) (t := 79) hr2
  refine wl_go 1 [(3, .slice none 0 0)] (by kernel_rfl) ?_
  refine nx_list ?_
  refine nx_then ?_
  refine wc_seq ?_
  refine wc_region ?_
  refine wl_go 1 [(8, .pointer (some ⟨r1, 2, none⟩))] (by kernel_rfl) ?_
  refine wl_yl (d := 9) (v := .int .i64 now) (by kernel_rfl) (yl_load (b := r1) (off := 2) 1 rfl (by kernel_rfl) rfl (by kernel_rfl)) ?_
  refine wl_yl (d := 10) (v := .int .i64 (now + 1)) (by kernel_rfl) (yl_int (t := now + 1) (r := now + 1) (by kernel_rfl) (i64w (by omega) (by omega))) ?_
  refine wl_go 1 [(11, .pointer (some ⟨r1, 2, none⟩))] (by kernel_rfl) ?_
  refine wl_store (b := r1) (off := 2) (v := .int .i64 (now + 1)) (c' := #[.int .i64 n, .int .i64 d, .int .i64 (now + 1), .slice wa xs.length wc, .slice ga gl.length gc]) (L' := (([⟨r2, #[.int .i64 0, .int .i64 0, .int .i64 0, .slice none 0 0, .slice none 0 0], 79⟩, ⟨r1, #[.int .i64 n, .int .i64 d, .int .i64 (now + 1), .slice wa xs.length wc, .slice ga gl.length gc], 79⟩] : List Blk) ++ L0)) 1 (by kernel_rfl) rfl (by kernel_rfl) (by kernel_rfl) rfl (by kernel_rfl) rfl ?_
  refine nx_list ?_
  refine nx_then ?_
  refine wc_seq ?_
  refine wc_region ?_
  refine wl_go 1 [(4, .slice none 0 0)] (by kernel_rfl) ?_
  refine nx_list ?_
  refine nx_then ?_
  refine wc_seq ?_
  refine wc_region ?_
  refine wl_go 1 [(5, .slice none 0 0)] (by kernel_rfl) ?_
  refine nx_list ?_
  refine nx_then ?_
  refine wc_seq ?_
  refine wc_seq ?_
  refine wc_region ?_
  refine wl_go 1 [(6, .int .i64 0)] (by kernel_rfl) ?_
  refine nx_list ?_
  refine nx_then ?_
  refine wc_block ?_
  have htr := htr.congR (L0 := (([⟨r2, #[.int .i64 0, .int .i64 0, .int .i64 0, .slice none 0 0, .slice none 0 0], 79⟩, ⟨r1, #[.int .i64 n, .int .i64 d, .int .i64 (now + 1), .slice wa xs.length wc, .slice ga gl.length gc], 79⟩] : List Blk) ++ L0)) rfl
  refine wc_loop (σ := Rk2 w L0 [⟨r2, #[.int .i64 0, .int .i64 0, .int .i64 0, .slice none 0 0, .slice none 0 0], 79⟩, ⟨r1, #[.int .i64 n, .int .i64 d, .int .i64 (now + 1), .slice wa xs.length wc, .slice ga gl.length gc], 79⟩] xs.length (fun i => (keepD (now + 1) (xs.take i)).map rowS) (fun i => dlvR n (now + 1) gl (xs.take i))) (fun x => [(1, .pointer (some ⟨r1, 0, none⟩)), (2, .pointer (some ⟨r2, 0, none⟩)), (4, x.v4), (5, x.v5), (6, .int .i64 (x.i : Int))]) (fun x => SH x.wb (((([⟨r2, #[.int .i64 0, .int .i64 0, .int .i64 0, .slice none 0 0, .slice none 0 0], 79⟩, ⟨r1, #[.int .i64 n, .int .i64 d, .int .i64 (now + 1), .slice wa xs.length wc, .slice ga gl.length gc], 79⟩] : List Blk) ++ L0) ++ x.R5) ++ x.R4)) (fun x => xs.length - x.i) (fun w3 h3 => ⟨Rk2.begin (by simp [keepD]) (by simp [dlvR]) (htr.trans (SH.trHere h3)), SH.addNil (SH.addNil (SH.here h3)), (subEnv_cons (by kernel_rfl) (subEnv_cons (by kernel_rfl) (subEnv_cons (by kernel_rfl) (subEnv_cons (by kernel_rfl) (subEnv_cons (by kernel_rfl) (subEnv_nil _))))))⟩) (fun x => ?_)
  have hxi := x.hi
  have htr := x.htr
  have hr4 := x.hrd4.length
  have hr5 := x.hrd5.length
  refine wc_seq ?_
  refine wc_seq ?_
  refine wc_region ?_
  refine wl_go 2 [(13, .pointer (some ⟨r1, 3, none⟩)), (12, .int .i64 (x.i : Int))] (by kernel_rfl) ?_
  refine wl_yl (d := 14) (v := .slice wa xs.length wc) (by kernel_rfl) (yl_load (b := r1) (off := 3) 1 rfl (by kernel_rfl) rfl (by kernel_rfl)) ?_
  refine wl_go 2 [(16, .bool (decide ((x.i : Int) < (xs.length : Int)))), (15, .int .i64 (xs.length : Int))] (by kernel_rfl) ?_
  refine nx_list ?_
  refine nx_then ?_
  refine wc_cond (decide ((x.i : Int) < (xs.length : Int))) (by kernel_rfl) (by kernel_rfl) (fun hcl => ?_) (fun hcl => ?_)
  · skip
    have hlt : x.i < xs.length := by simpa using hcl
    obtain ⟨y, hy⟩ : ∃ y, xs[x.i]? = some y := ⟨_, List.getElem?_eq_getElem hlt⟩
    obtain ⟨g, o, cs, rfl, hI, h_c, l_c, hgr⟩ := Rd.row_at (es := 10) (hway.stays htr.stays) (rowS_len hfit) (i := x.i) (r := rowS y) (by simp [hy])
    obtain ⟨cm, rfl, h_m⟩ := row_open h_c
    have hmem : y.2 ∈ xs.map (·.2) := List.mem_map.2 ⟨y, List.mem_of_getElem? hy, rfl⟩
    obtain ⟨due, m⟩ := y
    simp only at h_c h_m hmem hgr
    obtain ⟨fr, to, kind, term, index, last, commit, rows, ok, ents, rfl, rfl, hents, fR, hby⟩ := msg_open h_m (hfit.mem hmem)
    obtain ⟨ea, ec, rfl⟩ := hents.slv
    have e1 : frD [D.int fr, D.int to, D.int kind, D.int term, D.int index, D.int last, D.int commit, D.sl rows, D.bool ok] = fr := rfl
    have e2 : toD [D.int fr, D.int to, D.int kind, D.int term, D.int index, D.int last, D.int commit, D.sl rows, D.bool ok] = to := rfl
    have hloc := Tr.refl x.wb (((([⟨r2, #[.int .i64 0, .int .i64 0, .int .i64 0, .slice none 0 0, .slice none 0 0], 79⟩, ⟨r1, #[.int .i64 n, .int .i64 d, .int .i64 (now + 1), .slice (some ⟨g, o, none⟩) xs.length wc, .slice ga gl.length gc], 79⟩] : List Blk) ++ L0) ++ x.R5) ++ x.R4)
    have hwl4 : (keepD (now + 1) (xs.take x.i)).length ≤ xs.length := by
      refine Nat.le_trans (List.length_filter_le _ _) ?_
      rw [List.length_take]
      omega
    have hwl5 : (dlvR n (now + 1) gl (xs.take x.i)).length ≤ xs.length := by
      rw [dlvR, List.length_map]
      refine Nat.le_trans (List.length_filter_le _ _) ?_
      rw [List.length_take]
      omega
    rw [List.length_map] at hr4
    refine nx_skip ?_
    refine nx_then ?_
    refine wc_seq ?_
    refine wc_block ?_
    refine wc_seq ?_
    refine wc_region ?_
    refine wl_go 1 [(19, .pointer (some ⟨r1, 3, none⟩))] (by kernel_rfl) ?_
    refine wl_yl (d := 20) (v := .slice (some ⟨g, o, none⟩) xs.length wc) (by kernel_rfl) (yl_load (b := r1) (off := 3) 1 rfl (by kernel_rfl) rfl (by kernel_rfl)) ?_
    refine wl_go 1 [(21, .int .i64 (x.i : Int))] (by kernel_rfl) ?_
    refine wl_yl (d := 22) (v := .pointer (some ⟨g, o + x.i * 10, none⟩)) (by kernel_rfl) (yl_index (E := 105) (b := g) (off := o) (len := xs.length) (cap := wc) (k := x.i) (es := 10) rfl (by kernel_rfl) (by kernel_rfl) (by kernel_rfl) (by omega)) ?_
    refine wl_yl (d := 23) (v := .agg #[.int .i64 due, .int .i64 fr, .int .i64 to, .int .i64 kind, .int .i64 term, .int .i64 index, .int .i64 last, .int .i64 commit, .slice ea rows.length ec, .bool ok]) (by kernel_rfl) (yl_loads_im (b := g) (off := o + x.i * 10) (cs := [.int .i64 due, .int .i64 fr, .int .i64 to, .int .i64 kind, .int .i64 term, .int .i64 index, .int .i64 last, .int .i64 commit, .slice ea rows.length ec, .bool ok]) rfl (by kernel_rfl) hI (by kernel_rfl) hgr) ?_
    refine wl_new (d := 7) #[.int .i64 0, .int .i64 0, .int .i64 0, .int .i64 0, .int .i64 0, .int .i64 0, .int .i64 0, .int .i64 0, .slice none 0 0, .bool false] 105 (fun r => .pointer (some ⟨r, 0, none⟩)) (by kernel_rfl) (fun r => by kernel_rfl) ?_
    intro r3 hr3
    have hloc := hloc.more (c := #[.int .i64 0, .int .i64 0, .int .i64 0, .int .i64 0, .int .i64 0, .int .i64 0, .int .i64 0, .int .i64 0, .slice none 0 0, .bool false]) (t := 105) hr3
    refine wl_store (b := r3) (off := 0) (v := .agg #[.int .i64 due, .int .i64 fr, .int .i64 to, .int .i64 kind, .int .i64 term, .int .i64 index, .int .i64 last, .int .i64 commit, .slice ea rows.length ec, .bool ok]) (c' := #[.int .i64 due, .int .i64 fr, .int .i64 to, .int .i64 kind, .int .i64 term, .int .i64 index, .int .i64 last, .int .i64 commit, .slice ea rows.length ec, .bool ok]) (L' := (((([⟨r3, #[.int .i64 due, .int .i64 fr, .int .i64 to, .int .i64 kind, .int .i64 term, .int .i64 index, .int .i64 last, .int .i64 commit, .slice ea rows.length ec, .bool ok], 105⟩, ⟨r2, #[.int .i64 0, .int .i64 0, .int .i64 0, .slice none 0 0, .slice none 0 0], 79⟩, ⟨r1, #[.int .i64 n, .int .i64 d, .int .i64 (now + 1), .slice (some ⟨g, o, none⟩) xs.length wc, .slice ga gl.length gc], 79⟩] : List Blk) ++ L0) ++ x.R5) ++ x.R4)) 0 (by kernel_rfl) rfl (by kernel_rfl) (by kernel_rfl) rfl (by kernel_rfl) rfl ?_
    refine nx_list ?_
    refine nx_then ?_
    refine wc_seq ?_
    refine wc_region ?_
    refine wl_go 1 [(24, .pointer (some ⟨r3, 0, none⟩))] (by kernel_rfl) ?_
    refine wl_yl (d := 25) (v := .int .i64 due) (by kernel_rfl) (yl_load (b := r3) (off := 0) 0 rfl (by kernel_rfl) rfl (by kernel_rfl)) ?_
    refine wl_go 1 [(26, .pointer (some ⟨r1, 2, none⟩))] (by kernel_rfl) ?_
    refine wl_yl (d := 27) (v := .int .i64 (now + 1)) (by kernel_rfl) (yl_load (b := r1) (off := 2) 2 rfl (by kernel_rfl) rfl (by kernel_rfl)) ?_
    refine wl_go 1 [(28, .bool (decide (due > now + 1)))] (by kernel_rfl) ?_
    refine nx_list ?_
    refine nx_then ?_
    refine wc_cond (decide (due > now + 1)) (by kernel_rfl) (by kernel_rfl) (fun hcd => ?_) (fun hcd => ?_)
    · skip
      refine wc_region ?_
      refine wl_go 1 [(29, x.v4)] (by kernel_rfl) ?_
      refine wl_yl (d := 30) (v := .agg #[.int .i64 due, .int .i64 fr, .int .i64 to, .int .i64 kind, .int .i64 term, .int .i64 index, .int .i64 last, .int .i64 commit, .slice ea rows.length ec, .bool ok]) (by kernel_rfl) (yl_load (b := r3) (off := 0) 0 rfl (by kernel_rfl) rfl (by kernel_rfl)) ?_
      refine wl_new (d := 31) #[.int .i64 due, .int .i64 fr, .int .i64 to, .int .i64 kind, .int .i64 term, .int .i64 index, .int .i64 last, .int .i64 commit, .slice ea rows.length ec, .bool ok] 105 (fun r => .slice (some ⟨r, 0, none⟩) 1 1) (by kernel_rfl) (fun r => by kernel_rfl) ?_
      intro r4 hr4
      have hloc := hloc.more (c := #[.int .i64 due, .int .i64 fr, .int .i64 to, .int .i64 kind, .int .i64 term, .int .i64 index, .int .i64 last, .int .i64 commit, .slice ea rows.length ec, .bool ok]) (t := 105) hr4
      have hloc := hloc.congR (L0 := (((([⟨r4, #[.int .i64 due, .int .i64 fr, .int .i64 to, .int .i64 kind, .int .i64 term, .int .i64 index, .int .i64 last, .int .i64 commit, .slice ea rows.length ec, .bool ok], 105⟩, ⟨r3, #[.int .i64 due, .int .i64 fr, .int .i64 to, .int .i64 kind, .int .i64 term, .int .i64 index, .int .i64 last, .int .i64 commit, .slice ea rows.length ec, .bool ok], 105⟩, ⟨r2, #[.int .i64 0, .int .i64 0, .int .i64 0, .slice none 0 0, .slice none 0 0], 79⟩, ⟨r1, #[.int .i64 n, .int .i64 d, .int .i64 (now + 1), .slice (some ⟨g, o, none⟩) xs.length wc, .slice ga gl.length gc], 79⟩] : List Blk) ++ L0) ++ x.R5) ++ x.R4)) rfl
      refine wl_append' (L := (([⟨r4, #[.int .i64 due, .int .i64 fr, .int .i64 to, .int .i64 kind, .int .i64 term, .int .i64 index, .int .i64 last, .int .i64 commit, .slice ea rows.length ec, .bool ok], 105⟩, ⟨r3, #[.int .i64 due, .int .i64 fr, .int .i64 to, .int .i64 kind, .int .i64 term, .int .i64 index, .int .i64 last, .int .i64 commit, .slice ea rows.length ec, .bool ok], 105⟩, ⟨r2, #[.int .i64 0, .int .i64 0, .int .i64 0, .slice none 0 0, .slice none 0 0], 79⟩, ⟨r1, #[.int .i64 n, .int .i64 d, .int .i64 (now + 1), .slice (some ⟨g, o, none⟩) xs.length wc, .slice ga gl.length gc], 79⟩] : List Blk) ++ L0) ++ x.R5) (R := x.R4) (d := 32) 105 (.agg #[.int .i64 0, .int .i64 0, .int .i64 0, .int .i64 0, .int .i64 0, .int .i64 0, .int .i64 0, .int .i64 0, .slice none 0 0, .bool false]) 10 96 (v := x.v4) (k := x.rc4.length) (xs := x.rc4.flatten) (a := ⟨r4, 0, none⟩) (m := 1) (c := 1) [.int .i64 due, .int .i64 fr, .int .i64 to, .int .i64 kind, .int .i64 term, .int .i64 index, .int .i64 last, .int .i64 commit, .slice ea rows.length ec, .bool ok] (by kernel_rfl) rfl (by kernel_rfl) rfl (by decide) (by kernel_rfl) x.own4 (by kernel_rfl) rfl (fun w3 h3 => h3.news 0 rfl) h_c.oneCell (by simp only [maxLen]; omega) (by omega) ?_
      intro w2 v2 R2 hown2 hT
      have hloc := hloc.trans hT
      refine wl_go 1 [(4, v2)] (by kernel_rfl) ?_
      refine nx_list ?_
      refine nx_block ?_
      refine nx_then ?_
      refine wc_region ?_
      refine wl_go 1 [(17, .int .i64 (x.i : Int))] (by kernel_rfl) ?_
      refine wl_yl (d := 18) (v := .int .i64 ((x.i : Int) + 1)) (by kernel_rfl) (yl_int (t := (x.i : Int) + 1) (r := (x.i : Int) + 1) (by kernel_rfl) (i64w (by omega) (by omega))) ?_
      refine wl_go 1 [(6, .int .i64 ((x.i : Int) + 1))] (by kernel_rfl) ?_
      refine nx_list ?_
      refine nx_round_w (fun w9 h9 => ?_)
      have hs9 := SH.drop1 (SH.drop1 (h9))
      have hl9 := Tr.drop1 (Tr.drop1 (hloc.trans ((SH.trHere h9).cong (L0 := (((([⟨r4, #[.int .i64 due, .int .i64 fr, .int .i64 to, .int .i64 kind, .int .i64 term, .int .i64 index, .int .i64 last, .int .i64 commit, .slice ea rows.length ec, .bool ok], 105⟩, ⟨r3, #[.int .i64 due, .int .i64 fr, .int .i64 to, .int .i64 kind, .int .i64 term, .int .i64 index, .int .i64 last, .int .i64 commit, .slice ea rows.length ec, .bool ok], 105⟩, ⟨r2, #[.int .i64 0, .int .i64 0, .int .i64 0, .slice none 0 0, .slice none 0 0], 79⟩, ⟨r1, #[.int .i64 n, .int .i64 d, .int .i64 (now + 1), .slice (some ⟨g, o, none⟩) xs.length wc, .slice ga gl.length gc], 79⟩] : List Blk) ++ L0) ++ x.R5) ++ R2)) rfl)))
      exact ⟨⟨x.i + 1, w9, v2, x.v5, R2, x.R5, (x.rc4 ++ [[.int .i64 due, .int .i64 fr, .int .i64 to, .int .i64 kind, .int .i64 term, .int .i64 index, .int .i64 last, .int .i64 commit, .slice ea rows.length ec, .bool ok]]), x.rc5, hlt, (by rw [List.length_append, List.flatten_append]; simpa using hown2), x.own5, (by rw [take_snocG hy, keepD_snoc, if_pos (show decide (now + 1 < due) = true from hcd), List.map_append]; exact RdR.snoc (x.hrd4.stays hl9.stays) (RdL.stays hl9.stays h_c)), (by rw [take_snocG hy, dlvR_snoc, if_neg (by simp only; rw [show decide (now + 1 < due) = true from hcd]; simp), List.append_nil]; exact x.hrd5.stays hl9.stays), x.htr.trans hl9⟩, (show xs.length - (x.i + 1) < xs.length - x.i by omega), (subEnv_cons (by kernel_rfl) (subEnv_cons (by kernel_rfl) (subEnv_cons (by kernel_rfl) (subEnv_cons (by kernel_rfl) (subEnv_cons (by kernel_rfl) (subEnv_nil _)))))), hs9⟩
    · skip
      refine wc_seq ?_
      refine wc_region ?_
      refine wl_yl (d := 33) (v := .agg #[.int .i64 n, .int .i64 d, .int .i64 (now + 1), .slice (some ⟨g, o, none⟩) xs.length wc, .slice ga gl.length gc]) (by kernel_rfl) (yl_load (b := r1) (off := 0) 2 rfl (by kernel_rfl) rfl (by kernel_rfl)) ?_
      refine wl_go 2 [(35, .pointer (some ⟨r3, 1, none⟩)), (34, .pointer (some ⟨r3, 1, none⟩))] (by kernel_rfl) ?_
      refine wl_yl (d := 36) (v := .int .i64 fr) (by kernel_rfl) (yl_load (b := r3) (off := 1) 0 rfl (by kernel_rfl) rfl (by kernel_rfl)) ?_
      refine wl_go 2 [(38, .pointer (some ⟨r3, 2, none⟩)), (37, .pointer (some ⟨r3, 1, none⟩))] (by kernel_rfl) ?_
      refine wl_yl (d := 39) (v := .int .i64 to) (by kernel_rfl) (yl_load (b := r3) (off := 2) 0 rfl (by kernel_rfl) rfl (by kernel_rfl)) ?_
      have hloc := hloc.congR (L0 := (((([⟨r3, #[.int .i64 due, .int .i64 fr, .int .i64 to, .int .i64 kind, .int .i64 term, .int .i64 index, .int .i64 last, .int .i64 commit, .slice ea rows.length ec, .bool ok], 105⟩, ⟨r2, #[.int .i64 0, .int .i64 0, .int .i64 0, .slice none 0 0, .slice none 0 0], 79⟩, ⟨r1, #[.int .i64 n, .int .i64 d, .int .i64 (now + 1), .slice (some ⟨g, o, none⟩) xs.length wc, .slice ga gl.length gc], 79⟩] : List Blk) ++ L0) ++ x.R5) ++ x.R4)) rfl
      have hgx := hg.stays (x.htr.trans hloc).stays
      refine wl_callK shK (d := 40) (v := .bool (upR n gl fr to)) (by kernel_rfl) (by kernel_rfl) (fun w1 h1 => rUp_ok n d (now + 1) (.slice (some ⟨g, o, none⟩) xs.length wc) gl ga gc fr to w1 _ (hgx.stays (SH.trHere h1).stays) hgl) ?_
      refine nx_list ?_
      refine nx_then ?_
      refine wc_cond (upR n gl fr to) (by kernel_rfl) (by kernel_rfl) (fun hcu => ?_) (fun hcu => ?_)
      · skip
        refine wc_region ?_
        refine wl_go 2 [(42, .pointer (some ⟨r3, 1, none⟩)), (41, x.v5)] (by kernel_rfl) ?_
        refine wl_yl (d := 43) (v := .agg #[.int .i64 fr, .int .i64 to, .int .i64 kind, .int .i64 term, .int .i64 index, .int .i64 last, .int .i64 commit, .slice ea rows.length ec, .bool ok]) (by kernel_rfl) (yl_load (b := r3) (off := 1) 0 rfl (by kernel_rfl) rfl (by kernel_rfl)) ?_
        refine wl_new (d := 44) #[.int .i64 fr, .int .i64 to, .int .i64 kind, .int .i64 term, .int .i64 index, .int .i64 last, .int .i64 commit, .slice ea rows.length ec, .bool ok] 59 (fun r => .slice (some ⟨r, 0, none⟩) 1 1) (by kernel_rfl) (fun r => by kernel_rfl) ?_
        intro r5 hr5
        have hloc := hloc.more (c := #[.int .i64 fr, .int .i64 to, .int .i64 kind, .int .i64 term, .int .i64 index, .int .i64 last, .int .i64 commit, .slice ea rows.length ec, .bool ok]) (t := 59) hr5
        have hloc := hloc.congR (L0 := (((([⟨r5, #[.int .i64 fr, .int .i64 to, .int .i64 kind, .int .i64 term, .int .i64 index, .int .i64 last, .int .i64 commit, .slice ea rows.length ec, .bool ok], 59⟩, ⟨r3, #[.int .i64 due, .int .i64 fr, .int .i64 to, .int .i64 kind, .int .i64 term, .int .i64 index, .int .i64 last, .int .i64 commit, .slice ea rows.length ec, .bool ok], 105⟩, ⟨r2, #[.int .i64 0, .int .i64 0, .int .i64 0, .slice none 0 0, .slice none 0 0], 79⟩, ⟨r1, #[.int .i64 n, .int .i64 d, .int .i64 (now + 1), .slice (some ⟨g, o, none⟩) xs.length wc, .slice ga gl.length gc], 79⟩] : List Blk) ++ L0) ++ x.R5) ++ x.R4)) rfl
        refine wl_weaken (fun _ _ h => h) (fun w h => SH.rot (A := ([⟨r5, #[.int .i64 fr, .int .i64 to, .int .i64 kind, .int .i64 term, .int .i64 index, .int .i64 last, .int .i64 commit, .slice ea rows.length ec, .bool ok], 59⟩, ⟨r3, #[.int .i64 due, .int .i64 fr, .int .i64 to, .int .i64 kind, .int .i64 term, .int .i64 index, .int .i64 last, .int .i64 commit, .slice ea rows.length ec, .bool ok], 105⟩, ⟨r2, #[.int .i64 0, .int .i64 0, .int .i64 0, .slice none 0 0, .slice none 0 0], 79⟩, ⟨r1, #[.int .i64 n, .int .i64 d, .int .i64 (now + 1), .slice (some ⟨g, o, none⟩) xs.length wc, .slice ga gl.length gc], 79⟩] : List Blk) ++ L0) (R := x.R5) (S := x.R4) h) ?_
        have hloc := hloc.rotR
        refine wl_append' (L := (([⟨r5, #[.int .i64 fr, .int .i64 to, .int .i64 kind, .int .i64 term, .int .i64 index, .int .i64 last, .int .i64 commit, .slice ea rows.length ec, .bool ok], 59⟩, ⟨r3, #[.int .i64 due, .int .i64 fr, .int .i64 to, .int .i64 kind, .int .i64 term, .int .i64 index, .int .i64 last, .int .i64 commit, .slice ea rows.length ec, .bool ok], 105⟩, ⟨r2, #[.int .i64 0, .int .i64 0, .int .i64 0, .slice none 0 0, .slice none 0 0], 79⟩, ⟨r1, #[.int .i64 n, .int .i64 d, .int .i64 (now + 1), .slice (some ⟨g, o, none⟩) xs.length wc, .slice ga gl.length gc], 79⟩] : List Blk) ++ L0) ++ x.R4) (R := x.R5) (d := 45) 59 (.agg #[.int .i64 0, .int .i64 0, .int .i64 0, .int .i64 0, .int .i64 0, .int .i64 0, .int .i64 0, .slice none 0 0, .bool false]) 9 88 (v := x.v5) (k := x.rc5.length) (xs := x.rc5.flatten) (a := ⟨r5, 0, none⟩) (m := 1) (c := 1) [.int .i64 fr, .int .i64 to, .int .i64 kind, .int .i64 term, .int .i64 index, .int .i64 last, .int .i64 commit, .slice ea rows.length ec, .bool ok] (by kernel_rfl) rfl (by kernel_rfl) rfl (by decide) (by kernel_rfl) x.own5 (by kernel_rfl) rfl (fun w3 h3 => h3.news 0 rfl) h_m.oneCell (by simp only [maxLen]; omega) (by omega) ?_
        intro w2 v2 R2 hown2 hT
        have hloc := hloc.trans hT
        refine wl_weaken (fun _ _ h => h) (fun w h => SH.rot (A := ([⟨r5, #[.int .i64 fr, .int .i64 to, .int .i64 kind, .int .i64 term, .int .i64 index, .int .i64 last, .int .i64 commit, .slice ea rows.length ec, .bool ok], 59⟩, ⟨r3, #[.int .i64 due, .int .i64 fr, .int .i64 to, .int .i64 kind, .int .i64 term, .int .i64 index, .int .i64 last, .int .i64 commit, .slice ea rows.length ec, .bool ok], 105⟩, ⟨r2, #[.int .i64 0, .int .i64 0, .int .i64 0, .slice none 0 0, .slice none 0 0], 79⟩, ⟨r1, #[.int .i64 n, .int .i64 d, .int .i64 (now + 1), .slice (some ⟨g, o, none⟩) xs.length wc, .slice ga gl.length gc], 79⟩] : List Blk) ++ L0) (R := x.R4) (S := R2) h) ?_
        have hloc := hloc.rotR
        refine wl_go 1 [(5, v2)] (by kernel_rfl) ?_
        refine nx_list ?_
        refine nx_block ?_
        refine nx_then ?_
        refine wc_region ?_
        refine wl_go 1 [(17, .int .i64 (x.i : Int))] (by kernel_rfl) ?_
        refine wl_yl (d := 18) (v := .int .i64 ((x.i : Int) + 1)) (by kernel_rfl) (yl_int (t := (x.i : Int) + 1) (r := (x.i : Int) + 1) (by kernel_rfl) (i64w (by omega) (by omega))) ?_
        refine wl_go 1 [(6, .int .i64 ((x.i : Int) + 1))] (by kernel_rfl) ?_
        refine nx_list ?_
        refine nx_round_w (fun w9 h9 => ?_)
        have hs9 := SH.drop1 (SH.drop1 (h9))
        have hl9 := Tr.drop1 (Tr.drop1 (hloc.trans ((SH.trHere h9).cong (L0 := (((([⟨r5, #[.int .i64 fr, .int .i64 to, .int .i64 kind, .int .i64 term, .int .i64 index, .int .i64 last, .int .i64 commit, .slice ea rows.length ec, .bool ok], 59⟩, ⟨r3, #[.int .i64 due, .int .i64 fr, .int .i64 to, .int .i64 kind, .int .i64 term, .int .i64 index, .int .i64 last, .int .i64 commit, .slice ea rows.length ec, .bool ok], 105⟩, ⟨r2, #[.int .i64 0, .int .i64 0, .int .i64 0, .slice none 0 0, .slice none 0 0], 79⟩, ⟨r1, #[.int .i64 n, .int .i64 d, .int .i64 (now + 1), .slice (some ⟨g, o, none⟩) xs.length wc, .slice ga gl.length gc], 79⟩] : List Blk) ++ L0) ++ R2) ++ x.R4)) rfl)))
        exact ⟨⟨x.i + 1, w9, x.v4, v2, x.R4, R2, x.rc4, (x.rc5 ++ [[.int .i64 fr, .int .i64 to, .int .i64 kind, .int .i64 term, .int .i64 index, .int .i64 last, .int .i64 commit, .slice ea rows.length ec, .bool ok]]), hlt, x.own4, (by rw [List.length_append, List.flatten_append]; simpa using hown2), (by rw [take_snocG hy, keepD_snoc, if_neg (by simp only; rw [show decide (now + 1 < due) = false from hcd]; simp), List.append_nil]; exact x.hrd4.stays hl9.stays), (by rw [take_snocG hy, dlvR_snoc, if_pos (by simp only [e1, e2]; rw [show decide (now + 1 < due) = false from hcd, hcu]; rfl)]; exact RdR.snoc (x.hrd5.stays hl9.stays) (RdL.stays hl9.stays h_m)), x.htr.trans hl9⟩, (show xs.length - (x.i + 1) < xs.length - x.i by omega), (subEnv_cons (by kernel_rfl) (subEnv_cons (by kernel_rfl) (subEnv_cons (by kernel_rfl) (subEnv_cons (by kernel_rfl) (subEnv_cons (by kernel_rfl) (subEnv_nil _)))))), hs9⟩
      · skip
        refine nx_skip ?_
        refine nx_block ?_
        refine nx_then ?_
        refine wc_region ?_
        refine wl_go 1 [(17, .int .i64 (x.i : Int))] (by kernel_rfl) ?_
        refine wl_yl (d := 18) (v := .int .i64 ((x.i : Int) + 1)) (by kernel_rfl) (yl_int (t := (x.i : Int) + 1) (r := (x.i : Int) + 1) (by kernel_rfl) (i64w (by omega) (by omega))) ?_
        refine wl_go 1 [(6, .int .i64 ((x.i : Int) + 1))] (by kernel_rfl) ?_
        refine nx_list ?_
        refine nx_round_w (fun w9 h9 => ?_)
        have hs9 := SH.drop1 (h9)
        have hl9 := Tr.drop1 (hloc.trans ((SH.trHere h9).cong (L0 := (((([⟨r3, #[.int .i64 due, .int .i64 fr, .int .i64 to, .int .i64 kind, .int .i64 term, .int .i64 index, .int .i64 last, .int .i64 commit, .slice ea rows.length ec, .bool ok], 105⟩, ⟨r2, #[.int .i64 0, .int .i64 0, .int .i64 0, .slice none 0 0, .slice none 0 0], 79⟩, ⟨r1, #[.int .i64 n, .int .i64 d, .int .i64 (now + 1), .slice (some ⟨g, o, none⟩) xs.length wc, .slice ga gl.length gc], 79⟩] : List Blk) ++ L0) ++ x.R5) ++ x.R4)) rfl))
        exact ⟨⟨x.i + 1, w9, x.v4, x.v5, x.R4, x.R5, x.rc4, x.rc5, hlt, x.own4, x.own5, (by rw [take_snocG hy, keepD_snoc, if_neg (by simp only; rw [show decide (now + 1 < due) = false from hcd]; simp), List.append_nil]; exact x.hrd4.stays hl9.stays), (by rw [take_snocG hy, dlvR_snoc, if_neg (by simp only [e1, e2]; rw [hcu]; simp), List.append_nil]; exact x.hrd5.stays hl9.stays), x.htr.trans hl9⟩, (show xs.length - (x.i + 1) < xs.length - x.i by omega), (subEnv_cons (by kernel_rfl) (subEnv_cons (by kernel_rfl) (subEnv_cons (by kernel_rfl) (subEnv_cons (by kernel_rfl) (subEnv_cons (by kernel_rfl) (subEnv_nil _)))))), hs9⟩
  · skip
    have hge : xs.length ≤ x.i := by simpa using hcl
    have et : xs.take x.i = xs := List.take_of_length_le hge
    obtain ⟨av, cv, hv⟩ := x.own4.val
    rw [hv]
    refine nx_exit ?_
    refine nx_then_exit ?_
    refine nx_then_exit ?_
    refine nx_block_here ?_
    refine nx_then ?_
    refine wc_seq ?_
    refine wc_region ?_
    refine wl_go 2 [(47, .pointer (some ⟨r1, 3, none⟩)), (46, .slice av x.rc4.length cv)] (by kernel_rfl) ?_
    refine wl_store (b := r1) (off := 3) (v := .slice av x.rc4.length cv) (c' := #[.int .i64 n, .int .i64 d, .int .i64 (now + 1), .slice av x.rc4.length cv, .slice ga gl.length gc]) (L' := (((([⟨r2, #[.int .i64 0, .int .i64 0, .int .i64 0, .slice none 0 0, .slice none 0 0], 79⟩, ⟨r1, #[.int .i64 n, .int .i64 d, .int .i64 (now + 1), .slice av x.rc4.length cv, .slice ga gl.length gc], 79⟩] : List Blk) ++ L0) ++ x.R5) ++ x.R4)) 1 (by kernel_rfl) rfl (by kernel_rfl) (by kernel_rfl) rfl (by kernel_rfl) rfl ?_
    refine nx_list ?_
    refine nx_then ?_
    refine wc_seq ?_
    refine wc_region ?_
    refine wl_yl (d := 48) (v := .agg #[.int .i64 n, .int .i64 d, .int .i64 (now + 1), .slice av x.rc4.length cv, .slice ga gl.length gc]) (by kernel_rfl) (yl_load (b := r1) (off := 0) 1 rfl (by kernel_rfl) rfl (by kernel_rfl)) ?_
    refine wl_go 1 [(49, x.v5)] (by kernel_rfl) ?_
    refine wl_store (b := r2) (off := 0) (v := .agg #[.int .i64 n, .int .i64 d, .int .i64 (now + 1), .slice av x.rc4.length cv, .slice ga gl.length gc]) (c' := #[.int .i64 n, .int .i64 d, .int .i64 (now + 1), .slice av x.rc4.length cv, .slice ga gl.length gc]) (L' := (((([⟨r2, #[.int .i64 n, .int .i64 d, .int .i64 (now + 1), .slice av x.rc4.length cv, .slice ga gl.length gc], 79⟩, ⟨r1, #[.int .i64 n, .int .i64 d, .int .i64 (now + 1), .slice av x.rc4.length cv, .slice ga gl.length gc], 79⟩] : List Blk) ++ L0) ++ x.R5) ++ x.R4)) 0 (by kernel_rfl) rfl (by kernel_rfl) (by kernel_rfl) rfl (by kernel_rfl) rfl ?_
    refine wl_go 1 [(3, x.v5)] (by kernel_rfl) ?_
    refine nx_list ?_
    refine nx_then ?_
    refine nx_ret ?_
    refine ret_cellT (v := .agg #[.int .i64 n, .int .i64 d, .int .i64 (now + 1), .slice av x.rc4.length cv, .slice ga gl.length gc]) (v' := x.v5) (b := r2) (off := 0) 0 rfl (by kernel_rfl) rfl (by kernel_rfl) (by kernel_rfl) ?_
    intro w' hw'
    have ht9 := (SH.trHere hw').cong (L0 := (((([⟨r2, #[.int .i64 0, .int .i64 0, .int .i64 0, .slice none 0 0, .slice none 0 0], 79⟩, ⟨r1, #[.int .i64 n, .int .i64 d, .int .i64 (now + 1), .slice wa xs.length wc, .slice ga gl.length gc], 79⟩] : List Blk) ++ L0) ++ x.R5) ++ x.R4)) rfl
    have hs9 := SH.drop1 (SH.drop1 hw')
    have ht8 := Tr.drop1 (Tr.drop1 ht9)
    have h4 := x.hrd4.stays ht8.stays
    have h5 := x.hrd5.stays ht8.stays
    rw [et] at h4 h5
    have own4 := x.own4
    rw [hv, ← h4.length] at own4
    have own5 := x.own5
    rw [← h5.length] at own5
    rw [← h4.length]
    have hsR : SH w' ((L0 ++ x.R4) ++ x.R5) w' := SH.rot hs9
    have r4 := own_rd own4 hs9 (h4.stays (SH.staysP hs9))
    have r5 := own_rd own5 hsR (h5.stays ⟨Nat.le_refl _, fun k hk hI => ⟨hk, fun y hy => hI.2 y (by simp only [List.mem_append] at hy ⊢; rcases hy with hy | hy <;> simp [hy])⟩, fun _ _ _ => rfl⟩)
    exact ⟨_, x.v5, rfl, SH.part (SH.part hs9), (x.htr.trans ht8).less (fun y hy => by simp [hy]), r4.stays ⟨Nat.le_refl _, fun k hk hI => ⟨hk, fun y hy => hI.2 y (List.mem_append_left _ hy)⟩, fun _ _ _ => rfl⟩, r5.stays ⟨Nat.le_refl _, fun k hk hI => ⟨hk, fun y hy => hI.2 y (List.mem_append_left _ hy)⟩, fun _ _ _ => rfl⟩⟩

end Go.Proofs.Ytidkaipijocjcaa
