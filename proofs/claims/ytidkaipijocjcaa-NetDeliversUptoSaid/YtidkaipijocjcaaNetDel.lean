/- The walk of the law NetDelivers, printed by a program of this repository (gen/netdeliv.py). -/
import Derived.Test.YtidkaipijocjcaaNetDelA
import Derived.Test.YtidkaipijocjcaaWr
namespace Go.Proofs.Ytidkaipijocjcaa
open Go.RowKit Go.Sx
set_option linter.unusedVariables false
set_option linter.unusedSimpArgs false

structure Es (w : World) (b dl ra rn rd rs rp : Nat) (ol : List (List D)) where
  i : Nat
  wb : World
  q : List (Int × List D)
  ka : Nat
  now : Nat
  ps : List (Int × Msg)
  A : List Blk
  Rs : List Blk
  Re : List Blk
  vs : Value
  vd : Value
  sc : List (List Value)
  hi : i ≤ ol.length
  hx : DvF w b dl (DL ra rn rd rs rp b vs vd ((now : Nat) : Int) ((ka : Nat) : Int) Rs Re A) wb q ka now ps A Rs Re vs vd sc
  hnow : now ≤ i
  hq : q.length ≤ i
  hfit : FitR sh by_ (q.map (·.2)) (sh 14)
  hz : ∀ r ∈ q.map (·.2), (encL r).size ≤ 9223372036854775807
  hdue : ∀ u ∈ q, u.1 ≤ (now : Int) + (dl : Int)
structure Fs (w : World) (b dl ra rn rd rs rp : Nat) (q : List (Int × List D)) (n0 : Nat) (Rs Re : List Blk) (vs vd : Value) (sc : List (List Value)) where
  i : Nat
  wb : World
  ka : Nat
  ps : List (Int × Msg)
  A : List Blk
  hi : i ≤ dl
  hx : DvF w b dl (DL ra rn rd rs rp b vs vd (((n0 + i) : Nat) : Int) ((ka : Nat) : Int) Rs Re A) wb q ka (n0 + i) ps A Rs Re vs vd sc
def Es.begin {w : World} {b dl ra rn rd rs rp : Nat} {ol : List (List D)} {w' : World} {A : List Blk} (hn : IsNet b ⟨7, (dl : Int), 0, fun _ => false, []⟩ A) (hs : SH w' (DL ra rn rd rs rp b (.slice none 0 0) (.slice none 0 0) 0 0 [] [] A) w') (hc : Cool w w' (DL ra rn rd rs rp b (.slice none 0 0) (.slice none 0 0) 0 0 [] [] A)) : Es w b dl ra rn rd rs rp ol where
  i := 0
  wb := w'
  q := []
  ka := 0
  now := 0
  ps := []
  A := A
  Rs := []
  Re := []
  vs := .slice none 0 0
  vd := .slice none 0 0
  sc := []
  hi := Nat.zero_le _
  hx := ⟨hn, hs, hc, trivial, Own.nil _ _, trivial, Own.nil _ _, Nat.le_refl _, List.Pairwise.nil, by simp⟩
  hnow := Nat.le_refl _
  hq := Nat.le_refl _
  hfit := by rw [List.map_nil, FitR]; trivial
  hz := by simp
  hdue := by simp
theorem add_ok {dl now : Int} {ps : List (Int × Msg)} {r : List D} : addD ⟨7, dl, now, fun _ => false, ps⟩ r = if pairB 7 (frD r) (toD r) = true then [(now + dl, r)] else [] := by
  unfold addD cutD
  simp
theorem fitR_app {ks : List K} : ∀ {l : List (List D)} {r : List D}, FitR sh by_ l ks → FitL sh by_ r ks → FitR sh by_ (l ++ [r]) ks
  | [], r, h, hr => by rw [List.nil_append, FitR]; exact ⟨hr, h⟩
  | x :: l, r, h, hr => by
    rw [List.cons_append, FitR]
    rw [FitR] at h
    exact ⟨h.1, fitR_app h.2 hr⟩
theorem netDelivers_walk (dl : Nat) (ol : List (List D)) (a1 : Option Addr) (c1 : Nat) (w : World) (S : Nat → Prop) (rd0 : Rd S w (.sl ol) (.slice a1 ol.length c1)) (fR0 : FitR sh by_ ol (sh 15)) (hz0 : ∀ r ∈ ol, (encL r).size ≤ 9223372036854775807) (hdl : dl < 256) :
    Calls Try.prog 5 #[.int .u8 (dl : Int), .slice a1 ol.length c1] w fun e w' => e = .returned (.bool true) ∧ Below w.heap.size w w' := by
  refine Sx.enter (l := [.int .u8 (dl : Int), .slice a1 ol.length c1]) Try.func5 rfl (n := 102) rfl (by simp) ?_
  refine wc_eq (S := SH w []) (SH.refl _) ?_
  refine wc_seq ?_
  refine wc_region ?_
  refine wl_go 1 [(4, .bool false)] (by kernel_rfl) ?_
  refine nx_list ?_
  refine nx_then ?_
  refine wc_seq ?_
  refine wc_seq ?_
  refine wc_region ?_
  refine wl_go 4 [(16, .bool (decide ((ol.length : Int) > 100))), (15, .bool (decide ((ol.length : Int) > 100))), (14, .int .i64 (ol.length : Int)), (13, .slice a1 ol.length c1)] (by kernel_rfl) ?_
  cases h100 : (decide ((ol.length : Int) > 100))
  · skip
    have hol : ol.length ≤ 100 := by simp at h100; omega
    refine wl_go 4 [(20, .bool (decide ((dl : Int) < 1))), (19, .bool (decide ((dl : Int) < 1))), (18, .bool (decide ((dl : Int) < 1))), (17, .int .u8 (dl : Int))] (by kernel_rfl) ?_
    cases hd1 : (decide ((dl : Int) < 1))
    · skip
      have hdl1 : 1 ≤ dl := by simp at hd1; omega
      refine wl_go 3 [(23, .bool (decide ((dl : Int) > 16))), (22, .bool (decide ((dl : Int) > 16))), (21, .int .u8 (dl : Int))] (by kernel_rfl) ?_
      refine nx_list ?_
      refine nx_then ?_
      refine wc_cond (decide ((dl : Int) > 16)) (by kernel_rfl) (by kernel_rfl) (fun hd16 => ?_) (fun hd16 => ?_)
      · skip
        refine wc_seq ?_
        refine wc_region ?_
        refine wl_callK shK (d := 24) (v := .bool true) (by kernel_rfl) (by kernel_rfl) (fun w1 h1 => awake_ok w1) ?_
        refine wl_go 1 [(4, .bool true)] (by kernel_rfl) ?_
        refine nx_list ?_
        refine nx_then ?_
        refine nx_ret ?_
        refine nx_then_ret ?_
        refine ret_tmp (v := .bool true) rfl (by kernel_rfl) ?_
        intro w' hw'
        exact ⟨rfl, (Cool.sh (Cool.nil w) hw').1⟩
      · skip
        have hdl2 : dl ≤ 16 := by simp at hd16; omega
        refine nx_skip ?_
        refine nx_then ?_
        refine wc_seq ?_
        refine wc_region ?_
        refine wl_go 1 [(26, .int .u8 (dl : Int))] (by kernel_rfl) ?_
        refine wl_yl (d := 27) (v := .int .i64 (dl : Int)) (by kernel_rfl) (yl_int (t := (dl : Int)) (r := (dl : Int)) (by kernel_rfl) (i64w (by omega) (by omega))) ?_
        refine wl_callB (X := Nat × List Blk) (d := 28) (fun x => .tuple #[.pointer (some ⟨x.1, 0, none⟩), .int .i64 0]) (fun wa y wz => IsNet y.1 ⟨7, (dl : Int), 0, fun _ => false, []⟩ y.2 ∧ SH wz y.2 wz ∧ Tr wa [] wz y.2 ∧ wa.heap.size ≤ y.1) (by kernel_rfl) (by kernel_rfl) (fun w1 h1 => (new_ok 7 (dl : Int) w1 (by decide) (by decide) (by omega) (by omega)).mono (fun e w' ⟨b, A, he, h⟩ => ⟨(b, A), he, h⟩)) ?_
        rintro w1 ⟨b, A0⟩ w0 h1 ⟨hn0, hs0, ht0, _⟩
        have hc0 : Cool w w0 A0 := ((Cool.nil w).sh h1).step ht0
        refine wl_eq (S := SH w0 (([] : List Blk) ++ A0)) hs0 ?_
        refine wl_go 3 [(30, .int .i64 0), (29, .pointer (some ⟨b, 0, none⟩)), (25, .tuple #[.pointer (some ⟨b, 0, none⟩), .int .i64 0])] (by kernel_rfl) ?_
        refine wl_new (d := 5) #[.pointer none] 22 (fun r => .pointer (some ⟨r, 0, none⟩)) (by kernel_rfl) (fun r => by kernel_rfl) ?_
        intro r1 hr1
        refine wl_store (b := r1) (off := 0) (v := .pointer (some ⟨b, 0, none⟩)) (c' := #[.pointer (some ⟨b, 0, none⟩)]) (L' := (([⟨r1, #[.pointer (some ⟨b, 0, none⟩)], 22⟩] : List Blk) ++ A0)) 0 (by kernel_rfl) rfl (by kernel_rfl) (by kernel_rfl) rfl (by kernel_rfl) rfl ?_
        refine wl_go 1 [(6, .int .i64 0)] (by kernel_rfl) ?_
        refine nx_list ?_
        refine nx_then ?_
        refine wc_seq ?_
        refine wc_seq ?_
        refine wc_region ?_
        refine wl_go 2 [(32, .bool false), (31, .int .i64 0)] (by kernel_rfl) ?_
        refine nx_list ?_
        refine nx_then ?_
        refine wc_cond false (by kernel_rfl) (by kernel_rfl) (fun h => by cases h) (fun _ => ?_)
        refine nx_skip ?_
        refine nx_then ?_
        refine wc_seq ?_
        refine wc_region ?_
        refine wl_new (d := 7) #[.slice none 0 0] 60 (fun r => .pointer (some ⟨r, 0, none⟩)) (by kernel_rfl) (fun r => by kernel_rfl) ?_
        intro r2 hr2
        refine nx_list ?_
        refine nx_then ?_
        refine wc_seq ?_
        refine wc_region ?_
        refine wl_new (d := 8) #[.slice none 0 0] 51 (fun r => .pointer (some ⟨r, 0, none⟩)) (by kernel_rfl) (fun r => by kernel_rfl) ?_
        intro r3 hr3
        refine nx_list ?_
        refine nx_then ?_
        refine wc_seq ?_
        refine wc_region ?_
        refine wl_new (d := 9) #[.int .i64 0] 3 (fun r => .pointer (some ⟨r, 0, none⟩)) (by kernel_rfl) (fun r => by kernel_rfl) ?_
        intro r4 hr4
        refine wl_new (d := 10) #[.int .i64 0] 3 (fun r => .pointer (some ⟨r, 0, none⟩)) (by kernel_rfl) (fun r => by kernel_rfl) ?_
        intro r5 hr5
        refine wl_store (b := r4) (off := 0) (v := .int .i64 0) (c' := #[.int .i64 0]) (L' := (([⟨r5, #[.int .i64 0], 3⟩, ⟨r4, #[.int .i64 0], 3⟩, ⟨r3, #[.slice none 0 0], 51⟩, ⟨r2, #[.slice none 0 0], 60⟩, ⟨r1, #[.pointer (some ⟨b, 0, none⟩)], 22⟩] : List Blk) ++ A0)) 1 (by kernel_rfl) rfl (by kernel_rfl) (by kernel_rfl) rfl (by kernel_rfl) rfl ?_
        refine wl_store (b := r5) (off := 0) (v := .int .i64 0) (c' := #[.int .i64 0]) (L' := (([⟨r5, #[.int .i64 0], 3⟩, ⟨r4, #[.int .i64 0], 3⟩, ⟨r3, #[.slice none 0 0], 51⟩, ⟨r2, #[.slice none 0 0], 60⟩, ⟨r1, #[.pointer (some ⟨b, 0, none⟩)], 22⟩] : List Blk) ++ A0)) 0 (by kernel_rfl) rfl (by kernel_rfl) (by kernel_rfl) rfl (by kernel_rfl) rfl ?_
        refine nx_list ?_
        refine nx_then ?_
        refine wc_seq ?_
        refine wc_region ?_
        refine wl_go 2 [(11, .func (.func 20) #[] #[.pointer (some ⟨r4, 0, none⟩), .pointer (some ⟨r1, 0, none⟩), .pointer (some ⟨r5, 0, none⟩), .pointer (some ⟨r2, 0, none⟩), .pointer (some ⟨r3, 0, none⟩)]), (33, .func (.func 20) #[] #[.pointer (some ⟨r4, 0, none⟩), .pointer (some ⟨r1, 0, none⟩), .pointer (some ⟨r5, 0, none⟩), .pointer (some ⟨r2, 0, none⟩), .pointer (some ⟨r3, 0, none⟩)])] (by kernel_rfl) ?_
        refine nx_list ?_
        refine nx_then ?_
        refine wc_seq ?_
        refine wc_seq ?_
        refine wc_region ?_
        refine wl_go 3 [(36, .int .i64 0), (35, .int .i64 (ol.length : Int)), (34, .slice a1 ol.length c1)] (by kernel_rfl) ?_
        refine nx_list ?_
        refine nx_then ?_
        refine wc_block ?_
        have hcb : Cool w w0 (([⟨r5, #[.int .i64 0], 3⟩, ⟨r4, #[.int .i64 0], 3⟩, ⟨r3, #[.slice none 0 0], 51⟩, ⟨r2, #[.slice none 0 0], 60⟩, ⟨r1, #[.pointer (some ⟨b, 0, none⟩)], 22⟩] : List Blk) ++ A0) := (((((hc0.cons ⟨r1, _, _⟩ hr1).cons ⟨r2, _, _⟩ hr2).cons ⟨r3, _, _⟩ hr3).cons ⟨r4, _, _⟩ hr4).cons ⟨r5, _, _⟩ hr5)
        refine wc_loop (σ := Es w b dl r5 r4 r3 r2 r1 ol) (fun x => [(0, .int .u8 (dl : Int)), (1, .slice a1 ol.length c1), (5, .pointer (some ⟨r1, 0, none⟩)), (7, .pointer (some ⟨r2, 0, none⟩)), (8, .pointer (some ⟨r3, 0, none⟩)), (9, .pointer (some ⟨r4, 0, none⟩)), (10, .pointer (some ⟨r5, 0, none⟩)), (11, .func (.func 20) #[] #[.pointer (some ⟨r4, 0, none⟩), .pointer (some ⟨r1, 0, none⟩), .pointer (some ⟨r5, 0, none⟩), .pointer (some ⟨r2, 0, none⟩), .pointer (some ⟨r3, 0, none⟩)]), (35, .int .i64 (ol.length : Int)), (36, .int .i64 (x.i : Int))]) (fun x => SH x.wb (((([⟨r5, #[.int .i64 (x.ka : Int)], 3⟩, ⟨r4, #[.int .i64 (x.now : Int)], 3⟩, ⟨r3, #[x.vd], 51⟩, ⟨r2, #[x.vs], 60⟩, ⟨r1, #[.pointer (some ⟨b, 0, none⟩)], 22⟩] : List Blk) ++ x.Rs) ++ x.Re) ++ x.A)) (fun x => ol.length - x.i) (fun w3 h3 => ⟨Es.begin hn0 (SH.here h3) (hcb.sh h3), SH.here h3, (subEnv_cons (by kernel_rfl) (subEnv_cons (by kernel_rfl) (subEnv_cons (by kernel_rfl) (subEnv_cons (by kernel_rfl) (subEnv_cons (by kernel_rfl) (subEnv_cons (by kernel_rfl) (subEnv_cons (by kernel_rfl) (subEnv_cons (by kernel_rfl) (subEnv_cons (by kernel_rfl) (subEnv_cons (by kernel_rfl) (subEnv_nil _)))))))))))⟩) (fun x => ?_)
        have hxi := x.hi
        have hxn := x.hnow
        have hxq := x.hq
        have hxk := x.hx.hka
        refine wc_seq ?_
        refine wc_region ?_
        refine wl_go 1 [(37, .bool (decide ((x.i : Int) < (ol.length : Int))))] (by kernel_rfl) ?_
        refine nx_list ?_
        refine nx_then ?_
        refine wc_seq ?_
        refine wc_cond (decide ((x.i : Int) < (ol.length : Int))) (by kernel_rfl) (by kernel_rfl) (fun hcl => ?_) (fun hcl => ?_)
        · skip
          have hlt : x.i < ol.length := by simpa using hcl
          obtain ⟨r, hrow⟩ : ∃ r, ol[x.i]? = some r := ⟨_, List.getElem?_eq_getElem hlt⟩
          obtain ⟨g, o, c, rfl, hI, h_c, l_c, hgr⟩ := Rd.row_at (es := 12) (rd0.stays x.hx.hc.stays) (fun r hr => fR0.length r hr) hrow
          have hmem := List.mem_of_getElem? hrow
          obtain ⟨kd, m, ma, mb, cm, rfl, rfl, h_m, hfm⟩ := op_open h_c (fR0.mem hmem)
          have hzm := hz0 _ hmem
          obtain ⟨fr, to, kind, term, index, last, commit, rows, ok, ents, rfl, rfl, hents, fR, hby⟩ := msg_open h_m hfm
          have hk0 := hgr 0 _ rfl
          have hg : x.wb.rangeAt g (o + x.i * 12 + 1) [.int .i64 fr, .int .i64 to, .int .i64 kind, .int .i64 term, .int .i64 index, .int .i64 last, .int .i64 commit, ents, .bool ok] := fun j v hj => by
            have := hgr (1 + j) v (by rw [List.getElem?_cons, if_neg (by omega), show 1 + j - 1 = j by omega, List.getElem?_append_left (List.getElem?_eq_some_iff.1 hj).1]; exact hj)
            rwa [← Nat.add_assoc] at this
          have hzr : (encL [D.int fr, D.int to, D.int kind, D.int term, D.int index, D.int last, D.int commit, D.sl rows, D.bool ok]).size ≤ 9223372036854775807 := by
            rw [encLs_cons, encL_append, ByteArray.size_append] at hzm
            omega
          refine nx_skip ?_
          refine nx_then ?_
          refine wc_seq ?_
          refine wc_block ?_
          refine wc_seq ?_
          refine wc_region ?_
          refine wl_go 2 [(12, .int .i64 (x.i : Int)), (38, .int .i64 (x.i : Int))] (by kernel_rfl) ?_
          refine nx_list ?_
          refine nx_then ?_
          refine wc_seq ?_
          refine wc_seq ?_
          refine wc_region ?_
          refine wl_go 2 [(40, .int .i64 (x.i : Int)), (39, .slice (some ⟨g, o, none⟩) ol.length c1)] (by kernel_rfl) ?_
          refine wl_yl (d := 41) (v := .pointer (some ⟨g, o + x.i * 12, none⟩)) (by kernel_rfl) (yl_index (E := 74) (b := g) (off := o) (len := ol.length) (cap := c1) (k := x.i) (es := 12) rfl (by kernel_rfl) (by kernel_rfl) (by kernel_rfl) (by omega)) ?_
          refine wl_go 1 [(42, .pointer (some ⟨g, o + x.i * 12, none⟩))] (by kernel_rfl) ?_
          refine wl_yl (d := 43) (v := .int .i64 kd) (by kernel_rfl) (yl_load_im (b := g) (off := o + x.i * 12) rfl (by kernel_rfl) hI (by kernel_rfl) (by have := hk0; simpa using this)) ?_
          refine nx_list ?_
          refine nx_then ?_
          refine wc_block ?_
          refine wc_seq ?_
          refine wc_region ?_
          refine wl_go 2 [(44, .bool (kd == 1)), (45, .bool (kd == 1))] (by kernel_rfl) ?_
          refine nx_list ?_
          refine nx_then ?_
          refine wc_cond (kd == 1) (by kernel_rfl) (by kernel_rfl) (fun hk1 => ?_) (fun hk1 => ?_)
          · skip
            refine wc_seq ?_
            refine wc_draw 8 (Keep x.wb (((([⟨r5, #[.int .i64 (x.ka : Int)], 3⟩, ⟨r4, #[.int .i64 (x.now : Int)], 3⟩, ⟨r3, #[x.vd], 51⟩, ⟨r2, #[x.vs], 60⟩, ⟨r1, #[.pointer (some ⟨b, 0, none⟩)], 22⟩] : List Blk) ++ x.Rs) ++ x.Re) ++ x.A) ⟨r1, #[.pointer (some ⟨b, 0, none⟩)], 22⟩) rfl (by decide) (fun w h => SH.drew h) ?_
            refine wd_yl 0 (d := 46) (v := .pointer (some ⟨b, 0, none⟩)) (f := 7) rfl (by kernel_rfl) (by kernel_rfl) (fun w h => Keep.of h (by simp)) (yl_keepB (b := r1) (off := 0) rfl (by kernel_rfl) (by kernel_rfl)) ?_
            refine wd_go [1, 2] [(48, .int .i64 (x.i : Int)), (47, .slice (some ⟨g, o, none⟩) ol.length c1)] #[true, true, true, false, false, false, false, false] (f := 5) rfl (by kernel_rfl) (fun w h => Keep.of h (by simp)) ?_
            refine wd_yl 3 (d := 49) (v := .pointer (some ⟨g, o + x.i * 12, none⟩)) (f := 4) rfl (by kernel_rfl) (by kernel_rfl) (fun w h => Keep.of h (by simp)) (yl_index (E := 74) (b := g) (off := o) (len := ol.length) (cap := c1) (k := x.i) (es := 12) rfl (by kernel_rfl) (by kernel_rfl) (by kernel_rfl) (by omega)) ?_
            refine wd_go [4] [(50, .pointer (some ⟨g, o + x.i * 12 + 1, none⟩))] #[true, true, true, true, true, false, false, false] (f := 3) rfl (by kernel_rfl) (fun w h => Keep.of h (by simp)) ?_
            refine wd_yl 5 (d := 51) (v := .agg #[.int .i64 fr, .int .i64 to, .int .i64 kind, .int .i64 term, .int .i64 index, .int .i64 last, .int .i64 commit, ents, .bool ok]) (f := 2) rfl (by kernel_rfl) (by kernel_rfl) (fun w h => Keep.of h (by simp)) (yl_keepI (b := g) (off := o + x.i * 12 + 1) (cs := [.int .i64 fr, .int .i64 to, .int .i64 kind, .int .i64 term, .int .i64 index, .int .i64 last, .int .i64 commit, ents, .bool ok]) rfl (by kernel_rfl) hI (by kernel_rfl) hg) ?_
            have e1 : frD [D.int fr, D.int to, D.int kind, D.int term, D.int index, D.int last, D.int commit, D.sl rows, D.bool ok] = fr := rfl
            have e2 : toD [D.int fr, D.int to, D.int kind, D.int term, D.int index, D.int last, D.int commit, D.sl rows, D.bool ok] = to := rfl
            obtain ⟨er, her⟩ : ∃ er : Int, er = (if pairB 7 fr to = true then 0 else 1) := ⟨_, rfl⟩
            have hpl := x.hx.hp.length
            refine wd_callB 6 (X := List Blk × List (Int × Msg)) (d := 52) (fu := 1) (fun _ => .int .i64 er) (fun wa y wz => IsNet b ⟨7, (dl : Int), (x.now : Int), fun _ => false, (x.ps ++ y.2)⟩ y.1 ∧ SH wz y.1 wz ∧ Tr wa x.A wz y.1 ∧ PsR (Nw wa.heap.size wz y.1) wz (addD ⟨7, (dl : Int), (x.now : Int), fun _ => false, x.ps⟩ [D.int fr, D.int to, D.int kind, D.int term, D.int index, D.int last, D.int commit, D.sl rows, D.bool ok]) y.2) rfl (by decide) (by kernel_rfl) (by kernel_rfl) (by kernel_rfl) (fun w1 h1 => (send_d b _ x.A [D.int fr, D.int to, D.int kind, D.int term, D.int index, D.int last, D.int commit, D.sl rows, D.bool ok] _ w1 (SH.netA h1) x.hx.hn (by simp) (h_m.stays (SH.staysA h1)) hfm (by simp) (by simp; omega) (by simp) (by simp; omega) (by simp at hpl ⊢; omega)).mono (fun e w' ⟨A', add, he, h⟩ => ⟨(A', add), by rw [her]; exact he, h⟩)) ?_
            rintro wa ⟨A2, add⟩ w2 h1 ⟨hn2, hs, ht, hadd⟩
            simp only at hn2 hs ht hadd
            obtain ⟨hs2, ht2, hst⟩ := SH.framed h1 hs ht
            rw [add_ok] at hadd
            have hp2 := (x.hx.hp.stays ht2.stays).app (hadd.stays hst)
            have hc2 := x.hx.hc.step ht2
            have hsr2 := x.hx.hsr.stays ht2.stays
            have rc2 := RdL.stays ht2.stays h_m
            refine ⟨Keep.tr ht2 hs2 (by simp), ?_⟩
            refine wd_eq (T := SH w2 (((([⟨r5, #[.int .i64 (x.ka : Int)], 3⟩, ⟨r4, #[.int .i64 (x.now : Int)], 3⟩, ⟨r3, #[x.vd], 51⟩, ⟨r2, #[x.vs], 60⟩, ⟨r1, #[.pointer (some ⟨b, 0, none⟩)], 22⟩] : List Blk) ++ x.Rs) ++ x.Re) ++ A2)) hs2 ?_
            refine wd_go [7] [(53, .bool (er == 0))] #[true, true, true, true, true, true, true, true] (f := 0) rfl (by kernel_rfl) (fun w h => Keep.tr ht2 h (by simp)) ?_
            refine wd_done (by kernel_rfl) ?_
            refine nx_list ?_
            refine nx_on ?_
            refine nx_then ?_
            refine wc_cond (er == 0) (by kernel_rfl) (by kernel_rfl) (fun hce => ?_) (fun hce => ?_)
            · skip
              have hg2 := Tr.range ht2 hI hg
              have hI2 := ht2.im _ hI
              have hyes : pairB 7 fr to = true := by
                cases hq : pairB 7 fr to
                · rw [hq] at her; rw [her] at hce; simp at hce
                · rfl
              simp only [e1, e2, hyes, if_true] at hp2
              refine wc_seq ?_
              have hI := hI2
              have hg := hg2
              refine wc_draw 8 (Keep w2 (((([⟨r5, #[.int .i64 (x.ka : Int)], 3⟩, ⟨r4, #[.int .i64 (x.now : Int)], 3⟩, ⟨r3, #[x.vd], 51⟩, ⟨r2, #[x.vs], 60⟩, ⟨r1, #[.pointer (some ⟨b, 0, none⟩)], 22⟩] : List Blk) ++ x.Rs) ++ x.Re) ++ A2) ⟨r2, #[x.vs], 60⟩) rfl (by decide) (fun w h => SH.drew h) ?_
              refine wd_yl 0 (d := 54) (v := x.vs) (f := 7) rfl (by kernel_rfl) (by kernel_rfl) (fun w h => Keep.of h (by simp)) (yl_keepB (b := r2) (off := 0) rfl (by kernel_rfl) (by kernel_rfl)) ?_
              refine wd_go [1, 2] [(56, .int .i64 (x.i : Int)), (55, .slice (some ⟨g, o, none⟩) ol.length c1)] #[true, true, true, false, false, false, false, false, false] (f := 5) rfl (by kernel_rfl) (fun w h => Keep.of h (by simp)) ?_
              refine wd_yl 3 (d := 57) (v := .pointer (some ⟨g, o + x.i * 12, none⟩)) (f := 4) rfl (by kernel_rfl) (by kernel_rfl) (fun w h => Keep.of h (by simp)) (yl_index (E := 74) (b := g) (off := o) (len := ol.length) (cap := c1) (k := x.i) (es := 12) rfl (by kernel_rfl) (by kernel_rfl) (by kernel_rfl) (by omega)) ?_
              refine wd_go [4] [(58, .pointer (some ⟨g, o + x.i * 12 + 1, none⟩))] #[true, true, true, true, true, false, false, false, false] (f := 3) rfl (by kernel_rfl) (fun w h => Keep.of h (by simp)) ?_
              refine wd_yl 5 (d := 59) (v := .agg #[.int .i64 fr, .int .i64 to, .int .i64 kind, .int .i64 term, .int .i64 index, .int .i64 last, .int .i64 commit, ents, .bool ok]) (f := 2) rfl (by kernel_rfl) (by kernel_rfl) (fun w h => Keep.of h (by simp)) (yl_keepI (b := g) (off := o + x.i * 12 + 1) (cs := [.int .i64 fr, .int .i64 to, .int .i64 kind, .int .i64 term, .int .i64 index, .int .i64 last, .int .i64 commit, ents, .bool ok]) rfl (by kernel_rfl) hI (by kernel_rfl) hg) ?_
              refine wd_newX (d := 60) (f := 1) 6 #[.int .i64 fr, .int .i64 to, .int .i64 kind, .int .i64 term, .int .i64 index, .int .i64 last, .int .i64 commit, ents, .bool ok] 59 (fun r => .slice (some ⟨r, 0, none⟩) 1 1) rfl (by decide) (by kernel_rfl) (by kernel_rfl) (fun r => by kernel_rfl) (fun r w hr h => Keep.new h (by simp) hr) ?_
              intro r6 hr6
              refine wd_weaken (fun w h => SH.toS (B := [⟨r6, #[.int .i64 fr, .int .i64 to, .int .i64 kind, .int .i64 term, .int .i64 index, .int .i64 last, .int .i64 commit, ents, .bool ok], 59⟩, ⟨r5, #[.int .i64 (x.ka : Int)], 3⟩, ⟨r4, #[.int .i64 (x.now : Int)], 3⟩, ⟨r3, #[x.vd], 51⟩, ⟨r2, #[x.vs], 60⟩, ⟨r1, #[.pointer (some ⟨b, 0, none⟩)], 22⟩]) (Rs := x.Rs) (Re := x.Re) (A := A2) h) ?_
              refine wd_appendK (L := ([⟨r6, #[.int .i64 fr, .int .i64 to, .int .i64 kind, .int .i64 term, .int .i64 index, .int .i64 last, .int .i64 commit, ents, .bool ok], 59⟩, ⟨r5, #[.int .i64 (x.ka : Int)], 3⟩, ⟨r4, #[.int .i64 (x.now : Int)], 3⟩, ⟨r3, #[x.vd], 51⟩, ⟨r2, #[x.vs], 60⟩, ⟨r1, #[.pointer (some ⟨b, 0, none⟩)], 22⟩] : List Blk) ++ (x.Re ++ A2)) (R := x.Rs) (f := 0) (d := 61) 7 59 (.agg #[.int .i64 0, .int .i64 0, .int .i64 0, .int .i64 0, .int .i64 0, .int .i64 0, .int .i64 0, .slice none 0 0, .bool false]) 9 88 (v := x.vs) (k := x.q.length) (xs := x.sc.flatten) (a := ⟨r6, 0, none⟩) (m := 1) (c := 1) [.int .i64 fr, .int .i64 to, .int .i64 kind, .int .i64 term, .int .i64 index, .int .i64 last, .int .i64 commit, ents, .bool ok] rfl (by decide) (by kernel_rfl) (by kernel_rfl) rfl (by kernel_rfl) rfl (by decide) (by kernel_rfl) x.hx.owns (by kernel_rfl) rfl (fun w3 h3 => h3.news 0 rfl) h_m.oneCell (by simp only [maxLen]; omega) (by omega) (fun w' R' q ht h => Keep.tr (Tr.appS hr6 ht) (SH.ofS h) (by simp)) ?_
              intro w3 v3 R3 own3 hT3
              have hT3 := Tr.appS hr6 hT3
              obtain ⟨a3, c3, rfl⟩ := own3.val
              refine wd_weaken (fun w h => SH.ofS (B := [⟨r6, #[.int .i64 fr, .int .i64 to, .int .i64 kind, .int .i64 term, .int .i64 index, .int .i64 last, .int .i64 commit, ents, .bool ok], 59⟩, ⟨r5, #[.int .i64 (x.ka : Int)], 3⟩, ⟨r4, #[.int .i64 (x.now : Int)], 3⟩, ⟨r3, #[x.vd], 51⟩, ⟨r2, #[x.vs], 60⟩, ⟨r1, #[.pointer (some ⟨b, 0, none⟩)], 22⟩]) (Rs := R3) (Re := x.Re) (A := A2) h) ?_
              refine wd_done (by kernel_rfl) ?_
              refine wl_store (b := r2) (off := 0) (v := .slice a3 (x.q.length + 1) c3) (c' := #[.slice a3 (x.q.length + 1) c3]) (L' := (((([⟨r6, #[.int .i64 fr, .int .i64 to, .int .i64 kind, .int .i64 term, .int .i64 index, .int .i64 last, .int .i64 commit, ents, .bool ok], 59⟩, ⟨r5, #[.int .i64 (x.ka : Int)], 3⟩, ⟨r4, #[.int .i64 (x.now : Int)], 3⟩, ⟨r3, #[x.vd], 51⟩, ⟨r2, #[.slice a3 (x.q.length + 1) c3], 60⟩, ⟨r1, #[.pointer (some ⟨b, 0, none⟩)], 22⟩] : List Blk) ++ R3) ++ x.Re) ++ A2)) 4 (by kernel_rfl) rfl (by kernel_rfl) (by kernel_rfl) rfl (by kernel_rfl) rfl ?_
              refine nx_list ?_
              refine nx_on ?_
              refine nx_then ?_
              refine wc_region ?_
              refine wl_yl (d := 62) (v := x.vd) (by kernel_rfl) (yl_load (b := r3) (off := 0) 3 rfl (by kernel_rfl) rfl (by kernel_rfl)) ?_
              refine wl_yl (d := 63) (v := .int .i64 (x.now : Int)) (by kernel_rfl) (yl_load (b := r4) (off := 0) 2 rfl (by kernel_rfl) rfl (by kernel_rfl)) ?_
              refine wl_go 1 [(64, .int .u8 (dl : Int))] (by kernel_rfl) ?_
              refine wl_yl (d := 65) (v := .int .i64 (dl : Int)) (by kernel_rfl) (yl_int (t := (dl : Int)) (r := (dl : Int)) (by kernel_rfl) (i64w (by omega) (by omega))) ?_
              refine wl_yl (d := 66) (v := .int .i64 ((x.now : Int) + (dl : Int))) (by kernel_rfl) (yl_int (t := (x.now : Int) + (dl : Int)) (r := (x.now : Int) + (dl : Int)) (by kernel_rfl) (i64w (by omega) (by omega))) ?_
              refine wl_new (d := 67) #[.int .i64 ((x.now : Int) + (dl : Int))] 3 (fun r => .slice (some ⟨r, 0, none⟩) 1 1) (by kernel_rfl) (fun r => by kernel_rfl) ?_
              intro r7 hr7
              have hT3 := hT3.congR (L0 := (((([⟨r6, #[.int .i64 fr, .int .i64 to, .int .i64 kind, .int .i64 term, .int .i64 index, .int .i64 last, .int .i64 commit, ents, .bool ok], 59⟩, ⟨r5, #[.int .i64 (x.ka : Int)], 3⟩, ⟨r4, #[.int .i64 (x.now : Int)], 3⟩, ⟨r3, #[x.vd], 51⟩, ⟨r2, #[.slice a3 (x.q.length + 1) c3], 60⟩, ⟨r1, #[.pointer (some ⟨b, 0, none⟩)], 22⟩] : List Blk) ++ R3) ++ x.Re) ++ A2)) rfl
              refine wl_weaken (fun _ _ h => h) (fun w h => SH.rot (A := ([⟨r7, #[.int .i64 ((x.now : Int) + (dl : Int))], 3⟩, ⟨r6, #[.int .i64 fr, .int .i64 to, .int .i64 kind, .int .i64 term, .int .i64 index, .int .i64 last, .int .i64 commit, ents, .bool ok], 59⟩, ⟨r5, #[.int .i64 (x.ka : Int)], 3⟩, ⟨r4, #[.int .i64 (x.now : Int)], 3⟩, ⟨r3, #[x.vd], 51⟩, ⟨r2, #[.slice a3 (x.q.length + 1) c3], 60⟩, ⟨r1, #[.pointer (some ⟨b, 0, none⟩)], 22⟩] : List Blk) ++ R3) (R := x.Re) (S := A2) h) ?_
              refine wl_append' (L := (([⟨r7, #[.int .i64 ((x.now : Int) + (dl : Int))], 3⟩, ⟨r6, #[.int .i64 fr, .int .i64 to, .int .i64 kind, .int .i64 term, .int .i64 index, .int .i64 last, .int .i64 commit, ents, .bool ok], 59⟩, ⟨r5, #[.int .i64 (x.ka : Int)], 3⟩, ⟨r4, #[.int .i64 (x.now : Int)], 3⟩, ⟨r3, #[x.vd], 51⟩, ⟨r2, #[.slice a3 (x.q.length + 1) c3], 60⟩, ⟨r1, #[.pointer (some ⟨b, 0, none⟩)], 22⟩] : List Blk) ++ R3) ++ A2) (R := x.Re) (d := 68) 3 (.int .i64 0) 1 8 (v := x.vd) (k := x.q.length) (xs := x.q.map (fun x => Value.int .i64 x.1)) (a := ⟨r7, 0, none⟩) (m := 1) (c := 1) [.int .i64 ((x.now : Int) + (dl : Int))] (by kernel_rfl) rfl (by kernel_rfl) rfl (by decide) (by kernel_rfl) x.hx.ownd (by kernel_rfl) rfl (fun w3 h3 => h3.news 0 rfl) (by intro u hu; simp only [List.mem_singleton] at hu; subst hu; rfl) (by simp only [maxLen]; omega) (by omega) ?_
              intro w4 v4 R4 own4 hT4
              have hT4 := Tr.appD hr7 hT4
              obtain ⟨a4, c4, rfl⟩ := own4.val
              refine wl_weaken (fun _ _ h => h) (fun w h => SH.rot (A := ([⟨r7, #[.int .i64 ((x.now : Int) + (dl : Int))], 3⟩, ⟨r6, #[.int .i64 fr, .int .i64 to, .int .i64 kind, .int .i64 term, .int .i64 index, .int .i64 last, .int .i64 commit, ents, .bool ok], 59⟩, ⟨r5, #[.int .i64 (x.ka : Int)], 3⟩, ⟨r4, #[.int .i64 (x.now : Int)], 3⟩, ⟨r3, #[x.vd], 51⟩, ⟨r2, #[.slice a3 (x.q.length + 1) c3], 60⟩, ⟨r1, #[.pointer (some ⟨b, 0, none⟩)], 22⟩] : List Blk) ++ R3) (R := A2) (S := R4) h) ?_
              refine wl_store (b := r3) (off := 0) (v := .slice a4 (x.q.length + 1) c4) (c' := #[.slice a4 (x.q.length + 1) c4]) (L' := (((([⟨r7, #[.int .i64 ((x.now : Int) + (dl : Int))], 3⟩, ⟨r6, #[.int .i64 fr, .int .i64 to, .int .i64 kind, .int .i64 term, .int .i64 index, .int .i64 last, .int .i64 commit, ents, .bool ok], 59⟩, ⟨r5, #[.int .i64 (x.ka : Int)], 3⟩, ⟨r4, #[.int .i64 (x.now : Int)], 3⟩, ⟨r3, #[.slice a4 (x.q.length + 1) c4], 51⟩, ⟨r2, #[.slice a3 (x.q.length + 1) c3], 60⟩, ⟨r1, #[.pointer (some ⟨b, 0, none⟩)], 22⟩] : List Blk) ++ R3) ++ R4) ++ A2)) 4 (by kernel_rfl) rfl (by kernel_rfl) (by kernel_rfl) rfl (by kernel_rfl) rfl ?_
              refine nx_list ?_
              refine nx_block ?_
              refine nx_then ?_
              refine wc_seq ?_
              refine wc_open (fun w6 h6 => ?_)
              have hs6 := SH.drop1 (SH.drop1 h6)
              have hT6 : Tr w2 (((([⟨r5, #[.int .i64 (x.ka : Int)], 3⟩, ⟨r4, #[.int .i64 (x.now : Int)], 3⟩, ⟨r3, #[x.vd], 51⟩, ⟨r2, #[x.vs], 60⟩, ⟨r1, #[.pointer (some ⟨b, 0, none⟩)], 22⟩] : List Blk) ++ x.Rs) ++ x.Re) ++ A2) w6 _ := (hT3.trans (hT4.congR (L0 := (((([⟨r7, #[.int .i64 ((x.now : Int) + (dl : Int))], 3⟩, ⟨r6, #[.int .i64 fr, .int .i64 to, .int .i64 kind, .int .i64 term, .int .i64 index, .int .i64 last, .int .i64 commit, ents, .bool ok], 59⟩, ⟨r5, #[.int .i64 (x.ka : Int)], 3⟩, ⟨r4, #[.int .i64 (x.now : Int)], 3⟩, ⟨r3, #[.slice a4 (x.q.length + 1) c4], 51⟩, ⟨r2, #[.slice a3 (x.q.length + 1) c3], 60⟩, ⟨r1, #[.pointer (some ⟨b, 0, none⟩)], 22⟩] : List Blk) ++ R3) ++ R4) ++ A2)) rfl)).trans (Tr.drop1 (Tr.drop1 (SH.trHere h6)))
              have hp6 := hp2.stays hT6.stays
              have hsr6 := (hsr2.stays hT6.stays).app (a := x.q.map (·.2)) (b := [[D.int fr, D.int to, D.int kind, D.int term, D.int index, D.int last, D.int commit, D.sl rows, D.bool ok]]) (v := [[.int .i64 fr, .int .i64 to, .int .i64 kind, .int .i64 term, .int .i64 index, .int .i64 last, .int .i64 commit, ents, .bool ok]]) ⟨RdL.stays hT6.stays rc2, trivial⟩
              have hD6 : DvF w b dl (DL r5 r4 r3 r2 r1 b (.slice a3 (x.q.length + 1) c3) (.slice a4 (x.q.length + 1) c4) ((x.now : Nat) : Int) ((x.ka : Nat) : Int) R3 R4 A2) w6 (x.q ++ [((x.now : Int) + (dl : Int), [D.int fr, D.int to, D.int kind, D.int term, D.int index, D.int last, D.int commit, D.sl rows, D.bool ok])]) x.ka x.now (x.ps ++ add) A2 R3 R4 (.slice a3 (x.q.length + 1) c3) (.slice a4 (x.q.length + 1) c4) (x.sc ++ [[.int .i64 fr, .int .i64 to, .int .i64 kind, .int .i64 term, .int .i64 index, .int .i64 last, .int .i64 commit, ents, .bool ok]]) := ⟨hn2, hs6, hc2.step hT6, by rw [List.drop_append_of_le_length hxk]; exact hp6, by rw [List.length_append, List.flatten_append]; simpa using own3, by rw [List.map_append]; exact hsr6, by rw [List.length_append, List.map_append]; exact own4, by rw [List.length_append]; exact Nat.le_add_right_of_le hxk, by
                rw [List.pairwise_append]
                exact ⟨x.hx.hsort, List.pairwise_singleton _ _, fun u hu v hv => by rw [List.mem_singleton] at hv; subst hv; exact x.hdue u hu⟩, fun u hu => by
                rw [List.drop_append_of_le_length hxk] at hu
                rcases List.mem_append.1 hu with hu | hu
                · exact x.hx.hlate u hu
                · rw [List.mem_singleton] at hu; subst hu; simp only; omega⟩
              have hnow6 : x.now ≤ x.i + 1 := by omega
              have hq6 : (x.q ++ [((x.now : Int) + (dl : Int), [D.int fr, D.int to, D.int kind, D.int term, D.int index, D.int last, D.int commit, D.sl rows, D.bool ok])]).length ≤ x.i + 1 := by rw [List.length_append]; simp only [List.length_singleton]; omega
              have hfit6 : FitR sh by_ ((x.q ++ [((x.now : Int) + (dl : Int), [D.int fr, D.int to, D.int kind, D.int term, D.int index, D.int last, D.int commit, D.sl rows, D.bool ok])]).map (·.2)) (sh 14) := by rw [List.map_append]; exact fitR_app x.hfit hfm
              have hz6 : ∀ r ∈ (x.q ++ [((x.now : Int) + (dl : Int), [D.int fr, D.int to, D.int kind, D.int term, D.int index, D.int last, D.int commit, D.sl rows, D.bool ok])]).map (·.2), (encL r).size ≤ 9223372036854775807 := by
                intro r hr
                rw [List.map_append] at hr
                rcases List.mem_append.1 hr with hr | hr
                · exact x.hz r hr
                · simp only [List.map_cons, List.map_nil, List.mem_singleton] at hr; subst hr; exact hzr
              have hdue6 : ∀ u ∈ (x.q ++ [((x.now : Int) + (dl : Int), [D.int fr, D.int to, D.int kind, D.int term, D.int index, D.int last, D.int commit, D.sl rows, D.bool ok])]), u.1 ≤ (x.now : Int) + (dl : Int) := by
                intro u hu
                rcases List.mem_append.1 hu with hu | hu
                · exact x.hdue u hu
                · rw [List.mem_singleton] at hu; subst hu; exact Int.le_refl _
              have hka6 := hD6.hka
              have hpl6 := hD6.hp.length
              obtain ⟨n6, hn6⟩ : ∃ n6 : Int, n6 = (((x.q.length + 1) : Nat) : Int) - ((x.ka : Nat) : Int) := ⟨_, rfl⟩
              have hlen6 : ((x.ps ++ add).length : Int) = n6 := by
                simp only [List.length_drop, List.length_append, List.length_cons, List.length_nil] at hpl6 hka6 ⊢
                omega
              refine wc_eq (S := SH w6 (((([⟨r5, #[.int .i64 ((x.ka : Nat) : Int)], 3⟩, ⟨r4, #[.int .i64 ((x.now : Nat) : Int)], 3⟩, ⟨r3, #[.slice a4 (x.q.length + 1) c4], 51⟩, ⟨r2, #[.slice a3 (x.q.length + 1) c3], 60⟩, ⟨r1, #[.pointer (some ⟨b, 0, none⟩)], 22⟩] : List Blk) ++ R3) ++ R4) ++ A2)) hD6.hs ?_
              refine wc_draw 7 (SH w6 (((([⟨r5, #[.int .i64 ((x.ka : Nat) : Int)], 3⟩, ⟨r4, #[.int .i64 ((x.now : Nat) : Int)], 3⟩, ⟨r3, #[.slice a4 (x.q.length + 1) c4], 51⟩, ⟨r2, #[.slice a3 (x.q.length + 1) c3], 60⟩, ⟨r1, #[.pointer (some ⟨b, 0, none⟩)], 22⟩] : List Blk) ++ R3) ++ R4) ++ A2)) rfl (by decide) (fun w h => SH.drew h) ?_
              refine wd_yl 0 (d := 74) (v := .pointer (some ⟨b, 0, none⟩)) (f := 6) rfl (by kernel_rfl) (by kernel_rfl) (fun w h => h) (yl_load (b := r1) (off := 0) 4 rfl (by kernel_rfl) rfl (by kernel_rfl)) ?_
              refine wd_yl 2 (d := 76) (v := .slice a3 (x.q.length + 1) c3) (f := 5) rfl (by kernel_rfl) (by kernel_rfl) (fun w h => h) (yl_load (b := r2) (off := 0) 3 rfl (by kernel_rfl) rfl (by kernel_rfl)) ?_
              refine wd_go [3] [(77, .int .i64 ((x.q.length + 1) : Int))] #[true, false, true, true, false, false, false] (f := 4) rfl (by kernel_rfl) (fun w h => h) ?_
              refine wd_yl 4 (d := 78) (v := .int .i64 ((x.ka : Nat) : Int)) (f := 3) rfl (by kernel_rfl) (by kernel_rfl) (fun w h => h) (yl_load (b := r5) (off := 0) 0 rfl (by kernel_rfl) rfl (by kernel_rfl)) ?_
              refine wd_yl 5 (d := 79) (v := .int .i64 n6) (f := 2) rfl (by kernel_rfl) (by kernel_rfl) (fun w h => h) (yl_int (t := ((x.q.length + 1) : Int) - ((x.ka : Nat) : Int)) (r := n6) (by kernel_rfl) ((i64w (by omega) (by omega)).trans hn6.symm)) ?_
              refine wd_callK shK 1 (d := 75) (fu := 1) (v := .int .i64 n6) rfl (by decide) (by kernel_rfl) (by kernel_rfl) (by kernel_rfl) (fun w1 h1 => by rw [← hlen6]; exact (len_ok b _ _ w1 (SH.netA h1) hD6.hn).mono (fun e w' h => ⟨h.1, h.2 ▸ Below.refl _ _⟩)) ?_
              refine wd_go [6] [(80, .bool (n6 != n6))] #[true, true, true, true, true, true, true] (f := 0) rfl (by kernel_rfl) (fun w h => h) ?_
              rw [show (n6 != n6) = false from by simp]
              refine wd_done (by kernel_rfl) ?_
              refine nx_list ?_
              refine nx_on ?_
              refine nx_then ?_
              refine wc_cond false (by kernel_rfl) (by kernel_rfl) (fun h => by cases h) (fun _ => ?_)
              refine nx_skip ?_
              refine nx_block ?_
              refine nx_then ?_
              refine wc_region ?_
              refine wl_yl (d := 81) (v := .int .i64 ((x.i : Int) + 1)) (by kernel_rfl) (yl_int (t := (x.i : Int) + 1) (r := (x.i : Int) + 1) (by kernel_rfl) (i64w (by omega) (by omega))) ?_
              refine wl_go 1 [(36, .int .i64 ((x.i : Int) + 1))] (by kernel_rfl) ?_
              refine nx_list ?_
              refine nx_round_w (fun w9 h9 => ?_)
              exact ⟨⟨x.i + 1, w9, (x.q ++ [((x.now : Int) + (dl : Int), [D.int fr, D.int to, D.int kind, D.int term, D.int index, D.int last, D.int commit, D.sl rows, D.bool ok])]), x.ka, x.now, (x.ps ++ add), A2, R3, R4, .slice a3 (x.q.length + 1) c3, .slice a4 (x.q.length + 1) c4, (x.sc ++ [[.int .i64 fr, .int .i64 to, .int .i64 kind, .int .i64 term, .int .i64 index, .int .i64 last, .int .i64 commit, ents, .bool ok]]), hlt, hD6.here h9, hnow6, hq6, hfit6, hz6, hdue6⟩, (show ol.length - (x.i + 1) < ol.length - x.i by omega), (subEnv_cons (by kernel_rfl) (subEnv_cons (by kernel_rfl) (subEnv_cons (by kernel_rfl) (subEnv_cons (by kernel_rfl) (subEnv_cons (by kernel_rfl) (subEnv_cons (by kernel_rfl) (subEnv_cons (by kernel_rfl) (subEnv_cons (by kernel_rfl) (subEnv_cons (by kernel_rfl) (subEnv_cons (by kernel_rfl) (subEnv_nil _))))))))))), SH.here h9⟩
            · skip
              have hg2 := Tr.range ht2 hI hg
              have hI2 := ht2.im _ hI
              have hnot : pairB 7 fr to = false := by
                cases hq : pairB 7 fr to
                · rfl
                · rw [hq] at her; rw [her] at hce; simp at hce
              simp only [e1, e2, hnot, Bool.false_eq_true, if_false, List.append_nil] at hp2
              have hD2 : DvF w b dl (DL r5 r4 r3 r2 r1 b x.vs x.vd ((x.now : Nat) : Int) ((x.ka : Nat) : Int) x.Rs x.Re A2) w2 x.q x.ka x.now (x.ps ++ add) A2 x.Rs x.Re x.vs x.vd x.sc := ⟨hn2, hs2, hc2, hp2, x.hx.owns, hsr2, x.hx.ownd, x.hx.hka, x.hx.hsort, x.hx.hlate⟩
              refine nx_skip ?_
              refine nx_block ?_
              refine nx_then ?_
              refine wc_seq ?_
              refine wc_open (fun w6 h6 => ?_)
              have hD6 := hD2.here h6
              obtain ⟨a6, c6, hv6⟩ := hD6.owns.val
              obtain ⟨a7, c7, hv7⟩ := hD6.ownd.val
              rw [hv6, hv7] at hD6
              have hnow6 : x.now ≤ x.i + 1 := by omega
              have hq6 : x.q.length ≤ x.i + 1 := by omega
              have hfit6 := x.hfit
              have hz6 := x.hz
              have hdue6 : ∀ u ∈ x.q, u.1 ≤ ((x.now : Nat) : Int) + (dl : Int) := fun u hu => by have := x.hdue u hu; omega
              have hka6 := hD6.hka
              have hpl6 := hD6.hp.length
              obtain ⟨n6, hn6⟩ : ∃ n6 : Int, n6 = ((x.q.length : Nat) : Int) - ((x.ka : Nat) : Int) := ⟨_, rfl⟩
              have hlen6 : ((x.ps ++ add).length : Int) = n6 := by
                simp only [List.length_drop, List.length_append, List.length_cons, List.length_nil] at hpl6 hka6 ⊢
                omega
              refine wc_eq (S := SH w6 (((([⟨r5, #[.int .i64 ((x.ka : Nat) : Int)], 3⟩, ⟨r4, #[.int .i64 ((x.now : Nat) : Int)], 3⟩, ⟨r3, #[.slice a7 x.q.length c7], 51⟩, ⟨r2, #[.slice a6 x.q.length c6], 60⟩, ⟨r1, #[.pointer (some ⟨b, 0, none⟩)], 22⟩] : List Blk) ++ x.Rs) ++ x.Re) ++ A2)) hD6.hs ?_
              refine wc_draw 7 (SH w6 (((([⟨r5, #[.int .i64 ((x.ka : Nat) : Int)], 3⟩, ⟨r4, #[.int .i64 ((x.now : Nat) : Int)], 3⟩, ⟨r3, #[.slice a7 x.q.length c7], 51⟩, ⟨r2, #[.slice a6 x.q.length c6], 60⟩, ⟨r1, #[.pointer (some ⟨b, 0, none⟩)], 22⟩] : List Blk) ++ x.Rs) ++ x.Re) ++ A2)) rfl (by decide) (fun w h => SH.drew h) ?_
              refine wd_yl 0 (d := 74) (v := .pointer (some ⟨b, 0, none⟩)) (f := 6) rfl (by kernel_rfl) (by kernel_rfl) (fun w h => h) (yl_load (b := r1) (off := 0) 4 rfl (by kernel_rfl) rfl (by kernel_rfl)) ?_
              refine wd_yl 2 (d := 76) (v := .slice a6 x.q.length c6) (f := 5) rfl (by kernel_rfl) (by kernel_rfl) (fun w h => h) (yl_load (b := r2) (off := 0) 3 rfl (by kernel_rfl) rfl (by kernel_rfl)) ?_
              refine wd_go [3] [(77, .int .i64 (x.q.length : Int))] #[true, false, true, true, false, false, false] (f := 4) rfl (by kernel_rfl) (fun w h => h) ?_
              refine wd_yl 4 (d := 78) (v := .int .i64 ((x.ka : Nat) : Int)) (f := 3) rfl (by kernel_rfl) (by kernel_rfl) (fun w h => h) (yl_load (b := r5) (off := 0) 0 rfl (by kernel_rfl) rfl (by kernel_rfl)) ?_
              refine wd_yl 5 (d := 79) (v := .int .i64 n6) (f := 2) rfl (by kernel_rfl) (by kernel_rfl) (fun w h => h) (yl_int (t := (x.q.length : Int) - ((x.ka : Nat) : Int)) (r := n6) (by kernel_rfl) ((i64w (by omega) (by omega)).trans hn6.symm)) ?_
              refine wd_callK shK 1 (d := 75) (fu := 1) (v := .int .i64 n6) rfl (by decide) (by kernel_rfl) (by kernel_rfl) (by kernel_rfl) (fun w1 h1 => by rw [← hlen6]; exact (len_ok b _ _ w1 (SH.netA h1) hD6.hn).mono (fun e w' h => ⟨h.1, h.2 ▸ Below.refl _ _⟩)) ?_
              refine wd_go [6] [(80, .bool (n6 != n6))] #[true, true, true, true, true, true, true] (f := 0) rfl (by kernel_rfl) (fun w h => h) ?_
              rw [show (n6 != n6) = false from by simp]
              refine wd_done (by kernel_rfl) ?_
              refine nx_list ?_
              refine nx_on ?_
              refine nx_then ?_
              refine wc_cond false (by kernel_rfl) (by kernel_rfl) (fun h => by cases h) (fun _ => ?_)
              refine nx_skip ?_
              refine nx_block ?_
              refine nx_then ?_
              refine wc_region ?_
              refine wl_yl (d := 81) (v := .int .i64 ((x.i : Int) + 1)) (by kernel_rfl) (yl_int (t := (x.i : Int) + 1) (r := (x.i : Int) + 1) (by kernel_rfl) (i64w (by omega) (by omega))) ?_
              refine wl_go 1 [(36, .int .i64 ((x.i : Int) + 1))] (by kernel_rfl) ?_
              refine nx_list ?_
              refine nx_round_w (fun w9 h9 => ?_)
              exact ⟨⟨x.i + 1, w9, x.q, x.ka, x.now, (x.ps ++ add), A2, x.Rs, x.Re, .slice a6 x.q.length c6, .slice a7 x.q.length c7, x.sc, hlt, hD6.here h9, hnow6, hq6, hfit6, hz6, hdue6⟩, (show ol.length - (x.i + 1) < ol.length - x.i by omega), (subEnv_cons (by kernel_rfl) (subEnv_cons (by kernel_rfl) (subEnv_cons (by kernel_rfl) (subEnv_cons (by kernel_rfl) (subEnv_cons (by kernel_rfl) (subEnv_cons (by kernel_rfl) (subEnv_cons (by kernel_rfl) (subEnv_cons (by kernel_rfl) (subEnv_cons (by kernel_rfl) (subEnv_cons (by kernel_rfl) (subEnv_nil _))))))))))), SH.here h9⟩
          · skip
            refine wc_seq ?_
            refine wc_region ?_
            refine wl_go 2 [(69, .bool (kd == 2)), (70, .bool (kd == 2))] (by kernel_rfl) ?_
            refine nx_list ?_
            refine nx_then ?_
            refine wc_cond (kd == 2) (by kernel_rfl) (by kernel_rfl) (fun hk2 => ?_) (fun hk2 => ?_)
            · skip
              refine wc_seq ?_
              refine wc_region ?_
              refine wl_go 1 [(71, .func (.func 20) #[] #[.pointer (some ⟨r4, 0, none⟩), .pointer (some ⟨r1, 0, none⟩), .pointer (some ⟨r5, 0, none⟩), .pointer (some ⟨r2, 0, none⟩), .pointer (some ⟨r3, 0, none⟩)])] (by kernel_rfl) ?_
              refine wl_callB (X := Nat × List (Int × Msg) × List Blk) (d := 72) (fun _ => .bool true) (fun wa u wz => DvF w b dl (DL r5 r4 r3 r2 r1 b x.vs x.vd (((x.now + 1) : Nat) : Int) ((u.1 : Nat) : Int) x.Rs x.Re u.2.2) wz x.q u.1 (x.now + 1) u.2.1 u.2.2 x.Rs x.Re x.vs x.vd x.sc) (by kernel_rfl) (by kernel_rfl) (fun w1 h1 => (tickC b dl r5 r4 r3 r2 r1 _ _ _ _ _ _ _ _ _ _ w w1 (x.hx.here h1) x.hfit x.hz (by omega) (by omega)).mono (fun e w' ⟨k, p, A', he, h⟩ => ⟨(k, p, A'), he, h⟩)) ?_
              rintro wa ⟨ka2, ps2, A2⟩ w2 h1 hD2
              simp only at hD2
              refine wl_eq (S := SH w2 (((([⟨r5, #[.int .i64 ((ka2 : Nat) : Int)], 3⟩, ⟨r4, #[.int .i64 (((x.now + 1) : Nat) : Int)], 3⟩, ⟨r3, #[x.vd], 51⟩, ⟨r2, #[x.vs], 60⟩, ⟨r1, #[.pointer (some ⟨b, 0, none⟩)], 22⟩] : List Blk) ++ x.Rs) ++ x.Re) ++ A2)) hD2.hs ?_
              refine wl_go 1 [(73, .bool false)] (by kernel_rfl) ?_
              refine nx_list ?_
              refine nx_then ?_
              refine wc_cond false (by kernel_rfl) (by kernel_rfl) (fun h => by cases h) (fun _ => ?_)
              refine nx_skip ?_
              refine nx_block ?_
              refine nx_then ?_
              refine wc_seq ?_
              refine wc_open (fun w6 h6 => ?_)
              have hD6 := hD2.here h6
              obtain ⟨a6, c6, hv6⟩ := hD6.owns.val
              obtain ⟨a7, c7, hv7⟩ := hD6.ownd.val
              rw [hv6, hv7] at hD6
              have hnow6 : (x.now + 1) ≤ x.i + 1 := by omega
              have hq6 : x.q.length ≤ x.i + 1 := by omega
              have hfit6 := x.hfit
              have hz6 := x.hz
              have hdue6 : ∀ u ∈ x.q, u.1 ≤ (((x.now + 1) : Nat) : Int) + (dl : Int) := fun u hu => by have := x.hdue u hu; omega
              have hka6 := hD6.hka
              have hpl6 := hD6.hp.length
              obtain ⟨n6, hn6⟩ : ∃ n6 : Int, n6 = ((x.q.length : Nat) : Int) - ((ka2 : Nat) : Int) := ⟨_, rfl⟩
              have hlen6 : (ps2.length : Int) = n6 := by
                simp only [List.length_drop, List.length_append, List.length_cons, List.length_nil] at hpl6 hka6 ⊢
                omega
              refine wc_eq (S := SH w6 (((([⟨r5, #[.int .i64 ((ka2 : Nat) : Int)], 3⟩, ⟨r4, #[.int .i64 (((x.now + 1) : Nat) : Int)], 3⟩, ⟨r3, #[.slice a7 x.q.length c7], 51⟩, ⟨r2, #[.slice a6 x.q.length c6], 60⟩, ⟨r1, #[.pointer (some ⟨b, 0, none⟩)], 22⟩] : List Blk) ++ x.Rs) ++ x.Re) ++ A2)) hD6.hs ?_
              refine wc_draw 7 (SH w6 (((([⟨r5, #[.int .i64 ((ka2 : Nat) : Int)], 3⟩, ⟨r4, #[.int .i64 (((x.now + 1) : Nat) : Int)], 3⟩, ⟨r3, #[.slice a7 x.q.length c7], 51⟩, ⟨r2, #[.slice a6 x.q.length c6], 60⟩, ⟨r1, #[.pointer (some ⟨b, 0, none⟩)], 22⟩] : List Blk) ++ x.Rs) ++ x.Re) ++ A2)) rfl (by decide) (fun w h => SH.drew h) ?_
              refine wd_yl 0 (d := 74) (v := .pointer (some ⟨b, 0, none⟩)) (f := 6) rfl (by kernel_rfl) (by kernel_rfl) (fun w h => h) (yl_load (b := r1) (off := 0) 4 rfl (by kernel_rfl) rfl (by kernel_rfl)) ?_
              refine wd_yl 2 (d := 76) (v := .slice a6 x.q.length c6) (f := 5) rfl (by kernel_rfl) (by kernel_rfl) (fun w h => h) (yl_load (b := r2) (off := 0) 3 rfl (by kernel_rfl) rfl (by kernel_rfl)) ?_
              refine wd_go [3] [(77, .int .i64 (x.q.length : Int))] #[true, false, true, true, false, false, false] (f := 4) rfl (by kernel_rfl) (fun w h => h) ?_
              refine wd_yl 4 (d := 78) (v := .int .i64 ((ka2 : Nat) : Int)) (f := 3) rfl (by kernel_rfl) (by kernel_rfl) (fun w h => h) (yl_load (b := r5) (off := 0) 0 rfl (by kernel_rfl) rfl (by kernel_rfl)) ?_
              refine wd_yl 5 (d := 79) (v := .int .i64 n6) (f := 2) rfl (by kernel_rfl) (by kernel_rfl) (fun w h => h) (yl_int (t := (x.q.length : Int) - ((ka2 : Nat) : Int)) (r := n6) (by kernel_rfl) ((i64w (by omega) (by omega)).trans hn6.symm)) ?_
              refine wd_callK shK 1 (d := 75) (fu := 1) (v := .int .i64 n6) rfl (by decide) (by kernel_rfl) (by kernel_rfl) (by kernel_rfl) (fun w1 h1 => by rw [← hlen6]; exact (len_ok b _ _ w1 (SH.netA h1) hD6.hn).mono (fun e w' h => ⟨h.1, h.2 ▸ Below.refl _ _⟩)) ?_
              refine wd_go [6] [(80, .bool (n6 != n6))] #[true, true, true, true, true, true, true] (f := 0) rfl (by kernel_rfl) (fun w h => h) ?_
              rw [show (n6 != n6) = false from by simp]
              refine wd_done (by kernel_rfl) ?_
              refine nx_list ?_
              refine nx_on ?_
              refine nx_then ?_
              refine wc_cond false (by kernel_rfl) (by kernel_rfl) (fun h => by cases h) (fun _ => ?_)
              refine nx_skip ?_
              refine nx_block ?_
              refine nx_then ?_
              refine wc_region ?_
              refine wl_yl (d := 81) (v := .int .i64 ((x.i : Int) + 1)) (by kernel_rfl) (yl_int (t := (x.i : Int) + 1) (r := (x.i : Int) + 1) (by kernel_rfl) (i64w (by omega) (by omega))) ?_
              refine wl_go 1 [(36, .int .i64 ((x.i : Int) + 1))] (by kernel_rfl) ?_
              refine nx_list ?_
              refine nx_round_w (fun w9 h9 => ?_)
              exact ⟨⟨x.i + 1, w9, x.q, ka2, (x.now + 1), ps2, A2, x.Rs, x.Re, .slice a6 x.q.length c6, .slice a7 x.q.length c7, x.sc, hlt, hD6.here h9, hnow6, hq6, hfit6, hz6, hdue6⟩, (show ol.length - (x.i + 1) < ol.length - x.i by omega), (subEnv_cons (by kernel_rfl) (subEnv_cons (by kernel_rfl) (subEnv_cons (by kernel_rfl) (subEnv_cons (by kernel_rfl) (subEnv_cons (by kernel_rfl) (subEnv_cons (by kernel_rfl) (subEnv_cons (by kernel_rfl) (subEnv_cons (by kernel_rfl) (subEnv_cons (by kernel_rfl) (subEnv_cons (by kernel_rfl) (subEnv_nil _))))))))))), SH.here h9⟩
            · skip
              refine nx_skip ?_
              refine nx_block ?_
              refine nx_then ?_
              refine wc_seq ?_
              refine wc_open (fun w6 h6 => ?_)
              have hD6 := x.hx.here h6
              obtain ⟨a6, c6, hv6⟩ := hD6.owns.val
              obtain ⟨a7, c7, hv7⟩ := hD6.ownd.val
              rw [hv6, hv7] at hD6
              have hnow6 : x.now ≤ x.i + 1 := by omega
              have hq6 : x.q.length ≤ x.i + 1 := by omega
              have hfit6 := x.hfit
              have hz6 := x.hz
              have hdue6 : ∀ u ∈ x.q, u.1 ≤ ((x.now : Nat) : Int) + (dl : Int) := fun u hu => by have := x.hdue u hu; omega
              have hka6 := hD6.hka
              have hpl6 := hD6.hp.length
              obtain ⟨n6, hn6⟩ : ∃ n6 : Int, n6 = ((x.q.length : Nat) : Int) - ((x.ka : Nat) : Int) := ⟨_, rfl⟩
              have hlen6 : (x.ps.length : Int) = n6 := by
                simp only [List.length_drop, List.length_append, List.length_cons, List.length_nil] at hpl6 hka6 ⊢
                omega
              refine wc_eq (S := SH w6 (((([⟨r5, #[.int .i64 ((x.ka : Nat) : Int)], 3⟩, ⟨r4, #[.int .i64 ((x.now : Nat) : Int)], 3⟩, ⟨r3, #[.slice a7 x.q.length c7], 51⟩, ⟨r2, #[.slice a6 x.q.length c6], 60⟩, ⟨r1, #[.pointer (some ⟨b, 0, none⟩)], 22⟩] : List Blk) ++ x.Rs) ++ x.Re) ++ x.A)) hD6.hs ?_
              refine wc_draw 7 (SH w6 (((([⟨r5, #[.int .i64 ((x.ka : Nat) : Int)], 3⟩, ⟨r4, #[.int .i64 ((x.now : Nat) : Int)], 3⟩, ⟨r3, #[.slice a7 x.q.length c7], 51⟩, ⟨r2, #[.slice a6 x.q.length c6], 60⟩, ⟨r1, #[.pointer (some ⟨b, 0, none⟩)], 22⟩] : List Blk) ++ x.Rs) ++ x.Re) ++ x.A)) rfl (by decide) (fun w h => SH.drew h) ?_
              refine wd_yl 0 (d := 74) (v := .pointer (some ⟨b, 0, none⟩)) (f := 6) rfl (by kernel_rfl) (by kernel_rfl) (fun w h => h) (yl_load (b := r1) (off := 0) 4 rfl (by kernel_rfl) rfl (by kernel_rfl)) ?_
              refine wd_yl 2 (d := 76) (v := .slice a6 x.q.length c6) (f := 5) rfl (by kernel_rfl) (by kernel_rfl) (fun w h => h) (yl_load (b := r2) (off := 0) 3 rfl (by kernel_rfl) rfl (by kernel_rfl)) ?_
              refine wd_go [3] [(77, .int .i64 (x.q.length : Int))] #[true, false, true, true, false, false, false] (f := 4) rfl (by kernel_rfl) (fun w h => h) ?_
              refine wd_yl 4 (d := 78) (v := .int .i64 ((x.ka : Nat) : Int)) (f := 3) rfl (by kernel_rfl) (by kernel_rfl) (fun w h => h) (yl_load (b := r5) (off := 0) 0 rfl (by kernel_rfl) rfl (by kernel_rfl)) ?_
              refine wd_yl 5 (d := 79) (v := .int .i64 n6) (f := 2) rfl (by kernel_rfl) (by kernel_rfl) (fun w h => h) (yl_int (t := (x.q.length : Int) - ((x.ka : Nat) : Int)) (r := n6) (by kernel_rfl) ((i64w (by omega) (by omega)).trans hn6.symm)) ?_
              refine wd_callK shK 1 (d := 75) (fu := 1) (v := .int .i64 n6) rfl (by decide) (by kernel_rfl) (by kernel_rfl) (by kernel_rfl) (fun w1 h1 => by rw [← hlen6]; exact (len_ok b _ _ w1 (SH.netA h1) hD6.hn).mono (fun e w' h => ⟨h.1, h.2 ▸ Below.refl _ _⟩)) ?_
              refine wd_go [6] [(80, .bool (n6 != n6))] #[true, true, true, true, true, true, true] (f := 0) rfl (by kernel_rfl) (fun w h => h) ?_
              rw [show (n6 != n6) = false from by simp]
              refine wd_done (by kernel_rfl) ?_
              refine nx_list ?_
              refine nx_on ?_
              refine nx_then ?_
              refine wc_cond false (by kernel_rfl) (by kernel_rfl) (fun h => by cases h) (fun _ => ?_)
              refine nx_skip ?_
              refine nx_block ?_
              refine nx_then ?_
              refine wc_region ?_
              refine wl_yl (d := 81) (v := .int .i64 ((x.i : Int) + 1)) (by kernel_rfl) (yl_int (t := (x.i : Int) + 1) (r := (x.i : Int) + 1) (by kernel_rfl) (i64w (by omega) (by omega))) ?_
              refine wl_go 1 [(36, .int .i64 ((x.i : Int) + 1))] (by kernel_rfl) ?_
              refine nx_list ?_
              refine nx_round_w (fun w9 h9 => ?_)
              exact ⟨⟨x.i + 1, w9, x.q, x.ka, x.now, x.ps, x.A, x.Rs, x.Re, .slice a6 x.q.length c6, .slice a7 x.q.length c7, x.sc, hlt, hD6.here h9, hnow6, hq6, hfit6, hz6, hdue6⟩, (show ol.length - (x.i + 1) < ol.length - x.i by omega), (subEnv_cons (by kernel_rfl) (subEnv_cons (by kernel_rfl) (subEnv_cons (by kernel_rfl) (subEnv_cons (by kernel_rfl) (subEnv_cons (by kernel_rfl) (subEnv_cons (by kernel_rfl) (subEnv_cons (by kernel_rfl) (subEnv_cons (by kernel_rfl) (subEnv_cons (by kernel_rfl) (subEnv_cons (by kernel_rfl) (subEnv_nil _))))))))))), SH.here h9⟩
        · skip
          have hge : ol.length ≤ x.i := by simpa using hcl
          refine nx_exit ?_
          refine nx_then_exit ?_
          refine nx_then_exit ?_
          refine nx_block_here ?_
          refine nx_then ?_
          refine wc_seq ?_
          refine wc_seq ?_
          refine wc_region ?_
          refine wl_go 1 [(82, .int .u8 (dl : Int))] (by kernel_rfl) ?_
          refine wl_yl (d := 83) (v := .int .i64 (dl : Int)) (by kernel_rfl) (yl_int (t := (dl : Int)) (r := (dl : Int)) (by kernel_rfl) (i64w (by omega) (by omega))) ?_
          refine wl_go 1 [(84, .int .i64 0)] (by kernel_rfl) ?_
          refine nx_list ?_
          refine nx_then ?_
          refine wc_block ?_
          obtain ⟨a6, c6, hv6⟩ := x.hx.owns.val
          obtain ⟨a7, c7, hv7⟩ := x.hx.ownd.val
          have hx9 := x.hx
          rw [hv6, hv7] at hx9
          refine wc_loop (σ := Fs w b dl r5 r4 r3 r2 r1 x.q x.now x.Rs x.Re (.slice a6 x.q.length c6) (.slice a7 x.q.length c7) x.sc) (fun y => [(5, .pointer (some ⟨r1, 0, none⟩)), (7, .pointer (some ⟨r2, 0, none⟩)), (10, .pointer (some ⟨r5, 0, none⟩)), (11, .func (.func 20) #[] #[.pointer (some ⟨r4, 0, none⟩), .pointer (some ⟨r1, 0, none⟩), .pointer (some ⟨r5, 0, none⟩), .pointer (some ⟨r2, 0, none⟩), .pointer (some ⟨r3, 0, none⟩)]), (83, .int .i64 (dl : Int)), (84, .int .i64 (y.i : Int))]) (fun y => SH y.wb (((([⟨r5, #[.int .i64 ((y.ka : Nat) : Int)], 3⟩, ⟨r4, #[.int .i64 ((x.now + y.i : Nat) : Int)], 3⟩, ⟨r3, #[.slice a7 x.q.length c7], 51⟩, ⟨r2, #[.slice a6 x.q.length c6], 60⟩, ⟨r1, #[.pointer (some ⟨b, 0, none⟩)], 22⟩] : List Blk) ++ x.Rs) ++ x.Re) ++ y.A)) (fun y => dl - y.i) (fun w3 h3 => ⟨⟨0, w3, x.ka, x.ps, x.A, Nat.zero_le _, hx9.here (by rw [hv6, hv7] at h3; exact h3)⟩, (by rw [hv6, hv7] at h3; exact SH.here h3), (subEnv_cons (by kernel_rfl) (subEnv_cons (by kernel_rfl) (subEnv_cons (by kernel_rfl) (subEnv_cons (by kernel_rfl) (subEnv_cons (by kernel_rfl) (subEnv_cons (by kernel_rfl) (subEnv_nil _)))))))⟩) (fun y => ?_)
          have hyi := y.hi
          have hyk := y.hx.hka
          refine wc_seq ?_
          refine wc_region ?_
          refine wl_go 1 [(85, .bool (decide ((y.i : Int) < (dl : Int))))] (by kernel_rfl) ?_
          refine nx_list ?_
          refine nx_then ?_
          refine wc_seq ?_
          refine wc_cond (decide ((y.i : Int) < (dl : Int))) (by kernel_rfl) (by kernel_rfl) (fun hcl2 => ?_) (fun hcl2 => ?_)
          · skip
            have hlt2 : y.i < dl := by simpa using hcl2
            refine nx_skip ?_
            refine nx_then ?_
            refine wc_seq ?_
            refine wc_block ?_
            refine wc_seq ?_
            refine wc_region ?_
            refine wl_go 1 [(86, .func (.func 20) #[] #[.pointer (some ⟨r4, 0, none⟩), .pointer (some ⟨r1, 0, none⟩), .pointer (some ⟨r5, 0, none⟩), .pointer (some ⟨r2, 0, none⟩), .pointer (some ⟨r3, 0, none⟩)])] (by kernel_rfl) ?_
            refine wl_callB (X := Nat × List (Int × Msg) × List Blk) (d := 87) (fun _ => .bool true) (fun wa u wz => DvF w b dl (DL r5 r4 r3 r2 r1 b (.slice a6 x.q.length c6) (.slice a7 x.q.length c7) ((((x.now + y.i) + 1) : Nat) : Int) ((u.1 : Nat) : Int) x.Rs x.Re u.2.2) wz x.q u.1 ((x.now + y.i) + 1) u.2.1 u.2.2 x.Rs x.Re (.slice a6 x.q.length c6) (.slice a7 x.q.length c7) x.sc) (by kernel_rfl) (by kernel_rfl) (fun w1 h1 => (tickC b dl r5 r4 r3 r2 r1 _ _ _ _ _ _ _ _ _ _ w w1 (y.hx.here h1) x.hfit x.hz (by omega) (by omega)).mono (fun e w' ⟨k, p, A', he, h⟩ => ⟨(k, p, A'), he, h⟩)) ?_
            rintro wa ⟨ka2, ps2, A2⟩ w2 h1 hD2
            simp only at hD2
            refine wl_eq (S := SH w2 (((([⟨r5, #[.int .i64 ((ka2 : Nat) : Int)], 3⟩, ⟨r4, #[.int .i64 ((((x.now + y.i) + 1) : Nat) : Int)], 3⟩, ⟨r3, #[.slice a7 x.q.length c7], 51⟩, ⟨r2, #[.slice a6 x.q.length c6], 60⟩, ⟨r1, #[.pointer (some ⟨b, 0, none⟩)], 22⟩] : List Blk) ++ x.Rs) ++ x.Re) ++ A2)) hD2.hs ?_
            refine wl_go 1 [(88, .bool false)] (by kernel_rfl) ?_
            refine nx_list ?_
            refine nx_then ?_
            refine wc_cond false (by kernel_rfl) (by kernel_rfl) (fun h => by cases h) (fun _ => ?_)
            refine nx_skip ?_
            refine nx_block ?_
            refine nx_then ?_
            refine wc_region ?_
            refine wl_yl (d := 89) (v := .int .i64 ((y.i : Int) + 1)) (by kernel_rfl) (yl_int (t := (y.i : Int) + 1) (r := (y.i : Int) + 1) (by kernel_rfl) (i64w (by omega) (by omega))) ?_
            refine wl_go 1 [(84, .int .i64 ((y.i : Int) + 1))] (by kernel_rfl) ?_
            refine nx_list ?_
            refine nx_round_w (fun w9 h9 => ?_)
            exact ⟨⟨y.i + 1, w9, ka2, ps2, A2, hlt2, hD2.here h9⟩, (show dl - (y.i + 1) < dl - y.i by omega), (subEnv_cons (by kernel_rfl) (subEnv_cons (by kernel_rfl) (subEnv_cons (by kernel_rfl) (subEnv_cons (by kernel_rfl) (subEnv_cons (by kernel_rfl) (subEnv_cons (by kernel_rfl) (subEnv_nil _))))))), SH.here h9⟩
          · skip
            have hge2 : dl ≤ y.i := by simpa using hcl2
            have hemp : x.q.drop y.ka = [] := by
              rw [List.eq_nil_iff_forall_not_mem]
              intro u hu
              have h1 := y.hx.hlate u hu
              have h2 := x.hdue u (List.mem_of_mem_drop hu)
              omega
            have hkl : y.ka = x.q.length := by
              have := congrArg List.length hemp
              simp at this
              omega
            have hps0 : (y.ps.length : Int) = 0 := by
              have := y.hx.hp.length
              rw [hemp, List.length_nil] at this
              omega
            have hat : (((y.ka : Nat) : Int) == (x.q.length : Int)) = true := by rw [hkl]; simp
            refine nx_exit ?_
            refine nx_then_exit ?_
            refine nx_then_exit ?_
            refine nx_block_here ?_
            refine nx_then ?_
            refine wc_seq ?_
            refine wc_region ?_
            refine wl_yl (d := 90) (v := .int .i64 ((y.ka : Nat) : Int)) (by kernel_rfl) (yl_load (b := r5) (off := 0) 0 rfl (by kernel_rfl) rfl (by kernel_rfl)) ?_
            refine wl_yl (d := 91) (v := .slice a6 x.q.length c6) (by kernel_rfl) (yl_load (b := r2) (off := 0) 3 rfl (by kernel_rfl) rfl (by kernel_rfl)) ?_
            refine wl_go 2 [(93, .bool (((y.ka : Nat) : Int) == (x.q.length : Int))), (92, .int .i64 (x.q.length : Int))] (by kernel_rfl) ?_
            rw [hat]
            refine wl_go 1 [(94, .bool true)] (by kernel_rfl) ?_
            refine wl_yl (d := 95) (v := .pointer (some ⟨b, 0, none⟩)) (by kernel_rfl) (yl_load (b := r1) (off := 0) 4 rfl (by kernel_rfl) rfl (by kernel_rfl)) ?_
            refine wl_callK shK (d := 96) (v := .int .i64 0) (by kernel_rfl) (by kernel_rfl) (fun w1 h1 => by rw [← hps0]; exact (len_ok b _ y.A w1 (SH.netA h1) y.hx.hn).mono (fun e w' h => ⟨h.1, h.2 ▸ Below.refl _ _⟩)) ?_
            refine wl_go 3 [(99, .bool true), (98, .bool true), (97, .bool true)] (by kernel_rfl) ?_
            refine wl_callK shK (d := 100) (v := .bool true) (by kernel_rfl) (by kernel_rfl) (fun w1 h1 => awake_ok w1) ?_
            refine wl_go 2 [(4, .bool true), (101, .bool true)] (by kernel_rfl) ?_
            refine nx_list ?_
            refine nx_then ?_
            refine nx_ret ?_
            refine ret_tmp (v := .bool true) rfl (by kernel_rfl) ?_
            intro w' hw'
            exact ⟨rfl, (Cool.sh y.hx.hc hw').1⟩
    · skip
      refine wl_go 3 [(23, .bool true), (22, undef), (21, undef)] (by kernel_rfl) ?_
      refine nx_list ?_
      refine nx_then ?_
      refine wc_cond true (by kernel_rfl) (by kernel_rfl) (fun _ => ?_) (fun h => by cases h)
      refine wc_seq ?_
      refine wc_region ?_
      refine wl_callK shK (d := 24) (v := .bool true) (by kernel_rfl) (by kernel_rfl) (fun w1 h1 => awake_ok w1) ?_
      refine wl_go 1 [(4, .bool true)] (by kernel_rfl) ?_
      refine nx_list ?_
      refine nx_then ?_
      refine nx_ret ?_
      refine nx_then_ret ?_
      refine ret_tmp (v := .bool true) rfl (by kernel_rfl) ?_
      intro w' hw'
      exact ⟨rfl, (Cool.sh (Cool.nil w) hw').1⟩
  · skip
    refine wl_go 7 [(23, .bool true), (22, undef), (21, undef), (20, .bool true), (19, .bool true), (18, undef), (17, undef)] (by kernel_rfl) ?_
    refine nx_list ?_
    refine nx_then ?_
    refine wc_cond true (by kernel_rfl) (by kernel_rfl) (fun _ => ?_) (fun h => by cases h)
    refine wc_seq ?_
    refine wc_region ?_
    refine wl_callK shK (d := 24) (v := .bool true) (by kernel_rfl) (by kernel_rfl) (fun w1 h1 => awake_ok w1) ?_
    refine wl_go 1 [(4, .bool true)] (by kernel_rfl) ?_
    refine nx_list ?_
    refine nx_then ?_
    refine nx_ret ?_
    refine nx_then_ret ?_
    refine ret_tmp (v := .bool true) rfl (by kernel_rfl) ?_
    intro w' hw'
    exact ⟨rfl, (Cool.sh (Cool.nil w) hw').1⟩

end Go.Proofs.Ytidkaipijocjcaa
