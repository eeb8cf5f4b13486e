/- The closure of the law NetDelivers, printed by a program of this repository (gen/netdeliv.py). -/
import Derived.Test.YtidkaipijocjcaaNetDv
import Derived.Test.YtidkaipijocjcaaBk
namespace Go.Proofs.Ytidkaipijocjcaa
open Go.RowKit Go.Sx
set_option linter.unusedVariables false
set_option linter.unusedSimpArgs false

structure Tj (w2 : World) (L0 : List Blk) (L : Nat → List Blk) (k : Nat) where
  j : Nat
  wb : World
  hj : j ≤ k
  htr : Tr w2 L0 wb (L j)
theorem Tr.ofNew {wb w' : World} {x : Blk} {L L1 L' : List Blk} (hx : wb.heap.size ≤ x.b) (h : Tr wb (x :: L1) w' L') (hL : L1.map (·.b) = L.map (·.b)) : Tr wb L w' L' := by
  have key : ∀ k, Im wb L k → Im wb (x :: L1) k := fun k hk => ⟨hk.1, fun y hy he => by
    rcases List.mem_cons.1 hy with rfl | hy
    · have := hk.1; omega
    · have : y.b ∈ L.map (·.b) := by rw [← hL]; exact List.mem_map.2 ⟨y, hy, rfl⟩
      obtain ⟨z, hz, e⟩ := List.mem_map.1 this
      exact hk.2 z hz (e.trans he)⟩
  exact ⟨h.os, h.tape, h.output, h.size, fun k hk => h.im k (key k hk), fun k hk => h.same k (key k hk)⟩
theorem tickC (b dl ra rn rd rs rp ka now : Nat) (q : List (Int × List D)) (ps : List (Int × Msg)) (A Rs Re : List Blk) (vs vd : Value) (sc : List (List Value)) (w0 w : World) (x0 : DvF w0 b dl (DL ra rn rd rs rp b vs vd (now : Int) (ka : Int) Rs Re A) w q ka now ps A Rs Re vs vd sc)
    (fR : FitR sh by_ (q.map (·.2)) (sh 14)) (hz : ∀ r ∈ q.map (·.2), (encL r).size ≤ 9223372036854775807) (hq : q.length ≤ 1000) (hnow : now ≤ 1000) :
    Calls Try.prog 20 #[.pointer (some ⟨rn, 0, none⟩), .pointer (some ⟨rp, 0, none⟩), .pointer (some ⟨ra, 0, none⟩), .pointer (some ⟨rs, 0, none⟩), .pointer (some ⟨rd, 0, none⟩)] w fun e w' => ∃ (ka' : Nat) (ps' : List (Int × Msg)) (A' : List Blk), e = .returned (.bool true) ∧ DvF w0 b dl (DL ra rn rd rs rp b vs vd ((now + 1 : Nat) : Int) (ka' : Int) Rs Re A') w' q ka' (now + 1) ps' A' Rs Re vs vd sc := by
  obtain ⟨az, cs, rfl⟩ := x0.owns.val
  obtain ⟨ad, cd, rfl⟩ := x0.ownd.val
  have owns := x0.owns
  have ownd := x0.ownd
  have hka := x0.hka
  refine Sx.enter (l := [.pointer (some ⟨rn, 0, none⟩), .pointer (some ⟨rp, 0, none⟩), .pointer (some ⟨ra, 0, none⟩), .pointer (some ⟨rs, 0, none⟩), .pointer (some ⟨rd, 0, none⟩)]) Try.func20 rfl (n := 53) rfl (by simp) ?_
  refine wc_eq (S := SH w (((([⟨ra, #[.int .i64 (ka : Int)], 3⟩, ⟨rn, #[.int .i64 (now : Int)], 3⟩, ⟨rd, #[.slice ad q.length cd], 51⟩, ⟨rs, #[.slice az q.length cs], 60⟩, ⟨rp, #[.pointer (some ⟨b, 0, none⟩)], 22⟩] : List Blk) ++ Rs) ++ Re) ++ A)) x0.hs ?_
  refine wc_seq ?_
  refine wc_region ?_
  refine wl_go 1 [(5, .bool false)] (by kernel_rfl) ?_
  refine nx_list ?_
  refine nx_then ?_
  refine wc_seq ?_
  refine wc_region ?_
  refine wl_yl (d := 8) (v := .int .i64 (now : Int)) (by kernel_rfl) (yl_load (b := rn) (off := 0) 1 rfl (by kernel_rfl) rfl (by kernel_rfl)) ?_
  refine wl_yl (d := 9) (v := .int .i64 ((now : Int) + 1)) (by kernel_rfl) (yl_int (t := (now : Int) + 1) (r := (now : Int) + 1) (by kernel_rfl) (i64w (by omega) (by omega))) ?_
  refine wl_store (b := rn) (off := 0) (v := .int .i64 ((now : Int) + 1)) (c' := #[.int .i64 ((now : Int) + 1)]) (L' := (((([⟨ra, #[.int .i64 (ka : Int)], 3⟩, ⟨rn, #[.int .i64 ((now : Int) + 1)], 3⟩, ⟨rd, #[.slice ad q.length cd], 51⟩, ⟨rs, #[.slice az q.length cs], 60⟩, ⟨rp, #[.pointer (some ⟨b, 0, none⟩)], 22⟩] : List Blk) ++ Rs) ++ Re) ++ A)) 1 (by kernel_rfl) rfl (by kernel_rfl) (by kernel_rfl) rfl (by kernel_rfl) rfl ?_
  refine nx_list ?_
  refine nx_then ?_
  refine wc_seq ?_
  refine wc_seq ?_
  refine wc_region ?_
  refine wl_yl (d := 10) (v := .pointer (some ⟨b, 0, none⟩)) (by kernel_rfl) (yl_load (b := rp) (off := 0) 4 rfl (by kernel_rfl) rfl (by kernel_rfl)) ?_
  refine wl_callB (X := Value × List Blk) (d := 11) (fun x => x.1) (fun wa y wz => IsNet b ⟨7, (dl : Int), (now : Int) + 1, fun _ => false, keepP ((now : Int) + 1) ps⟩ y.2 ∧ SH wz y.2 wz ∧ Tr wa A wz y.2 ∧ RowV wz y.2 wa.heap.size y.1 ((dlvr ((now : Int) + 1) (fun _ => false) ps).map Msg.cells)) (by kernel_rfl) (by kernel_rfl) (fun w1 h1 => (tick_at b _ A w1 (SH.netA h1) x0.hn x0.hp.ok (by simp) (by simp; omega) (by have h := x0.hp.length; simp at h ⊢; omega)).mono (fun e w' ⟨v, A', he, h⟩ => ⟨(v, A'), he, h⟩)) ?_
  rintro wa ⟨vt, A2⟩ w2 h1 ⟨hn2, hs, ht, hvt⟩
  simp only at hn2 hs ht hvt
  obtain ⟨hs2, ht2, _⟩ := SH.framed (X := (([⟨ra, #[.int .i64 (ka : Int)], 3⟩, ⟨rn, #[.int .i64 ((now : Int) + 1)], 3⟩, ⟨rd, #[.slice ad q.length cd], 51⟩, ⟨rs, #[.slice az q.length cs], 60⟩, ⟨rp, #[.pointer (some ⟨b, 0, none⟩)], 22⟩] : List Blk) ++ Rs) ++ Re) h1 hs ht
  have hT : Tr w (((([⟨ra, #[.int .i64 (ka : Int)], 3⟩, ⟨rn, #[.int .i64 (now : Int)], 3⟩, ⟨rd, #[.slice ad q.length cd], 51⟩, ⟨rs, #[.slice az q.length cs], 60⟩, ⟨rp, #[.pointer (some ⟨b, 0, none⟩)], 22⟩] : List Blk) ++ Rs) ++ Re) ++ A) w2 (((([⟨ra, #[.int .i64 (ka : Int)], 3⟩, ⟨rn, #[.int .i64 ((now : Int) + 1)], 3⟩, ⟨rd, #[.slice ad q.length cd], 51⟩, ⟨rs, #[.slice az q.length cs], 60⟩, ⟨rp, #[.pointer (some ⟨b, 0, none⟩)], 22⟩] : List Blk) ++ Rs) ++ Re) ++ A2) := ht2.cong rfl
  have hp2 := x0.hp.stays hT.stays
  obtain ⟨k, hk, ek1, ek2⟩ := due_split ((now : Int) + 1) (q.drop ka) (List.Pairwise.sublist (List.drop_sublist _ _) x0.hsort)
  have hk' : ka + k ≤ q.length := by simp at hk; omega
  have hrows := hp2.dlvr ((now : Int) + 1) (fun _ => false)
  rw [dlvr_split ek1] at hrows
  have hvd := RowV.rd (RowV.aside h1 hvt) hrows
  have hps2 := hp2.keep ((now : Int) + 1)
  rw [keepD, ek2] at hps2
  have hsr2 := x0.hsr.stays hT.stays
  have hdl : (((q.drop ka).take k).map (·.2)).length = k := by simp; omega
  obtain ⟨at2, ct2, hv2⟩ : ∃ a c, vt = .slice a k c := by
    obtain ⟨a, c, h⟩ := hvd.slv
    exact ⟨a, c, by rw [h, hdl]⟩
  subst hv2
  have hfl := fR.length
  refine wl_eq (S := SH w2 (((([⟨ra, #[.int .i64 (ka : Int)], 3⟩, ⟨rn, #[.int .i64 ((now : Int) + 1)], 3⟩, ⟨rd, #[.slice ad q.length cd], 51⟩, ⟨rs, #[.slice az q.length cs], 60⟩, ⟨rp, #[.pointer (some ⟨b, 0, none⟩)], 22⟩] : List Blk) ++ Rs) ++ Re) ++ A2)) hs2 ?_
  refine wl_go 2 [(13, .int .i64 0), (12, .int .i64 (k : Int))] (by kernel_rfl) ?_
  refine nx_list ?_
  refine nx_then ?_
  refine wc_block ?_
  refine wc_loop (σ := Tj w2 (((([⟨ra, #[.int .i64 (ka : Int)], 3⟩, ⟨rn, #[.int .i64 ((now : Int) + 1)], 3⟩, ⟨rd, #[.slice ad q.length cd], 51⟩, ⟨rs, #[.slice az q.length cs], 60⟩, ⟨rp, #[.pointer (some ⟨b, 0, none⟩)], 22⟩] : List Blk) ++ Rs) ++ Re) ++ A2) (fun j => (((([⟨ra, #[.int .i64 ((ka + j : Nat) : Int)], 3⟩, ⟨rn, #[.int .i64 ((now : Int) + 1)], 3⟩, ⟨rd, #[.slice ad q.length cd], 51⟩, ⟨rs, #[.slice az q.length cs], 60⟩, ⟨rp, #[.pointer (some ⟨b, 0, none⟩)], 22⟩] : List Blk) ++ Rs) ++ Re) ++ A2)) k) (fun x => [(0, .pointer (some ⟨rn, 0, none⟩)), (2, .pointer (some ⟨ra, 0, none⟩)), (3, .pointer (some ⟨rs, 0, none⟩)), (4, .pointer (some ⟨rd, 0, none⟩)), (11, .slice at2 k ct2), (12, .int .i64 (k : Int)), (13, .int .i64 (x.j : Int))]) (fun x => SH x.wb (((([⟨ra, #[.int .i64 ((ka + x.j : Nat) : Int)], 3⟩, ⟨rn, #[.int .i64 ((now : Int) + 1)], 3⟩, ⟨rd, #[.slice ad q.length cd], 51⟩, ⟨rs, #[.slice az q.length cs], 60⟩, ⟨rp, #[.pointer (some ⟨b, 0, none⟩)], 22⟩] : List Blk) ++ Rs) ++ Re) ++ A2)) (fun x => k - x.j) (fun w3 h3 => ⟨⟨0, w3, Nat.zero_le _, SH.trHere h3⟩, SH.here h3, (subEnv_cons (by kernel_rfl) (subEnv_cons (by kernel_rfl) (subEnv_cons (by kernel_rfl) (subEnv_cons (by kernel_rfl) (subEnv_cons (by kernel_rfl) (subEnv_cons (by kernel_rfl) (subEnv_cons (by kernel_rfl) (subEnv_nil _))))))))⟩) (fun x => ?_)
  have hxj := x.hj
  have htr : Tr w2 (((([⟨ra, #[.int .i64 (ka : Int)], 3⟩, ⟨rn, #[.int .i64 ((now : Int) + 1)], 3⟩, ⟨rd, #[.slice ad q.length cd], 51⟩, ⟨rs, #[.slice az q.length cs], 60⟩, ⟨rp, #[.pointer (some ⟨b, 0, none⟩)], 22⟩] : List Blk) ++ Rs) ++ Re) ++ A2) x.wb (((([⟨ra, #[.int .i64 ((ka + x.j : Nat) : Int)], 3⟩, ⟨rn, #[.int .i64 ((now : Int) + 1)], 3⟩, ⟨rd, #[.slice ad q.length cd], 51⟩, ⟨rs, #[.slice az q.length cs], 60⟩, ⟨rp, #[.pointer (some ⟨b, 0, none⟩)], 22⟩] : List Blk) ++ Rs) ++ Re) ++ A2) := x.htr
  refine wc_seq ?_
  refine wc_region ?_
  refine wl_go 1 [(14, .bool (decide ((x.j : Int) < (k : Int))))] (by kernel_rfl) ?_
  refine nx_list ?_
  refine nx_then ?_
  refine wc_seq ?_
  refine wc_cond (decide ((x.j : Int) < (k : Int))) (by kernel_rfl) (by kernel_rfl) (fun hcl => ?_) (fun hcl => ?_)
  · skip
    have hlt : x.j < k := by simpa using hcl
    obtain ⟨y, hy⟩ : ∃ y, q[ka + x.j]? = some y := ⟨_, List.getElem?_eq_getElem (by omega)⟩
    obtain ⟨gd, ed⟩ : ∃ gd, ad = some ⟨gd, 0, none⟩ := by
      obtain ⟨g9, c9, h9⟩ := own_addr ownd (by omega)
      simp only [Value.slice.injEq] at h9
      exact ⟨g9, h9.1⟩
    subst ed
    have hdj : (q.map (fun x => Value.int .i64 x.1))[ka + x.j]? = some (.int .i64 y.1) := by simp [hy]
    obtain ⟨gs, es⟩ : ∃ gs, az = some ⟨gs, 0, none⟩ := by
      obtain ⟨g9, c9, h9⟩ := own_addr owns (by omega)
      simp only [Value.slice.injEq] at h9
      exact ⟨g9, h9.1⟩
    subst es
    have hry : (((q.drop ka).take k).map (·.2))[x.j]? = some y.2 := by simp [List.getElem?_take, hlt, hy]
    have hmem : y.2 ∈ q.map (·.2) := List.mem_map.2 ⟨y, List.mem_of_getElem? hy, rfl⟩
    obtain ⟨g, o, c, rfl, hI, h_c, l_c, hg⟩ := Rd.row_at (es := 9) (hvd.stays htr.stays) (fun r hr => by
      obtain ⟨z, hz9, rfl⟩ := List.mem_map.1 hr
      exact hfl _ (List.mem_map.2 ⟨z, List.mem_of_mem_drop (List.mem_of_mem_take hz9), rfl⟩)) hry
    obtain ⟨s, hsj, h_s⟩ := (hsr2.stays htr.stays).get (ka + x.j) y.2 (by simp [hy])
    have l_s : s.length = 9 := h_s.length.symm.trans (hfl _ hmem)
    have hsl := (hsr2.flat (es := 9) hfl).1
    have hge5 : decide (((ka + x.j : Nat) : Int) ≥ (q.length : Int)) = false := by simp; omega
    have hyd : (y.1 != (now : Int) + 1) = false := by
      have h1 : y ∈ (q.drop ka).take k := List.mem_of_getElem? (i := x.j) (by simp [List.getElem?_take, hlt, hy])
      have h2 := x0.hlate y (List.mem_of_mem_take h1)
      rw [← ek1] at h1
      have h3 := (List.mem_filter.1 h1).2
      simp at h3 ⊢
      omega
    refine nx_skip ?_
    refine nx_then ?_
    refine wc_seq ?_
    refine wc_block ?_
    refine wc_seq ?_
    refine wc_region ?_
    refine wl_yl (d := 15) (v := .pointer (some ⟨g, o + x.j * 9, none⟩)) (by kernel_rfl) (yl_index (E := 59) (b := g) (off := o) (len := k) (cap := ct2) (k := x.j) (es := 9) rfl (by kernel_rfl) (by kernel_rfl) (by kernel_rfl) (by omega)) ?_
    refine wl_yl (d := 16) (v := .agg (c).toArray) (by kernel_rfl) (yl_loads_im (b := g) (off := o + x.j * 9) (cs := c) rfl (by kernel_rfl) hI (by rw [l_c]; kernel_rfl) hg) ?_
    refine wl_new (d := 7) #[.int .i64 0, .int .i64 0, .int .i64 0, .int .i64 0, .int .i64 0, .int .i64 0, .int .i64 0, .slice none 0 0, .bool false] 59 (fun r => .pointer (some ⟨r, 0, none⟩)) (by kernel_rfl) (fun r => by kernel_rfl) ?_
    intro r1 hr1
    refine wl_store (b := r1) (off := 0) (v := .agg (c).toArray) (c' := c.toArray) (L' := (((([⟨r1, c.toArray, 59⟩, ⟨ra, #[.int .i64 ((ka + x.j : Nat) : Int)], 3⟩, ⟨rn, #[.int .i64 ((now : Int) + 1)], 3⟩, ⟨rd, #[.slice (some ⟨gd, 0, none⟩) q.length cd], 51⟩, ⟨rs, #[.slice (some ⟨gs, 0, none⟩) q.length cs], 60⟩, ⟨rp, #[.pointer (some ⟨b, 0, none⟩)], 22⟩] : List Blk) ++ Rs) ++ Re) ++ A2)) 0 (by kernel_rfl) rfl (by kernel_rfl) (by kernel_rfl) rfl (writeAt_all (by rw [l_c]; kernel_rfl) (by rw [l_c]; kernel_rfl) (RdL.oneCell h_c)) rfl ?_
    refine nx_list ?_
    refine nx_then ?_
    refine wc_seq ?_
    refine wc_seq ?_
    refine wc_draw 21 (SH x.wb (((([⟨r1, c.toArray, 59⟩, ⟨ra, #[.int .i64 ((ka + x.j : Nat) : Int)], 3⟩, ⟨rn, #[.int .i64 ((now : Int) + 1)], 3⟩, ⟨rd, #[.slice (some ⟨gd, 0, none⟩) q.length cd], 51⟩, ⟨rs, #[.slice (some ⟨gs, 0, none⟩) q.length cs], 60⟩, ⟨rp, #[.pointer (some ⟨b, 0, none⟩)], 22⟩] : List Blk) ++ Rs) ++ Re) ++ A2)) rfl (by decide) (fun w h => SH.drew h) ?_
    refine wd_yl 0 (d := 17) (v := .int .i64 ((ka + x.j : Nat) : Int)) (f := 20) rfl (by kernel_rfl) (by kernel_rfl) (fun w h => h) (yl_load (b := ra) (off := 0) 1 rfl (by kernel_rfl) rfl (by kernel_rfl)) ?_
    refine wd_yl 1 (d := 18) (v := .slice (some ⟨gs, 0, none⟩) q.length cs) (f := 19) rfl (by kernel_rfl) (by kernel_rfl) (fun w h => h) (yl_load (b := rs) (off := 0) 4 rfl (by kernel_rfl) rfl (by kernel_rfl)) ?_
    refine wd_go [2, 3] [(20, .bool (decide (((ka + x.j : Nat) : Int) ≥ (q.length : Int)))), (19, .int .i64 (q.length : Int))] #[true, true, true, true, false, false, false, false, false, false, false, false, false, false, false, false, false, false, false, false, false] (f := 17) rfl (by kernel_rfl) (fun w h => h) ?_
    rw [hge5]
    refine wd_go [4] [(21, .bool false)] #[true, true, true, true, true, false, false, false, false, false, false, false, false, false, false, false, false, false, false, false, false] (f := 16) rfl (by kernel_rfl) (fun w h => h) ?_
    refine wd_yl 5 (d := 22) (v := .agg (c).toArray) (f := 15) rfl (by kernel_rfl) (by kernel_rfl) (fun w h => h) (yl_load (b := r1) (off := 0) 0 rfl (by kernel_rfl) rfl (readAt_all (by rw [l_c]; kernel_rfl))) ?_
    refine wd_yl 6 (d := 23) (v := .slice (some ⟨gs, 0, none⟩) q.length cs) (f := 14) rfl (by kernel_rfl) (by kernel_rfl) (fun w h => h) (yl_load (b := rs) (off := 0) 4 rfl (by kernel_rfl) rfl (by kernel_rfl)) ?_
    refine wd_yl 7 (d := 24) (v := .int .i64 ((ka + x.j : Nat) : Int)) (f := 13) rfl (by kernel_rfl) (by kernel_rfl) (fun w h => h) (yl_load (b := ra) (off := 0) 1 rfl (by kernel_rfl) rfl (by kernel_rfl)) ?_
    refine wd_yl 8 (d := 25) (v := .pointer (some ⟨gs, 0 + (ka + x.j : Nat) * 9, none⟩)) (f := 12) rfl (by kernel_rfl) (by kernel_rfl) (fun w h => h) (yl_index (E := 59) (b := gs) (off := 0) (len := q.length) (cap := cs) (k := (ka + x.j : Nat)) (es := 9) rfl (by kernel_rfl) (by kernel_rfl) (by kernel_rfl) (by omega)) ?_
    refine wd_yl 9 (d := 26) (v := .agg (s).toArray) (f := 11) rfl (by kernel_rfl) (by kernel_rfl) (fun w h => h) (yl_ownrow (i := ka + x.j) owns (fun y hy => by simp [hy]) rfl (by kernel_rfl) hsl hsj (by rw [l_s]; kernel_rfl)) ?_
    refine wd_callK shK 10 (d := 27) (fu := 10) (v := .bool true) rfl (by decide) (by kernel_rfl) (by kernel_rfl) (by kernel_rfl) (fun w1 h1 => sameMsg_ok y.2 (fR.mem hmem) (hz _ hmem) w1 _ _ c s (h_c.stays (SH.trHere (h1.tail hr1)).stays) (h_s.stays (SH.trHere (h1.tail hr1)).stays)) ?_
    refine wd_go [11, 12, 13] [(30, .bool false), (29, .bool false), (28, .bool false)] #[true, true, true, true, true, true, true, true, true, true, true, true, true, true, false, false, false, false, false, false, false] (f := 7) rfl (by kernel_rfl) (fun w h => h) ?_
    refine wd_yl 14 (d := 31) (v := .slice (some ⟨gd, 0, none⟩) q.length cd) (f := 6) rfl (by kernel_rfl) (by kernel_rfl) (fun w h => h) (yl_load (b := rd) (off := 0) 3 rfl (by kernel_rfl) rfl (by kernel_rfl)) ?_
    refine wd_yl 15 (d := 32) (v := .int .i64 ((ka + x.j : Nat) : Int)) (f := 5) rfl (by kernel_rfl) (by kernel_rfl) (fun w h => h) (yl_load (b := ra) (off := 0) 1 rfl (by kernel_rfl) rfl (by kernel_rfl)) ?_
    refine wd_yl 16 (d := 33) (v := .pointer (some ⟨gd, 0 + (ka + x.j : Nat) * 1, none⟩)) (f := 4) rfl (by kernel_rfl) (by kernel_rfl) (fun w h => h) (yl_index (E := 3) (b := gd) (off := 0) (len := q.length) (cap := cd) (k := (ka + x.j : Nat)) (es := 1) rfl (by kernel_rfl) (by kernel_rfl) (by kernel_rfl) (by omega)) ?_
    refine wd_yl 17 (d := 34) (v := .int .i64 y.1) (f := 3) rfl (by kernel_rfl) (by kernel_rfl) (fun w h => h) (yl_ownone (i := ka + x.j) (v := .int .i64 y.1) ownd (fun y hy => by simp [hy]) rfl (by kernel_rfl) hdj (by kernel_rfl)) ?_
    refine wd_yl 18 (d := 35) (v := .int .i64 ((now : Int) + 1)) (f := 2) rfl (by kernel_rfl) (by kernel_rfl) (fun w h => h) (yl_load (b := rn) (off := 0) 2 rfl (by kernel_rfl) rfl (by kernel_rfl)) ?_
    refine wd_go [19] [(36, .bool (y.1 != ((now : Int) + 1)))] #[true, true, true, true, true, true, true, true, true, true, true, true, true, true, true, true, true, true, true, true, false] (f := 1) rfl (by kernel_rfl) (fun w h => h) ?_
    rw [hyd]
    refine wd_go [20] [(37, .bool false)] #[true, true, true, true, true, true, true, true, true, true, true, true, true, true, true, true, true, true, true, true, true] (f := 0) rfl (by kernel_rfl) (fun w h => h) ?_
    refine wd_done (by kernel_rfl) ?_
    refine nx_list ?_
    refine nx_on ?_
    refine nx_then ?_
    refine wc_cond false (by kernel_rfl) (by kernel_rfl) (fun h => by cases h) (fun _ => ?_)
    refine nx_skip ?_
    refine nx_then ?_
    refine wc_region ?_
    refine wl_yl (d := 38) (v := .int .i64 ((ka + x.j : Nat) : Int)) (by kernel_rfl) (yl_load (b := ra) (off := 0) 1 rfl (by kernel_rfl) rfl (by kernel_rfl)) ?_
    refine wl_yl (d := 39) (v := .int .i64 (((ka + x.j : Nat) : Int) + 1)) (by kernel_rfl) (yl_int (t := ((ka + x.j : Nat) : Int) + 1) (r := ((ka + x.j : Nat) : Int) + 1) (by kernel_rfl) (i64w (by omega) (by omega))) ?_
    refine wl_store (b := ra) (off := 0) (v := .int .i64 (((ka + x.j : Nat) : Int) + 1)) (c' := #[.int .i64 (((ka + x.j : Nat) : Int) + 1)]) (L' := (((([⟨r1, c.toArray, 59⟩, ⟨ra, #[.int .i64 (((ka + x.j : Nat) : Int) + 1)], 3⟩, ⟨rn, #[.int .i64 ((now : Int) + 1)], 3⟩, ⟨rd, #[.slice (some ⟨gd, 0, none⟩) q.length cd], 51⟩, ⟨rs, #[.slice (some ⟨gs, 0, none⟩) q.length cs], 60⟩, ⟨rp, #[.pointer (some ⟨b, 0, none⟩)], 22⟩] : List Blk) ++ Rs) ++ Re) ++ A2)) 1 (by kernel_rfl) rfl (by kernel_rfl) (by kernel_rfl) rfl (by kernel_rfl) rfl ?_
    refine nx_list ?_
    refine nx_block ?_
    refine nx_then ?_
    refine wc_region ?_
    refine wl_yl (d := 40) (v := .int .i64 ((x.j : Int) + 1)) (by kernel_rfl) (yl_int (t := (x.j : Int) + 1) (r := (x.j : Int) + 1) (by kernel_rfl) (i64w (by omega) (by omega))) ?_
    refine wl_go 1 [(13, .int .i64 ((x.j : Int) + 1))] (by kernel_rfl) ?_
    refine nx_list ?_
    refine nx_round_w (fun w9 h9 => ?_)
    have hs9 := SH.drop1 h9
    have ht9 := Tr.drop1 (SH.trHere h9)
    exact ⟨⟨x.j + 1, w9, hlt, htr.trans (Tr.ofNew hr1 ht9 rfl)⟩, (show k - (x.j + 1) < k - x.j by omega), (subEnv_cons (by kernel_rfl) (subEnv_cons (by kernel_rfl) (subEnv_cons (by kernel_rfl) (subEnv_cons (by kernel_rfl) (subEnv_cons (by kernel_rfl) (subEnv_cons (by kernel_rfl) (subEnv_cons (by kernel_rfl) (subEnv_nil _)))))))), hs9⟩
  · skip
    have hge : k ≤ x.j := by simpa using hcl
    have hjk : x.j = k := by omega
    refine nx_exit ?_
    refine nx_then_exit ?_
    refine nx_then_exit ?_
    refine nx_block_here ?_
    refine nx_then ?_
    refine wc_seq ?_
    refine wc_draw 13 (SH x.wb (((([⟨ra, #[.int .i64 ((ka + x.j : Nat) : Int)], 3⟩, ⟨rn, #[.int .i64 ((now : Int) + 1)], 3⟩, ⟨rd, #[.slice ad q.length cd], 51⟩, ⟨rs, #[.slice az q.length cs], 60⟩, ⟨rp, #[.pointer (some ⟨b, 0, none⟩)], 22⟩] : List Blk) ++ Rs) ++ Re) ++ A2)) rfl (by decide) (fun w h => SH.drew h) ?_
    refine wd_yl 0 (d := 41) (v := .int .i64 ((ka + x.j : Nat) : Int)) (f := 12) rfl (by kernel_rfl) (by kernel_rfl) (fun w h => h) (yl_load (b := ra) (off := 0) 0 rfl (by kernel_rfl) rfl (by kernel_rfl)) ?_
    refine wd_yl 1 (d := 42) (v := .slice az q.length cs) (f := 11) rfl (by kernel_rfl) (by kernel_rfl) (fun w h => h) (yl_load (b := rs) (off := 0) 3 rfl (by kernel_rfl) rfl (by kernel_rfl)) ?_
    refine wd_go [2, 3, 4] [(45, .bool (((ka + x.j : Nat) : Int) == (q.length : Int))), (44, .bool (((ka + x.j : Nat) : Int) == (q.length : Int))), (43, .int .i64 (q.length : Int))] #[true, true, true, true, true, false, false, false, false, false, false, false, false] (f := 8) rfl (by kernel_rfl) (fun w h => h) ?_
    cases hce : (((ka + x.j : Nat) : Int) == (q.length : Int))
    · skip
      have hne : ka + x.j ≠ q.length := by simp at hce; omega
      obtain ⟨y, hy⟩ : ∃ y, q[ka + x.j]? = some y := ⟨_, List.getElem?_eq_getElem (by omega)⟩
      obtain ⟨gd, ed⟩ : ∃ gd, ad = some ⟨gd, 0, none⟩ := by
        obtain ⟨g9, c9, h9⟩ := own_addr ownd (by omega)
        simp only [Value.slice.injEq] at h9
        exact ⟨g9, h9.1⟩
      subst ed
      have hdj : (q.map (fun x => Value.int .i64 x.1))[ka + x.j]? = some (.int .i64 y.1) := by simp [hy]
      obtain ⟨gs, es⟩ : ∃ gs, az = some ⟨gs, 0, none⟩ := by
        obtain ⟨g9, c9, h9⟩ := own_addr owns (by omega)
        simp only [Value.slice.injEq] at h9
        exact ⟨g9, h9.1⟩
      subst es
      have hyl : decide (y.1 > (now : Int) + 1) = true := by
        have h1 : y ∈ (q.drop ka).drop k := List.mem_of_getElem? (i := 0) (by rw [List.getElem?_drop, List.getElem?_drop, show ka + (k + 0) = ka + x.j by omega]; exact hy)
        rw [← ek2] at h1
        have h3 := (List.mem_filter.1 h1).2
        simpa using h3
      refine wd_yl 5 (d := 46) (v := .slice (some ⟨gd, 0, none⟩) q.length cd) (f := 7) rfl (by kernel_rfl) (by kernel_rfl) (fun w h => h) (yl_load (b := rd) (off := 0) 2 rfl (by kernel_rfl) rfl (by kernel_rfl)) ?_
      refine wd_yl 6 (d := 47) (v := .int .i64 ((ka + x.j : Nat) : Int)) (f := 6) rfl (by kernel_rfl) (by kernel_rfl) (fun w h => h) (yl_load (b := ra) (off := 0) 0 rfl (by kernel_rfl) rfl (by kernel_rfl)) ?_
      refine wd_yl 7 (d := 48) (v := .pointer (some ⟨gd, 0 + (ka + x.j : Nat) * 1, none⟩)) (f := 5) rfl (by kernel_rfl) (by kernel_rfl) (fun w h => h) (yl_index (E := 3) (b := gd) (off := 0) (len := q.length) (cap := cd) (k := (ka + x.j : Nat)) (es := 1) rfl (by kernel_rfl) (by kernel_rfl) (by kernel_rfl) (by omega)) ?_
      refine wd_yl 8 (d := 49) (v := .int .i64 y.1) (f := 4) rfl (by kernel_rfl) (by kernel_rfl) (fun w h => h) (yl_ownone (i := ka + x.j) (v := .int .i64 y.1) ownd (fun y hy => by simp [hy]) rfl (by kernel_rfl) hdj (by kernel_rfl)) ?_
      refine wd_yl 9 (d := 50) (v := .int .i64 ((now : Int) + 1)) (f := 3) rfl (by kernel_rfl) (by kernel_rfl) (fun w h => h) (yl_load (b := rn) (off := 0) 1 rfl (by kernel_rfl) rfl (by kernel_rfl)) ?_
      refine wd_go [10] [(51, .bool (decide (y.1 > (now : Int) + 1)))] #[true, true, true, true, true, true, true, true, true, true, true, false, false] (f := 2) rfl (by kernel_rfl) (fun w h => h) ?_
      rw [hyl]
      refine wd_go [11, 12] [(5, .bool true), (52, .bool true)] #[true, true, true, true, true, true, true, true, true, true, true, true, true] (f := 0) rfl (by kernel_rfl) (fun w h => h) ?_
      refine wd_done (by kernel_rfl) ?_
      refine nx_list ?_
      refine nx_on ?_
      refine nx_then ?_
      refine nx_ret ?_
      refine ret_tmp (v := .bool true) rfl (by kernel_rfl) ?_
      intro w' hw'
      have hTT := htr.trans (SH.trHere hw')
      exact ⟨ka + x.j, _, A2, rfl, ⟨hn2, SH.here hw', (x0.hc.step hT).step hTT, by rw [hjk, ← List.drop_drop]; rw [hjk] at hTT; exact hps2.stays hTT.stays, owns, hsr2.stays hTT.stays, ownd, by omega, x0.hsort, fun y hy => by
        rw [hjk, ← List.drop_drop, ← ek2] at hy
        have := (List.mem_filter.1 hy).2
        simpa using this⟩⟩
    · skip
      refine wd_go [5, 6, 7, 8, 9, 10, 11, 12] [(5, .bool true), (52, .bool true), (51, undef), (50, undef), (49, undef), (48, undef), (47, undef), (46, undef)] #[true, true, true, true, true, true, true, true, true, true, true, true, true] (f := 0) rfl (by kernel_rfl) (fun w h => h) ?_
      refine wd_done (by kernel_rfl) ?_
      refine nx_list ?_
      refine nx_on ?_
      refine nx_then ?_
      refine nx_ret ?_
      refine ret_tmp (v := .bool true) rfl (by kernel_rfl) ?_
      intro w' hw'
      have hTT := htr.trans (SH.trHere hw')
      exact ⟨ka + x.j, _, A2, rfl, ⟨hn2, SH.here hw', (x0.hc.step hT).step hTT, by rw [hjk, ← List.drop_drop]; rw [hjk] at hTT; exact hps2.stays hTT.stays, owns, hsr2.stays hTT.stays, ownd, by omega, x0.hsort, fun y hy => by
        rw [hjk, ← List.drop_drop, ← ek2] at hy
        have := (List.mem_filter.1 hy).2
        simpa using this⟩⟩

end Go.Proofs.Ytidkaipijocjcaa
