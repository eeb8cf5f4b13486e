/- The walk of the law NetScript, printed by a program of this repository (gen/netscript.py). -/
import Derived.Test.YtidkaipijocjcaaNetSc
import Derived.Test.YtidkaipijocjcaaWr
import Derived.Test.YtidkaipijocjcaaBk
namespace Go.Proofs.Ytidkaipijocjcaa
open Go.RowKit Go.Sx
set_option linter.unusedVariables false
set_option linter.unusedSimpArgs false

theorem netScript_ok (nn dd : Int) (ol : List (List D)) (a1 : Option Addr) (c1 : Nat) (w : World) (S : Nat → Prop) (rd0 : Rd S w (.sl ol) (.slice a1 ol.length c1)) (fR0 : FitR sh by_ ol (sh 15)) (hz0 : ∀ r ∈ ol, (encL r).size ≤ 9223372036854775807) (k1 : 1 ≤ nn) (k2 : nn ≤ 7) (k3 : 1 ≤ dd) (k4 : dd ≤ 16) :
    Calls Try.prog 6 #[.int .i64 nn, .int .i64 dd, .slice a1 ol.length c1] w fun e w' => e = .returned (.bool true) ∧ Below w.heap.size w w' := by
  refine Sx.enter (l := [.int .i64 nn, .int .i64 dd, .slice a1 ol.length c1]) Try.func6 rfl (n := 166) rfl (by simp) ?_
  refine wc_eq (S := SH w []) (SH.refl _) ?_
  refine wc_seq ?_
  refine wc_region ?_
  refine wl_go 1 [(6, .bool false)] (by kernel_rfl) ?_
  refine nx_list ?_
  refine nx_then ?_
  refine wc_seq ?_
  refine wc_seq ?_
  refine wc_region ?_
  refine wl_go 3 [(20, .bool (decide ((ol.length : Int) > 100))), (19, .int .i64 (ol.length : Int)), (18, .slice a1 ol.length c1)] (by kernel_rfl) ?_
  refine nx_list ?_
  refine nx_then ?_
  refine wc_cond (decide ((ol.length : Int) > 100)) (by kernel_rfl) (by kernel_rfl) (fun h100 => ?_) (fun h100 => ?_)
  · skip
    refine wc_seq ?_
    refine wc_region ?_
    refine wl_callK shK (d := 21) (v := .bool true) (by kernel_rfl) (by kernel_rfl) (fun w1 h1 => awake_ok w1) ?_
    refine wl_go 1 [(6, .bool true)] (by kernel_rfl) ?_
    refine nx_list ?_
    refine nx_then ?_
    refine nx_ret ?_
    refine nx_then_ret ?_
    refine ret_tmp (v := .bool true) rfl (by kernel_rfl) ?_
    intro w' hw'
    exact ⟨rfl, (Cool.sh (Cool.nil w) hw').1⟩
  · skip
    have hol : ol.length ≤ 100 := by simp at h100; omega
    refine nx_skip ?_
    refine nx_then ?_
    refine wc_seq ?_
    refine wc_region ?_
    refine wl_go 2 [(24, .int .i64 dd), (23, .int .i64 nn)] (by kernel_rfl) ?_
    refine wl_callB (X := Nat × List Blk) (d := 25) (fun x => .tuple #[.pointer (some ⟨x.1, 0, none⟩), .int .i64 0]) (fun wa y wz => IsNet y.1 ⟨nn, dd, 0, fun _ => false, []⟩ y.2 ∧ SH wz y.2 wz ∧ Tr wa [] wz y.2 ∧ wa.heap.size ≤ y.1) (by kernel_rfl) (by kernel_rfl) (fun w1 h1 => (new_ok nn dd w1 k1 k2 k3 k4).mono (fun e w' ⟨b, A, he, h⟩ => ⟨(b, A), he, h⟩)) ?_
    rintro w1 ⟨b, A0⟩ w0 h1 ⟨hn0, hs0, ht0, _⟩
    have hc0 : Cool w w0 A0 := ((Cool.nil w).sh h1).step ht0
    refine wl_eq (S := SH w0 (([] : List Blk) ++ A0)) hs0 ?_
    refine wl_go 5 [(8, .int .i64 0), (7, .pointer (some ⟨b, 0, none⟩)), (27, .int .i64 0), (26, .pointer (some ⟨b, 0, none⟩)), (22, .tuple #[.pointer (some ⟨b, 0, none⟩), .int .i64 0])] (by kernel_rfl) ?_
    refine nx_list ?_
    refine nx_then ?_
    refine wc_seq ?_
    refine wc_region ?_
    refine wl_go 2 [(30, .int .i64 dd), (29, .int .i64 nn)] (by kernel_rfl) ?_
    refine wl_callK shK (d := 31) (v := .tuple #[.agg #[.int .i64 nn, .int .i64 dd, .int .i64 0, .slice none 0 0, .slice none 0 0], .int .i64 0]) (by kernel_rfl) (by kernel_rfl) (fun w1 h1 => rNew_ok nn dd w1 k1 k2 k3 k4) ?_
    refine wl_go 3 [(33, .int .i64 0), (32, .agg #[.int .i64 nn, .int .i64 dd, .int .i64 0, .slice none 0 0, .slice none 0 0]), (28, .tuple #[.agg #[.int .i64 nn, .int .i64 dd, .int .i64 0, .slice none 0 0, .slice none 0 0], .int .i64 0])] (by kernel_rfl) ?_
    refine wl_new (d := 9) #[.int .i64 0, .int .i64 0, .int .i64 0, .slice none 0 0, .slice none 0 0] 79 (fun r => .pointer (some ⟨r, 0, none⟩)) (by kernel_rfl) (fun r => by kernel_rfl) ?_
    intro r1 hr1
    refine wl_store (b := r1) (off := 0) (v := .agg #[.int .i64 nn, .int .i64 dd, .int .i64 0, .slice none 0 0, .slice none 0 0]) (c' := #[.int .i64 nn, .int .i64 dd, .int .i64 0, .slice none 0 0, .slice none 0 0]) (L' := (([⟨r1, #[.int .i64 nn, .int .i64 dd, .int .i64 0, .slice none 0 0, .slice none 0 0], 79⟩] : List Blk) ++ A0)) 0 (by kernel_rfl) rfl (by kernel_rfl) (by kernel_rfl) rfl (by kernel_rfl) rfl ?_
    refine wl_go 1 [(10, .int .i64 0)] (by kernel_rfl) ?_
    refine nx_list ?_
    refine nx_then ?_
    refine wc_seq ?_
    refine wc_seq ?_
    refine wc_region ?_
    refine wl_go 10 [(43, .bool false), (42, .bool false), (41, .bool false), (40, .int .i64 0), (39, .bool false), (38, .pointer (some ⟨b, 0, none⟩)), (37, .bool false), (36, .bool false), (35, .int .i64 0), (34, .int .i64 0)] (by kernel_rfl) ?_
    refine nx_list ?_
    refine nx_then ?_
    refine wc_cond false (by kernel_rfl) (by kernel_rfl) (fun h => by cases h) (fun _ => ?_)
    refine nx_skip ?_
    refine nx_then ?_
    refine wc_seq ?_
    refine wc_seq ?_
    refine wc_region ?_
    refine wl_go 3 [(46, .int .i64 0), (45, .int .i64 (ol.length : Int)), (44, .slice a1 ol.length c1)] (by kernel_rfl) ?_
    refine nx_list ?_
    refine nx_then ?_
    refine wc_block ?_
    have hcb : Cool w w0 (([⟨r1, #[.int .i64 nn, .int .i64 dd, .int .i64 0, .slice none 0 0, .slice none 0 0], 79⟩] : List Blk) ++ A0) := hc0.cons ⟨r1, _, _⟩ hr1
    refine wc_loop (σ := Ss w b r1 nn dd ol) (fun x => [(2, .slice a1 ol.length c1), (7, .pointer (some ⟨b, 0, none⟩)), (8, .int .i64 0), (9, .pointer (some ⟨r1, 0, none⟩)), (45, .int .i64 (ol.length : Int)), (46, .int .i64 (x.i : Int))]) (fun x => SH x.wb (([⟨r1, #[.int .i64 nn, .int .i64 dd, .int .i64 (x.now : Int), .slice x.wa x.xs.length x.wc, .slice x.ga x.gl.length x.gc], 79⟩] : List Blk) ++ x.A)) (fun x => ol.length - x.i) (fun w3 h3 => ⟨⟨0, w3, 0, [], [], [], fun _ => false, A0, none, 0, none, 0, Nat.zero_le _, ⟨hn0, hcb.sh h3, trivial, by rw [Rd]; exact ⟨none, 0, rfl, .inl rfl⟩, by rw [Rd]; exact ⟨none, 0, rfl, .inl rfl⟩, fun i j _ _ _ => rfl, by simp, by rw [List.map_nil, FitR]; trivial, by simp⟩, Nat.le_refl _, Nat.le_refl _, Nat.le_refl _⟩, SH.here h3, (subEnv_cons (by kernel_rfl) (subEnv_cons (by kernel_rfl) (subEnv_cons (by kernel_rfl) (subEnv_cons (by kernel_rfl) (subEnv_cons (by kernel_rfl) (subEnv_cons (by kernel_rfl) (subEnv_nil _)))))))⟩) (fun x => ?_)
    have hxi := x.hi
    have hxn := x.hnow
    have hxx := x.hx
    have hxg := x.hgl
    have hpl := x.hf.hp.length
    refine wc_seq ?_
    refine wc_region ?_
    refine wl_go 1 [(47, .bool (decide ((x.i : Int) < (ol.length : Int))))] (by kernel_rfl) ?_
    refine nx_list ?_
    refine nx_then ?_
    refine wc_seq ?_
    refine wc_cond (decide ((x.i : Int) < (ol.length : Int))) (by kernel_rfl) (by kernel_rfl) (fun hcl => ?_) (fun hcl => ?_)
    · skip
      have hlt : x.i < ol.length := by simpa using hcl
      obtain ⟨r, hrow⟩ : ∃ r, ol[x.i]? = some r := ⟨_, List.getElem?_eq_getElem hlt⟩
      obtain ⟨g, o, c, rfl, hI, h_c, l_c, hgr⟩ := Rd.row_at (es := 12) (rd0.stays x.hf.hc.stays) (fun r hr => fR0.length r hr) hrow
      have hmem := List.mem_of_getElem? hrow
      obtain ⟨kd, m, ma, mb, cm, rfl, rfl, h_m, hfm⟩ := op_open h_c (fR0.mem hmem)
      have hzm := hz0 _ hmem
      obtain ⟨fr, to, kind, term, index, last, commit, rows, ok, ents, rfl, rfl, hents, fR, hby⟩ := msg_open h_m hfm
      obtain ⟨ea, ec, rfl⟩ := hents.slv
      have hzr : (encL [D.int fr, D.int to, D.int kind, D.int term, D.int index, D.int last, D.int commit, D.sl rows, D.bool ok]).size ≤ 9223372036854775807 := by
        rw [encLs_cons, encL_append, ByteArray.size_append] at hzm
        omega
      refine nx_skip ?_
      refine nx_then ?_
      refine wc_seq ?_
      refine wc_block ?_
      refine wc_seq ?_
      refine wc_region ?_
      refine wl_go 2 [(11, .int .i64 (x.i : Int)), (48, .int .i64 (x.i : Int))] (by kernel_rfl) ?_
      refine nx_list ?_
      refine nx_then ?_
      refine wc_seq ?_
      refine wc_seq ?_
      refine wc_region ?_
      refine wl_go 2 [(50, .bool false), (49, .int .i64 0)] (by kernel_rfl) ?_
      refine nx_list ?_
      refine nx_then ?_
      refine wc_cond false (by kernel_rfl) (by kernel_rfl) (fun h => by cases h) (fun _ => ?_)
      refine nx_skip ?_
      refine nx_then ?_
      refine wc_seq ?_
      refine wc_region ?_
      refine wl_go 2 [(13, .int .i64 0), (12, .int .i64 0)] (by kernel_rfl) ?_
      refine nx_list ?_
      refine nx_then ?_
      refine wc_seq ?_
      refine wc_region ?_
      refine wl_go 2 [(52, .int .i64 (x.i : Int)), (51, .slice (some ⟨g, o, none⟩) ol.length c1)] (by kernel_rfl) ?_
      refine wl_yl (d := 53) (v := .pointer (some ⟨g, o + x.i * 12, none⟩)) (by kernel_rfl) (yl_index (E := 74) (b := g) (off := o) (len := ol.length) (cap := c1) (k := x.i) (es := 12) rfl (by kernel_rfl) (by kernel_rfl) (by kernel_rfl) (by omega)) ?_
      refine wl_yl (d := 54) (v := .agg #[.int .i64 kd, .int .i64 fr, .int .i64 to, .int .i64 kind, .int .i64 term, .int .i64 index, .int .i64 last, .int .i64 commit, .slice ea rows.length ec, .bool ok, .int .i64 ma, .int .i64 mb]) (by kernel_rfl) (yl_loads_im (b := g) (off := o + x.i * 12) (cs := [.int .i64 kd, .int .i64 fr, .int .i64 to, .int .i64 kind, .int .i64 term, .int .i64 index, .int .i64 last, .int .i64 commit, .slice ea rows.length ec, .bool ok, .int .i64 ma, .int .i64 mb]) rfl (by kernel_rfl) hI (by kernel_rfl) hgr) ?_
      refine wl_new (d := 14) #[.int .i64 0, .int .i64 0, .int .i64 0, .int .i64 0, .int .i64 0, .int .i64 0, .int .i64 0, .int .i64 0, .slice none 0 0, .bool false, .int .i64 0, .int .i64 0] 74 (fun r => .pointer (some ⟨r, 0, none⟩)) (by kernel_rfl) (fun r => by kernel_rfl) ?_
      intro r2 hr2
      refine wl_store (b := r2) (off := 0) (v := .agg #[.int .i64 kd, .int .i64 fr, .int .i64 to, .int .i64 kind, .int .i64 term, .int .i64 index, .int .i64 last, .int .i64 commit, .slice ea rows.length ec, .bool ok, .int .i64 ma, .int .i64 mb]) (c' := #[.int .i64 kd, .int .i64 fr, .int .i64 to, .int .i64 kind, .int .i64 term, .int .i64 index, .int .i64 last, .int .i64 commit, .slice ea rows.length ec, .bool ok, .int .i64 ma, .int .i64 mb]) (L' := (([⟨r2, #[.int .i64 kd, .int .i64 fr, .int .i64 to, .int .i64 kind, .int .i64 term, .int .i64 index, .int .i64 last, .int .i64 commit, .slice ea rows.length ec, .bool ok, .int .i64 ma, .int .i64 mb], 74⟩, ⟨r1, #[.int .i64 nn, .int .i64 dd, .int .i64 (x.now : Int), .slice x.wa x.xs.length x.wc, .slice x.ga x.gl.length x.gc], 79⟩] : List Blk) ++ x.A)) 0 (by kernel_rfl) rfl (by kernel_rfl) (by kernel_rfl) rfl (by kernel_rfl) rfl ?_
      have hmo := (Tr.more (c := #[.int .i64 kd, .int .i64 fr, .int .i64 to, .int .i64 kind, .int .i64 term, .int .i64 index, .int .i64 last, .int .i64 commit, .slice ea rows.length ec, .bool ok, .int .i64 ma, .int .i64 mb]) (t := 74) (Tr.refl x.wb (([⟨r1, #[.int .i64 nn, .int .i64 dd, .int .i64 (x.now : Int), .slice x.wa x.xs.length x.wc, .slice x.ga x.gl.length x.gc], 79⟩] : List Blk) ++ x.A)) hr2).congR (L0 := (([⟨r2, #[.int .i64 kd, .int .i64 fr, .int .i64 to, .int .i64 kind, .int .i64 term, .int .i64 index, .int .i64 last, .int .i64 commit, .slice ea rows.length ec, .bool ok, .int .i64 ma, .int .i64 mb], 74⟩, ⟨r1, #[.int .i64 nn, .int .i64 dd, .int .i64 (x.now : Int), .slice x.wa x.xs.length x.wc, .slice x.ga x.gl.length x.gc], 79⟩] : List Blk) ++ x.A)) rfl
      have hF := x.hf.tr hmo
      have hM := RdL.stays hmo.stays h_m
      have hG := hF
      refine nx_list ?_
      refine nx_then ?_
      refine wc_seq ?_
      refine wc_seq ?_
      refine wc_region ?_
      refine wl_go 1 [(55, .pointer (some ⟨r2, 0, none⟩))] (by kernel_rfl) ?_
      refine wl_yl (d := 56) (v := .int .i64 kd) (by kernel_rfl) (yl_load (b := r2) (off := 0) 0 rfl (by kernel_rfl) rfl (by kernel_rfl)) ?_
      refine nx_list ?_
      refine nx_then ?_
      refine wc_block ?_
      refine wc_seq ?_
      refine wc_region ?_
      refine wl_go 2 [(57, .bool (kd == 1)), (58, .bool (kd == 1))] (by kernel_rfl) ?_
      refine nx_list ?_
      refine nx_then ?_
      refine wc_cond (kd == 1) (by kernel_rfl) (by kernel_rfl) (fun hkd1 => ?_) (fun hkd1 => ?_)
      · skip
        refine wc_seq ?_
        refine wc_region ?_
        rcases sendCases nn x.gl fr to with hp | ⟨hp, hu⟩ | ⟨hp, hu⟩
        · skip
          refine wl_go 2 [(60, .pointer (some ⟨r2, 1, none⟩)), (59, .pointer (some ⟨b, 0, none⟩))] (by kernel_rfl) ?_
          refine wl_yl (d := 61) (v := .agg #[.int .i64 fr, .int .i64 to, .int .i64 kind, .int .i64 term, .int .i64 index, .int .i64 last, .int .i64 commit, .slice ea rows.length ec, .bool ok]) (by kernel_rfl) (yl_load (b := r2) (off := 1) 0 rfl (by kernel_rfl) rfl (by kernel_rfl)) ?_
          refine wl_callB (X := List Blk × List (Int × Msg)) (d := 62) (fun _ => .int .i64 1) (fun wa y wz => IsNet b ⟨nn, dd, (x.now : Int), x.cut, (x.ps ++ y.2)⟩ y.1 ∧ SH wz y.1 wz ∧ Tr wa x.A wz y.1 ∧ PsR (Nw wa.heap.size wz y.1) wz (addD ⟨nn, dd, (x.now : Int), x.cut, x.ps⟩ [D.int fr, D.int to, D.int kind, D.int term, D.int index, D.int last, D.int commit, D.sl rows, D.bool ok]) y.2) (by kernel_rfl) (by kernel_rfl) (fun w1 h1 => (send_d b _ x.A [D.int fr, D.int to, D.int kind, D.int term, D.int index, D.int last, D.int commit, D.sl rows, D.bool ok] _ w1 (SH.netA (X := ([⟨r2, #[.int .i64 kd, .int .i64 fr, .int .i64 to, .int .i64 kind, .int .i64 term, .int .i64 index, .int .i64 last, .int .i64 commit, .slice ea rows.length ec, .bool ok, .int .i64 ma, .int .i64 mb], 74⟩, ⟨r1, #[.int .i64 nn, .int .i64 dd, .int .i64 (x.now : Int), .slice x.wa x.xs.length x.wc, .slice x.ga x.gl.length x.gc], 79⟩] : List Blk)) h1) x.hf.hn k2 (hM.stays (SH.staysA (X := ([⟨r2, #[.int .i64 kd, .int .i64 fr, .int .i64 to, .int .i64 kind, .int .i64 term, .int .i64 index, .int .i64 last, .int .i64 commit, .slice ea rows.length ec, .bool ok, .int .i64 ma, .int .i64 mb], 74⟩, ⟨r1, #[.int .i64 nn, .int .i64 dd, .int .i64 (x.now : Int), .slice x.wa x.xs.length x.wc, .slice x.ga x.gl.length x.gc], 79⟩] : List Blk)) h1)) hfm (by simp) (by simp; omega) (by simp; omega) (by simp; omega) (by simp; omega)).mono (fun e w' ⟨A', add, he, h⟩ => ⟨(A', add), he.trans (by show Ending.returned (Value.int .i64 (if pairB nn fr to = true then 0 else 1)) = _; rw [hp]; rfl), h⟩)) ?_
          rintro wa ⟨A2, add⟩ w2 h1 ⟨hn2, hs, ht, hadd⟩
          simp only at hn2 hs ht hadd
          obtain ⟨hs2, ht2, hst⟩ := SH.framed (X := ([⟨r2, #[.int .i64 kd, .int .i64 fr, .int .i64 to, .int .i64 kind, .int .i64 term, .int .i64 index, .int .i64 last, .int .i64 commit, .slice ea rows.length ec, .bool ok, .int .i64 ma, .int .i64 mb], 74⟩, ⟨r1, #[.int .i64 nn, .int .i64 dd, .int .i64 (x.now : Int), .slice x.wa x.xs.length x.wc, .slice x.ga x.gl.length x.gc], 79⟩] : List Blk)) h1 hs ht
          have hF2 := hF.tr ht2
          have hM2 := RdL.stays ht2.stays hM
          rw [addD_no (N := ⟨nn, dd, (x.now : Int), x.cut, x.ps⟩) (r := [D.int fr, D.int to, D.int kind, D.int term, D.int index, D.int last, D.int commit, D.sl rows, D.bool ok]) hp] at hadd
          have hp2 := hF2.hp.app (hadd.stays hst)
          refine wl_eq (S := SH w2 (([⟨r2, #[.int .i64 kd, .int .i64 fr, .int .i64 to, .int .i64 kind, .int .i64 term, .int .i64 index, .int .i64 last, .int .i64 commit, .slice ea rows.length ec, .bool ok, .int .i64 ma, .int .i64 mb], 74⟩, ⟨r1, #[.int .i64 nn, .int .i64 dd, .int .i64 (x.now : Int), .slice x.wa x.xs.length x.wc, .slice x.ga x.gl.length x.gc], 79⟩] : List Blk) ++ A2)) hs2 ?_
          rw [List.append_nil] at hp2
          have hG : SF w b nn dd (([⟨r2, #[.int .i64 kd, .int .i64 fr, .int .i64 to, .int .i64 kind, .int .i64 term, .int .i64 index, .int .i64 last, .int .i64 commit, .slice ea rows.length ec, .bool ok, .int .i64 ma, .int .i64 mb], 74⟩, ⟨r1, #[.int .i64 nn, .int .i64 dd, .int .i64 (x.now : Int), .slice x.wa x.xs.length x.wc, .slice x.ga x.gl.length x.gc], 79⟩] : List Blk) ++ A2) w2 x.now (x.ps ++ add) x.xs x.gl x.cut A2 (.slice x.wa x.xs.length x.wc) (.slice x.ga x.gl.length x.gc) := ⟨hn2, hF2.hc, hp2, hF2.hway, hF2.hg, hF2.hcut, hF2.hpair, hF2.hfit, hF2.hz⟩
          refine wl_go 1 [(12, .int .i64 1)] (by kernel_rfl) ?_
          refine nx_list ?_
          refine nx_then ?_
          refine wc_region ?_
          refine wl_yl (d := 64) (v := .agg #[.int .i64 nn, .int .i64 dd, .int .i64 (x.now : Int), .slice x.wa x.xs.length x.wc, .slice x.ga x.gl.length x.gc]) (by kernel_rfl) (yl_load (b := r1) (off := 0) 1 rfl (by kernel_rfl) rfl (by kernel_rfl)) ?_
          refine wl_go 1 [(65, .pointer (some ⟨r2, 1, none⟩))] (by kernel_rfl) ?_
          refine wl_yl (d := 66) (v := .agg #[.int .i64 fr, .int .i64 to, .int .i64 kind, .int .i64 term, .int .i64 index, .int .i64 last, .int .i64 commit, .slice ea rows.length ec, .bool ok]) (by kernel_rfl) (yl_load (b := r2) (off := 1) 0 rfl (by kernel_rfl) rfl (by kernel_rfl)) ?_
          refine wl_callK shK (d := 67) (v := .tuple #[.agg #[.int .i64 nn, .int .i64 dd, .int .i64 (x.now : Int), .slice x.wa x.xs.length x.wc, .slice x.ga x.gl.length x.gc], .int .i64 1]) (by kernel_rfl) (by kernel_rfl) (fun w1 h1 => rSend_no nn dd (x.now : Int) x.wa x.xs.length x.wc x.gl x.ga x.gc fr to kind term index last commit rows ea ec ok w1 _ (hF2.hg.stays (SH.trHere h1).stays) (by omega) hp) ?_
          refine wl_go 3 [(69, .int .i64 1), (68, .agg #[.int .i64 nn, .int .i64 dd, .int .i64 (x.now : Int), .slice x.wa x.xs.length x.wc, .slice x.ga x.gl.length x.gc]), (63, .tuple #[.agg #[.int .i64 nn, .int .i64 dd, .int .i64 (x.now : Int), .slice x.wa x.xs.length x.wc, .slice x.ga x.gl.length x.gc], .int .i64 1])] (by kernel_rfl) ?_
          refine wl_store (b := r1) (off := 0) (v := .agg #[.int .i64 nn, .int .i64 dd, .int .i64 (x.now : Int), .slice x.wa x.xs.length x.wc, .slice x.ga x.gl.length x.gc]) (c' := #[.int .i64 nn, .int .i64 dd, .int .i64 (x.now : Int), .slice x.wa x.xs.length x.wc, .slice x.ga x.gl.length x.gc]) (L' := (([⟨r2, #[.int .i64 kd, .int .i64 fr, .int .i64 to, .int .i64 kind, .int .i64 term, .int .i64 index, .int .i64 last, .int .i64 commit, .slice ea rows.length ec, .bool ok, .int .i64 ma, .int .i64 mb], 74⟩, ⟨r1, #[.int .i64 nn, .int .i64 dd, .int .i64 (x.now : Int), .slice x.wa x.xs.length x.wc, .slice x.ga x.gl.length x.gc], 79⟩] : List Blk) ++ A2)) 1 (by kernel_rfl) rfl (by kernel_rfl) (by kernel_rfl) rfl (by kernel_rfl) rfl ?_
          refine wl_go 1 [(13, .int .i64 1)] (by kernel_rfl) ?_
          refine nx_list ?_
          refine nx_block ?_
          refine nx_then ?_
          refine wc_seq ?_
          refine wc_region ?_
          refine wl_go 3 [(152, .bool false), (151, .int .i64 1), (150, .int .i64 1)] (by kernel_rfl) ?_
          refine nx_list ?_
          refine nx_then ?_
          refine wc_cond false (by kernel_rfl) (by kernel_rfl) (fun h => by cases h) (fun _ => ?_)
          refine nx_skip ?_
          refine nx_block ?_
          refine nx_then ?_
          refine wc_region ?_
          refine wl_yl (d := 153) (v := .int .i64 ((x.i : Int) + 1)) (by kernel_rfl) (yl_int (t := (x.i : Int) + 1) (r := (x.i : Int) + 1) (by kernel_rfl) (i64w (by omega) (by omega))) ?_
          refine wl_go 1 [(46, .int .i64 ((x.i : Int) + 1))] (by kernel_rfl) ?_
          refine nx_list ?_
          refine nx_round_w (fun w9 h9 => ?_)
          have ht9 := Tr.drop1 ((SH.trHere h9).cong (L0 := (([⟨r2, #[.int .i64 kd, .int .i64 fr, .int .i64 to, .int .i64 kind, .int .i64 term, .int .i64 index, .int .i64 last, .int .i64 commit, .slice ea rows.length ec, .bool ok, .int .i64 ma, .int .i64 mb], 74⟩, ⟨r1, #[.int .i64 nn, .int .i64 dd, .int .i64 (x.now : Int), .slice x.wa x.xs.length x.wc, .slice x.ga x.gl.length x.gc], 79⟩] : List Blk) ++ A2)) rfl)
          have hs9 := SH.drop1 h9
          exact ⟨⟨x.i + 1, w9, x.now, (x.ps ++ add), x.xs, x.gl, x.cut, A2, x.wa, x.wc, x.ga, x.gc, hlt, hG.tr ht9, by omega, by omega, by omega⟩, (show ol.length - (x.i + 1) < ol.length - x.i by omega), (subEnv_cons (by kernel_rfl) (subEnv_cons (by kernel_rfl) (subEnv_cons (by kernel_rfl) (subEnv_cons (by kernel_rfl) (subEnv_cons (by kernel_rfl) (subEnv_cons (by kernel_rfl) (subEnv_nil _))))))), hs9⟩
        · skip
          refine wl_go 2 [(60, .pointer (some ⟨r2, 1, none⟩)), (59, .pointer (some ⟨b, 0, none⟩))] (by kernel_rfl) ?_
          refine wl_yl (d := 61) (v := .agg #[.int .i64 fr, .int .i64 to, .int .i64 kind, .int .i64 term, .int .i64 index, .int .i64 last, .int .i64 commit, .slice ea rows.length ec, .bool ok]) (by kernel_rfl) (yl_load (b := r2) (off := 1) 0 rfl (by kernel_rfl) rfl (by kernel_rfl)) ?_
          refine wl_callB (X := List Blk × List (Int × Msg)) (d := 62) (fun _ => .int .i64 0) (fun wa y wz => IsNet b ⟨nn, dd, (x.now : Int), x.cut, (x.ps ++ y.2)⟩ y.1 ∧ SH wz y.1 wz ∧ Tr wa x.A wz y.1 ∧ PsR (Nw wa.heap.size wz y.1) wz (addD ⟨nn, dd, (x.now : Int), x.cut, x.ps⟩ [D.int fr, D.int to, D.int kind, D.int term, D.int index, D.int last, D.int commit, D.sl rows, D.bool ok]) y.2) (by kernel_rfl) (by kernel_rfl) (fun w1 h1 => (send_d b _ x.A [D.int fr, D.int to, D.int kind, D.int term, D.int index, D.int last, D.int commit, D.sl rows, D.bool ok] _ w1 (SH.netA (X := ([⟨r2, #[.int .i64 kd, .int .i64 fr, .int .i64 to, .int .i64 kind, .int .i64 term, .int .i64 index, .int .i64 last, .int .i64 commit, .slice ea rows.length ec, .bool ok, .int .i64 ma, .int .i64 mb], 74⟩, ⟨r1, #[.int .i64 nn, .int .i64 dd, .int .i64 (x.now : Int), .slice x.wa x.xs.length x.wc, .slice x.ga x.gl.length x.gc], 79⟩] : List Blk)) h1) x.hf.hn k2 (hM.stays (SH.staysA (X := ([⟨r2, #[.int .i64 kd, .int .i64 fr, .int .i64 to, .int .i64 kind, .int .i64 term, .int .i64 index, .int .i64 last, .int .i64 commit, .slice ea rows.length ec, .bool ok, .int .i64 ma, .int .i64 mb], 74⟩, ⟨r1, #[.int .i64 nn, .int .i64 dd, .int .i64 (x.now : Int), .slice x.wa x.xs.length x.wc, .slice x.ga x.gl.length x.gc], 79⟩] : List Blk)) h1)) hfm (by simp) (by simp; omega) (by simp; omega) (by simp; omega) (by simp; omega)).mono (fun e w' ⟨A', add, he, h⟩ => ⟨(A', add), he.trans (by show Ending.returned (Value.int .i64 (if pairB nn fr to = true then 0 else 1)) = _; rw [hp]; rfl), h⟩)) ?_
          rintro wa ⟨A2, add⟩ w2 h1 ⟨hn2, hs, ht, hadd⟩
          simp only at hn2 hs ht hadd
          obtain ⟨hs2, ht2, hst⟩ := SH.framed (X := ([⟨r2, #[.int .i64 kd, .int .i64 fr, .int .i64 to, .int .i64 kind, .int .i64 term, .int .i64 index, .int .i64 last, .int .i64 commit, .slice ea rows.length ec, .bool ok, .int .i64 ma, .int .i64 mb], 74⟩, ⟨r1, #[.int .i64 nn, .int .i64 dd, .int .i64 (x.now : Int), .slice x.wa x.xs.length x.wc, .slice x.ga x.gl.length x.gc], 79⟩] : List Blk)) h1 hs ht
          have hF2 := hF.tr ht2
          have hM2 := RdL.stays ht2.stays hM
          rw [addD_cut (N := ⟨nn, dd, (x.now : Int), x.cut, x.ps⟩) (r := [D.int fr, D.int to, D.int kind, D.int term, D.int index, D.int last, D.int commit, D.sl rows, D.bool ok]) (gl := x.gl) x.hf.hcut k2 hp hu] at hadd
          have hp2 := hF2.hp.app (hadd.stays hst)
          refine wl_eq (S := SH w2 (([⟨r2, #[.int .i64 kd, .int .i64 fr, .int .i64 to, .int .i64 kind, .int .i64 term, .int .i64 index, .int .i64 last, .int .i64 commit, .slice ea rows.length ec, .bool ok, .int .i64 ma, .int .i64 mb], 74⟩, ⟨r1, #[.int .i64 nn, .int .i64 dd, .int .i64 (x.now : Int), .slice x.wa x.xs.length x.wc, .slice x.ga x.gl.length x.gc], 79⟩] : List Blk) ++ A2)) hs2 ?_
          rw [List.append_nil] at hp2
          have hG : SF w b nn dd (([⟨r2, #[.int .i64 kd, .int .i64 fr, .int .i64 to, .int .i64 kind, .int .i64 term, .int .i64 index, .int .i64 last, .int .i64 commit, .slice ea rows.length ec, .bool ok, .int .i64 ma, .int .i64 mb], 74⟩, ⟨r1, #[.int .i64 nn, .int .i64 dd, .int .i64 (x.now : Int), .slice x.wa x.xs.length x.wc, .slice x.ga x.gl.length x.gc], 79⟩] : List Blk) ++ A2) w2 x.now (x.ps ++ add) x.xs x.gl x.cut A2 (.slice x.wa x.xs.length x.wc) (.slice x.ga x.gl.length x.gc) := ⟨hn2, hF2.hc, hp2, hF2.hway, hF2.hg, hF2.hcut, hF2.hpair, hF2.hfit, hF2.hz⟩
          refine wl_go 1 [(12, .int .i64 0)] (by kernel_rfl) ?_
          refine nx_list ?_
          refine nx_then ?_
          refine wc_region ?_
          refine wl_yl (d := 64) (v := .agg #[.int .i64 nn, .int .i64 dd, .int .i64 (x.now : Int), .slice x.wa x.xs.length x.wc, .slice x.ga x.gl.length x.gc]) (by kernel_rfl) (yl_load (b := r1) (off := 0) 1 rfl (by kernel_rfl) rfl (by kernel_rfl)) ?_
          refine wl_go 1 [(65, .pointer (some ⟨r2, 1, none⟩))] (by kernel_rfl) ?_
          refine wl_yl (d := 66) (v := .agg #[.int .i64 fr, .int .i64 to, .int .i64 kind, .int .i64 term, .int .i64 index, .int .i64 last, .int .i64 commit, .slice ea rows.length ec, .bool ok]) (by kernel_rfl) (yl_load (b := r2) (off := 1) 0 rfl (by kernel_rfl) rfl (by kernel_rfl)) ?_
          refine wl_callK shK (d := 67) (v := .tuple #[.agg #[.int .i64 nn, .int .i64 dd, .int .i64 (x.now : Int), .slice x.wa x.xs.length x.wc, .slice x.ga x.gl.length x.gc], .int .i64 0]) (by kernel_rfl) (by kernel_rfl) (fun w1 h1 => rSend_cut nn dd (x.now : Int) x.wa x.xs.length x.wc x.gl x.ga x.gc fr to kind term index last commit rows ea ec ok w1 _ (hF2.hg.stays (SH.trHere h1).stays) (by omega) hp hu) ?_
          refine wl_go 3 [(69, .int .i64 0), (68, .agg #[.int .i64 nn, .int .i64 dd, .int .i64 (x.now : Int), .slice x.wa x.xs.length x.wc, .slice x.ga x.gl.length x.gc]), (63, .tuple #[.agg #[.int .i64 nn, .int .i64 dd, .int .i64 (x.now : Int), .slice x.wa x.xs.length x.wc, .slice x.ga x.gl.length x.gc], .int .i64 0])] (by kernel_rfl) ?_
          refine wl_store (b := r1) (off := 0) (v := .agg #[.int .i64 nn, .int .i64 dd, .int .i64 (x.now : Int), .slice x.wa x.xs.length x.wc, .slice x.ga x.gl.length x.gc]) (c' := #[.int .i64 nn, .int .i64 dd, .int .i64 (x.now : Int), .slice x.wa x.xs.length x.wc, .slice x.ga x.gl.length x.gc]) (L' := (([⟨r2, #[.int .i64 kd, .int .i64 fr, .int .i64 to, .int .i64 kind, .int .i64 term, .int .i64 index, .int .i64 last, .int .i64 commit, .slice ea rows.length ec, .bool ok, .int .i64 ma, .int .i64 mb], 74⟩, ⟨r1, #[.int .i64 nn, .int .i64 dd, .int .i64 (x.now : Int), .slice x.wa x.xs.length x.wc, .slice x.ga x.gl.length x.gc], 79⟩] : List Blk) ++ A2)) 1 (by kernel_rfl) rfl (by kernel_rfl) (by kernel_rfl) rfl (by kernel_rfl) rfl ?_
          refine wl_go 1 [(13, .int .i64 0)] (by kernel_rfl) ?_
          refine nx_list ?_
          refine nx_block ?_
          refine nx_then ?_
          refine wc_seq ?_
          refine wc_region ?_
          refine wl_go 3 [(152, .bool false), (151, .int .i64 0), (150, .int .i64 0)] (by kernel_rfl) ?_
          refine nx_list ?_
          refine nx_then ?_
          refine wc_cond false (by kernel_rfl) (by kernel_rfl) (fun h => by cases h) (fun _ => ?_)
          refine nx_skip ?_
          refine nx_block ?_
          refine nx_then ?_
          refine wc_region ?_
          refine wl_yl (d := 153) (v := .int .i64 ((x.i : Int) + 1)) (by kernel_rfl) (yl_int (t := (x.i : Int) + 1) (r := (x.i : Int) + 1) (by kernel_rfl) (i64w (by omega) (by omega))) ?_
          refine wl_go 1 [(46, .int .i64 ((x.i : Int) + 1))] (by kernel_rfl) ?_
          refine nx_list ?_
          refine nx_round_w (fun w9 h9 => ?_)
          have ht9 := Tr.drop1 ((SH.trHere h9).cong (L0 := (([⟨r2, #[.int .i64 kd, .int .i64 fr, .int .i64 to, .int .i64 kind, .int .i64 term, .int .i64 index, .int .i64 last, .int .i64 commit, .slice ea rows.length ec, .bool ok, .int .i64 ma, .int .i64 mb], 74⟩, ⟨r1, #[.int .i64 nn, .int .i64 dd, .int .i64 (x.now : Int), .slice x.wa x.xs.length x.wc, .slice x.ga x.gl.length x.gc], 79⟩] : List Blk) ++ A2)) rfl)
          have hs9 := SH.drop1 h9
          exact ⟨⟨x.i + 1, w9, x.now, (x.ps ++ add), x.xs, x.gl, x.cut, A2, x.wa, x.wc, x.ga, x.gc, hlt, hG.tr ht9, by omega, by omega, by omega⟩, (show ol.length - (x.i + 1) < ol.length - x.i by omega), (subEnv_cons (by kernel_rfl) (subEnv_cons (by kernel_rfl) (subEnv_cons (by kernel_rfl) (subEnv_cons (by kernel_rfl) (subEnv_cons (by kernel_rfl) (subEnv_cons (by kernel_rfl) (subEnv_nil _))))))), hs9⟩
        · skip
          refine wl_go 2 [(60, .pointer (some ⟨r2, 1, none⟩)), (59, .pointer (some ⟨b, 0, none⟩))] (by kernel_rfl) ?_
          refine wl_yl (d := 61) (v := .agg #[.int .i64 fr, .int .i64 to, .int .i64 kind, .int .i64 term, .int .i64 index, .int .i64 last, .int .i64 commit, .slice ea rows.length ec, .bool ok]) (by kernel_rfl) (yl_load (b := r2) (off := 1) 0 rfl (by kernel_rfl) rfl (by kernel_rfl)) ?_
          refine wl_callB (X := List Blk × List (Int × Msg)) (d := 62) (fun _ => .int .i64 0) (fun wa y wz => IsNet b ⟨nn, dd, (x.now : Int), x.cut, (x.ps ++ y.2)⟩ y.1 ∧ SH wz y.1 wz ∧ Tr wa x.A wz y.1 ∧ PsR (Nw wa.heap.size wz y.1) wz (addD ⟨nn, dd, (x.now : Int), x.cut, x.ps⟩ [D.int fr, D.int to, D.int kind, D.int term, D.int index, D.int last, D.int commit, D.sl rows, D.bool ok]) y.2) (by kernel_rfl) (by kernel_rfl) (fun w1 h1 => (send_d b _ x.A [D.int fr, D.int to, D.int kind, D.int term, D.int index, D.int last, D.int commit, D.sl rows, D.bool ok] _ w1 (SH.netA (X := ([⟨r2, #[.int .i64 kd, .int .i64 fr, .int .i64 to, .int .i64 kind, .int .i64 term, .int .i64 index, .int .i64 last, .int .i64 commit, .slice ea rows.length ec, .bool ok, .int .i64 ma, .int .i64 mb], 74⟩, ⟨r1, #[.int .i64 nn, .int .i64 dd, .int .i64 (x.now : Int), .slice x.wa x.xs.length x.wc, .slice x.ga x.gl.length x.gc], 79⟩] : List Blk)) h1) x.hf.hn k2 (hM.stays (SH.staysA (X := ([⟨r2, #[.int .i64 kd, .int .i64 fr, .int .i64 to, .int .i64 kind, .int .i64 term, .int .i64 index, .int .i64 last, .int .i64 commit, .slice ea rows.length ec, .bool ok, .int .i64 ma, .int .i64 mb], 74⟩, ⟨r1, #[.int .i64 nn, .int .i64 dd, .int .i64 (x.now : Int), .slice x.wa x.xs.length x.wc, .slice x.ga x.gl.length x.gc], 79⟩] : List Blk)) h1)) hfm (by simp) (by simp; omega) (by simp; omega) (by simp; omega) (by simp; omega)).mono (fun e w' ⟨A', add, he, h⟩ => ⟨(A', add), he.trans (by show Ending.returned (Value.int .i64 (if pairB nn fr to = true then 0 else 1)) = _; rw [hp]; rfl), h⟩)) ?_
          rintro wa ⟨A2, add⟩ w2 h1 ⟨hn2, hs, ht, hadd⟩
          simp only at hn2 hs ht hadd
          obtain ⟨hs2, ht2, hst⟩ := SH.framed (X := ([⟨r2, #[.int .i64 kd, .int .i64 fr, .int .i64 to, .int .i64 kind, .int .i64 term, .int .i64 index, .int .i64 last, .int .i64 commit, .slice ea rows.length ec, .bool ok, .int .i64 ma, .int .i64 mb], 74⟩, ⟨r1, #[.int .i64 nn, .int .i64 dd, .int .i64 (x.now : Int), .slice x.wa x.xs.length x.wc, .slice x.ga x.gl.length x.gc], 79⟩] : List Blk)) h1 hs ht
          have hF2 := hF.tr ht2
          have hM2 := RdL.stays ht2.stays hM
          rw [addD_yes (N := ⟨nn, dd, (x.now : Int), x.cut, x.ps⟩) (r := [D.int fr, D.int to, D.int kind, D.int term, D.int index, D.int last, D.int commit, D.sl rows, D.bool ok]) (gl := x.gl) x.hf.hcut k2 hp hu] at hadd
          have hp2 := hF2.hp.app (hadd.stays hst)
          refine wl_eq (S := SH w2 (([⟨r2, #[.int .i64 kd, .int .i64 fr, .int .i64 to, .int .i64 kind, .int .i64 term, .int .i64 index, .int .i64 last, .int .i64 commit, .slice ea rows.length ec, .bool ok, .int .i64 ma, .int .i64 mb], 74⟩, ⟨r1, #[.int .i64 nn, .int .i64 dd, .int .i64 (x.now : Int), .slice x.wa x.xs.length x.wc, .slice x.ga x.gl.length x.gc], 79⟩] : List Blk) ++ A2)) hs2 ?_
          refine wl_go 1 [(12, .int .i64 0)] (by kernel_rfl) ?_
          refine nx_list ?_
          refine nx_then ?_
          refine wc_region ?_
          refine wl_yl (d := 64) (v := .agg #[.int .i64 nn, .int .i64 dd, .int .i64 (x.now : Int), .slice x.wa x.xs.length x.wc, .slice x.ga x.gl.length x.gc]) (by kernel_rfl) (yl_load (b := r1) (off := 0) 1 rfl (by kernel_rfl) rfl (by kernel_rfl)) ?_
          refine wl_go 1 [(65, .pointer (some ⟨r2, 1, none⟩))] (by kernel_rfl) ?_
          refine wl_yl (d := 66) (v := .agg #[.int .i64 fr, .int .i64 to, .int .i64 kind, .int .i64 term, .int .i64 index, .int .i64 last, .int .i64 commit, .slice ea rows.length ec, .bool ok]) (by kernel_rfl) (yl_load (b := r2) (off := 1) 0 rfl (by kernel_rfl) rfl (by kernel_rfl)) ?_
          refine wl_callB (X := Value) (d := 67) (fun v => .tuple #[.agg #[.int .i64 nn, .int .i64 dd, .int .i64 (x.now : Int), v, .slice x.ga x.gl.length x.gc], .int .i64 0]) (fun wi y wz => SH wz (([⟨r2, #[.int .i64 kd, .int .i64 fr, .int .i64 to, .int .i64 kind, .int .i64 term, .int .i64 index, .int .i64 last, .int .i64 commit, .slice ea rows.length ec, .bool ok, .int .i64 ma, .int .i64 mb], 74⟩, ⟨r1, #[.int .i64 nn, .int .i64 dd, .int .i64 (x.now : Int), .slice x.wa x.xs.length x.wc, .slice x.ga x.gl.length x.gc], 79⟩] : List Blk) ++ A2) wz ∧ Tr wi (([⟨r2, #[.int .i64 kd, .int .i64 fr, .int .i64 to, .int .i64 kind, .int .i64 term, .int .i64 index, .int .i64 last, .int .i64 commit, .slice ea rows.length ec, .bool ok, .int .i64 ma, .int .i64 mb], 74⟩, ⟨r1, #[.int .i64 nn, .int .i64 dd, .int .i64 (x.now : Int), .slice x.wa x.xs.length x.wc, .slice x.ga x.gl.length x.gc], 79⟩] : List Blk) ++ A2) wz (([⟨r2, #[.int .i64 kd, .int .i64 fr, .int .i64 to, .int .i64 kind, .int .i64 term, .int .i64 index, .int .i64 last, .int .i64 commit, .slice ea rows.length ec, .bool ok, .int .i64 ma, .int .i64 mb], 74⟩, ⟨r1, #[.int .i64 nn, .int .i64 dd, .int .i64 (x.now : Int), .slice x.wa x.xs.length x.wc, .slice x.ga x.gl.length x.gc], 79⟩] : List Blk) ++ A2) ∧ Rd (Im wz (([⟨r2, #[.int .i64 kd, .int .i64 fr, .int .i64 to, .int .i64 kind, .int .i64 term, .int .i64 index, .int .i64 last, .int .i64 commit, .slice ea rows.length ec, .bool ok, .int .i64 ma, .int .i64 mb], 74⟩, ⟨r1, #[.int .i64 nn, .int .i64 dd, .int .i64 (x.now : Int), .slice x.wa x.xs.length x.wc, .slice x.ga x.gl.length x.gc], 79⟩] : List Blk) ++ A2)) wz (.sl ((x.xs ++ [((x.now : Int) + dd, [D.int fr, D.int to, D.int kind, D.int term, D.int index, D.int last, D.int commit, D.sl rows, D.bool ok])]).map rowS)) y) (by kernel_rfl) (by kernel_rfl) (fun w1 h1 => (rSend_yes nn dd (x.now : Int) x.xs x.wa x.wc x.gl x.ga x.gc fr to kind term index last commit rows ea ec ok (([⟨r2, #[.int .i64 kd, .int .i64 fr, .int .i64 to, .int .i64 kind, .int .i64 term, .int .i64 index, .int .i64 last, .int .i64 commit, .slice ea rows.length ec, .bool ok, .int .i64 ma, .int .i64 mb], 74⟩, ⟨r1, #[.int .i64 nn, .int .i64 dd, .int .i64 (x.now : Int), .slice x.wa x.xs.length x.wc, .slice x.ga x.gl.length x.gc], 79⟩] : List Blk) ++ A2) w1 (SH.here h1) (hF2.hg.stays (SH.trHere h1).stays) (by omega) (hF2.hway.stays (SH.trHere h1).stays) hF2.hfit (by omega) (hM2.stays (SH.trHere h1).stays) (by omega) (by omega) (by omega) (by omega) hp hu).mono (fun e w' ⟨v, he, h⟩ => ⟨v, he, h⟩)) ?_
          rintro wq v3 w3 h1 ⟨hs3, ht3, hway3⟩
          obtain ⟨a3, c3, rfl⟩ := Rd.slMap hway3
          have hT3 := (SH.trHere h1).trans ht3
          have hF3 := hF2.tr hT3
          have hp3 := hp2.stays hT3.stays
          have hG : SF w b nn dd (([⟨r2, #[.int .i64 kd, .int .i64 fr, .int .i64 to, .int .i64 kind, .int .i64 term, .int .i64 index, .int .i64 last, .int .i64 commit, .slice ea rows.length ec, .bool ok, .int .i64 ma, .int .i64 mb], 74⟩, ⟨r1, #[.int .i64 nn, .int .i64 dd, .int .i64 (x.now : Int), .slice x.wa x.xs.length x.wc, .slice x.ga x.gl.length x.gc], 79⟩] : List Blk) ++ A2) w3 x.now (x.ps ++ add) (x.xs ++ [((x.now : Int) + dd, [D.int fr, D.int to, D.int kind, D.int term, D.int index, D.int last, D.int commit, D.sl rows, D.bool ok])]) x.gl x.cut A2 (.slice a3 (x.xs ++ [((x.now : Int) + dd, [D.int fr, D.int to, D.int kind, D.int term, D.int index, D.int last, D.int commit, D.sl rows, D.bool ok])]).length c3) (.slice x.ga x.gl.length x.gc) := ⟨hn2, hF3.hc, hp3, hway3, hF3.hg, hF3.hcut, fun y hy => by
            rcases List.mem_append.1 hy with hy | hy
            · exact hF3.hpair y hy
            · rw [List.mem_singleton] at hy; subst hy; exact hp, by rw [List.map_append]; exact fitR_app' hF3.hfit hfm, fun r hr => by
            rw [List.map_append] at hr
            rcases List.mem_append.1 hr with hr | hr
            · exact hF3.hz r hr
            · simp only [List.map_cons, List.map_nil, List.mem_singleton] at hr; subst hr; exact hzr⟩
          refine wl_eq (S := SH w3 (([⟨r2, #[.int .i64 kd, .int .i64 fr, .int .i64 to, .int .i64 kind, .int .i64 term, .int .i64 index, .int .i64 last, .int .i64 commit, .slice ea rows.length ec, .bool ok, .int .i64 ma, .int .i64 mb], 74⟩, ⟨r1, #[.int .i64 nn, .int .i64 dd, .int .i64 (x.now : Int), .slice x.wa x.xs.length x.wc, .slice x.ga x.gl.length x.gc], 79⟩] : List Blk) ++ A2)) hs3 ?_
          refine wl_go 3 [(69, .int .i64 0), (68, .agg #[.int .i64 nn, .int .i64 dd, .int .i64 (x.now : Int), .slice a3 ((x.xs ++ [((x.now : Int) + dd, [D.int fr, D.int to, D.int kind, D.int term, D.int index, D.int last, D.int commit, D.sl rows, D.bool ok])]).length) c3, .slice x.ga x.gl.length x.gc]), (63, .tuple #[.agg #[.int .i64 nn, .int .i64 dd, .int .i64 (x.now : Int), .slice a3 ((x.xs ++ [((x.now : Int) + dd, [D.int fr, D.int to, D.int kind, D.int term, D.int index, D.int last, D.int commit, D.sl rows, D.bool ok])]).length) c3, .slice x.ga x.gl.length x.gc], .int .i64 0])] (by kernel_rfl) ?_
          refine wl_store (b := r1) (off := 0) (v := .agg #[.int .i64 nn, .int .i64 dd, .int .i64 (x.now : Int), .slice a3 ((x.xs ++ [((x.now : Int) + dd, [D.int fr, D.int to, D.int kind, D.int term, D.int index, D.int last, D.int commit, D.sl rows, D.bool ok])]).length) c3, .slice x.ga x.gl.length x.gc]) (c' := #[.int .i64 nn, .int .i64 dd, .int .i64 (x.now : Int), .slice a3 ((x.xs ++ [((x.now : Int) + dd, [D.int fr, D.int to, D.int kind, D.int term, D.int index, D.int last, D.int commit, D.sl rows, D.bool ok])]).length) c3, .slice x.ga x.gl.length x.gc]) (L' := (([⟨r2, #[.int .i64 kd, .int .i64 fr, .int .i64 to, .int .i64 kind, .int .i64 term, .int .i64 index, .int .i64 last, .int .i64 commit, .slice ea rows.length ec, .bool ok, .int .i64 ma, .int .i64 mb], 74⟩, ⟨r1, #[.int .i64 nn, .int .i64 dd, .int .i64 (x.now : Int), .slice a3 ((x.xs ++ [((x.now : Int) + dd, [D.int fr, D.int to, D.int kind, D.int term, D.int index, D.int last, D.int commit, D.sl rows, D.bool ok])]).length) c3, .slice x.ga x.gl.length x.gc], 79⟩] : List Blk) ++ A2)) 1 (by kernel_rfl) rfl (by kernel_rfl) (by kernel_rfl) rfl (by kernel_rfl) rfl ?_
          refine wl_go 1 [(13, .int .i64 0)] (by kernel_rfl) ?_
          refine nx_list ?_
          refine nx_block ?_
          refine nx_then ?_
          refine wc_seq ?_
          refine wc_region ?_
          refine wl_go 3 [(152, .bool false), (151, .int .i64 0), (150, .int .i64 0)] (by kernel_rfl) ?_
          refine nx_list ?_
          refine nx_then ?_
          refine wc_cond false (by kernel_rfl) (by kernel_rfl) (fun h => by cases h) (fun _ => ?_)
          refine nx_skip ?_
          refine nx_block ?_
          refine nx_then ?_
          refine wc_region ?_
          refine wl_yl (d := 153) (v := .int .i64 ((x.i : Int) + 1)) (by kernel_rfl) (yl_int (t := (x.i : Int) + 1) (r := (x.i : Int) + 1) (by kernel_rfl) (i64w (by omega) (by omega))) ?_
          refine wl_go 1 [(46, .int .i64 ((x.i : Int) + 1))] (by kernel_rfl) ?_
          refine nx_list ?_
          refine nx_round_w (fun w9 h9 => ?_)
          have ht9 := Tr.drop1 ((SH.trHere h9).cong (L0 := (([⟨r2, #[.int .i64 kd, .int .i64 fr, .int .i64 to, .int .i64 kind, .int .i64 term, .int .i64 index, .int .i64 last, .int .i64 commit, .slice ea rows.length ec, .bool ok, .int .i64 ma, .int .i64 mb], 74⟩, ⟨r1, #[.int .i64 nn, .int .i64 dd, .int .i64 (x.now : Int), .slice x.wa x.xs.length x.wc, .slice x.ga x.gl.length x.gc], 79⟩] : List Blk) ++ A2)) rfl)
          have hs9 := SH.drop1 h9
          exact ⟨⟨x.i + 1, w9, x.now, (x.ps ++ add), (x.xs ++ [((x.now : Int) + dd, [D.int fr, D.int to, D.int kind, D.int term, D.int index, D.int last, D.int commit, D.sl rows, D.bool ok])]), x.gl, x.cut, A2, a3, c3, x.ga, x.gc, hlt, hG.tr ht9, by omega, by rw [List.length_append]; simp only [List.length_singleton]; omega, by omega⟩, (show ol.length - (x.i + 1) < ol.length - x.i by omega), (subEnv_cons (by kernel_rfl) (subEnv_cons (by kernel_rfl) (subEnv_cons (by kernel_rfl) (subEnv_cons (by kernel_rfl) (subEnv_cons (by kernel_rfl) (subEnv_cons (by kernel_rfl) (subEnv_nil _))))))), hs9⟩
      · skip
        refine wc_seq ?_
        refine wc_region ?_
        refine wl_go 2 [(70, .bool (kd == 2)), (71, .bool (kd == 2))] (by kernel_rfl) ?_
        refine nx_list ?_
        refine nx_then ?_
        refine wc_cond (kd == 2) (by kernel_rfl) (by kernel_rfl) (fun hkd2 => ?_) (fun hkd2 => ?_)
        · skip
          refine wc_seq ?_
          refine wc_region ?_
          refine wl_go 1 [(72, .pointer (some ⟨b, 0, none⟩))] (by kernel_rfl) ?_
          refine wl_callB (X := Value × List Blk) (d := 73) (fun x => x.1) (fun wa y wz => IsNet b ⟨nn, dd, (x.now : Int) + 1, x.cut, keepP ((x.now : Int) + 1) x.ps⟩ y.2 ∧ SH wz y.2 wz ∧ Tr wa x.A wz y.2 ∧ RowV wz y.2 wa.heap.size y.1 ((dlvr ((x.now : Int) + 1) x.cut x.ps).map Msg.cells)) (by kernel_rfl) (by kernel_rfl) (fun w1 h1 => (tick_at b _ x.A w1 (SH.netA (X := ([⟨r2, #[.int .i64 kd, .int .i64 fr, .int .i64 to, .int .i64 kind, .int .i64 term, .int .i64 index, .int .i64 last, .int .i64 commit, .slice ea rows.length ec, .bool ok, .int .i64 ma, .int .i64 mb], 74⟩, ⟨r1, #[.int .i64 nn, .int .i64 dd, .int .i64 (x.now : Int), .slice x.wa x.xs.length x.wc, .slice x.ga x.gl.length x.gc], 79⟩] : List Blk)) h1) x.hf.hn x.hf.hp.ok (by simp) (by simp; omega) (by simp; omega)).mono (fun e w' ⟨v, A', he, h⟩ => ⟨(v, A'), he, h⟩)) ?_
          rintro wa ⟨vt, A2⟩ w2 h1 ⟨hn2, hs, ht, hvt⟩
          simp only at hn2 hs ht hvt
          obtain ⟨hs2, ht2, _⟩ := SH.framed (X := ([⟨r2, #[.int .i64 kd, .int .i64 fr, .int .i64 to, .int .i64 kind, .int .i64 term, .int .i64 index, .int .i64 last, .int .i64 commit, .slice ea rows.length ec, .bool ok, .int .i64 ma, .int .i64 mb], 74⟩, ⟨r1, #[.int .i64 nn, .int .i64 dd, .int .i64 (x.now : Int), .slice x.wa x.xs.length x.wc, .slice x.ga x.gl.length x.gc], 79⟩] : List Blk)) h1 hs ht
          have hF2 := hF.tr ht2
          have hrows := hF2.hp.dlvr ((x.now : Int) + 1) x.cut
          have hvd := RowV.rd (RowV.aside h1 hvt) hrows
          obtain ⟨at2, ct2, rfl⟩ := hvd.slv
          refine wl_eq (S := SH w2 (([⟨r2, #[.int .i64 kd, .int .i64 fr, .int .i64 to, .int .i64 kind, .int .i64 term, .int .i64 index, .int .i64 last, .int .i64 commit, .slice ea rows.length ec, .bool ok, .int .i64 ma, .int .i64 mb], 74⟩, ⟨r1, #[.int .i64 nn, .int .i64 dd, .int .i64 (x.now : Int), .slice x.wa x.xs.length x.wc, .slice x.ga x.gl.length x.gc], 79⟩] : List Blk) ++ A2)) hs2 ?_
          refine wl_go 1 [(15, .slice at2 ((dlvrD ((x.now : Int) + 1) x.cut x.xs).length) ct2)] (by kernel_rfl) ?_
          refine nx_list ?_
          refine nx_then ?_
          refine wc_seq ?_
          refine wc_region ?_
          refine wl_yl (d := 75) (v := .agg #[.int .i64 nn, .int .i64 dd, .int .i64 (x.now : Int), .slice x.wa x.xs.length x.wc, .slice x.ga x.gl.length x.gc]) (by kernel_rfl) (yl_load (b := r1) (off := 0) 1 rfl (by kernel_rfl) rfl (by kernel_rfl)) ?_
          refine wl_callB (X := Value × Value) (d := 76) (fun v => .tuple #[.agg #[.int .i64 nn, .int .i64 dd, .int .i64 ((x.now : Int) + 1), v.1, .slice x.ga x.gl.length x.gc], v.2]) (fun wi y wz => SH wz (([⟨r2, #[.int .i64 kd, .int .i64 fr, .int .i64 to, .int .i64 kind, .int .i64 term, .int .i64 index, .int .i64 last, .int .i64 commit, .slice ea rows.length ec, .bool ok, .int .i64 ma, .int .i64 mb], 74⟩, ⟨r1, #[.int .i64 nn, .int .i64 dd, .int .i64 (x.now : Int), .slice x.wa x.xs.length x.wc, .slice x.ga x.gl.length x.gc], 79⟩] : List Blk) ++ A2) wz ∧ Tr wi (([⟨r2, #[.int .i64 kd, .int .i64 fr, .int .i64 to, .int .i64 kind, .int .i64 term, .int .i64 index, .int .i64 last, .int .i64 commit, .slice ea rows.length ec, .bool ok, .int .i64 ma, .int .i64 mb], 74⟩, ⟨r1, #[.int .i64 nn, .int .i64 dd, .int .i64 (x.now : Int), .slice x.wa x.xs.length x.wc, .slice x.ga x.gl.length x.gc], 79⟩] : List Blk) ++ A2) wz (([⟨r2, #[.int .i64 kd, .int .i64 fr, .int .i64 to, .int .i64 kind, .int .i64 term, .int .i64 index, .int .i64 last, .int .i64 commit, .slice ea rows.length ec, .bool ok, .int .i64 ma, .int .i64 mb], 74⟩, ⟨r1, #[.int .i64 nn, .int .i64 dd, .int .i64 (x.now : Int), .slice x.wa x.xs.length x.wc, .slice x.ga x.gl.length x.gc], 79⟩] : List Blk) ++ A2) ∧ Rd (Im wz (([⟨r2, #[.int .i64 kd, .int .i64 fr, .int .i64 to, .int .i64 kind, .int .i64 term, .int .i64 index, .int .i64 last, .int .i64 commit, .slice ea rows.length ec, .bool ok, .int .i64 ma, .int .i64 mb], 74⟩, ⟨r1, #[.int .i64 nn, .int .i64 dd, .int .i64 (x.now : Int), .slice x.wa x.xs.length x.wc, .slice x.ga x.gl.length x.gc], 79⟩] : List Blk) ++ A2)) wz (.sl ((keepD ((x.now : Int) + 1) x.xs).map rowS)) y.1 ∧ Rd (Im wz (([⟨r2, #[.int .i64 kd, .int .i64 fr, .int .i64 to, .int .i64 kind, .int .i64 term, .int .i64 index, .int .i64 last, .int .i64 commit, .slice ea rows.length ec, .bool ok, .int .i64 ma, .int .i64 mb], 74⟩, ⟨r1, #[.int .i64 nn, .int .i64 dd, .int .i64 (x.now : Int), .slice x.wa x.xs.length x.wc, .slice x.ga x.gl.length x.gc], 79⟩] : List Blk) ++ A2)) wz (.sl (dlvR nn ((x.now : Int) + 1) x.gl x.xs)) y.2) (by kernel_rfl) (by kernel_rfl) (fun w1 h1 => (rTick_ok nn dd (x.now : Int) x.xs x.wa x.wc x.gl x.ga x.gc (([⟨r2, #[.int .i64 kd, .int .i64 fr, .int .i64 to, .int .i64 kind, .int .i64 term, .int .i64 index, .int .i64 last, .int .i64 commit, .slice ea rows.length ec, .bool ok, .int .i64 ma, .int .i64 mb], 74⟩, ⟨r1, #[.int .i64 nn, .int .i64 dd, .int .i64 (x.now : Int), .slice x.wa x.xs.length x.wc, .slice x.ga x.gl.length x.gc], 79⟩] : List Blk) ++ A2) w1 (SH.here h1) (hF2.hg.stays (SH.trHere h1).stays) (by omega) (hF2.hway.stays (SH.trHere h1).stays) hF2.hfit (by omega) (by omega) (by omega)).mono (fun e w' ⟨v, u, he, h1, h2, h3⟩ => ⟨(v, u), he, h1, h2, h3⟩)) ?_
          rintro wq ⟨v3, u3⟩ w3 h1 ⟨hs3, ht3, hway3, hu3⟩
          simp only at hs3 ht3 hway3 hu3
          obtain ⟨a3, c3, rfl⟩ := Rd.slMap hway3
          rw [dlvR_eq x.hf.hcut k2 x.hf.hpair] at hu3
          obtain ⟨au, cu, rfl⟩ := hu3.slv
          have hT3 := (SH.trHere h1).trans ht3
          have hF3 := hF2.tr hT3
          have hvd3 := hvd.stays hT3.stays
          have hG : SF w b nn dd (([⟨r2, #[.int .i64 kd, .int .i64 fr, .int .i64 to, .int .i64 kind, .int .i64 term, .int .i64 index, .int .i64 last, .int .i64 commit, .slice ea rows.length ec, .bool ok, .int .i64 ma, .int .i64 mb], 74⟩, ⟨r1, #[.int .i64 nn, .int .i64 dd, .int .i64 (x.now : Int), .slice x.wa x.xs.length x.wc, .slice x.ga x.gl.length x.gc], 79⟩] : List Blk) ++ A2) w3 (x.now + 1) (keepP ((x.now : Int) + 1) x.ps) (keepD ((x.now : Int) + 1) x.xs) x.gl x.cut A2 (.slice a3 (keepD ((x.now : Int) + 1) x.xs).length c3) (.slice x.ga x.gl.length x.gc) := ⟨hn2, hF3.hc, hF3.hp.keep ((x.now : Int) + 1), hway3, hF3.hg, hF3.hcut, fun y hy => hF3.hpair y (List.mem_filter.1 hy).1, fitR_sub' hF3.hfit (fun r hr => by
            obtain ⟨y, hy, rfl⟩ := List.mem_map.1 hr
            exact List.mem_map.2 ⟨y, (List.mem_filter.1 hy).1, rfl⟩), fun r hr => hF3.hz r (by
            obtain ⟨y, hy, rfl⟩ := List.mem_map.1 hr
            exact List.mem_map.2 ⟨y, (List.mem_filter.1 hy).1, rfl⟩)⟩
          have hkl : (keepD ((x.now : Int) + 1) x.xs).length ≤ x.xs.length := List.length_filter_le _ _
          have hsubD : ∀ r ∈ (dlvrD ((x.now : Int) + 1) x.cut x.xs), r ∈ x.xs.map (·.2) := fun r hr => by
            obtain ⟨y, hy, rfl⟩ := List.mem_map.1 hr
            exact List.mem_map.2 ⟨y, (List.mem_filter.1 hy).1, rfl⟩
          have hdl : (dlvrD ((x.now : Int) + 1) x.cut x.xs).length ≤ x.xs.length := by
            rw [dlvrD, List.length_map]
            exact List.length_filter_le _ _
          refine wl_eq (S := SH w3 (([⟨r2, #[.int .i64 kd, .int .i64 fr, .int .i64 to, .int .i64 kind, .int .i64 term, .int .i64 index, .int .i64 last, .int .i64 commit, .slice ea rows.length ec, .bool ok, .int .i64 ma, .int .i64 mb], 74⟩, ⟨r1, #[.int .i64 nn, .int .i64 dd, .int .i64 (x.now : Int), .slice x.wa x.xs.length x.wc, .slice x.ga x.gl.length x.gc], 79⟩] : List Blk) ++ A2)) hs3 ?_
          refine wl_go 3 [(78, .slice au ((dlvrD ((x.now : Int) + 1) x.cut x.xs).length) cu), (77, .agg #[.int .i64 nn, .int .i64 dd, .int .i64 ((x.now : Int) + 1), .slice a3 ((keepD ((x.now : Int) + 1) x.xs).length) c3, .slice x.ga x.gl.length x.gc]), (74, .tuple #[.agg #[.int .i64 nn, .int .i64 dd, .int .i64 ((x.now : Int) + 1), .slice a3 ((keepD ((x.now : Int) + 1) x.xs).length) c3, .slice x.ga x.gl.length x.gc], .slice au ((dlvrD ((x.now : Int) + 1) x.cut x.xs).length) cu])] (by kernel_rfl) ?_
          refine wl_new (d := 16) #[.int .i64 0, .int .i64 0, .int .i64 0, .slice none 0 0, .slice none 0 0] 79 (fun r => .pointer (some ⟨r, 0, none⟩)) (by kernel_rfl) (fun r => by kernel_rfl) ?_
          intro r3 hr3
          refine wl_store (b := r3) (off := 0) (v := .agg #[.int .i64 nn, .int .i64 dd, .int .i64 ((x.now : Int) + 1), .slice a3 ((keepD ((x.now : Int) + 1) x.xs).length) c3, .slice x.ga x.gl.length x.gc]) (c' := #[.int .i64 nn, .int .i64 dd, .int .i64 ((x.now : Int) + 1), .slice a3 ((keepD ((x.now : Int) + 1) x.xs).length) c3, .slice x.ga x.gl.length x.gc]) (L' := (([⟨r3, #[.int .i64 nn, .int .i64 dd, .int .i64 ((x.now : Int) + 1), .slice a3 ((keepD ((x.now : Int) + 1) x.xs).length) c3, .slice x.ga x.gl.length x.gc], 79⟩, ⟨r2, #[.int .i64 kd, .int .i64 fr, .int .i64 to, .int .i64 kind, .int .i64 term, .int .i64 index, .int .i64 last, .int .i64 commit, .slice ea rows.length ec, .bool ok, .int .i64 ma, .int .i64 mb], 74⟩, ⟨r1, #[.int .i64 nn, .int .i64 dd, .int .i64 (x.now : Int), .slice x.wa x.xs.length x.wc, .slice x.ga x.gl.length x.gc], 79⟩] : List Blk) ++ A2)) 0 (by kernel_rfl) rfl (by kernel_rfl) (by kernel_rfl) rfl (by kernel_rfl) rfl ?_
          refine wl_go 1 [(17, .slice au ((dlvrD ((x.now : Int) + 1) x.cut x.xs).length) cu)] (by kernel_rfl) ?_
          refine nx_list ?_
          refine nx_then ?_
          refine wc_seq ?_
          refine wc_region ?_
          refine wl_yl (d := 79) (v := .agg #[.int .i64 nn, .int .i64 dd, .int .i64 ((x.now : Int) + 1), .slice a3 ((keepD ((x.now : Int) + 1) x.xs).length) c3, .slice x.ga x.gl.length x.gc]) (by kernel_rfl) (yl_load (b := r3) (off := 0) 0 rfl (by kernel_rfl) rfl (by kernel_rfl)) ?_
          refine wl_store (b := r1) (off := 0) (v := .agg #[.int .i64 nn, .int .i64 dd, .int .i64 ((x.now : Int) + 1), .slice a3 ((keepD ((x.now : Int) + 1) x.xs).length) c3, .slice x.ga x.gl.length x.gc]) (c' := #[.int .i64 nn, .int .i64 dd, .int .i64 ((x.now : Int) + 1), .slice a3 ((keepD ((x.now : Int) + 1) x.xs).length) c3, .slice x.ga x.gl.length x.gc]) (L' := (([⟨r3, #[.int .i64 nn, .int .i64 dd, .int .i64 ((x.now : Int) + 1), .slice a3 ((keepD ((x.now : Int) + 1) x.xs).length) c3, .slice x.ga x.gl.length x.gc], 79⟩, ⟨r2, #[.int .i64 kd, .int .i64 fr, .int .i64 to, .int .i64 kind, .int .i64 term, .int .i64 index, .int .i64 last, .int .i64 commit, .slice ea rows.length ec, .bool ok, .int .i64 ma, .int .i64 mb], 74⟩, ⟨r1, #[.int .i64 nn, .int .i64 dd, .int .i64 ((x.now : Int) + 1), .slice a3 ((keepD ((x.now : Int) + 1) x.xs).length) c3, .slice x.ga x.gl.length x.gc], 79⟩] : List Blk) ++ A2)) 2 (by kernel_rfl) rfl (by kernel_rfl) (by kernel_rfl) rfl (by kernel_rfl) rfl ?_
          refine nx_list ?_
          refine nx_then ?_
          refine wc_seq ?_
          refine wc_region ?_
          refine wl_go 2 [(81, .slice au ((dlvrD ((x.now : Int) + 1) x.cut x.xs).length) cu), (80, .slice at2 ((dlvrD ((x.now : Int) + 1) x.cut x.xs).length) ct2)] (by kernel_rfl) ?_
          refine wl_callK shK (d := 82) (v := .bool true) (by kernel_rfl) (by kernel_rfl) (fun w1 h1 => sameMessages_ok (dlvrD ((x.now : Int) + 1) x.cut x.xs) (fitR_sub' hF3.hfit hsubD) (by omega) (fun r hr => hF3.hz r (hsubD r hr)) w1 _ _ at2 au ct2 cu (hvd3.stays (Tr.ofNew (L := (([⟨r2, #[.int .i64 kd, .int .i64 fr, .int .i64 to, .int .i64 kind, .int .i64 term, .int .i64 index, .int .i64 last, .int .i64 commit, .slice ea rows.length ec, .bool ok, .int .i64 ma, .int .i64 mb], 74⟩, ⟨r1, #[.int .i64 nn, .int .i64 dd, .int .i64 (x.now : Int), .slice x.wa x.xs.length x.wc, .slice x.ga x.gl.length x.gc], 79⟩] : List Blk) ++ A2)) hr3 (SH.trHere h1) rfl).stays) (hu3.stays (Tr.ofNew (L := (([⟨r2, #[.int .i64 kd, .int .i64 fr, .int .i64 to, .int .i64 kind, .int .i64 term, .int .i64 index, .int .i64 last, .int .i64 commit, .slice ea rows.length ec, .bool ok, .int .i64 ma, .int .i64 mb], 74⟩, ⟨r1, #[.int .i64 nn, .int .i64 dd, .int .i64 (x.now : Int), .slice x.wa x.xs.length x.wc, .slice x.ga x.gl.length x.gc], 79⟩] : List Blk) ++ A2)) hr3 (SH.trHere h1) rfl).stays)) ?_
          refine wl_go 1 [(83, .bool false)] (by kernel_rfl) ?_
          refine nx_list ?_
          refine nx_then ?_
          refine wc_cond false (by kernel_rfl) (by kernel_rfl) (fun h => by cases h) (fun _ => ?_)
          refine nx_skip ?_
          refine nx_block ?_
          refine nx_then ?_
          refine wc_seq ?_
          refine wc_region ?_
          refine wl_go 3 [(152, .bool false), (151, .int .i64 0), (150, .int .i64 0)] (by kernel_rfl) ?_
          refine nx_list ?_
          refine nx_then ?_
          refine wc_cond false (by kernel_rfl) (by kernel_rfl) (fun h => by cases h) (fun _ => ?_)
          refine nx_skip ?_
          refine nx_block ?_
          refine nx_then ?_
          refine wc_region ?_
          refine wl_yl (d := 153) (v := .int .i64 ((x.i : Int) + 1)) (by kernel_rfl) (yl_int (t := (x.i : Int) + 1) (r := (x.i : Int) + 1) (by kernel_rfl) (i64w (by omega) (by omega))) ?_
          refine wl_go 1 [(46, .int .i64 ((x.i : Int) + 1))] (by kernel_rfl) ?_
          refine nx_list ?_
          refine nx_round_w (fun w9 h9 => ?_)
          have ht9 := Tr.drop1 (Tr.drop1 (SH.trHere h9))
          have ht9 := Tr.ofNew (L := (([⟨r2, #[.int .i64 kd, .int .i64 fr, .int .i64 to, .int .i64 kind, .int .i64 term, .int .i64 index, .int .i64 last, .int .i64 commit, .slice ea rows.length ec, .bool ok, .int .i64 ma, .int .i64 mb], 74⟩, ⟨r1, #[.int .i64 nn, .int .i64 dd, .int .i64 (x.now : Int), .slice x.wa x.xs.length x.wc, .slice x.ga x.gl.length x.gc], 79⟩] : List Blk) ++ A2)) hr3 ht9 rfl
          have hs9 := SH.drop1 (SH.drop1 h9)
          exact ⟨⟨x.i + 1, w9, (x.now + 1), (keepP ((x.now : Int) + 1) x.ps), (keepD ((x.now : Int) + 1) x.xs), x.gl, x.cut, A2, a3, c3, x.ga, x.gc, hlt, hG.tr ht9, by omega, by omega, by omega⟩, (show ol.length - (x.i + 1) < ol.length - x.i by omega), (subEnv_cons (by kernel_rfl) (subEnv_cons (by kernel_rfl) (subEnv_cons (by kernel_rfl) (subEnv_cons (by kernel_rfl) (subEnv_cons (by kernel_rfl) (subEnv_cons (by kernel_rfl) (subEnv_nil _))))))), hs9⟩
        · skip
          refine wc_seq ?_
          refine wc_region ?_
          refine wl_go 2 [(84, .bool (kd == 3)), (85, .bool (kd == 3))] (by kernel_rfl) ?_
          refine nx_list ?_
          refine nx_then ?_
          refine wc_cond (kd == 3) (by kernel_rfl) (by kernel_rfl) (fun hkd3 => ?_) (fun hkd3 => ?_)
          · skip
            refine wc_seq ?_
            refine wc_region ?_
            rcases Bool.eq_false_or_eq_true (pairB nn ma mb) with hp | hp
            · skip
              obtain ⟨ci, cj, rfl, rfl, hci, hcj, hcij⟩ := pairB_nat hp k2
              refine wl_go 2 [(87, .pointer (some ⟨r2, 10, none⟩)), (86, .pointer (some ⟨b, 0, none⟩))] (by kernel_rfl) ?_
              refine wl_yl (d := 88) (v := .int .i64 (ci : Int)) (by kernel_rfl) (yl_load (b := r2) (off := 10) 0 rfl (by kernel_rfl) rfl (by kernel_rfl)) ?_
              refine wl_go 1 [(89, .pointer (some ⟨r2, 11, none⟩))] (by kernel_rfl) ?_
              refine wl_yl (d := 90) (v := .int .i64 (cj : Int)) (by kernel_rfl) (yl_load (b := r2) (off := 11) 0 rfl (by kernel_rfl) rfl (by kernel_rfl)) ?_
              refine wl_callB (X := List Blk) (d := 91) (fun _ => .int .i64 0) (fun wa y wz => IsNet b ⟨nn, dd, (x.now : Int), upd (upd x.cut (ci * 7 + cj) true) (cj * 7 + ci) true, x.ps⟩ y ∧ SH wz y wz ∧ Tr wa x.A wz y) (by kernel_rfl) (by kernel_rfl) (fun w1 h1 => (cut_yes b _ x.A ci cj w1 (SH.netA (X := ([⟨r2, #[.int .i64 kd, .int .i64 fr, .int .i64 to, .int .i64 kind, .int .i64 term, .int .i64 index, .int .i64 last, .int .i64 commit, .slice ea rows.length ec, .bool ok, .int .i64 (ci : Int), .int .i64 (cj : Int)], 74⟩, ⟨r1, #[.int .i64 nn, .int .i64 dd, .int .i64 (x.now : Int), .slice x.wa x.xs.length x.wc, .slice x.ga x.gl.length x.gc], 79⟩] : List Blk)) h1) x.hf.hn hp hci hcj).mono (fun e w' ⟨A', he, h⟩ => ⟨A', he, h⟩)) ?_
              rintro wa A2 w2 h1 ⟨hn2, hs, ht⟩
              obtain ⟨hs2, ht2, _⟩ := SH.framed (X := ([⟨r2, #[.int .i64 kd, .int .i64 fr, .int .i64 to, .int .i64 kind, .int .i64 term, .int .i64 index, .int .i64 last, .int .i64 commit, .slice ea rows.length ec, .bool ok, .int .i64 (ci : Int), .int .i64 (cj : Int)], 74⟩, ⟨r1, #[.int .i64 nn, .int .i64 dd, .int .i64 (x.now : Int), .slice x.wa x.xs.length x.wc, .slice x.ga x.gl.length x.gc], 79⟩] : List Blk)) h1 hs ht
              have hF2 := hF.tr ht2
              refine wl_eq (S := SH w2 (([⟨r2, #[.int .i64 kd, .int .i64 fr, .int .i64 to, .int .i64 kind, .int .i64 term, .int .i64 index, .int .i64 last, .int .i64 commit, .slice ea rows.length ec, .bool ok, .int .i64 (ci : Int), .int .i64 (cj : Int)], 74⟩, ⟨r1, #[.int .i64 nn, .int .i64 dd, .int .i64 (x.now : Int), .slice x.wa x.xs.length x.wc, .slice x.ga x.gl.length x.gc], 79⟩] : List Blk) ++ A2)) hs2 ?_
              refine wl_go 1 [(12, .int .i64 0)] (by kernel_rfl) ?_
              refine nx_list ?_
              refine nx_then ?_
              refine wc_region ?_
              refine wl_yl (d := 93) (v := .agg #[.int .i64 nn, .int .i64 dd, .int .i64 (x.now : Int), .slice x.wa x.xs.length x.wc, .slice x.ga x.gl.length x.gc]) (by kernel_rfl) (yl_load (b := r1) (off := 0) 1 rfl (by kernel_rfl) rfl (by kernel_rfl)) ?_
              refine wl_go 1 [(94, .pointer (some ⟨r2, 10, none⟩))] (by kernel_rfl) ?_
              refine wl_yl (d := 95) (v := .int .i64 (ci : Int)) (by kernel_rfl) (yl_load (b := r2) (off := 10) 0 rfl (by kernel_rfl) rfl (by kernel_rfl)) ?_
              refine wl_go 1 [(96, .pointer (some ⟨r2, 11, none⟩))] (by kernel_rfl) ?_
              refine wl_yl (d := 97) (v := .int .i64 (cj : Int)) (by kernel_rfl) (yl_load (b := r2) (off := 11) 0 rfl (by kernel_rfl) rfl (by kernel_rfl)) ?_
              refine wl_callB (X := Value) (d := 98) (fun v => .tuple #[.agg #[.int .i64 nn, .int .i64 dd, .int .i64 (x.now : Int), .slice x.wa x.xs.length x.wc, v], .int .i64 0]) (fun wi y wz => SH wz (([⟨r2, #[.int .i64 kd, .int .i64 fr, .int .i64 to, .int .i64 kind, .int .i64 term, .int .i64 index, .int .i64 last, .int .i64 commit, .slice ea rows.length ec, .bool ok, .int .i64 (ci : Int), .int .i64 (cj : Int)], 74⟩, ⟨r1, #[.int .i64 nn, .int .i64 dd, .int .i64 (x.now : Int), .slice x.wa x.xs.length x.wc, .slice x.ga x.gl.length x.gc], 79⟩] : List Blk) ++ A2) wz ∧ Tr wi (([⟨r2, #[.int .i64 kd, .int .i64 fr, .int .i64 to, .int .i64 kind, .int .i64 term, .int .i64 index, .int .i64 last, .int .i64 commit, .slice ea rows.length ec, .bool ok, .int .i64 (ci : Int), .int .i64 (cj : Int)], 74⟩, ⟨r1, #[.int .i64 nn, .int .i64 dd, .int .i64 (x.now : Int), .slice x.wa x.xs.length x.wc, .slice x.ga x.gl.length x.gc], 79⟩] : List Blk) ++ A2) wz (([⟨r2, #[.int .i64 kd, .int .i64 fr, .int .i64 to, .int .i64 kind, .int .i64 term, .int .i64 index, .int .i64 last, .int .i64 commit, .slice ea rows.length ec, .bool ok, .int .i64 (ci : Int), .int .i64 (cj : Int)], 74⟩, ⟨r1, #[.int .i64 nn, .int .i64 dd, .int .i64 (x.now : Int), .slice x.wa x.xs.length x.wc, .slice x.ga x.gl.length x.gc], 79⟩] : List Blk) ++ A2) ∧ Rd (Im wz (([⟨r2, #[.int .i64 kd, .int .i64 fr, .int .i64 to, .int .i64 kind, .int .i64 term, .int .i64 index, .int .i64 last, .int .i64 commit, .slice ea rows.length ec, .bool ok, .int .i64 (ci : Int), .int .i64 (cj : Int)], 74⟩, ⟨r1, #[.int .i64 nn, .int .i64 dd, .int .i64 (x.now : Int), .slice x.wa x.xs.length x.wc, .slice x.ga x.gl.length x.gc], 79⟩] : List Blk) ++ A2)) wz (.sl ((wo (ci : Int) (cj : Int) x.gl ++ [(mn (ci : Int) (cj : Int), mx (ci : Int) (cj : Int))]).map gRow)) y) (by kernel_rfl) (by kernel_rfl) (fun w1 h1 => (rCut_yes nn dd (x.now : Int) x.wa x.xs.length x.wc x.gl x.ga x.gc (ci : Int) (cj : Int) (([⟨r2, #[.int .i64 kd, .int .i64 fr, .int .i64 to, .int .i64 kind, .int .i64 term, .int .i64 index, .int .i64 last, .int .i64 commit, .slice ea rows.length ec, .bool ok, .int .i64 (ci : Int), .int .i64 (cj : Int)], 74⟩, ⟨r1, #[.int .i64 nn, .int .i64 dd, .int .i64 (x.now : Int), .slice x.wa x.xs.length x.wc, .slice x.ga x.gl.length x.gc], 79⟩] : List Blk) ++ A2) w1 (SH.here h1) (hF2.hg.stays (SH.trHere h1).stays) (by omega) hp).mono (fun e w' ⟨v, he, h⟩ => ⟨v, he, h⟩)) ?_
              rintro wq v3 w3 h1 ⟨hs3, ht3, hg3⟩
              obtain ⟨a3, c3, rfl⟩ := Rd.slMap hg3
              have hT3 := (SH.trHere h1).trans ht3
              have hF3 := hF2.tr hT3
              have hwl : (wo (ci : Int) (cj : Int) x.gl).length ≤ x.gl.length := List.length_filter_le _ _
              have hG : SF w b nn dd (([⟨r2, #[.int .i64 kd, .int .i64 fr, .int .i64 to, .int .i64 kind, .int .i64 term, .int .i64 index, .int .i64 last, .int .i64 commit, .slice ea rows.length ec, .bool ok, .int .i64 (ci : Int), .int .i64 (cj : Int)], 74⟩, ⟨r1, #[.int .i64 nn, .int .i64 dd, .int .i64 (x.now : Int), .slice x.wa x.xs.length x.wc, .slice x.ga x.gl.length x.gc], 79⟩] : List Blk) ++ A2) w3 x.now x.ps x.xs (wo (ci : Int) (cj : Int) x.gl ++ [(mn (ci : Int) (cj : Int), mx (ci : Int) (cj : Int))]) (upd (upd x.cut (ci * 7 + cj) true) (cj * 7 + ci) true) A2 (.slice x.wa x.xs.length x.wc) (.slice a3 (wo (ci : Int) (cj : Int) x.gl ++ [(mn (ci : Int) (cj : Int), mx (ci : Int) (cj : Int))]).length c3) := ⟨hn2, hF3.hc, hF3.hp, hF3.hway, hg3, hF3.hcut.cut hci hcj hcij, hF3.hpair, hF3.hfit, hF3.hz⟩
              refine wl_eq (S := SH w3 (([⟨r2, #[.int .i64 kd, .int .i64 fr, .int .i64 to, .int .i64 kind, .int .i64 term, .int .i64 index, .int .i64 last, .int .i64 commit, .slice ea rows.length ec, .bool ok, .int .i64 (ci : Int), .int .i64 (cj : Int)], 74⟩, ⟨r1, #[.int .i64 nn, .int .i64 dd, .int .i64 (x.now : Int), .slice x.wa x.xs.length x.wc, .slice x.ga x.gl.length x.gc], 79⟩] : List Blk) ++ A2)) hs3 ?_
              refine wl_go 3 [(100, .int .i64 0), (99, .agg #[.int .i64 nn, .int .i64 dd, .int .i64 (x.now : Int), .slice x.wa x.xs.length x.wc, .slice a3 ((wo (ci : Int) (cj : Int) x.gl ++ [(mn (ci : Int) (cj : Int), mx (ci : Int) (cj : Int))]).length) c3]), (92, .tuple #[.agg #[.int .i64 nn, .int .i64 dd, .int .i64 (x.now : Int), .slice x.wa x.xs.length x.wc, .slice a3 ((wo (ci : Int) (cj : Int) x.gl ++ [(mn (ci : Int) (cj : Int), mx (ci : Int) (cj : Int))]).length) c3], .int .i64 0])] (by kernel_rfl) ?_
              refine wl_store (b := r1) (off := 0) (v := .agg #[.int .i64 nn, .int .i64 dd, .int .i64 (x.now : Int), .slice x.wa x.xs.length x.wc, .slice a3 ((wo (ci : Int) (cj : Int) x.gl ++ [(mn (ci : Int) (cj : Int), mx (ci : Int) (cj : Int))]).length) c3]) (c' := #[.int .i64 nn, .int .i64 dd, .int .i64 (x.now : Int), .slice x.wa x.xs.length x.wc, .slice a3 ((wo (ci : Int) (cj : Int) x.gl ++ [(mn (ci : Int) (cj : Int), mx (ci : Int) (cj : Int))]).length) c3]) (L' := (([⟨r2, #[.int .i64 kd, .int .i64 fr, .int .i64 to, .int .i64 kind, .int .i64 term, .int .i64 index, .int .i64 last, .int .i64 commit, .slice ea rows.length ec, .bool ok, .int .i64 (ci : Int), .int .i64 (cj : Int)], 74⟩, ⟨r1, #[.int .i64 nn, .int .i64 dd, .int .i64 (x.now : Int), .slice x.wa x.xs.length x.wc, .slice a3 ((wo (ci : Int) (cj : Int) x.gl ++ [(mn (ci : Int) (cj : Int), mx (ci : Int) (cj : Int))]).length) c3], 79⟩] : List Blk) ++ A2)) 1 (by kernel_rfl) rfl (by kernel_rfl) (by kernel_rfl) rfl (by kernel_rfl) rfl ?_
              refine wl_go 1 [(13, .int .i64 0)] (by kernel_rfl) ?_
              refine nx_list ?_
              refine nx_block ?_
              refine nx_then ?_
              refine wc_seq ?_
              refine wc_region ?_
              refine wl_go 3 [(152, .bool false), (151, .int .i64 0), (150, .int .i64 0)] (by kernel_rfl) ?_
              refine nx_list ?_
              refine nx_then ?_
              refine wc_cond false (by kernel_rfl) (by kernel_rfl) (fun h => by cases h) (fun _ => ?_)
              refine nx_skip ?_
              refine nx_block ?_
              refine nx_then ?_
              refine wc_region ?_
              refine wl_yl (d := 153) (v := .int .i64 ((x.i : Int) + 1)) (by kernel_rfl) (yl_int (t := (x.i : Int) + 1) (r := (x.i : Int) + 1) (by kernel_rfl) (i64w (by omega) (by omega))) ?_
              refine wl_go 1 [(46, .int .i64 ((x.i : Int) + 1))] (by kernel_rfl) ?_
              refine nx_list ?_
              refine nx_round_w (fun w9 h9 => ?_)
              have ht9 := Tr.drop1 ((SH.trHere h9).cong (L0 := (([⟨r2, #[.int .i64 kd, .int .i64 fr, .int .i64 to, .int .i64 kind, .int .i64 term, .int .i64 index, .int .i64 last, .int .i64 commit, .slice ea rows.length ec, .bool ok, .int .i64 (ci : Int), .int .i64 (cj : Int)], 74⟩, ⟨r1, #[.int .i64 nn, .int .i64 dd, .int .i64 (x.now : Int), .slice x.wa x.xs.length x.wc, .slice x.ga x.gl.length x.gc], 79⟩] : List Blk) ++ A2)) rfl)
              have hs9 := SH.drop1 h9
              exact ⟨⟨x.i + 1, w9, x.now, x.ps, x.xs, (wo (ci : Int) (cj : Int) x.gl ++ [(mn (ci : Int) (cj : Int), mx (ci : Int) (cj : Int))]), (upd (upd x.cut (ci * 7 + cj) true) (cj * 7 + ci) true), A2, x.wa, x.wc, a3, c3, hlt, hG.tr ht9, by omega, by omega, by rw [List.length_append]; simp only [List.length_singleton]; omega⟩, (show ol.length - (x.i + 1) < ol.length - x.i by omega), (subEnv_cons (by kernel_rfl) (subEnv_cons (by kernel_rfl) (subEnv_cons (by kernel_rfl) (subEnv_cons (by kernel_rfl) (subEnv_cons (by kernel_rfl) (subEnv_cons (by kernel_rfl) (subEnv_nil _))))))), hs9⟩
            · skip
              refine wl_go 2 [(87, .pointer (some ⟨r2, 10, none⟩)), (86, .pointer (some ⟨b, 0, none⟩))] (by kernel_rfl) ?_
              refine wl_yl (d := 88) (v := .int .i64 ma) (by kernel_rfl) (yl_load (b := r2) (off := 10) 0 rfl (by kernel_rfl) rfl (by kernel_rfl)) ?_
              refine wl_go 1 [(89, .pointer (some ⟨r2, 11, none⟩))] (by kernel_rfl) ?_
              refine wl_yl (d := 90) (v := .int .i64 mb) (by kernel_rfl) (yl_load (b := r2) (off := 11) 0 rfl (by kernel_rfl) rfl (by kernel_rfl)) ?_
              refine wl_callB (X := Unit) (d := 91) (fun _ => .int .i64 1) (fun wa y wz => SH wz x.A wz ∧ Tr wa x.A wz x.A) (by kernel_rfl) (by kernel_rfl) (fun w1 h1 => (cut_no b _ x.A ma mb w1 (SH.netA (X := ([⟨r2, #[.int .i64 kd, .int .i64 fr, .int .i64 to, .int .i64 kind, .int .i64 term, .int .i64 index, .int .i64 last, .int .i64 commit, .slice ea rows.length ec, .bool ok, .int .i64 ma, .int .i64 mb], 74⟩, ⟨r1, #[.int .i64 nn, .int .i64 dd, .int .i64 (x.now : Int), .slice x.wa x.xs.length x.wc, .slice x.ga x.gl.length x.gc], 79⟩] : List Blk)) h1) x.hf.hn hp).mono (fun e w' h => ⟨(), h⟩)) ?_
              rintro wa _ w2 h1 ⟨hs, ht⟩
              obtain ⟨hs2, ht2, _⟩ := SH.framed (X := ([⟨r2, #[.int .i64 kd, .int .i64 fr, .int .i64 to, .int .i64 kind, .int .i64 term, .int .i64 index, .int .i64 last, .int .i64 commit, .slice ea rows.length ec, .bool ok, .int .i64 ma, .int .i64 mb], 74⟩, ⟨r1, #[.int .i64 nn, .int .i64 dd, .int .i64 (x.now : Int), .slice x.wa x.xs.length x.wc, .slice x.ga x.gl.length x.gc], 79⟩] : List Blk)) h1 hs ht
              have hF2 := hF.tr ht2
              have hG := hF2
              refine wl_eq (S := SH w2 (([⟨r2, #[.int .i64 kd, .int .i64 fr, .int .i64 to, .int .i64 kind, .int .i64 term, .int .i64 index, .int .i64 last, .int .i64 commit, .slice ea rows.length ec, .bool ok, .int .i64 ma, .int .i64 mb], 74⟩, ⟨r1, #[.int .i64 nn, .int .i64 dd, .int .i64 (x.now : Int), .slice x.wa x.xs.length x.wc, .slice x.ga x.gl.length x.gc], 79⟩] : List Blk) ++ x.A)) hs2 ?_
              refine wl_go 1 [(12, .int .i64 1)] (by kernel_rfl) ?_
              refine nx_list ?_
              refine nx_then ?_
              refine wc_region ?_
              refine wl_yl (d := 93) (v := .agg #[.int .i64 nn, .int .i64 dd, .int .i64 (x.now : Int), .slice x.wa x.xs.length x.wc, .slice x.ga x.gl.length x.gc]) (by kernel_rfl) (yl_load (b := r1) (off := 0) 1 rfl (by kernel_rfl) rfl (by kernel_rfl)) ?_
              refine wl_go 1 [(94, .pointer (some ⟨r2, 10, none⟩))] (by kernel_rfl) ?_
              refine wl_yl (d := 95) (v := .int .i64 ma) (by kernel_rfl) (yl_load (b := r2) (off := 10) 0 rfl (by kernel_rfl) rfl (by kernel_rfl)) ?_
              refine wl_go 1 [(96, .pointer (some ⟨r2, 11, none⟩))] (by kernel_rfl) ?_
              refine wl_yl (d := 97) (v := .int .i64 mb) (by kernel_rfl) (yl_load (b := r2) (off := 11) 0 rfl (by kernel_rfl) rfl (by kernel_rfl)) ?_
              refine wl_callK shK (d := 98) (v := .tuple #[.agg #[.int .i64 nn, .int .i64 dd, .int .i64 (x.now : Int), .slice x.wa x.xs.length x.wc, .slice x.ga x.gl.length x.gc], .int .i64 1]) (by kernel_rfl) (by kernel_rfl) (fun w1 h1 => rCut_no nn dd (x.now : Int) x.wa x.xs.length x.wc x.ga x.gl.length x.gc ma mb w1 hp) ?_
              refine wl_go 3 [(100, .int .i64 1), (99, .agg #[.int .i64 nn, .int .i64 dd, .int .i64 (x.now : Int), .slice x.wa x.xs.length x.wc, .slice x.ga x.gl.length x.gc]), (92, .tuple #[.agg #[.int .i64 nn, .int .i64 dd, .int .i64 (x.now : Int), .slice x.wa x.xs.length x.wc, .slice x.ga x.gl.length x.gc], .int .i64 1])] (by kernel_rfl) ?_
              refine wl_store (b := r1) (off := 0) (v := .agg #[.int .i64 nn, .int .i64 dd, .int .i64 (x.now : Int), .slice x.wa x.xs.length x.wc, .slice x.ga x.gl.length x.gc]) (c' := #[.int .i64 nn, .int .i64 dd, .int .i64 (x.now : Int), .slice x.wa x.xs.length x.wc, .slice x.ga x.gl.length x.gc]) (L' := (([⟨r2, #[.int .i64 kd, .int .i64 fr, .int .i64 to, .int .i64 kind, .int .i64 term, .int .i64 index, .int .i64 last, .int .i64 commit, .slice ea rows.length ec, .bool ok, .int .i64 ma, .int .i64 mb], 74⟩, ⟨r1, #[.int .i64 nn, .int .i64 dd, .int .i64 (x.now : Int), .slice x.wa x.xs.length x.wc, .slice x.ga x.gl.length x.gc], 79⟩] : List Blk) ++ x.A)) 1 (by kernel_rfl) rfl (by kernel_rfl) (by kernel_rfl) rfl (by kernel_rfl) rfl ?_
              refine wl_go 1 [(13, .int .i64 1)] (by kernel_rfl) ?_
              refine nx_list ?_
              refine nx_block ?_
              refine nx_then ?_
              refine wc_seq ?_
              refine wc_region ?_
              refine wl_go 3 [(152, .bool false), (151, .int .i64 1), (150, .int .i64 1)] (by kernel_rfl) ?_
              refine nx_list ?_
              refine nx_then ?_
              refine wc_cond false (by kernel_rfl) (by kernel_rfl) (fun h => by cases h) (fun _ => ?_)
              refine nx_skip ?_
              refine nx_block ?_
              refine nx_then ?_
              refine wc_region ?_
              refine wl_yl (d := 153) (v := .int .i64 ((x.i : Int) + 1)) (by kernel_rfl) (yl_int (t := (x.i : Int) + 1) (r := (x.i : Int) + 1) (by kernel_rfl) (i64w (by omega) (by omega))) ?_
              refine wl_go 1 [(46, .int .i64 ((x.i : Int) + 1))] (by kernel_rfl) ?_
              refine nx_list ?_
              refine nx_round_w (fun w9 h9 => ?_)
              have ht9 := Tr.drop1 ((SH.trHere h9).cong (L0 := (([⟨r2, #[.int .i64 kd, .int .i64 fr, .int .i64 to, .int .i64 kind, .int .i64 term, .int .i64 index, .int .i64 last, .int .i64 commit, .slice ea rows.length ec, .bool ok, .int .i64 ma, .int .i64 mb], 74⟩, ⟨r1, #[.int .i64 nn, .int .i64 dd, .int .i64 (x.now : Int), .slice x.wa x.xs.length x.wc, .slice x.ga x.gl.length x.gc], 79⟩] : List Blk) ++ x.A)) rfl)
              have hs9 := SH.drop1 h9
              exact ⟨⟨x.i + 1, w9, x.now, x.ps, x.xs, x.gl, x.cut, x.A, x.wa, x.wc, x.ga, x.gc, hlt, hG.tr ht9, by omega, by omega, by omega⟩, (show ol.length - (x.i + 1) < ol.length - x.i by omega), (subEnv_cons (by kernel_rfl) (subEnv_cons (by kernel_rfl) (subEnv_cons (by kernel_rfl) (subEnv_cons (by kernel_rfl) (subEnv_cons (by kernel_rfl) (subEnv_cons (by kernel_rfl) (subEnv_nil _))))))), hs9⟩
          · skip
            refine wc_seq ?_
            refine wc_region ?_
            refine wl_go 2 [(101, .bool (kd == 4)), (102, .bool (kd == 4))] (by kernel_rfl) ?_
            refine nx_list ?_
            refine nx_then ?_
            refine wc_cond (kd == 4) (by kernel_rfl) (by kernel_rfl) (fun hkd4 => ?_) (fun hkd4 => ?_)
            · skip
              refine wc_seq ?_
              refine wc_region ?_
              rcases Bool.eq_false_or_eq_true (pairB nn ma mb) with hp | hp
              · skip
                obtain ⟨ci, cj, rfl, rfl, hci, hcj, hcij⟩ := pairB_nat hp k2
                refine wl_go 2 [(104, .pointer (some ⟨r2, 10, none⟩)), (103, .pointer (some ⟨b, 0, none⟩))] (by kernel_rfl) ?_
                refine wl_yl (d := 105) (v := .int .i64 (ci : Int)) (by kernel_rfl) (yl_load (b := r2) (off := 10) 0 rfl (by kernel_rfl) rfl (by kernel_rfl)) ?_
                refine wl_go 1 [(106, .pointer (some ⟨r2, 11, none⟩))] (by kernel_rfl) ?_
                refine wl_yl (d := 107) (v := .int .i64 (cj : Int)) (by kernel_rfl) (yl_load (b := r2) (off := 11) 0 rfl (by kernel_rfl) rfl (by kernel_rfl)) ?_
                refine wl_callB (X := List Blk) (d := 108) (fun _ => .int .i64 0) (fun wa y wz => IsNet b ⟨nn, dd, (x.now : Int), upd (upd x.cut (ci * 7 + cj) false) (cj * 7 + ci) false, x.ps⟩ y ∧ SH wz y wz ∧ Tr wa x.A wz y) (by kernel_rfl) (by kernel_rfl) (fun w1 h1 => (heal_yes b _ x.A ci cj w1 (SH.netA (X := ([⟨r2, #[.int .i64 kd, .int .i64 fr, .int .i64 to, .int .i64 kind, .int .i64 term, .int .i64 index, .int .i64 last, .int .i64 commit, .slice ea rows.length ec, .bool ok, .int .i64 (ci : Int), .int .i64 (cj : Int)], 74⟩, ⟨r1, #[.int .i64 nn, .int .i64 dd, .int .i64 (x.now : Int), .slice x.wa x.xs.length x.wc, .slice x.ga x.gl.length x.gc], 79⟩] : List Blk)) h1) x.hf.hn hp hci hcj).mono (fun e w' ⟨A', he, h⟩ => ⟨A', he, h⟩)) ?_
                rintro wa A2 w2 h1 ⟨hn2, hs, ht⟩
                obtain ⟨hs2, ht2, _⟩ := SH.framed (X := ([⟨r2, #[.int .i64 kd, .int .i64 fr, .int .i64 to, .int .i64 kind, .int .i64 term, .int .i64 index, .int .i64 last, .int .i64 commit, .slice ea rows.length ec, .bool ok, .int .i64 (ci : Int), .int .i64 (cj : Int)], 74⟩, ⟨r1, #[.int .i64 nn, .int .i64 dd, .int .i64 (x.now : Int), .slice x.wa x.xs.length x.wc, .slice x.ga x.gl.length x.gc], 79⟩] : List Blk)) h1 hs ht
                have hF2 := hF.tr ht2
                refine wl_eq (S := SH w2 (([⟨r2, #[.int .i64 kd, .int .i64 fr, .int .i64 to, .int .i64 kind, .int .i64 term, .int .i64 index, .int .i64 last, .int .i64 commit, .slice ea rows.length ec, .bool ok, .int .i64 (ci : Int), .int .i64 (cj : Int)], 74⟩, ⟨r1, #[.int .i64 nn, .int .i64 dd, .int .i64 (x.now : Int), .slice x.wa x.xs.length x.wc, .slice x.ga x.gl.length x.gc], 79⟩] : List Blk) ++ A2)) hs2 ?_
                refine wl_go 1 [(12, .int .i64 0)] (by kernel_rfl) ?_
                refine nx_list ?_
                refine nx_then ?_
                refine wc_region ?_
                refine wl_yl (d := 110) (v := .agg #[.int .i64 nn, .int .i64 dd, .int .i64 (x.now : Int), .slice x.wa x.xs.length x.wc, .slice x.ga x.gl.length x.gc]) (by kernel_rfl) (yl_load (b := r1) (off := 0) 1 rfl (by kernel_rfl) rfl (by kernel_rfl)) ?_
                refine wl_go 1 [(111, .pointer (some ⟨r2, 10, none⟩))] (by kernel_rfl) ?_
                refine wl_yl (d := 112) (v := .int .i64 (ci : Int)) (by kernel_rfl) (yl_load (b := r2) (off := 10) 0 rfl (by kernel_rfl) rfl (by kernel_rfl)) ?_
                refine wl_go 1 [(113, .pointer (some ⟨r2, 11, none⟩))] (by kernel_rfl) ?_
                refine wl_yl (d := 114) (v := .int .i64 (cj : Int)) (by kernel_rfl) (yl_load (b := r2) (off := 11) 0 rfl (by kernel_rfl) rfl (by kernel_rfl)) ?_
                refine wl_callB (X := Value) (d := 115) (fun v => .tuple #[.agg #[.int .i64 nn, .int .i64 dd, .int .i64 (x.now : Int), .slice x.wa x.xs.length x.wc, v], .int .i64 0]) (fun wi y wz => SH wz (([⟨r2, #[.int .i64 kd, .int .i64 fr, .int .i64 to, .int .i64 kind, .int .i64 term, .int .i64 index, .int .i64 last, .int .i64 commit, .slice ea rows.length ec, .bool ok, .int .i64 (ci : Int), .int .i64 (cj : Int)], 74⟩, ⟨r1, #[.int .i64 nn, .int .i64 dd, .int .i64 (x.now : Int), .slice x.wa x.xs.length x.wc, .slice x.ga x.gl.length x.gc], 79⟩] : List Blk) ++ A2) wz ∧ Tr wi (([⟨r2, #[.int .i64 kd, .int .i64 fr, .int .i64 to, .int .i64 kind, .int .i64 term, .int .i64 index, .int .i64 last, .int .i64 commit, .slice ea rows.length ec, .bool ok, .int .i64 (ci : Int), .int .i64 (cj : Int)], 74⟩, ⟨r1, #[.int .i64 nn, .int .i64 dd, .int .i64 (x.now : Int), .slice x.wa x.xs.length x.wc, .slice x.ga x.gl.length x.gc], 79⟩] : List Blk) ++ A2) wz (([⟨r2, #[.int .i64 kd, .int .i64 fr, .int .i64 to, .int .i64 kind, .int .i64 term, .int .i64 index, .int .i64 last, .int .i64 commit, .slice ea rows.length ec, .bool ok, .int .i64 (ci : Int), .int .i64 (cj : Int)], 74⟩, ⟨r1, #[.int .i64 nn, .int .i64 dd, .int .i64 (x.now : Int), .slice x.wa x.xs.length x.wc, .slice x.ga x.gl.length x.gc], 79⟩] : List Blk) ++ A2) ∧ Rd (Im wz (([⟨r2, #[.int .i64 kd, .int .i64 fr, .int .i64 to, .int .i64 kind, .int .i64 term, .int .i64 index, .int .i64 last, .int .i64 commit, .slice ea rows.length ec, .bool ok, .int .i64 (ci : Int), .int .i64 (cj : Int)], 74⟩, ⟨r1, #[.int .i64 nn, .int .i64 dd, .int .i64 (x.now : Int), .slice x.wa x.xs.length x.wc, .slice x.ga x.gl.length x.gc], 79⟩] : List Blk) ++ A2)) wz (.sl ((wo (ci : Int) (cj : Int) x.gl).map gRow)) y) (by kernel_rfl) (by kernel_rfl) (fun w1 h1 => (rHeal_yes nn dd (x.now : Int) x.wa x.xs.length x.wc x.gl x.ga x.gc (ci : Int) (cj : Int) (([⟨r2, #[.int .i64 kd, .int .i64 fr, .int .i64 to, .int .i64 kind, .int .i64 term, .int .i64 index, .int .i64 last, .int .i64 commit, .slice ea rows.length ec, .bool ok, .int .i64 (ci : Int), .int .i64 (cj : Int)], 74⟩, ⟨r1, #[.int .i64 nn, .int .i64 dd, .int .i64 (x.now : Int), .slice x.wa x.xs.length x.wc, .slice x.ga x.gl.length x.gc], 79⟩] : List Blk) ++ A2) w1 (SH.here h1) (hF2.hg.stays (SH.trHere h1).stays) (by omega) hp).mono (fun e w' ⟨v, he, h⟩ => ⟨v, he, h⟩)) ?_
                rintro wq v3 w3 h1 ⟨hs3, ht3, hg3⟩
                obtain ⟨a3, c3, rfl⟩ := Rd.slMap hg3
                have hT3 := (SH.trHere h1).trans ht3
                have hF3 := hF2.tr hT3
                have hwl : (wo (ci : Int) (cj : Int) x.gl).length ≤ x.gl.length := List.length_filter_le _ _
                have hG : SF w b nn dd (([⟨r2, #[.int .i64 kd, .int .i64 fr, .int .i64 to, .int .i64 kind, .int .i64 term, .int .i64 index, .int .i64 last, .int .i64 commit, .slice ea rows.length ec, .bool ok, .int .i64 (ci : Int), .int .i64 (cj : Int)], 74⟩, ⟨r1, #[.int .i64 nn, .int .i64 dd, .int .i64 (x.now : Int), .slice x.wa x.xs.length x.wc, .slice x.ga x.gl.length x.gc], 79⟩] : List Blk) ++ A2) w3 x.now x.ps x.xs (wo (ci : Int) (cj : Int) x.gl) (upd (upd x.cut (ci * 7 + cj) false) (cj * 7 + ci) false) A2 (.slice x.wa x.xs.length x.wc) (.slice a3 (wo (ci : Int) (cj : Int) x.gl).length c3) := ⟨hn2, hF3.hc, hF3.hp, hF3.hway, hg3, hF3.hcut.heal hci hcj hcij, hF3.hpair, hF3.hfit, hF3.hz⟩
                refine wl_eq (S := SH w3 (([⟨r2, #[.int .i64 kd, .int .i64 fr, .int .i64 to, .int .i64 kind, .int .i64 term, .int .i64 index, .int .i64 last, .int .i64 commit, .slice ea rows.length ec, .bool ok, .int .i64 (ci : Int), .int .i64 (cj : Int)], 74⟩, ⟨r1, #[.int .i64 nn, .int .i64 dd, .int .i64 (x.now : Int), .slice x.wa x.xs.length x.wc, .slice x.ga x.gl.length x.gc], 79⟩] : List Blk) ++ A2)) hs3 ?_
                refine wl_go 3 [(117, .int .i64 0), (116, .agg #[.int .i64 nn, .int .i64 dd, .int .i64 (x.now : Int), .slice x.wa x.xs.length x.wc, .slice a3 ((wo (ci : Int) (cj : Int) x.gl).length) c3]), (109, .tuple #[.agg #[.int .i64 nn, .int .i64 dd, .int .i64 (x.now : Int), .slice x.wa x.xs.length x.wc, .slice a3 ((wo (ci : Int) (cj : Int) x.gl).length) c3], .int .i64 0])] (by kernel_rfl) ?_
                refine wl_store (b := r1) (off := 0) (v := .agg #[.int .i64 nn, .int .i64 dd, .int .i64 (x.now : Int), .slice x.wa x.xs.length x.wc, .slice a3 ((wo (ci : Int) (cj : Int) x.gl).length) c3]) (c' := #[.int .i64 nn, .int .i64 dd, .int .i64 (x.now : Int), .slice x.wa x.xs.length x.wc, .slice a3 ((wo (ci : Int) (cj : Int) x.gl).length) c3]) (L' := (([⟨r2, #[.int .i64 kd, .int .i64 fr, .int .i64 to, .int .i64 kind, .int .i64 term, .int .i64 index, .int .i64 last, .int .i64 commit, .slice ea rows.length ec, .bool ok, .int .i64 (ci : Int), .int .i64 (cj : Int)], 74⟩, ⟨r1, #[.int .i64 nn, .int .i64 dd, .int .i64 (x.now : Int), .slice x.wa x.xs.length x.wc, .slice a3 ((wo (ci : Int) (cj : Int) x.gl).length) c3], 79⟩] : List Blk) ++ A2)) 1 (by kernel_rfl) rfl (by kernel_rfl) (by kernel_rfl) rfl (by kernel_rfl) rfl ?_
                refine wl_go 1 [(13, .int .i64 0)] (by kernel_rfl) ?_
                refine nx_list ?_
                refine nx_block ?_
                refine nx_then ?_
                refine wc_seq ?_
                refine wc_region ?_
                refine wl_go 3 [(152, .bool false), (151, .int .i64 0), (150, .int .i64 0)] (by kernel_rfl) ?_
                refine nx_list ?_
                refine nx_then ?_
                refine wc_cond false (by kernel_rfl) (by kernel_rfl) (fun h => by cases h) (fun _ => ?_)
                refine nx_skip ?_
                refine nx_block ?_
                refine nx_then ?_
                refine wc_region ?_
                refine wl_yl (d := 153) (v := .int .i64 ((x.i : Int) + 1)) (by kernel_rfl) (yl_int (t := (x.i : Int) + 1) (r := (x.i : Int) + 1) (by kernel_rfl) (i64w (by omega) (by omega))) ?_
                refine wl_go 1 [(46, .int .i64 ((x.i : Int) + 1))] (by kernel_rfl) ?_
                refine nx_list ?_
                refine nx_round_w (fun w9 h9 => ?_)
                have ht9 := Tr.drop1 ((SH.trHere h9).cong (L0 := (([⟨r2, #[.int .i64 kd, .int .i64 fr, .int .i64 to, .int .i64 kind, .int .i64 term, .int .i64 index, .int .i64 last, .int .i64 commit, .slice ea rows.length ec, .bool ok, .int .i64 (ci : Int), .int .i64 (cj : Int)], 74⟩, ⟨r1, #[.int .i64 nn, .int .i64 dd, .int .i64 (x.now : Int), .slice x.wa x.xs.length x.wc, .slice x.ga x.gl.length x.gc], 79⟩] : List Blk) ++ A2)) rfl)
                have hs9 := SH.drop1 h9
                exact ⟨⟨x.i + 1, w9, x.now, x.ps, x.xs, (wo (ci : Int) (cj : Int) x.gl), (upd (upd x.cut (ci * 7 + cj) false) (cj * 7 + ci) false), A2, x.wa, x.wc, a3, c3, hlt, hG.tr ht9, by omega, by omega, by omega⟩, (show ol.length - (x.i + 1) < ol.length - x.i by omega), (subEnv_cons (by kernel_rfl) (subEnv_cons (by kernel_rfl) (subEnv_cons (by kernel_rfl) (subEnv_cons (by kernel_rfl) (subEnv_cons (by kernel_rfl) (subEnv_cons (by kernel_rfl) (subEnv_nil _))))))), hs9⟩
              · skip
                refine wl_go 2 [(104, .pointer (some ⟨r2, 10, none⟩)), (103, .pointer (some ⟨b, 0, none⟩))] (by kernel_rfl) ?_
                refine wl_yl (d := 105) (v := .int .i64 ma) (by kernel_rfl) (yl_load (b := r2) (off := 10) 0 rfl (by kernel_rfl) rfl (by kernel_rfl)) ?_
                refine wl_go 1 [(106, .pointer (some ⟨r2, 11, none⟩))] (by kernel_rfl) ?_
                refine wl_yl (d := 107) (v := .int .i64 mb) (by kernel_rfl) (yl_load (b := r2) (off := 11) 0 rfl (by kernel_rfl) rfl (by kernel_rfl)) ?_
                refine wl_callB (X := Unit) (d := 108) (fun _ => .int .i64 1) (fun wa y wz => SH wz x.A wz ∧ Tr wa x.A wz x.A) (by kernel_rfl) (by kernel_rfl) (fun w1 h1 => (heal_no b _ x.A ma mb w1 (SH.netA (X := ([⟨r2, #[.int .i64 kd, .int .i64 fr, .int .i64 to, .int .i64 kind, .int .i64 term, .int .i64 index, .int .i64 last, .int .i64 commit, .slice ea rows.length ec, .bool ok, .int .i64 ma, .int .i64 mb], 74⟩, ⟨r1, #[.int .i64 nn, .int .i64 dd, .int .i64 (x.now : Int), .slice x.wa x.xs.length x.wc, .slice x.ga x.gl.length x.gc], 79⟩] : List Blk)) h1) x.hf.hn hp).mono (fun e w' h => ⟨(), h⟩)) ?_
                rintro wa _ w2 h1 ⟨hs, ht⟩
                obtain ⟨hs2, ht2, _⟩ := SH.framed (X := ([⟨r2, #[.int .i64 kd, .int .i64 fr, .int .i64 to, .int .i64 kind, .int .i64 term, .int .i64 index, .int .i64 last, .int .i64 commit, .slice ea rows.length ec, .bool ok, .int .i64 ma, .int .i64 mb], 74⟩, ⟨r1, #[.int .i64 nn, .int .i64 dd, .int .i64 (x.now : Int), .slice x.wa x.xs.length x.wc, .slice x.ga x.gl.length x.gc], 79⟩] : List Blk)) h1 hs ht
                have hF2 := hF.tr ht2
                have hG := hF2
                refine wl_eq (S := SH w2 (([⟨r2, #[.int .i64 kd, .int .i64 fr, .int .i64 to, .int .i64 kind, .int .i64 term, .int .i64 index, .int .i64 last, .int .i64 commit, .slice ea rows.length ec, .bool ok, .int .i64 ma, .int .i64 mb], 74⟩, ⟨r1, #[.int .i64 nn, .int .i64 dd, .int .i64 (x.now : Int), .slice x.wa x.xs.length x.wc, .slice x.ga x.gl.length x.gc], 79⟩] : List Blk) ++ x.A)) hs2 ?_
                refine wl_go 1 [(12, .int .i64 1)] (by kernel_rfl) ?_
                refine nx_list ?_
                refine nx_then ?_
                refine wc_region ?_
                refine wl_yl (d := 110) (v := .agg #[.int .i64 nn, .int .i64 dd, .int .i64 (x.now : Int), .slice x.wa x.xs.length x.wc, .slice x.ga x.gl.length x.gc]) (by kernel_rfl) (yl_load (b := r1) (off := 0) 1 rfl (by kernel_rfl) rfl (by kernel_rfl)) ?_
                refine wl_go 1 [(111, .pointer (some ⟨r2, 10, none⟩))] (by kernel_rfl) ?_
                refine wl_yl (d := 112) (v := .int .i64 ma) (by kernel_rfl) (yl_load (b := r2) (off := 10) 0 rfl (by kernel_rfl) rfl (by kernel_rfl)) ?_
                refine wl_go 1 [(113, .pointer (some ⟨r2, 11, none⟩))] (by kernel_rfl) ?_
                refine wl_yl (d := 114) (v := .int .i64 mb) (by kernel_rfl) (yl_load (b := r2) (off := 11) 0 rfl (by kernel_rfl) rfl (by kernel_rfl)) ?_
                refine wl_callK shK (d := 115) (v := .tuple #[.agg #[.int .i64 nn, .int .i64 dd, .int .i64 (x.now : Int), .slice x.wa x.xs.length x.wc, .slice x.ga x.gl.length x.gc], .int .i64 1]) (by kernel_rfl) (by kernel_rfl) (fun w1 h1 => rHeal_no nn dd (x.now : Int) x.wa x.xs.length x.wc x.ga x.gl.length x.gc ma mb w1 hp) ?_
                refine wl_go 3 [(117, .int .i64 1), (116, .agg #[.int .i64 nn, .int .i64 dd, .int .i64 (x.now : Int), .slice x.wa x.xs.length x.wc, .slice x.ga x.gl.length x.gc]), (109, .tuple #[.agg #[.int .i64 nn, .int .i64 dd, .int .i64 (x.now : Int), .slice x.wa x.xs.length x.wc, .slice x.ga x.gl.length x.gc], .int .i64 1])] (by kernel_rfl) ?_
                refine wl_store (b := r1) (off := 0) (v := .agg #[.int .i64 nn, .int .i64 dd, .int .i64 (x.now : Int), .slice x.wa x.xs.length x.wc, .slice x.ga x.gl.length x.gc]) (c' := #[.int .i64 nn, .int .i64 dd, .int .i64 (x.now : Int), .slice x.wa x.xs.length x.wc, .slice x.ga x.gl.length x.gc]) (L' := (([⟨r2, #[.int .i64 kd, .int .i64 fr, .int .i64 to, .int .i64 kind, .int .i64 term, .int .i64 index, .int .i64 last, .int .i64 commit, .slice ea rows.length ec, .bool ok, .int .i64 ma, .int .i64 mb], 74⟩, ⟨r1, #[.int .i64 nn, .int .i64 dd, .int .i64 (x.now : Int), .slice x.wa x.xs.length x.wc, .slice x.ga x.gl.length x.gc], 79⟩] : List Blk) ++ x.A)) 1 (by kernel_rfl) rfl (by kernel_rfl) (by kernel_rfl) rfl (by kernel_rfl) rfl ?_
                refine wl_go 1 [(13, .int .i64 1)] (by kernel_rfl) ?_
                refine nx_list ?_
                refine nx_block ?_
                refine nx_then ?_
                refine wc_seq ?_
                refine wc_region ?_
                refine wl_go 3 [(152, .bool false), (151, .int .i64 1), (150, .int .i64 1)] (by kernel_rfl) ?_
                refine nx_list ?_
                refine nx_then ?_
                refine wc_cond false (by kernel_rfl) (by kernel_rfl) (fun h => by cases h) (fun _ => ?_)
                refine nx_skip ?_
                refine nx_block ?_
                refine nx_then ?_
                refine wc_region ?_
                refine wl_yl (d := 153) (v := .int .i64 ((x.i : Int) + 1)) (by kernel_rfl) (yl_int (t := (x.i : Int) + 1) (r := (x.i : Int) + 1) (by kernel_rfl) (i64w (by omega) (by omega))) ?_
                refine wl_go 1 [(46, .int .i64 ((x.i : Int) + 1))] (by kernel_rfl) ?_
                refine nx_list ?_
                refine nx_round_w (fun w9 h9 => ?_)
                have ht9 := Tr.drop1 ((SH.trHere h9).cong (L0 := (([⟨r2, #[.int .i64 kd, .int .i64 fr, .int .i64 to, .int .i64 kind, .int .i64 term, .int .i64 index, .int .i64 last, .int .i64 commit, .slice ea rows.length ec, .bool ok, .int .i64 ma, .int .i64 mb], 74⟩, ⟨r1, #[.int .i64 nn, .int .i64 dd, .int .i64 (x.now : Int), .slice x.wa x.xs.length x.wc, .slice x.ga x.gl.length x.gc], 79⟩] : List Blk) ++ x.A)) rfl)
                have hs9 := SH.drop1 h9
                exact ⟨⟨x.i + 1, w9, x.now, x.ps, x.xs, x.gl, x.cut, x.A, x.wa, x.wc, x.ga, x.gc, hlt, hG.tr ht9, by omega, by omega, by omega⟩, (show ol.length - (x.i + 1) < ol.length - x.i by omega), (subEnv_cons (by kernel_rfl) (subEnv_cons (by kernel_rfl) (subEnv_cons (by kernel_rfl) (subEnv_cons (by kernel_rfl) (subEnv_cons (by kernel_rfl) (subEnv_cons (by kernel_rfl) (subEnv_nil _))))))), hs9⟩
            · skip
              refine wc_seq ?_
              refine wc_region ?_
              refine wl_go 2 [(118, .bool (kd == 5)), (119, .bool (kd == 5))] (by kernel_rfl) ?_
              refine nx_list ?_
              refine nx_then ?_
              refine wc_cond (kd == 5) (by kernel_rfl) (by kernel_rfl) (fun hkd5 => ?_) (fun hkd5 => ?_)
              · skip
                refine wc_seq ?_
                refine wc_draw 13 (SH x.wb (([⟨r2, #[.int .i64 kd, .int .i64 fr, .int .i64 to, .int .i64 kind, .int .i64 term, .int .i64 index, .int .i64 last, .int .i64 commit, .slice ea rows.length ec, .bool ok, .int .i64 ma, .int .i64 mb], 74⟩, ⟨r1, #[.int .i64 nn, .int .i64 dd, .int .i64 (x.now : Int), .slice x.wa x.xs.length x.wc, .slice x.ga x.gl.length x.gc], 79⟩] : List Blk) ++ x.A)) rfl (by decide) (fun w h => SH.drew h) ?_
                refine wd_go [0, 1] [(121, .pointer (some ⟨r2, 10, none⟩)), (120, .pointer (some ⟨b, 0, none⟩))] #[true, true, false, false, false, false, false, false, false, false, false, false, false] (f := 11) rfl (by kernel_rfl) (fun w h => h) ?_
                refine wd_yl 2 (d := 122) (v := .int .i64 ma) (f := 10) rfl (by kernel_rfl) (by kernel_rfl) (fun w h => h) (yl_load (b := r2) (off := 10) 0 rfl (by kernel_rfl) rfl (by kernel_rfl)) ?_
                refine wd_go [3] [(123, .pointer (some ⟨r2, 11, none⟩))] #[true, true, true, true, false, false, false, false, false, false, false, false, false] (f := 9) rfl (by kernel_rfl) (fun w h => h) ?_
                refine wd_yl 4 (d := 124) (v := .int .i64 mb) (f := 8) rfl (by kernel_rfl) (by kernel_rfl) (fun w h => h) (yl_load (b := r2) (off := 11) 0 rfl (by kernel_rfl) rfl (by kernel_rfl)) ?_
                refine wd_yl 6 (d := 126) (v := .agg #[.int .i64 nn, .int .i64 dd, .int .i64 (x.now : Int), .slice x.wa x.xs.length x.wc, .slice x.ga x.gl.length x.gc]) (f := 7) rfl (by kernel_rfl) (by kernel_rfl) (fun w h => h) (yl_load (b := r1) (off := 0) 1 rfl (by kernel_rfl) rfl (by kernel_rfl)) ?_
                refine wd_go [7] [(127, .pointer (some ⟨r2, 10, none⟩))] #[true, true, true, true, true, false, true, true, false, false, false, false, false] (f := 6) rfl (by kernel_rfl) (fun w h => h) ?_
                refine wd_yl 8 (d := 128) (v := .int .i64 ma) (f := 5) rfl (by kernel_rfl) (by kernel_rfl) (fun w h => h) (yl_load (b := r2) (off := 10) 0 rfl (by kernel_rfl) rfl (by kernel_rfl)) ?_
                refine wd_go [9] [(129, .pointer (some ⟨r2, 11, none⟩))] #[true, true, true, true, true, false, true, true, true, true, false, false, false] (f := 4) rfl (by kernel_rfl) (fun w h => h) ?_
                refine wd_yl 10 (d := 130) (v := .int .i64 mb) (f := 3) rfl (by kernel_rfl) (by kernel_rfl) (fun w h => h) (yl_load (b := r2) (off := 11) 0 rfl (by kernel_rfl) rfl (by kernel_rfl)) ?_
                refine wd_callK shK 5 (d := 125) (fu := 2) (v := .bool (upR nn x.gl ma mb)) rfl (by decide) (by kernel_rfl) (by kernel_rfl) (by kernel_rfl) (fun w1 h1 => (up_any b _ x.A ma mb x.gl w1 (SH.netA (X := [⟨r2, #[.int .i64 kd, .int .i64 fr, .int .i64 to, .int .i64 kind, .int .i64 term, .int .i64 index, .int .i64 last, .int .i64 commit, .slice ea rows.length ec, .bool ok, .int .i64 ma, .int .i64 mb], 74⟩, ⟨r1, #[.int .i64 nn, .int .i64 dd, .int .i64 (x.now : Int), .slice x.wa x.xs.length x.wc, .slice x.ga x.gl.length x.gc], 79⟩]) h1) x.hf.hn x.hf.hcut k2).mono (fun e w' h => ⟨h.1, h.2 ▸ Below.refl _ _⟩)) ?_
                refine wd_callK shK 11 (d := 131) (fu := 1) (v := .bool (upR nn x.gl ma mb)) rfl (by decide) (by kernel_rfl) (by kernel_rfl) (by kernel_rfl) (fun w1 h1 => rUp_ok nn dd (x.now : Int) (.slice x.wa x.xs.length x.wc) x.gl x.ga x.gc ma mb w1 _ (hF.hg.stays (SH.trHere h1).stays) (by omega)) ?_
                refine wd_go [12] [(132, .bool ((upR nn x.gl ma mb) != (upR nn x.gl ma mb)))] #[true, true, true, true, true, true, true, true, true, true, true, true, true] (f := 0) rfl (by kernel_rfl) (fun w h => h) ?_
                rw [show ((upR nn x.gl ma mb) != (upR nn x.gl ma mb)) = false from by simp]
                refine wd_done (by kernel_rfl) ?_
                refine nx_list ?_
                refine nx_on ?_
                refine nx_then ?_
                refine wc_cond false (by kernel_rfl) (by kernel_rfl) (fun h => by cases h) (fun _ => ?_)
                refine nx_skip ?_
                refine nx_block ?_
                refine nx_then ?_
                refine wc_seq ?_
                refine wc_region ?_
                refine wl_go 3 [(152, .bool false), (151, .int .i64 0), (150, .int .i64 0)] (by kernel_rfl) ?_
                refine nx_list ?_
                refine nx_then ?_
                refine wc_cond false (by kernel_rfl) (by kernel_rfl) (fun h => by cases h) (fun _ => ?_)
                refine nx_skip ?_
                refine nx_block ?_
                refine nx_then ?_
                refine wc_region ?_
                refine wl_yl (d := 153) (v := .int .i64 ((x.i : Int) + 1)) (by kernel_rfl) (yl_int (t := (x.i : Int) + 1) (r := (x.i : Int) + 1) (by kernel_rfl) (i64w (by omega) (by omega))) ?_
                refine wl_go 1 [(46, .int .i64 ((x.i : Int) + 1))] (by kernel_rfl) ?_
                refine nx_list ?_
                refine nx_round_w (fun w9 h9 => ?_)
                have ht9 := Tr.drop1 ((SH.trHere h9).cong (L0 := (([⟨r2, #[.int .i64 kd, .int .i64 fr, .int .i64 to, .int .i64 kind, .int .i64 term, .int .i64 index, .int .i64 last, .int .i64 commit, .slice ea rows.length ec, .bool ok, .int .i64 ma, .int .i64 mb], 74⟩, ⟨r1, #[.int .i64 nn, .int .i64 dd, .int .i64 (x.now : Int), .slice x.wa x.xs.length x.wc, .slice x.ga x.gl.length x.gc], 79⟩] : List Blk) ++ x.A)) rfl)
                have hs9 := SH.drop1 h9
                exact ⟨⟨x.i + 1, w9, x.now, x.ps, x.xs, x.gl, x.cut, x.A, x.wa, x.wc, x.ga, x.gc, hlt, hG.tr ht9, by omega, by omega, by omega⟩, (show ol.length - (x.i + 1) < ol.length - x.i by omega), (subEnv_cons (by kernel_rfl) (subEnv_cons (by kernel_rfl) (subEnv_cons (by kernel_rfl) (subEnv_cons (by kernel_rfl) (subEnv_cons (by kernel_rfl) (subEnv_cons (by kernel_rfl) (subEnv_nil _))))))), hs9⟩
              · skip
                refine wc_seq ?_
                refine wc_region ?_
                refine wl_go 2 [(133, .bool (kd == 6)), (134, .bool (kd == 6))] (by kernel_rfl) ?_
                refine nx_list ?_
                refine nx_then ?_
                refine wc_cond (kd == 6) (by kernel_rfl) (by kernel_rfl) (fun hkd6 => ?_) (fun hkd6 => ?_)
                · skip
                  refine wc_seq ?_
                  refine wc_region ?_
                  refine wl_go 2 [(136, .pointer (some ⟨r2, 10, none⟩)), (135, .pointer (some ⟨b, 0, none⟩))] (by kernel_rfl) ?_
                  refine wl_yl (d := 137) (v := .int .i64 ma) (by kernel_rfl) (yl_load (b := r2) (off := 10) 0 rfl (by kernel_rfl) rfl (by kernel_rfl)) ?_
                  refine wl_callB (X := List Blk) (d := 138) (fun _ => .tuple #[]) (fun wa y wz => IsNet b ⟨nn, dd, (x.now : Int), x.cut, clearP ma x.ps⟩ y ∧ SH wz y wz ∧ Tr wa x.A wz y) (by kernel_rfl) (by kernel_rfl) (fun w1 h1 => (clear_ok b _ x.A ma w1 (SH.netA (X := ([⟨r2, #[.int .i64 kd, .int .i64 fr, .int .i64 to, .int .i64 kind, .int .i64 term, .int .i64 index, .int .i64 last, .int .i64 commit, .slice ea rows.length ec, .bool ok, .int .i64 ma, .int .i64 mb], 74⟩, ⟨r1, #[.int .i64 nn, .int .i64 dd, .int .i64 (x.now : Int), .slice x.wa x.xs.length x.wc, .slice x.ga x.gl.length x.gc], 79⟩] : List Blk)) h1) x.hf.hn x.hf.hp.ok (by simp only; omega)).mono (fun e w' ⟨A', he, h⟩ => ⟨A', he, h⟩)) ?_
                  rintro wa A2 w2 h1 ⟨hn2, hs, ht⟩
                  obtain ⟨hs2, ht2, _⟩ := SH.framed (X := ([⟨r2, #[.int .i64 kd, .int .i64 fr, .int .i64 to, .int .i64 kind, .int .i64 term, .int .i64 index, .int .i64 last, .int .i64 commit, .slice ea rows.length ec, .bool ok, .int .i64 ma, .int .i64 mb], 74⟩, ⟨r1, #[.int .i64 nn, .int .i64 dd, .int .i64 (x.now : Int), .slice x.wa x.xs.length x.wc, .slice x.ga x.gl.length x.gc], 79⟩] : List Blk)) h1 hs ht
                  have hF2 := hF.tr ht2
                  refine wl_eq (S := SH w2 (([⟨r2, #[.int .i64 kd, .int .i64 fr, .int .i64 to, .int .i64 kind, .int .i64 term, .int .i64 index, .int .i64 last, .int .i64 commit, .slice ea rows.length ec, .bool ok, .int .i64 ma, .int .i64 mb], 74⟩, ⟨r1, #[.int .i64 nn, .int .i64 dd, .int .i64 (x.now : Int), .slice x.wa x.xs.length x.wc, .slice x.ga x.gl.length x.gc], 79⟩] : List Blk) ++ A2)) hs2 ?_
                  refine nx_list ?_
                  refine nx_then ?_
                  refine wc_region ?_
                  refine wl_yl (d := 139) (v := .agg #[.int .i64 nn, .int .i64 dd, .int .i64 (x.now : Int), .slice x.wa x.xs.length x.wc, .slice x.ga x.gl.length x.gc]) (by kernel_rfl) (yl_load (b := r1) (off := 0) 1 rfl (by kernel_rfl) rfl (by kernel_rfl)) ?_
                  refine wl_go 1 [(140, .pointer (some ⟨r2, 10, none⟩))] (by kernel_rfl) ?_
                  refine wl_yl (d := 141) (v := .int .i64 ma) (by kernel_rfl) (yl_load (b := r2) (off := 10) 0 rfl (by kernel_rfl) rfl (by kernel_rfl)) ?_
                  refine wl_callB (X := Value) (d := 142) (fun v => .agg #[.int .i64 nn, .int .i64 dd, .int .i64 (x.now : Int), v, .slice x.ga x.gl.length x.gc]) (fun wi y wz => SH wz (([⟨r2, #[.int .i64 kd, .int .i64 fr, .int .i64 to, .int .i64 kind, .int .i64 term, .int .i64 index, .int .i64 last, .int .i64 commit, .slice ea rows.length ec, .bool ok, .int .i64 ma, .int .i64 mb], 74⟩, ⟨r1, #[.int .i64 nn, .int .i64 dd, .int .i64 (x.now : Int), .slice x.wa x.xs.length x.wc, .slice x.ga x.gl.length x.gc], 79⟩] : List Blk) ++ A2) wz ∧ Tr wi (([⟨r2, #[.int .i64 kd, .int .i64 fr, .int .i64 to, .int .i64 kind, .int .i64 term, .int .i64 index, .int .i64 last, .int .i64 commit, .slice ea rows.length ec, .bool ok, .int .i64 ma, .int .i64 mb], 74⟩, ⟨r1, #[.int .i64 nn, .int .i64 dd, .int .i64 (x.now : Int), .slice x.wa x.xs.length x.wc, .slice x.ga x.gl.length x.gc], 79⟩] : List Blk) ++ A2) wz (([⟨r2, #[.int .i64 kd, .int .i64 fr, .int .i64 to, .int .i64 kind, .int .i64 term, .int .i64 index, .int .i64 last, .int .i64 commit, .slice ea rows.length ec, .bool ok, .int .i64 ma, .int .i64 mb], 74⟩, ⟨r1, #[.int .i64 nn, .int .i64 dd, .int .i64 (x.now : Int), .slice x.wa x.xs.length x.wc, .slice x.ga x.gl.length x.gc], 79⟩] : List Blk) ++ A2) ∧ Rd (Im wz (([⟨r2, #[.int .i64 kd, .int .i64 fr, .int .i64 to, .int .i64 kind, .int .i64 term, .int .i64 index, .int .i64 last, .int .i64 commit, .slice ea rows.length ec, .bool ok, .int .i64 ma, .int .i64 mb], 74⟩, ⟨r1, #[.int .i64 nn, .int .i64 dd, .int .i64 (x.now : Int), .slice x.wa x.xs.length x.wc, .slice x.ga x.gl.length x.gc], 79⟩] : List Blk) ++ A2)) wz (.sl ((clearD ma x.xs).map rowS)) y) (by kernel_rfl) (by kernel_rfl) (fun w1 h1 => (rClear_ok nn dd (x.now : Int) x.xs x.wa x.wc x.ga x.gl.length x.gc ma (([⟨r2, #[.int .i64 kd, .int .i64 fr, .int .i64 to, .int .i64 kind, .int .i64 term, .int .i64 index, .int .i64 last, .int .i64 commit, .slice ea rows.length ec, .bool ok, .int .i64 ma, .int .i64 mb], 74⟩, ⟨r1, #[.int .i64 nn, .int .i64 dd, .int .i64 (x.now : Int), .slice x.wa x.xs.length x.wc, .slice x.ga x.gl.length x.gc], 79⟩] : List Blk) ++ A2) w1 (SH.here h1) (hF2.hway.stays (SH.trHere h1).stays) hF2.hfit (by omega)).mono (fun e w' ⟨v, he, h⟩ => ⟨v, he, h⟩)) ?_
                  rintro wq v3 w3 h1 ⟨hs3, ht3, hway3⟩
                  obtain ⟨a3, c3, rfl⟩ := Rd.slMap hway3
                  have hT3 := (SH.trHere h1).trans ht3
                  have hF3 := hF2.tr hT3
                  have hG : SF w b nn dd (([⟨r2, #[.int .i64 kd, .int .i64 fr, .int .i64 to, .int .i64 kind, .int .i64 term, .int .i64 index, .int .i64 last, .int .i64 commit, .slice ea rows.length ec, .bool ok, .int .i64 ma, .int .i64 mb], 74⟩, ⟨r1, #[.int .i64 nn, .int .i64 dd, .int .i64 (x.now : Int), .slice x.wa x.xs.length x.wc, .slice x.ga x.gl.length x.gc], 79⟩] : List Blk) ++ A2) w3 x.now (clearP ma x.ps) (clearD ma x.xs) x.gl x.cut A2 (.slice a3 (clearD ma x.xs).length c3) (.slice x.ga x.gl.length x.gc) := ⟨hn2, hF3.hc, hF3.hp.clear ma, hway3, hF3.hg, hF3.hcut, fun y hy => hF3.hpair y (List.mem_filter.1 hy).1, fitR_sub' hF3.hfit (fun r hr => by
                    obtain ⟨y, hy, rfl⟩ := List.mem_map.1 hr
                    exact List.mem_map.2 ⟨y, (List.mem_filter.1 hy).1, rfl⟩), fun r hr => hF3.hz r (by
                    obtain ⟨y, hy, rfl⟩ := List.mem_map.1 hr
                    exact List.mem_map.2 ⟨y, (List.mem_filter.1 hy).1, rfl⟩)⟩
                  have hkl : (clearD ma x.xs).length ≤ x.xs.length := List.length_filter_le _ _
                  refine wl_eq (S := SH w3 (([⟨r2, #[.int .i64 kd, .int .i64 fr, .int .i64 to, .int .i64 kind, .int .i64 term, .int .i64 index, .int .i64 last, .int .i64 commit, .slice ea rows.length ec, .bool ok, .int .i64 ma, .int .i64 mb], 74⟩, ⟨r1, #[.int .i64 nn, .int .i64 dd, .int .i64 (x.now : Int), .slice x.wa x.xs.length x.wc, .slice x.ga x.gl.length x.gc], 79⟩] : List Blk) ++ A2)) hs3 ?_
                  refine wl_store (b := r1) (off := 0) (v := .agg #[.int .i64 nn, .int .i64 dd, .int .i64 (x.now : Int), .slice a3 ((clearD ma x.xs).length) c3, .slice x.ga x.gl.length x.gc]) (c' := #[.int .i64 nn, .int .i64 dd, .int .i64 (x.now : Int), .slice a3 ((clearD ma x.xs).length) c3, .slice x.ga x.gl.length x.gc]) (L' := (([⟨r2, #[.int .i64 kd, .int .i64 fr, .int .i64 to, .int .i64 kind, .int .i64 term, .int .i64 index, .int .i64 last, .int .i64 commit, .slice ea rows.length ec, .bool ok, .int .i64 ma, .int .i64 mb], 74⟩, ⟨r1, #[.int .i64 nn, .int .i64 dd, .int .i64 (x.now : Int), .slice a3 ((clearD ma x.xs).length) c3, .slice x.ga x.gl.length x.gc], 79⟩] : List Blk) ++ A2)) 1 (by kernel_rfl) rfl (by kernel_rfl) (by kernel_rfl) rfl (by kernel_rfl) rfl ?_
                  refine nx_list ?_
                  refine nx_block ?_
                  refine nx_then ?_
                  refine wc_seq ?_
                  refine wc_region ?_
                  refine wl_go 3 [(152, .bool false), (151, .int .i64 0), (150, .int .i64 0)] (by kernel_rfl) ?_
                  refine nx_list ?_
                  refine nx_then ?_
                  refine wc_cond false (by kernel_rfl) (by kernel_rfl) (fun h => by cases h) (fun _ => ?_)
                  refine nx_skip ?_
                  refine nx_block ?_
                  refine nx_then ?_
                  refine wc_region ?_
                  refine wl_yl (d := 153) (v := .int .i64 ((x.i : Int) + 1)) (by kernel_rfl) (yl_int (t := (x.i : Int) + 1) (r := (x.i : Int) + 1) (by kernel_rfl) (i64w (by omega) (by omega))) ?_
                  refine wl_go 1 [(46, .int .i64 ((x.i : Int) + 1))] (by kernel_rfl) ?_
                  refine nx_list ?_
                  refine nx_round_w (fun w9 h9 => ?_)
                  have ht9 := Tr.drop1 ((SH.trHere h9).cong (L0 := (([⟨r2, #[.int .i64 kd, .int .i64 fr, .int .i64 to, .int .i64 kind, .int .i64 term, .int .i64 index, .int .i64 last, .int .i64 commit, .slice ea rows.length ec, .bool ok, .int .i64 ma, .int .i64 mb], 74⟩, ⟨r1, #[.int .i64 nn, .int .i64 dd, .int .i64 (x.now : Int), .slice x.wa x.xs.length x.wc, .slice x.ga x.gl.length x.gc], 79⟩] : List Blk) ++ A2)) rfl)
                  have hs9 := SH.drop1 h9
                  exact ⟨⟨x.i + 1, w9, x.now, (clearP ma x.ps), (clearD ma x.xs), x.gl, x.cut, A2, a3, c3, x.ga, x.gc, hlt, hG.tr ht9, by omega, by omega, by omega⟩, (show ol.length - (x.i + 1) < ol.length - x.i by omega), (subEnv_cons (by kernel_rfl) (subEnv_cons (by kernel_rfl) (subEnv_cons (by kernel_rfl) (subEnv_cons (by kernel_rfl) (subEnv_cons (by kernel_rfl) (subEnv_cons (by kernel_rfl) (subEnv_nil _))))))), hs9⟩
                · skip
                  refine wc_seq ?_
                  refine wc_region ?_
                  refine wl_go 2 [(143, .bool (kd == 7)), (144, .bool (kd == 7))] (by kernel_rfl) ?_
                  refine nx_list ?_
                  refine nx_then ?_
                  refine wc_cond (kd == 7) (by kernel_rfl) (by kernel_rfl) (fun hkd7 => ?_) (fun hkd7 => ?_)
                  · skip
                    refine wc_seq ?_
                    refine wc_draw 5 (SH x.wb (([⟨r2, #[.int .i64 kd, .int .i64 fr, .int .i64 to, .int .i64 kind, .int .i64 term, .int .i64 index, .int .i64 last, .int .i64 commit, .slice ea rows.length ec, .bool ok, .int .i64 ma, .int .i64 mb], 74⟩, ⟨r1, #[.int .i64 nn, .int .i64 dd, .int .i64 (x.now : Int), .slice x.wa x.xs.length x.wc, .slice x.ga x.gl.length x.gc], 79⟩] : List Blk) ++ x.A)) rfl (by decide) (fun w h => SH.drew h) ?_
                    refine wd_go [0] [(145, .pointer (some ⟨b, 0, none⟩))] #[true, false, false, false, false] (f := 4) rfl (by kernel_rfl) (fun w h => h) ?_
                    refine wd_yl 2 (d := 147) (v := .agg #[.int .i64 nn, .int .i64 dd, .int .i64 (x.now : Int), .slice x.wa x.xs.length x.wc, .slice x.ga x.gl.length x.gc]) (f := 3) rfl (by kernel_rfl) (by kernel_rfl) (fun w h => h) (yl_load (b := r1) (off := 0) 1 rfl (by kernel_rfl) rfl (by kernel_rfl)) ?_
                    refine wd_callK shK 1 (d := 146) (fu := 2) (v := .int .i64 (x.xs.length : Int)) rfl (by decide) (by kernel_rfl) (by kernel_rfl) (by kernel_rfl) (fun w1 h1 => by rw [hpl]; exact (len_ok b _ x.A w1 (SH.netA (X := [⟨r2, #[.int .i64 kd, .int .i64 fr, .int .i64 to, .int .i64 kind, .int .i64 term, .int .i64 index, .int .i64 last, .int .i64 commit, .slice ea rows.length ec, .bool ok, .int .i64 ma, .int .i64 mb], 74⟩, ⟨r1, #[.int .i64 nn, .int .i64 dd, .int .i64 (x.now : Int), .slice x.wa x.xs.length x.wc, .slice x.ga x.gl.length x.gc], 79⟩]) h1) x.hf.hn).mono (fun e w' h => ⟨h.1, h.2 ▸ Below.refl _ _⟩)) ?_
                    refine wd_callK shK 3 (d := 148) (fu := 1) (v := .int .i64 (x.xs.length : Int)) rfl (by decide) (by kernel_rfl) (by kernel_rfl) (by kernel_rfl) (fun w1 h1 => rLen_ok nn dd (x.now : Int) x.wa x.xs.length x.wc (.slice x.ga x.gl.length x.gc) w1) ?_
                    refine wd_go [4] [(149, .bool ((x.xs.length : Int) != (x.xs.length : Int)))] #[true, true, true, true, true] (f := 0) rfl (by kernel_rfl) (fun w h => h) ?_
                    rw [show ((x.xs.length : Int) != (x.xs.length : Int)) = false from by simp]
                    refine wd_done (by kernel_rfl) ?_
                    refine nx_list ?_
                    refine nx_on ?_
                    refine nx_then ?_
                    refine wc_cond false (by kernel_rfl) (by kernel_rfl) (fun h => by cases h) (fun _ => ?_)
                    refine nx_skip ?_
                    refine nx_block ?_
                    refine nx_then ?_
                    refine wc_seq ?_
                    refine wc_region ?_
                    refine wl_go 3 [(152, .bool false), (151, .int .i64 0), (150, .int .i64 0)] (by kernel_rfl) ?_
                    refine nx_list ?_
                    refine nx_then ?_
                    refine wc_cond false (by kernel_rfl) (by kernel_rfl) (fun h => by cases h) (fun _ => ?_)
                    refine nx_skip ?_
                    refine nx_block ?_
                    refine nx_then ?_
                    refine wc_region ?_
                    refine wl_yl (d := 153) (v := .int .i64 ((x.i : Int) + 1)) (by kernel_rfl) (yl_int (t := (x.i : Int) + 1) (r := (x.i : Int) + 1) (by kernel_rfl) (i64w (by omega) (by omega))) ?_
                    refine wl_go 1 [(46, .int .i64 ((x.i : Int) + 1))] (by kernel_rfl) ?_
                    refine nx_list ?_
                    refine nx_round_w (fun w9 h9 => ?_)
                    have ht9 := Tr.drop1 ((SH.trHere h9).cong (L0 := (([⟨r2, #[.int .i64 kd, .int .i64 fr, .int .i64 to, .int .i64 kind, .int .i64 term, .int .i64 index, .int .i64 last, .int .i64 commit, .slice ea rows.length ec, .bool ok, .int .i64 ma, .int .i64 mb], 74⟩, ⟨r1, #[.int .i64 nn, .int .i64 dd, .int .i64 (x.now : Int), .slice x.wa x.xs.length x.wc, .slice x.ga x.gl.length x.gc], 79⟩] : List Blk) ++ x.A)) rfl)
                    have hs9 := SH.drop1 h9
                    exact ⟨⟨x.i + 1, w9, x.now, x.ps, x.xs, x.gl, x.cut, x.A, x.wa, x.wc, x.ga, x.gc, hlt, hG.tr ht9, by omega, by omega, by omega⟩, (show ol.length - (x.i + 1) < ol.length - x.i by omega), (subEnv_cons (by kernel_rfl) (subEnv_cons (by kernel_rfl) (subEnv_cons (by kernel_rfl) (subEnv_cons (by kernel_rfl) (subEnv_cons (by kernel_rfl) (subEnv_cons (by kernel_rfl) (subEnv_nil _))))))), hs9⟩
                  · skip
                    refine nx_skip ?_
                    refine nx_block ?_
                    refine nx_then ?_
                    refine wc_seq ?_
                    refine wc_region ?_
                    refine wl_go 3 [(152, .bool false), (151, .int .i64 0), (150, .int .i64 0)] (by kernel_rfl) ?_
                    refine nx_list ?_
                    refine nx_then ?_
                    refine wc_cond false (by kernel_rfl) (by kernel_rfl) (fun h => by cases h) (fun _ => ?_)
                    refine nx_skip ?_
                    refine nx_block ?_
                    refine nx_then ?_
                    refine wc_region ?_
                    refine wl_yl (d := 153) (v := .int .i64 ((x.i : Int) + 1)) (by kernel_rfl) (yl_int (t := (x.i : Int) + 1) (r := (x.i : Int) + 1) (by kernel_rfl) (i64w (by omega) (by omega))) ?_
                    refine wl_go 1 [(46, .int .i64 ((x.i : Int) + 1))] (by kernel_rfl) ?_
                    refine nx_list ?_
                    refine nx_round_w (fun w9 h9 => ?_)
                    have ht9 := Tr.drop1 ((SH.trHere h9).cong (L0 := (([⟨r2, #[.int .i64 kd, .int .i64 fr, .int .i64 to, .int .i64 kind, .int .i64 term, .int .i64 index, .int .i64 last, .int .i64 commit, .slice ea rows.length ec, .bool ok, .int .i64 ma, .int .i64 mb], 74⟩, ⟨r1, #[.int .i64 nn, .int .i64 dd, .int .i64 (x.now : Int), .slice x.wa x.xs.length x.wc, .slice x.ga x.gl.length x.gc], 79⟩] : List Blk) ++ x.A)) rfl)
                    have hs9 := SH.drop1 h9
                    exact ⟨⟨x.i + 1, w9, x.now, x.ps, x.xs, x.gl, x.cut, x.A, x.wa, x.wc, x.ga, x.gc, hlt, hG.tr ht9, by omega, by omega, by omega⟩, (show ol.length - (x.i + 1) < ol.length - x.i by omega), (subEnv_cons (by kernel_rfl) (subEnv_cons (by kernel_rfl) (subEnv_cons (by kernel_rfl) (subEnv_cons (by kernel_rfl) (subEnv_cons (by kernel_rfl) (subEnv_cons (by kernel_rfl) (subEnv_nil _))))))), hs9⟩
    · skip
      have hge : ol.length ≤ x.i := by simpa using hcl
      refine nx_exit ?_
      refine nx_then_exit ?_
      refine nx_then_exit ?_
      refine nx_block_here ?_
      refine nx_then ?_
      refine wc_seq ?_
      refine wc_draw 13 (SH x.wb (([⟨r1, #[.int .i64 nn, .int .i64 dd, .int .i64 (x.now : Int), .slice x.wa x.xs.length x.wc, .slice x.ga x.gl.length x.gc], 79⟩] : List Blk) ++ x.A)) rfl (by decide) (fun w h => SH.drew h) ?_
      refine wd_go [0, 1, 2, 3] [(157, .pointer (some ⟨b, 0, none⟩)), (156, .bool false), (155, .bool false), (154, .int .i64 0)] #[true, true, true, true, false, false, false, false, false, false, false, false, false] (f := 9) rfl (by kernel_rfl) (fun w h => h) ?_
      refine wd_yl 5 (d := 159) (v := .agg #[.int .i64 nn, .int .i64 dd, .int .i64 (x.now : Int), .slice x.wa x.xs.length x.wc, .slice x.ga x.gl.length x.gc]) (f := 8) rfl (by kernel_rfl) (by kernel_rfl) (fun w h => h) (yl_load (b := r1) (off := 0) 0 rfl (by kernel_rfl) rfl (by kernel_rfl)) ?_
      refine wd_callK shK 4 (d := 158) (fu := 7) (v := .int .i64 (x.xs.length : Int)) rfl (by decide) (by kernel_rfl) (by kernel_rfl) (by kernel_rfl) (fun w1 h1 => by rw [hpl]; exact (len_ok b _ x.A w1 (SH.netA (X := [⟨r1, #[.int .i64 nn, .int .i64 dd, .int .i64 (x.now : Int), .slice x.wa x.xs.length x.wc, .slice x.ga x.gl.length x.gc], 79⟩]) h1) x.hf.hn).mono (fun e w' h => ⟨h.1, h.2 ▸ Below.refl _ _⟩)) ?_
      refine wd_callK shK 6 (d := 160) (fu := 6) (v := .int .i64 (x.xs.length : Int)) rfl (by decide) (by kernel_rfl) (by kernel_rfl) (by kernel_rfl) (fun w1 h1 => rLen_ok nn dd (x.now : Int) x.wa x.xs.length x.wc (.slice x.ga x.gl.length x.gc) w1) ?_
      refine wd_go [7] [(161, .bool ((x.xs.length : Int) == (x.xs.length : Int)))] #[true, true, true, true, true, true, true, true, false, false, false, false, false] (f := 5) rfl (by kernel_rfl) (fun w h => h) ?_
      rw [show ((x.xs.length : Int) == (x.xs.length : Int)) = true from by simp]
      refine wd_go [8, 9] [(163, .bool true), (162, .bool true)] #[true, true, true, true, true, true, true, true, true, true, false, false, false] (f := 3) rfl (by kernel_rfl) (fun w h => h) ?_
      refine wd_callK shK 10 (d := 164) (fu := 2) (v := .bool true) rfl (by decide) (by kernel_rfl) (by kernel_rfl) (by kernel_rfl) (fun w1 h1 => awake_ok w1) ?_
      refine wd_go [11, 12] [(6, .bool true), (165, .bool true)] #[true, true, true, true, true, true, true, true, true, true, true, true, true] (f := 0) rfl (by kernel_rfl) (fun w h => h) ?_
      refine wd_done (by kernel_rfl) ?_
      refine nx_list ?_
      refine nx_on ?_
      refine nx_then ?_
      refine nx_ret ?_
      refine ret_tmp (v := .bool true) rfl (by kernel_rfl) ?_
      intro w' hw'
      exact ⟨rfl, (Cool.sh x.hf.hc hw').1⟩

theorem netScript_bad (nn dd : Int) (ol : List (List D)) (a1 : Option Addr) (c1 : Nat) (w : World) (hbad : nn < 1 ∨ 7 < nn ∨ dd < 1 ∨ 16 < dd) :
    Calls Try.prog 6 #[.int .i64 nn, .int .i64 dd, .slice a1 ol.length c1] w fun e w' => e = .returned (.bool true) ∧ Below w.heap.size w w' := by
  refine Sx.enter (l := [.int .i64 nn, .int .i64 dd, .slice a1 ol.length c1]) Try.func6 rfl (n := 166) rfl (by simp) ?_
  refine wc_eq (S := SH w []) (SH.refl _) ?_
  refine wc_seq ?_
  refine wc_region ?_
  refine wl_go 1 [(6, .bool false)] (by kernel_rfl) ?_
  refine nx_list ?_
  refine nx_then ?_
  refine wc_seq ?_
  refine wc_seq ?_
  refine wc_region ?_
  refine wl_go 3 [(20, .bool (decide ((ol.length : Int) > 100))), (19, .int .i64 (ol.length : Int)), (18, .slice a1 ol.length c1)] (by kernel_rfl) ?_
  refine nx_list ?_
  refine nx_then ?_
  refine wc_cond (decide ((ol.length : Int) > 100)) (by kernel_rfl) (by kernel_rfl) (fun h100 => ?_) (fun h100 => ?_)
  · skip
    refine wc_seq ?_
    refine wc_region ?_
    refine wl_callK shK (d := 21) (v := .bool true) (by kernel_rfl) (by kernel_rfl) (fun w1 h1 => awake_ok w1) ?_
    refine wl_go 1 [(6, .bool true)] (by kernel_rfl) ?_
    refine nx_list ?_
    refine nx_then ?_
    refine nx_ret ?_
    refine nx_then_ret ?_
    refine ret_tmp (v := .bool true) rfl (by kernel_rfl) ?_
    intro w' hw'
    exact ⟨rfl, hw'.below (Below.refl _ _) (Nat.le_refl _) (ge_nil _)⟩
  · skip
    refine nx_skip ?_
    refine nx_then ?_
    refine wc_seq ?_
    refine wc_region ?_
    refine wl_go 2 [(24, .int .i64 dd), (23, .int .i64 nn)] (by kernel_rfl) ?_
    refine wl_callS (d := 25) (v := .tuple #[.pointer none, .int .i64 1]) (by kernel_rfl) (by kernel_rfl) (fun w1 h1 => new_no nn dd w1 hbad) ?_
    refine wl_go 5 [(8, .int .i64 1), (7, .pointer none), (27, .int .i64 1), (26, .pointer none), (22, .tuple #[.pointer none, .int .i64 1])] (by kernel_rfl) ?_
    refine nx_list ?_
    refine nx_then ?_
    refine wc_seq ?_
    refine wc_region ?_
    refine wl_go 2 [(30, .int .i64 dd), (29, .int .i64 nn)] (by kernel_rfl) ?_
    refine wl_callK shK (d := 31) (v := .tuple #[.agg #[.int .i64 0, .int .i64 0, .int .i64 0, .slice none 0 0, .slice none 0 0], .int .i64 1]) (by kernel_rfl) (by kernel_rfl) (fun w1 h1 => rNew_no nn dd w1 hbad) ?_
    refine wl_go 3 [(33, .int .i64 1), (32, .agg #[.int .i64 0, .int .i64 0, .int .i64 0, .slice none 0 0, .slice none 0 0]), (28, .tuple #[.agg #[.int .i64 0, .int .i64 0, .int .i64 0, .slice none 0 0, .slice none 0 0], .int .i64 1])] (by kernel_rfl) ?_
    refine wl_new (d := 9) #[.int .i64 0, .int .i64 0, .int .i64 0, .slice none 0 0, .slice none 0 0] 79 (fun r => .pointer (some ⟨r, 0, none⟩)) (by kernel_rfl) (fun r => by kernel_rfl) ?_
    intro r1 hr1
    refine wl_store (b := r1) (off := 0) (v := .agg #[.int .i64 0, .int .i64 0, .int .i64 0, .slice none 0 0, .slice none 0 0]) (c' := #[.int .i64 0, .int .i64 0, .int .i64 0, .slice none 0 0, .slice none 0 0]) (L' := [⟨r1, #[.int .i64 0, .int .i64 0, .int .i64 0, .slice none 0 0, .slice none 0 0], 79⟩]) 0 (by kernel_rfl) rfl (by kernel_rfl) (by kernel_rfl) rfl (by kernel_rfl) rfl ?_
    refine wl_go 1 [(10, .int .i64 1)] (by kernel_rfl) ?_
    refine nx_list ?_
    refine nx_then ?_
    refine wc_seq ?_
    refine wc_seq ?_
    refine wc_region ?_
    refine wl_go 10 [(43, .bool false), (42, .bool false), (41, .bool true), (40, .int .i64 1), (39, .bool true), (38, .pointer none), (37, .bool false), (36, .bool false), (35, .int .i64 1), (34, .int .i64 1)] (by kernel_rfl) ?_
    refine nx_list ?_
    refine nx_then ?_
    refine wc_cond false (by kernel_rfl) (by kernel_rfl) (fun h => by cases h) (fun _ => ?_)
    refine nx_skip ?_
    refine nx_then ?_
    refine wc_seq ?_
    refine wc_seq ?_
    refine wc_region ?_
    refine wl_go 3 [(46, .int .i64 0), (45, .int .i64 (ol.length : Int)), (44, .slice a1 ol.length c1)] (by kernel_rfl) ?_
    refine nx_list ?_
    refine nx_then ?_
    refine wc_block ?_
    refine wc_loop (σ := Unit) (fun x => [(2, .slice a1 ol.length c1), (7, .pointer none), (8, .int .i64 1), (9, .pointer (some ⟨r1, 0, none⟩)), (45, .int .i64 (ol.length : Int)), (46, .int .i64 0)]) (fun _ => SH w [⟨r1, #[.int .i64 0, .int .i64 0, .int .i64 0, .slice none 0 0, .slice none 0 0], 79⟩]) (fun x => 0) (fun w3 h3 => ⟨(), h3, (subEnv_cons (by kernel_rfl) (subEnv_cons (by kernel_rfl) (subEnv_cons (by kernel_rfl) (subEnv_cons (by kernel_rfl) (subEnv_cons (by kernel_rfl) (subEnv_cons (by kernel_rfl) (subEnv_nil _)))))))⟩) (fun x => ?_)
    refine wc_seq ?_
    refine wc_region ?_
    refine wl_go 1 [(47, .bool (decide ((0 : Int) < (ol.length : Int))))] (by kernel_rfl) ?_
    refine nx_list ?_
    refine nx_then ?_
    refine wc_seq ?_
    refine wc_cond (decide ((0 : Int) < (ol.length : Int))) (by kernel_rfl) (by kernel_rfl) (fun hc2 => ?_) (fun hc2 => ?_)
    · skip
      refine nx_skip ?_
      refine nx_then ?_
      refine wc_seq ?_
      refine wc_block ?_
      refine wc_seq ?_
      refine wc_region ?_
      refine wl_go 2 [(11, .int .i64 0), (48, .int .i64 0)] (by kernel_rfl) ?_
      refine nx_list ?_
      refine nx_then ?_
      refine wc_seq ?_
      refine wc_seq ?_
      refine wc_region ?_
      refine wl_go 2 [(50, .bool true), (49, .int .i64 1)] (by kernel_rfl) ?_
      refine nx_list ?_
      refine nx_then ?_
      refine wc_cond true (by kernel_rfl) (by kernel_rfl) (fun _ => ?_) (fun h => by cases h)
      refine nx_exit ?_
      refine nx_then_exit ?_
      refine nx_block_on (by decide) ?_
      refine nx_then_exit ?_
      refine nx_then_exit ?_
      refine nx_block_here ?_
      refine nx_then ?_
      refine wc_seq ?_
      refine wc_draw 13 (SH w [⟨r1, #[.int .i64 0, .int .i64 0, .int .i64 0, .slice none 0 0, .slice none 0 0], 79⟩]) rfl (by decide) (fun w h => SH.drew h) ?_
      refine wd_go [0, 1, 2, 3, 4, 5, 6, 7, 8, 9] [(163, .bool true), (162, .bool true), (161, undef), (160, undef), (159, undef), (158, undef), (157, undef), (156, .bool true), (155, .bool true), (154, .int .i64 1)] #[true, true, true, true, true, true, true, true, true, true, false, false, false] (f := 3) rfl (by kernel_rfl) (fun w h => h) ?_
      refine wd_callK shK 10 (d := 164) (fu := 2) (v := .bool true) rfl (by decide) (by kernel_rfl) (by kernel_rfl) (by kernel_rfl) (fun w1 h1 => awake_ok w1) ?_
      refine wd_go [11, 12] [(6, .bool true), (165, .bool true)] #[true, true, true, true, true, true, true, true, true, true, true, true, true] (f := 0) rfl (by kernel_rfl) (fun w h => h) ?_
      refine wd_done (by kernel_rfl) ?_
      refine nx_list ?_
      refine nx_on ?_
      refine nx_then ?_
      refine nx_ret ?_
      refine ret_tmp (v := .bool true) rfl (by kernel_rfl) ?_
      intro w' hw'
      exact ⟨rfl, hw'.below (Below.refl _ _) (Nat.le_refl _) (ge_cons hr1 (ge_nil _))⟩
    · skip
      refine nx_exit ?_
      refine nx_then_exit ?_
      refine nx_then_exit ?_
      refine nx_block_here ?_
      refine nx_then ?_
      refine wc_seq ?_
      refine wc_draw 13 (SH w [⟨r1, #[.int .i64 0, .int .i64 0, .int .i64 0, .slice none 0 0, .slice none 0 0], 79⟩]) rfl (by decide) (fun w h => SH.drew h) ?_
      refine wd_go [0, 1, 2, 3, 4, 5, 6, 7, 8, 9] [(163, .bool true), (162, .bool true), (161, undef), (160, undef), (159, undef), (158, undef), (157, undef), (156, .bool true), (155, .bool true), (154, .int .i64 1)] #[true, true, true, true, true, true, true, true, true, true, false, false, false] (f := 3) rfl (by kernel_rfl) (fun w h => h) ?_
      refine wd_callK shK 10 (d := 164) (fu := 2) (v := .bool true) rfl (by decide) (by kernel_rfl) (by kernel_rfl) (by kernel_rfl) (fun w1 h1 => awake_ok w1) ?_
      refine wd_go [11, 12] [(6, .bool true), (165, .bool true)] #[true, true, true, true, true, true, true, true, true, true, true, true, true] (f := 0) rfl (by kernel_rfl) (fun w h => h) ?_
      refine wd_done (by kernel_rfl) ?_
      refine nx_list ?_
      refine nx_on ?_
      refine nx_then ?_
      refine nx_ret ?_
      refine ret_tmp (v := .bool true) rfl (by kernel_rfl) ?_
      intro w' hw'
      exact ⟨rfl, hw'.below (Below.refl _ _) (Nat.le_refl _) (ge_cons hr1 (ge_nil _))⟩

theorem netScript_walk (nn dd : Int) (ol : List (List D)) (a1 : Option Addr) (c1 : Nat) (w : World) (S : Nat → Prop) (rd0 : Rd S w (.sl ol) (.slice a1 ol.length c1)) (fR0 : FitR sh by_ ol (sh 15)) (hz0 : ∀ r ∈ ol, (encL r).size ≤ 9223372036854775807) :
    Calls Try.prog 6 #[.int .i64 nn, .int .i64 dd, .slice a1 ol.length c1] w fun e w' => e = .returned (.bool true) ∧ Below w.heap.size w w' := by
  by_cases h : 1 ≤ nn ∧ nn ≤ 7 ∧ 1 ≤ dd ∧ dd ≤ 16
  · exact netScript_ok nn dd ol a1 c1 w S rd0 fR0 hz0 h.1 h.2.1 h.2.2.1 h.2.2.2
  · exact netScript_bad nn dd ol a1 c1 w (by omega)
end Go.Proofs.Ytidkaipijocjcaa
