/- The walk of the law NetClear, printed by a program of this repository (gen/netclear.py). -/
import Derived.Test.YtidkaipijocjcaaNetD
import Derived.Test.YtidkaipijocjcaaAo
namespace Go.Proofs.Ytidkaipijocjcaa
open Go.RowKit Go.Sx
set_option linter.unusedVariables false
set_option linter.unusedSimpArgs false

def okB (r : List D) : Bool := pairB 7 (frD r) (toD r)
def keepB (mb : Int) (r : List D) : Bool := (frD r != mb) && (toD r != mb)
def sentD (l : List (List D)) : List (Int × List D) := (l.filter okB).map (fun r => (1, r))
def wantD (mb : Int) (l : List (List D)) : List (List D) := (l.filter okB).filter (keepB mb)
theorem want_eq (mb : Int) : ∀ (l : List (List D)), dlvrD 1 (fun _ => false) (clearD mb (sentD l)) = wantD mb l := fun l => by
  unfold dlvrD clearD sentD wantD
  induction l.filter okB with
  | nil => rfl
  | cons r l ih =>
    simp only [List.map_cons, List.filter_cons]
    by_cases h1 : ((frD r != mb) && (toD r != mb)) = true
    · rw [if_pos h1, if_pos (show keepB mb r = true from h1), List.filter_cons]
      rw [if_pos (by simp [cutD]), List.map_cons, ih]
    · rw [if_neg h1, if_neg (show ¬ keepB mb r = true from h1)]
      exact ih
theorem snocD {l : List (List D)} {i : Nat} {r : List D} (h : l[i]? = some r) : l.take (i + 1) = l.take i ++ [r] := by rw [List.take_add_one, h]; rfl
structure Cs (w : World) (b : Nat) (mb : Int) (ml : List (List D)) where
  i : Nat
  wb : World
  ps : List (Int × Msg)
  A : List Blk
  R : List Blk
  v : Value
  wc : List (List Value)
  hi : i ≤ ml.length
  hn : IsNet b ⟨7, 1, 0, fun _ => false, ps⟩ A
  hs : SH wb (A ++ R) wb
  hc : Cool w wb (A ++ R)
  hp : PsR (Im wb (A ++ R)) wb (sentD (ml.take i)) ps
  own : Own 59 9 v wc.length wc.flatten R
  hw : RdR (Im wb (A ++ R)) wb (wantD mb (ml.take i)) wc
theorem Cs.wlen {w : World} {b : Nat} {mb : Int} {ml : List (List D)} (x : Cs w b mb ml) : x.wc.length ≤ ml.length := by
  rw [← x.hw.length]
  refine Nat.le_trans (List.length_filter_le _ _) (Nat.le_trans (List.length_filter_le _ _) ?_)
  rw [List.length_take]
  omega
theorem Cs.plen {w : World} {b : Nat} {mb : Int} {ml : List (List D)} (x : Cs w b mb ml) : x.ps.length ≤ ml.length := by
  rw [← x.hp.length, sentD, List.length_map]
  refine Nat.le_trans (List.length_filter_le _ _) ?_
  rw [List.length_take]
  omega
def Cs.begin {w : World} {b : Nat} {mb : Int} {ml : List (List D)} {w' : World} {A : List Blk} (hn : IsNet b ⟨7, 1, 0, fun _ => false, []⟩ A) (hs : SH w' A w') (hc : Cool w w' A) : Cs w b mb ml where
  i := 0
  wb := w'
  ps := []
  A := A
  R := []
  v := .slice none 0 0
  wc := []
  hi := Nat.zero_le _
  hn := hn
  hs := by rw [List.append_nil]; exact hs
  hc := by rw [List.append_nil]; exact hc
  hp := trivial
  own := Own.nil _ _
  hw := trivial
/-- one more message -/
def Cs.next {w : World} {b : Nat} {mb : Int} {ml : List (List D)} (x : Cs w b mb ml) {r : List D} (hr : ml[x.i]? = some r) {w' : World} {ps : List (Int × Msg)} {A R : List Blk} {v : Value} {wc : List (List Value)} (hn : IsNet b ⟨7, 1, 0, fun _ => false, ps⟩ A) (hs : SH w' (A ++ R) w') (hc : Cool w w' (A ++ R))
    (hp : PsR (Im w' (A ++ R)) w' (sentD (ml.take x.i) ++ (if okB r then [(1, r)] else [])) ps) (own : Own 59 9 v wc.length wc.flatten R) (hw : RdR (Im w' (A ++ R)) w' (wantD mb (ml.take x.i) ++ (if okB r && keepB mb r then [r] else [])) wc) : Cs w b mb ml where
  i := x.i + 1
  wb := w'
  ps := ps
  A := A
  R := R
  v := v
  wc := wc
  hi := (List.getElem?_eq_some_iff.1 hr).1
  hn := hn
  hs := hs
  hc := hc
  hp := by
    have : sentD (ml.take (x.i + 1)) = sentD (ml.take x.i) ++ (if okB r then [(1, r)] else []) := by
      rw [snocD hr]
      cases h : okB r <;> simp [sentD, h]
    rw [this]; exact hp
  own := own
  hw := by
    have : wantD mb (ml.take (x.i + 1)) = wantD mb (ml.take x.i) ++ (if okB r && keepB mb r then [r] else []) := by
      rw [snocD hr]
      cases h : okB r <;> cases h' : keepB mb r <;> simp [wantD, h, h']
    rw [this]; exact hw
theorem SH.staysR {wb w1 : World} {X A : List Blk} (h1 : SH wb (A ++ X) w1) : Stays (Im wb (A ++ X)) wb (Im w1 A) w1 :=
  ⟨h1.size, fun k _ hk => ⟨Nat.lt_of_lt_of_le hk.1 h1.size, fun x hx => hk.2 x (List.mem_append_left _ hx)⟩, fun k _ hk => h1.still hk⟩
theorem SH.framedR {wb w1 w2 : World} {X A A' : List Blk} (h1 : SH wb (A ++ X) w1) (hs : SH w2 A' w2) (ht : Tr w1 A w2 A') : SH w2 (A' ++ X) w2 ∧ Tr wb (A ++ X) w2 (A' ++ X) ∧ Stays (Nw w1.heap.size w2 A') w2 (Im w2 (A' ++ X)) w2 := by
  have hf := SH.frame h1 hs ht
  refine ⟨hf.1, hf.2, ⟨Nat.le_refl _, fun k hk h => ⟨hk, fun x hx => ?_⟩, fun _ _ _ => rfl⟩⟩
  rcases List.mem_append.1 hx with hx | hx
  · exact h.2.2 x hx
  · have h2 := h1.lt (List.mem_append_right _ hx)
    have h3 := h.1
    omega
/-- all that is in the base is still there -/
theorem SH.whole {wb w1 : World} {L : List Blk} {S : Nat → Prop} (h : SH wb L wb) (h1 : SH wb L w1) : Stays S wb S w1 :=
  ⟨h1.size, fun _ _ h => h, fun k hk _ => by
    by_cases hx : ∃ x ∈ L, x.b = k
    · obtain ⟨x, hx, rfl⟩ := hx
      rw [h1.blk x hx, h.blk x hx]
    · exact h1.kept k hk (fun x hx' e => hx ⟨x, hx', e⟩)⟩
theorem sent_ok {N : NetS} {r : List D} (h1 : N.size = 7) (h2 : N.now + N.delay = 1) (h3 : N.cut = fun _ => false) : addD N r = if okB r then [(1, r)] else [] := by
  unfold addD okB cutD
  rw [h1, h2, h3]
  simp
theorem SH.begun {w : World} {A : List Blk} (h : SH w A w) : SH w (A ++ []) w := by rw [List.append_nil]; exact h
theorem fitR_sub {ks : List K} : ∀ {l m : List (List D)}, FitR sh by_ m ks → (∀ r ∈ l, r ∈ m) → FitR sh by_ l ks
  | [], m, h, _ => by rw [FitR]; trivial
  | r :: l, m, h, hs => by
    rw [FitR]
    exact ⟨h.mem (hs r (List.mem_cons_self ..)), fitR_sub h (fun y hy => hs y (List.mem_cons_of_mem _ hy))⟩
theorem netClear_walk (ml : List (List D)) (a0 : Option Addr) (c0 : Nat) (mb : Int) (w : World) (S : Nat → Prop) (rd0 : Rd S w (.sl ml) (.slice a0 ml.length c0)) (fR0 : FitR sh by_ ml (sh 14)) (hz : ∀ r ∈ ml, (encL r).size ≤ 9223372036854775807) :
    Calls Try.prog 7 #[.slice a0 ml.length c0, .int .i64 mb] w fun e w' => e = .returned (.bool true) ∧ Below w.heap.size w w' := by
  refine Sx.enter (l := [.slice a0 ml.length c0, .int .i64 mb]) Try.func7 rfl (n := 74) rfl (by simp) ?_
  refine wc_eq (S := SH w []) (SH.refl _) ?_
  refine wc_seq ?_
  refine wc_region ?_
  refine wl_go 1 [(4, .bool false)] (by kernel_rfl) ?_
  refine nx_list ?_
  refine nx_then ?_
  refine wc_seq ?_
  refine wc_seq ?_
  refine wc_region ?_
  refine wl_go 3 [(11, .bool (decide ((ml.length : Int) > 60))), (10, .int .i64 (ml.length : Int)), (9, .slice a0 ml.length c0)] (by kernel_rfl) ?_
  refine nx_list ?_
  refine nx_then ?_
  refine wc_cond (decide ((ml.length : Int) > 60)) (by kernel_rfl) (by kernel_rfl) (fun h60 => ?_) (fun h60 => ?_)
  · skip
    refine wc_seq ?_
    refine wc_region ?_
    refine wl_callK shK (d := 12) (v := .bool true) (by kernel_rfl) (by kernel_rfl) (fun w1 h1 => awake_ok w1) ?_
    refine wl_go 1 [(4, .bool true)] (by kernel_rfl) ?_
    refine nx_list ?_
    refine nx_then ?_
    refine nx_ret ?_
    refine nx_then_ret ?_
    refine ret_tmp (v := .bool true) rfl (by kernel_rfl) ?_
    intro w' hw'
    exact ⟨rfl, (Cool.sh (Cool.nil w) hw').1⟩
  · skip
    have hml : ml.length ≤ 60 := by simp at h60; omega
    refine nx_skip ?_
    refine nx_then ?_
    refine wc_seq ?_
    refine wc_region ?_
    refine wl_callB (X := Nat × List Blk) (d := 14) (fun x => .tuple #[.pointer (some ⟨x.1, 0, none⟩), .int .i64 0]) (fun wa y wz => IsNet y.1 ⟨7, 1, 0, fun _ => false, []⟩ y.2 ∧ SH wz y.2 wz ∧ Tr wa [] wz y.2 ∧ wa.heap.size ≤ y.1) (by kernel_rfl) (by kernel_rfl) (fun w1 h1 => (new_ok 7 1 w1 (by decide) (by decide) (by decide) (by decide)).mono (fun e w' ⟨b, A, he, h⟩ => ⟨(b, A), he, h⟩)) ?_
    rintro w1 ⟨b, A0⟩ w0 h1 ⟨hn0, hs0, ht0, _⟩
    have hc0 : Cool w w0 A0 := ((Cool.nil w).sh h1).step ht0
    refine wl_eq (S := SH w0 (([] : List Blk) ++ A0)) hs0 ?_
    refine wl_go 5 [(6, .int .i64 0), (5, .pointer (some ⟨b, 0, none⟩)), (16, .int .i64 0), (15, .pointer (some ⟨b, 0, none⟩)), (13, .tuple #[.pointer (some ⟨b, 0, none⟩), .int .i64 0])] (by kernel_rfl) ?_
    refine nx_list ?_
    refine nx_then ?_
    refine wc_seq ?_
    refine wc_seq ?_
    refine wc_region ?_
    refine wl_go 2 [(18, .bool false), (17, .int .i64 0)] (by kernel_rfl) ?_
    refine nx_list ?_
    refine nx_then ?_
    refine wc_cond false (by kernel_rfl) (by kernel_rfl) (fun h => by cases h) (fun _ => ?_)
    refine nx_skip ?_
    refine nx_then ?_
    refine wc_seq ?_
    refine wc_region ?_
    refine wl_go 1 [(7, .slice none 0 0)] (by kernel_rfl) ?_
    refine nx_list ?_
    refine nx_then ?_
    refine wc_seq ?_
    refine wc_seq ?_
    refine wc_region ?_
    refine wl_go 3 [(21, .int .i64 0), (20, .int .i64 (ml.length : Int)), (19, .slice a0 ml.length c0)] (by kernel_rfl) ?_
    refine nx_list ?_
    refine nx_then ?_
    refine wc_block ?_
    refine wc_loop (σ := Cs w b mb ml) (fun x => [(0, .slice a0 ml.length c0), (1, .int .i64 mb), (5, .pointer (some ⟨b, 0, none⟩)), (7, x.v), (20, .int .i64 (ml.length : Int)), (21, .int .i64 (x.i : Int))]) (fun x => SH x.wb ((([] : List Blk) ++ x.A) ++ x.R)) (fun x => ml.length - x.i) (fun w3 h3 => ⟨Cs.begin hn0 (SH.here h3) (hc0.sh h3), SH.begun (SH.here h3), (subEnv_cons (by kernel_rfl) (subEnv_cons (by kernel_rfl) (subEnv_cons (by kernel_rfl) (subEnv_cons (by kernel_rfl) (subEnv_cons (by kernel_rfl) (subEnv_cons (by kernel_rfl) (subEnv_nil _)))))))⟩) (fun x => ?_)
    have hxi := x.hi
    have hwl := x.wlen
    have hpl := x.plen
    refine wc_seq ?_
    refine wc_region ?_
    refine wl_go 1 [(22, .bool (decide ((x.i : Int) < (ml.length : Int))))] (by kernel_rfl) ?_
    refine nx_list ?_
    refine nx_then ?_
    refine wc_seq ?_
    refine wc_cond (decide ((x.i : Int) < (ml.length : Int))) (by kernel_rfl) (by kernel_rfl) (fun hcl => ?_) (fun hcl => ?_)
    · skip
      have hlt : x.i < ml.length := by simpa using hcl
      obtain ⟨r, hrow⟩ : ∃ r, ml[x.i]? = some r := ⟨_, List.getElem?_eq_getElem hlt⟩
      obtain ⟨g, o, c, rfl, hI, h_c, l_c, hg⟩ := Rd.row_at (es := 9) (rd0.stays x.hc.stays) (fun r hr => fR0.length r hr) hrow
      have hmem := List.mem_of_getElem? hrow
      have hfr := fR0.mem hmem
      obtain ⟨fr, to, kind, term, index, last, commit, rows, ok, ents, rfl, rfl, hents, fR, hby⟩ := msg_open h_c hfr
      refine nx_skip ?_
      refine nx_then ?_
      refine wc_seq ?_
      refine wc_block ?_
      refine wc_seq ?_
      refine wc_region ?_
      refine wl_go 2 [(8, .int .i64 (x.i : Int)), (23, .int .i64 (x.i : Int))] (by kernel_rfl) ?_
      refine nx_list ?_
      refine nx_then ?_
      refine wc_seq ?_
      refine wc_region ?_
      refine wl_go 3 [(26, .int .i64 (x.i : Int)), (25, .slice (some ⟨g, o, none⟩) ml.length c0), (24, .pointer (some ⟨b, 0, none⟩))] (by kernel_rfl) ?_
      refine wl_yl (d := 27) (v := .pointer (some ⟨g, o + x.i * 9, none⟩)) (by kernel_rfl) (yl_index (E := 59) (b := g) (off := o) (len := ml.length) (cap := c0) (k := x.i) (es := 9) rfl (by kernel_rfl) (by kernel_rfl) (by kernel_rfl) (by omega)) ?_
      refine wl_yl (d := 28) (v := .agg #[.int .i64 fr, .int .i64 to, .int .i64 kind, .int .i64 term, .int .i64 index, .int .i64 last, .int .i64 commit, ents, .bool ok]) (by kernel_rfl) (yl_loads_im (b := g) (off := o + x.i * 9) (cs := [.int .i64 fr, .int .i64 to, .int .i64 kind, .int .i64 term, .int .i64 index, .int .i64 last, .int .i64 commit, ents, .bool ok]) rfl (by kernel_rfl) hI (by kernel_rfl) hg) ?_
      have e1 : frD [.int fr, .int to, .int kind, .int term, .int index, .int last, .int commit, .sl rows, .bool ok] = fr := rfl
      have e2 : toD [.int fr, .int to, .int kind, .int term, .int index, .int last, .int commit, .sl rows, .bool ok] = to := rfl
      obtain ⟨er, her⟩ : ∃ er : Int, er = (if pairB 7 fr to = true then 0 else 1) := ⟨_, rfl⟩
      refine wl_callB (X := List Blk × List (Int × Msg)) (d := 29) (fun _ => .int .i64 er) (fun wa y wz => IsNet b ⟨7, 1, 0, fun _ => false, (x.ps ++ y.2)⟩ y.1 ∧ SH wz y.1 wz ∧ Tr wa x.A wz y.1 ∧ PsR (Nw wa.heap.size wz y.1) wz (addD ⟨7, 1, 0, fun _ => false, x.ps⟩ [.int fr, .int to, .int kind, .int term, .int index, .int last, .int commit, .sl rows, .bool ok]) y.2) (by kernel_rfl) (by kernel_rfl) (fun w1 h1 => (send_d b _ x.A [.int fr, .int to, .int kind, .int term, .int index, .int last, .int commit, .sl rows, .bool ok] _ w1 (SH.part h1) x.hn (by simp) (h_c.stays (SH.staysR h1)) hfr (by simp) (by simp) (by simp) (by simp) (by simp only; omega)).mono (fun e w' ⟨A', add, he, h⟩ => ⟨(A', add), by rw [her]; exact he, h⟩)) ?_
      rintro wa ⟨A2, add⟩ w2 h1 ⟨hn2, hs, ht, hadd⟩
      obtain ⟨hs2, ht2, hst⟩ := SH.framedR h1 hs ht
      have hc2 := x.hc.step ht2
      rw [sent_ok rfl rfl rfl] at hadd
      have hp2 := (x.hp.stays ht2.stays).app (hadd.stays hst)
      have hw2 := x.hw.stays ht2.stays
      have hg := Tr.range ht2 hI hg
      have rc2 := RdL.stays ht2.stays h_c
      have hI := ht2.im _ hI
      refine wl_eq (S := SH w2 ((([] : List Blk) ++ A2) ++ x.R)) hs2 ?_
      refine wl_go 2 [(31, .bool (er == 0)), (30, .bool (er == 0))] (by kernel_rfl) ?_
      cases hce : (er == 0)
      · skip
        have hnot : pairB 7 fr to = false := by
          cases hq : pairB 7 fr to
          · rfl
          · rw [hq] at her; rw [her] at hce; simp at hce
        refine wl_go 17 [(48, .bool false), (47, undef), (46, undef), (45, undef), (44, undef), (43, undef), (42, undef), (41, undef), (40, .bool false), (39, .bool false), (38, undef), (37, undef), (36, undef), (35, undef), (34, undef), (33, undef), (32, undef)] (by kernel_rfl) ?_
        refine nx_list ?_
        refine nx_then ?_
        refine wc_cond false (by kernel_rfl) (by kernel_rfl) (fun h => by cases h) (fun _ => ?_)
        refine nx_skip ?_
        refine nx_block ?_
        refine nx_then ?_
        refine wc_region ?_
        refine wl_yl (d := 56) (v := .int .i64 ((x.i : Int) + 1)) (by kernel_rfl) (yl_int (t := (x.i : Int) + 1) (r := (x.i : Int) + 1) (by kernel_rfl) (i64w (by omega) (by omega))) ?_
        refine wl_go 1 [(21, .int .i64 ((x.i : Int) + 1))] (by kernel_rfl) ?_
        refine nx_list ?_
        refine nx_round_w (fun w9 h9 => ?_)
        have ht9 : Tr w2 (A2 ++ x.R) w9 (A2 ++ x.R) := SH.trHere h9
        exact ⟨x.next hrow (v := x.v) (wc := x.wc) hn2 (SH.here h9) (hc2.step ht9) (by have h := hp2.stays ht9.stays; simpa only [okB, e1, e2] using h) x.own (by have h := hw2.stays ht9.stays; have e3 : (okB [.int fr, .int to, .int kind, .int term, .int index, .int last, .int commit, .sl rows, .bool ok] && keepB mb [.int fr, .int to, .int kind, .int term, .int index, .int last, .int commit, .sl rows, .bool ok]) = false := (by simp only [okB, keepB, e1, e2]; rw [hnot]; rfl); rw [e3]; simpa using h), (show ml.length - (x.i + 1) < ml.length - x.i by omega), (subEnv_cons (by kernel_rfl) (subEnv_cons (by kernel_rfl) (subEnv_cons (by kernel_rfl) (subEnv_cons (by kernel_rfl) (subEnv_cons (by kernel_rfl) (subEnv_cons (by kernel_rfl) (subEnv_nil _))))))), SH.here h9⟩
      · skip
        have hyes : pairB 7 fr to = true := by
          cases hq : pairB 7 fr to
          · rw [hq] at her; rw [her] at hce; simp at hce
          · rfl
        refine wl_go 2 [(33, .int .i64 (x.i : Int)), (32, .slice (some ⟨g, o, none⟩) ml.length c0)] (by kernel_rfl) ?_
        refine wl_yl (d := 34) (v := .pointer (some ⟨g, o + x.i * 9, none⟩)) (by kernel_rfl) (yl_index (E := 59) (b := g) (off := o) (len := ml.length) (cap := c0) (k := x.i) (es := 9) rfl (by kernel_rfl) (by kernel_rfl) (by kernel_rfl) (by omega)) ?_
        refine wl_go 1 [(35, .pointer (some ⟨g, o + x.i * 9, none⟩))] (by kernel_rfl) ?_
        refine wl_yl (d := 36) (v := .int .i64 fr) (by kernel_rfl) (yl_load_im (b := g) (off := o + x.i * 9) rfl (by kernel_rfl) hI (by kernel_rfl) (by have := hg 0 _ rfl; simpa using this)) ?_
        refine wl_go 4 [(40, .bool (fr != mb)), (39, .bool (fr != mb)), (38, .bool (fr != mb)), (37, .int .i64 mb)] (by kernel_rfl) ?_
        cases hcf : (fr != mb)
        · skip
          refine wl_go 8 [(48, .bool false), (47, undef), (46, undef), (45, undef), (44, undef), (43, undef), (42, undef), (41, undef)] (by kernel_rfl) ?_
          refine nx_list ?_
          refine nx_then ?_
          refine wc_cond false (by kernel_rfl) (by kernel_rfl) (fun h => by cases h) (fun _ => ?_)
          refine nx_skip ?_
          refine nx_block ?_
          refine nx_then ?_
          refine wc_region ?_
          refine wl_yl (d := 56) (v := .int .i64 ((x.i : Int) + 1)) (by kernel_rfl) (yl_int (t := (x.i : Int) + 1) (r := (x.i : Int) + 1) (by kernel_rfl) (i64w (by omega) (by omega))) ?_
          refine wl_go 1 [(21, .int .i64 ((x.i : Int) + 1))] (by kernel_rfl) ?_
          refine nx_list ?_
          refine nx_round_w (fun w9 h9 => ?_)
          have ht9 : Tr w2 (A2 ++ x.R) w9 (A2 ++ x.R) := SH.trHere h9
          exact ⟨x.next hrow (v := x.v) (wc := x.wc) hn2 (SH.here h9) (hc2.step ht9) (by have h := hp2.stays ht9.stays; simpa only [okB, e1, e2] using h) x.own (by have h := hw2.stays ht9.stays; have e3 : (okB [.int fr, .int to, .int kind, .int term, .int index, .int last, .int commit, .sl rows, .bool ok] && keepB mb [.int fr, .int to, .int kind, .int term, .int index, .int last, .int commit, .sl rows, .bool ok]) = false := (by simp only [okB, keepB, e1, e2]; rw [hcf]; simp); rw [e3]; simpa using h), (show ml.length - (x.i + 1) < ml.length - x.i by omega), (subEnv_cons (by kernel_rfl) (subEnv_cons (by kernel_rfl) (subEnv_cons (by kernel_rfl) (subEnv_cons (by kernel_rfl) (subEnv_cons (by kernel_rfl) (subEnv_cons (by kernel_rfl) (subEnv_nil _))))))), SH.here h9⟩
        · skip
          refine wl_go 2 [(42, .int .i64 (x.i : Int)), (41, .slice (some ⟨g, o, none⟩) ml.length c0)] (by kernel_rfl) ?_
          refine wl_yl (d := 43) (v := .pointer (some ⟨g, o + x.i * 9, none⟩)) (by kernel_rfl) (yl_index (E := 59) (b := g) (off := o) (len := ml.length) (cap := c0) (k := x.i) (es := 9) rfl (by kernel_rfl) (by kernel_rfl) (by kernel_rfl) (by omega)) ?_
          refine wl_go 1 [(44, .pointer (some ⟨g, o + x.i * 9 + 1, none⟩))] (by kernel_rfl) ?_
          refine wl_yl (d := 45) (v := .int .i64 to) (by kernel_rfl) (yl_load_im (b := g) (off := o + x.i * 9 + 1) rfl (by kernel_rfl) hI (by kernel_rfl) (by have := hg 1 _ rfl; simpa using this)) ?_
          refine wl_go 3 [(48, .bool (to != mb)), (47, .bool (to != mb)), (46, .int .i64 mb)] (by kernel_rfl) ?_
          refine nx_list ?_
          refine nx_then ?_
          refine wc_cond (to != mb) (by kernel_rfl) (by kernel_rfl) (fun hct => ?_) (fun hct => ?_)
          · skip
            refine wc_region ?_
            refine wl_go 3 [(51, .int .i64 (x.i : Int)), (50, .slice (some ⟨g, o, none⟩) ml.length c0), (49, x.v)] (by kernel_rfl) ?_
            refine wl_yl (d := 52) (v := .pointer (some ⟨g, o + x.i * 9, none⟩)) (by kernel_rfl) (yl_index (E := 59) (b := g) (off := o) (len := ml.length) (cap := c0) (k := x.i) (es := 9) rfl (by kernel_rfl) (by kernel_rfl) (by kernel_rfl) (by omega)) ?_
            refine wl_yl (d := 53) (v := .agg #[.int .i64 fr, .int .i64 to, .int .i64 kind, .int .i64 term, .int .i64 index, .int .i64 last, .int .i64 commit, ents, .bool ok]) (by kernel_rfl) (yl_loads_im (b := g) (off := o + x.i * 9) (cs := [.int .i64 fr, .int .i64 to, .int .i64 kind, .int .i64 term, .int .i64 index, .int .i64 last, .int .i64 commit, ents, .bool ok]) rfl (by kernel_rfl) hI (by kernel_rfl) hg) ?_
            refine wl_new (d := 54) #[.int .i64 fr, .int .i64 to, .int .i64 kind, .int .i64 term, .int .i64 index, .int .i64 last, .int .i64 commit, ents, .bool ok] 59 (fun r => .slice (some ⟨r, 0, none⟩) 1 1) (by kernel_rfl) (fun r => by kernel_rfl) ?_
            intro r1 hr1
            have im1 := im_more (c := #[.int .i64 fr, .int .i64 to, .int .i64 kind, .int .i64 term, .int .i64 index, .int .i64 last, .int .i64 commit, ents, .bool ok]) (t := 59) (L := A2 ++ x.R) hr1
            have hp3 := hp2.stays im1
            have hw3 := hw2.stays im1
            have rc3 := RdL.stays im1 rc2
            have hc3 : Cool w w2 (⟨r1, #[.int .i64 fr, .int .i64 to, .int .i64 kind, .int .i64 term, .int .i64 index, .int .i64 last, .int .i64 commit, ents, .bool ok], 59⟩ :: (A2 ++ x.R)) := ⟨hc2.1, fun y hy => by
              rcases List.mem_cons.1 hy with rfl | hy
              · exact Nat.le_trans hc2.1.size hr1
              · exact hc2.2 y hy⟩
            refine wl_append' (L := ([⟨r1, #[.int .i64 fr, .int .i64 to, .int .i64 kind, .int .i64 term, .int .i64 index, .int .i64 last, .int .i64 commit, ents, .bool ok], 59⟩] : List Blk) ++ A2) (R := x.R) (d := 55) 59 (.agg #[.int .i64 0, .int .i64 0, .int .i64 0, .int .i64 0, .int .i64 0, .int .i64 0, .int .i64 0, .slice none 0 0, .bool false]) 9 88 (v := x.v) (k := x.wc.length) (xs := x.wc.flatten) (a := ⟨r1, 0, none⟩) (m := 1) (c := 1) [.int .i64 fr, .int .i64 to, .int .i64 kind, .int .i64 term, .int .i64 index, .int .i64 last, .int .i64 commit, ents, .bool ok] (by kernel_rfl) rfl (by kernel_rfl) rfl (by decide) (by kernel_rfl) x.own (by kernel_rfl) rfl (fun w3 h3 => h3.news 0 rfl) ?_ ?_ ?_ ?_
            · exact h_c.oneCell
            · simp only [maxLen]; omega
            · omega
            intro w3 v3 R3 hown2 hT
            have hp3 := hp3.stays hT.stays
            have hw3 := hw3.stays hT.stays
            have rc3 := RdL.stays hT.stays rc3
            have hc3 := hc3.step hT
            refine wl_go 1 [(7, v3)] (by kernel_rfl) ?_
            refine nx_list ?_
            refine nx_block ?_
            refine nx_then ?_
            refine wc_region ?_
            refine wl_yl (d := 56) (v := .int .i64 ((x.i : Int) + 1)) (by kernel_rfl) (yl_int (t := (x.i : Int) + 1) (r := (x.i : Int) + 1) (by kernel_rfl) (i64w (by omega) (by omega))) ?_
            refine wl_go 1 [(21, .int .i64 ((x.i : Int) + 1))] (by kernel_rfl) ?_
            refine nx_list ?_
            refine nx_round_w (fun w9 h9 => ?_)
            have ht9 : Tr w3 (([⟨r1, #[.int .i64 fr, .int .i64 to, .int .i64 kind, .int .i64 term, .int .i64 index, .int .i64 last, .int .i64 commit, ents, .bool ok], 59⟩] ++ A2) ++ R3) w9 (A2 ++ R3) := Tr.drop1 (SH.trHere h9)
            have hs9 : SH w9 (A2 ++ R3) w9 := SH.drop1 h9
            exact ⟨x.next hrow (v := v3) (wc := x.wc ++ [[.int .i64 fr, .int .i64 to, .int .i64 kind, .int .i64 term, .int .i64 index, .int .i64 last, .int .i64 commit, ents, .bool ok]]) hn2 hs9 (hc3.step ht9) (hp3.stays ht9.stays) (by rw [List.length_append, List.flatten_append]; simpa using hown2) (by have h := (hw3.stays ht9.stays).app (a := wantD mb (ml.take x.i)) (b := [[.int fr, .int to, .int kind, .int term, .int index, .int last, .int commit, .sl rows, .bool ok]]) (v := [[.int .i64 fr, .int .i64 to, .int .i64 kind, .int .i64 term, .int .i64 index, .int .i64 last, .int .i64 commit, ents, .bool ok]]) ⟨hc3.2 |> fun _ => (rc3.stays ht9.stays), trivial⟩; rw [show (okB [.int fr, .int to, .int kind, .int term, .int index, .int last, .int commit, .sl rows, .bool ok] && keepB mb [.int fr, .int to, .int kind, .int term, .int index, .int last, .int commit, .sl rows, .bool ok]) = true by simp only [okB, keepB, e1, e2]; rw [hyes, hcf, hct]; rfl]; exact h), (show ml.length - (x.i + 1) < ml.length - x.i by omega), (subEnv_cons (by kernel_rfl) (subEnv_cons (by kernel_rfl) (subEnv_cons (by kernel_rfl) (subEnv_cons (by kernel_rfl) (subEnv_cons (by kernel_rfl) (subEnv_cons (by kernel_rfl) (subEnv_nil _))))))), hs9⟩
          · skip
            refine nx_skip ?_
            refine nx_block ?_
            refine nx_then ?_
            refine wc_region ?_
            refine wl_yl (d := 56) (v := .int .i64 ((x.i : Int) + 1)) (by kernel_rfl) (yl_int (t := (x.i : Int) + 1) (r := (x.i : Int) + 1) (by kernel_rfl) (i64w (by omega) (by omega))) ?_
            refine wl_go 1 [(21, .int .i64 ((x.i : Int) + 1))] (by kernel_rfl) ?_
            refine nx_list ?_
            refine nx_round_w (fun w9 h9 => ?_)
            have ht9 : Tr w2 (A2 ++ x.R) w9 (A2 ++ x.R) := SH.trHere h9
            exact ⟨x.next hrow (v := x.v) (wc := x.wc) hn2 (SH.here h9) (hc2.step ht9) (by have h := hp2.stays ht9.stays; simpa only [okB, e1, e2] using h) x.own (by have h := hw2.stays ht9.stays; have e3 : (okB [.int fr, .int to, .int kind, .int term, .int index, .int last, .int commit, .sl rows, .bool ok] && keepB mb [.int fr, .int to, .int kind, .int term, .int index, .int last, .int commit, .sl rows, .bool ok]) = false := (by simp only [okB, keepB, e1, e2]; rw [hct]; simp); rw [e3]; simpa using h), (show ml.length - (x.i + 1) < ml.length - x.i by omega), (subEnv_cons (by kernel_rfl) (subEnv_cons (by kernel_rfl) (subEnv_cons (by kernel_rfl) (subEnv_cons (by kernel_rfl) (subEnv_cons (by kernel_rfl) (subEnv_cons (by kernel_rfl) (subEnv_nil _))))))), SH.here h9⟩
    · skip
      have hge : ml.length ≤ x.i := by simpa using hcl
      have et : ml.take x.i = ml := List.take_of_length_le hge
      obtain ⟨av, cv, hv⟩ := x.own.val
      rw [hv]
      have hp9 := x.hp
      have hw9 := x.hw
      rw [et] at hp9 hw9
      refine nx_exit ?_
      refine nx_then_exit ?_
      refine nx_then_exit ?_
      refine nx_block_here ?_
      refine nx_then ?_
      refine wc_seq ?_
      refine wc_region ?_
      refine wl_go 2 [(58, .int .i64 mb), (57, .pointer (some ⟨b, 0, none⟩))] (by kernel_rfl) ?_
      refine wl_callB (X := List Blk) (d := 59) (fun _ => .tuple #[]) (fun wa y wz => IsNet b ⟨7, 1, 0, fun _ => false, (clearP mb x.ps)⟩ y ∧ SH wz y wz ∧ Tr wa x.A wz y) (by kernel_rfl) (by kernel_rfl) (fun w1 h1 => (clear_ok b _ x.A mb w1 (SH.part h1) x.hn x.hp.ok (by simp only; omega)).mono (fun e w' ⟨A', he, h⟩ => ⟨A', he, h⟩)) ?_
      rintro wa A4 w4 h1 ⟨hn4, hs, ht⟩
      obtain ⟨hs4, ht4, _⟩ := SH.framedR h1 hs ht
      have hc4 := x.hc.step ht4
      have hp4 := (hp9.clear mb).stays ht4.stays
      have hw4 := hw9.stays ht4.stays
      have hlen : (clearP mb x.ps).length = x.wc.length := by
        rw [← hp4.length, ← hw4.length, ← want_eq, dlvrD, List.length_map]
        congr 1
        exact (List.filter_eq_self.2 (fun y hy => by
          have := (List.mem_filter.1 hy).1
          obtain ⟨r, _, rfl⟩ := List.mem_map.1 this
          simp [cutD])).symm
      refine wl_eq (S := SH w4 ((([] : List Blk) ++ A4) ++ x.R)) hs4 ?_
      refine nx_list ?_
      refine nx_then ?_
      refine wc_seq ?_
      refine wc_region ?_
      refine wl_go 1 [(60, .pointer (some ⟨b, 0, none⟩))] (by kernel_rfl) ?_
      refine wl_callS (d := 61) (v := .int .i64 (x.wc.length : Int)) (by kernel_rfl) (by kernel_rfl) (fun w1 h1 => by rw [← hlen]; exact len_ok b _ A4 w1 (SH.part h1) hn4) ?_
      refine wl_go 3 [(64, .bool ((x.wc.length : Int) == (x.wc.length : Int))), (63, .int .i64 (x.wc.length : Int)), (62, .slice av x.wc.length cv)] (by kernel_rfl) ?_
      rw [show ((x.wc.length : Int) == (x.wc.length : Int)) = true from by simp]
      refine wl_go 2 [(66, .pointer (some ⟨b, 0, none⟩)), (65, .bool true)] (by kernel_rfl) ?_
      refine wl_callB (X := Value × List Blk) (d := 67) (fun x => x.1) (fun wa y wz => IsNet b ⟨7, 1, 0 + 1, fun _ => false, keepP (0 + 1) (clearP mb x.ps)⟩ y.2 ∧ SH wz y.2 wz ∧ Tr wa A4 wz y.2 ∧ Rd (Im wz y.2) wz (.sl (wantD mb ml)) y.1) (by kernel_rfl) (by kernel_rfl) (fun w1 h1 => (tick_d b _ A4 _ w1 (SH.part h1) hn4 (hp4.stays (SH.staysR h1)) (by simp) (by simp) (by simp only; omega)).mono (fun e w' ⟨v, A', he, h1, h2, h3, h4⟩ => ⟨(v, A'), he, h1, h2, h3, by rw [← want_eq]; exact h4⟩)) ?_
      rintro wa ⟨vt, A5⟩ w5 h1 ⟨hn5, hs, ht, hvt⟩
      obtain ⟨hs5, ht5, _⟩ := SH.framedR h1 hs ht
      have hc5 := hc4.step ht5
      have hw5 := hw4.stays ht5.stays
      obtain ⟨at5, ct5, rfl⟩ := hvt.slv
      have hwl5 : (wantD mb ml).length = x.wc.length := hw5.length
      have own5 := x.own
      rw [hv, ← hwl5] at own5
      have hwant : Rd (Im w5 A5) w5 (.sl (wantD mb ml)) (.slice av (wantD mb ml).length cv) := own_rd own5 hs5 (hw5.stays (SH.staysR hs5))
      have fRw : FitR sh by_ (wantD mb ml) (sh 14) := fitR_sub fR0 (fun r hr => (List.mem_filter.1 (List.mem_filter.1 hr).1).1)
      refine wl_eq (S := SH w5 ((([] : List Blk) ++ A5) ++ x.R)) hs5 ?_
      rw [← hwl5]
      refine wl_go 1 [(68, .slice av ((wantD mb ml).length) cv)] (by kernel_rfl) ?_
      refine wl_callK shK (d := 69) (v := .bool true) (by kernel_rfl) (by kernel_rfl) (fun w1 h1 => sameMessages_ok (wantD mb ml) fRw (by omega) (fun r hr => hz r (List.mem_filter.1 (List.mem_filter.1 hr).1).1) w1 _ _ at5 av ct5 cv (hvt.stays (SH.whole hs5 h1)) (hwant.stays (SH.whole hs5 h1))) ?_
      refine wl_go 2 [(71, .bool true), (70, .bool true)] (by kernel_rfl) ?_
      refine wl_callK shK (d := 72) (v := .bool true) (by kernel_rfl) (by kernel_rfl) (fun w1 h1 => awake_ok w1) ?_
      refine wl_go 2 [(4, .bool true), (73, .bool true)] (by kernel_rfl) ?_
      refine nx_list ?_
      refine nx_then ?_
      refine nx_ret ?_
      refine ret_tmp (v := .bool true) rfl (by kernel_rfl) ?_
      intro w' hw'
      exact ⟨rfl, (Cool.sh hc5 hw').1⟩

end Go.Proofs.Ytidkaipijocjcaa
