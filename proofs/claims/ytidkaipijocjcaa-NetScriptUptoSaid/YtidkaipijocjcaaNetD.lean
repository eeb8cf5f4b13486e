/- Networks whose messages read as data: contracts of package net in terms of data. No statement is proved here. -/
import Derived.Test.YtidkaipijocjcaaNetMsg
import Derived.Test.YtidkaipijocjcaaNetAwake
namespace Go.Proofs.Ytidkaipijocjcaa
open Go.Sx Go.RowKit
set_option linter.unusedVariables false
set_option linter.unusedSimpArgs false
def intD : Option D → Int
  | some (.int n) => n
  | _ => 0
def frD (r : List D) : Int := intD r[0]?
def toD (r : List D) : Int := intD r[1]?
/-- messages on the way, read as data -/
def PsR (S : Nat → Prop) (w : World) : List (Int × List D) → List (Int × Msg) → Prop
  | [], [] => True
  | x :: xs, p :: ps => (x.1 = p.1 ∧ RdL S w x.2 p.2.cells ∧ okP p) ∧ PsR S w xs ps
  | _, _ => False
theorem PsR.stays {S S' : Nat → Prop} {w w' : World} (h : Stays S w S' w') : ∀ {xs : List (Int × List D)} {ps : List (Int × Msg)}, PsR S w xs ps → PsR S' w' xs ps
  | [], [], _ => trivial
  | _ :: _, _ :: _, hr => ⟨⟨hr.1.1, hr.1.2.1.stays h, hr.1.2.2⟩, PsR.stays h hr.2⟩
  | [], _ :: _, hr => hr.elim
  | _ :: _, [], hr => hr.elim
theorem PsR.app {S : Nat → Prop} {w : World} : ∀ {a b : List (Int × List D)} {u v : List (Int × Msg)}, PsR S w a u → PsR S w b v → PsR S w (a ++ b) (u ++ v)
  | [], _, [], _, _, h => h
  | _ :: _, _, _ :: _, _, h, h' => ⟨h.1, PsR.app h.2 h'⟩
  | [], _, _ :: _, _, h, _ => h.elim
  | _ :: _, _, [], _, h, _ => h.elim
theorem PsR.length {S : Nat → Prop} {w : World} : ∀ {a : List (Int × List D)} {u : List (Int × Msg)}, PsR S w a u → a.length = u.length
  | [], [], _ => rfl
  | _ :: _, _ :: _, h => by simp [PsR.length h.2]
  | [], _ :: _, h => h.elim
  | _ :: _, [], h => h.elim
theorem PsR.ok {S : Nat → Prop} {w : World} : ∀ {a : List (Int × List D)} {u : List (Int × Msg)}, PsR S w a u → ∀ p ∈ u, okP p
  | [], [], _ => by simp
  | _ :: _, _ :: _, h => fun p hp => by
    rcases List.mem_cons.1 hp with rfl | hp
    · exact h.1.2.2
    · exact PsR.ok h.2 p hp
  | [], _ :: _, h => h.elim
  | _ :: _, [], h => h.elim
theorem PsR.rows {S : Nat → Prop} {w : World} : ∀ {a : List (Int × List D)} {u : List (Int × Msg)}, PsR S w a u → RdR S w (a.map (·.2)) ((u.map (·.2)).map Msg.cells)
  | [], [], _ => trivial
  | _ :: _, _ :: _, h => ⟨h.1.2.1, PsR.rows h.2⟩
  | [], _ :: _, h => h.elim
  | _ :: _, [], h => h.elim
theorem intD_rd {S : Nat → Prop} {w : World} {d : D} {n : Int} (h : Rd S w d (.int .i64 n)) : intD (some d) = n := by
  cases d with
  | int m => rw [Rd] at h; cases h; rfl
  | bool b => rw [Rd] at h; cases h
  | str s => rw [Rd] at h; cases h
  | sl rows => rw [Rd] at h; obtain ⟨a, c, h, _⟩ := h; cases h
theorem fr_rd {S : Nat → Prop} {w : World} {r : List D} {m : Msg} (h : RdL S w r m.cells) : frD r = m.fr ∧ toD r = m.to := by
  unfold Msg.cells at h
  cases r with
  | nil => exact h.elim
  | cons a r =>
    cases r with
    | nil => exact h.2.elim
    | cons b r => exact ⟨intD_rd h.1, intD_rd h.2.1⟩
/-- filters that agree -/
theorem PsR.filter {S : Nat → Prop} {w : World} {f : Int × List D → Bool} {g : Int × Msg → Bool} (hfg : ∀ x p, x.1 = p.1 → frD x.2 = p.2.fr → toD x.2 = p.2.to → f x = g p) : ∀ {a : List (Int × List D)} {u : List (Int × Msg)}, PsR S w a u → PsR S w (a.filter f) (u.filter g)
  | [], [], _ => trivial
  | x :: _, p :: _, h => by
    have he := hfg x p h.1.1 (fr_rd h.1.2.1).1 (fr_rd h.1.2.1).2
    have hr := PsR.filter hfg h.2
    rw [List.filter_cons, List.filter_cons, he]
    split
    · exact ⟨h.1, hr⟩
    · exact hr
  | [], _ :: _, h => h.elim
  | _ :: _, [], h => h.elim
def cutD (cut : Nat → Bool) (r : List D) : Bool := cut ((frD r).toNat * 7 + (toD r).toNat)
def keepD (now : Int) (xs : List (Int × List D)) : List (Int × List D) := xs.filter (fun x => decide (now < x.1))
def dlvrD (now : Int) (cut : Nat → Bool) (xs : List (Int × List D)) : List (List D) := (xs.filter (fun x => !decide (now < x.1) && !cutD cut x.2)).map (·.2)
def clearD (mb : Int) (xs : List (Int × List D)) : List (Int × List D) := xs.filter (fun x => (frD x.2 != mb) && (toD x.2 != mb))
theorem PsR.keep {S : Nat → Prop} {w : World} {a : List (Int × List D)} {u : List (Int × Msg)} (now : Int) (h : PsR S w a u) : PsR S w (keepD now a) (keepP now u) :=
  h.filter (fun x p h1 _ _ => by simp only [h1])
theorem PsR.clear {S : Nat → Prop} {w : World} {a : List (Int × List D)} {u : List (Int × Msg)} (mb : Int) (h : PsR S w a u) : PsR S w (clearD mb a) (clearP mb u) :=
  h.filter (fun x p _ h2 h3 => by simp only [keepM, h2, h3])
theorem PsR.dlvr {S : Nat → Prop} {w : World} {a : List (Int × List D)} {u : List (Int × Msg)} (now : Int) (cut : Nat → Bool) (h : PsR S w a u) : RdR S w (dlvrD now cut a) ((dlvr now cut u).map Msg.cells) :=
  (h.filter (f := fun x => !decide (now < x.1) && !cutD cut x.2) (g := fun p => !decide (now < p.1) && !cutOf cut p.2) (fun x p h1 h2 h3 => by simp only [h1, cutD, cutOf, h2, h3])).rows
/-- a row in memory that reads -/
theorem RowV.rd {w : World} {L : List Blk} {v : Value} {rv : List (List Value)} {rows : List (List D)} (h : RowV w L 0 v rv) (hr : RdR (Im w L) w rows rv) : Rd (Im w L) w (.sl rows) v := by
  obtain ⟨a, cap, rfl, h⟩ := h
  rw [Rd]
  refine ⟨a, cap, by rw [hr.length], ?_⟩
  rcases h with h | ⟨g, ha, _, hI, hg⟩
  · left
    have := hr.length
    rw [h] at this
    exact List.eq_nil_of_length_eq_zero this
  · exact .inr ⟨g, 0, ha, hI, hI.1, RdRows.mk hr hg⟩
/-- nine values -/
theorem msg_open {S : Nat → Prop} {w : World} {r : List D} {c : List Value} (h : RdL S w r c) (hf : FitL sh by_ r (sh 14)) :
    ∃ fr to kind term index last commit rows ok ents, r = [.int fr, .int to, .int kind, .int term, .int index, .int last, .int commit, .sl rows, .bool ok] ∧ c = [.int .i64 fr, .int .i64 to, .int .i64 kind, .int .i64 term, .int .i64 index, .int .i64 last, .int .i64 commit, ents, .bool ok] ∧ Rd S w (.sl rows) ents ∧ FitR sh by_ rows (sh 13) ∧ rows.length * 1208 ≤ 140737488355328 := by
  obtain ⟨d0, e0, rfl, hf0, hft0⟩ := FitL.cons (k := .int) (ks := _) hf
  obtain ⟨d1, e1, rfl, hf1, hft1⟩ := FitL.cons (k := .int) (ks := _) hft0
  obtain ⟨d2, e2, rfl, hf2, hft2⟩ := FitL.cons (k := .int) (ks := _) hft1
  obtain ⟨d3, e3, rfl, hf3, hft3⟩ := FitL.cons (k := .int) (ks := _) hft2
  obtain ⟨d4, e4, rfl, hf4, hft4⟩ := FitL.cons (k := .int) (ks := _) hft3
  obtain ⟨d5, e5, rfl, hf5, hft5⟩ := FitL.cons (k := .int) (ks := _) hft4
  obtain ⟨d6, e6, rfl, hf6, hft6⟩ := FitL.cons (k := .int) (ks := _) hft5
  obtain ⟨d7, e7, rfl, hf7, hft7⟩ := FitL.cons (k := .sl 13) (ks := _) hft6
  obtain ⟨d8, e8, rfl, hf8, hft8⟩ := FitL.cons (k := .bool) (ks := _) hft7
  obtain rfl := FitL.nil hft8
  obtain ⟨n0, rfl, _⟩ := Fit.int hf0
  obtain ⟨n1, rfl, _⟩ := Fit.int hf1
  obtain ⟨n2, rfl, _⟩ := Fit.int hf2
  obtain ⟨n3, rfl, _⟩ := Fit.int hf3
  obtain ⟨n4, rfl, _⟩ := Fit.int hf4
  obtain ⟨n5, rfl, _⟩ := Fit.int hf5
  obtain ⟨n6, rfl, _⟩ := Fit.int hf6
  obtain ⟨rows, rfl, b7, fR7⟩ := Fit.sl hf7
  obtain ⟨n8, rfl⟩ := Fit.bool hf8
  obtain ⟨c0, z0, rfl, h0, h⟩ := RdL.cons h
  obtain ⟨c1, z1, rfl, h1, h⟩ := RdL.cons h
  obtain ⟨c2, z2, rfl, h2, h⟩ := RdL.cons h
  obtain ⟨c3, z3, rfl, h3, h⟩ := RdL.cons h
  obtain ⟨c4, z4, rfl, h4, h⟩ := RdL.cons h
  obtain ⟨c5, z5, rfl, h5, h⟩ := RdL.cons h
  obtain ⟨c6, z6, rfl, h6, h⟩ := RdL.cons h
  obtain ⟨c7, z7, rfl, h7, h⟩ := RdL.cons h
  obtain ⟨c8, z8, rfl, h8, h⟩ := RdL.cons h
  obtain rfl := RdL.nil h
  rw [Rd] at h0
  rw [Rd] at h1
  rw [Rd] at h2
  rw [Rd] at h3
  rw [Rd] at h4
  rw [Rd] at h5
  rw [Rd] at h6
  rw [Rd] at h8
  subst h0 h1 h2 h3 h4 h5 h6 h8
  exact ⟨n0, n1, n2, n3, n4, n5, n6, rows, n8, c7, rfl, rfl, h7, fR7, b7⟩
/-- what Send adds -/
def addD (N : NetS) (r : List D) : List (Int × List D) := if pairB N.size (frD r) (toD r) && !cutD N.cut r then [(N.now + N.delay, r)] else []
theorem send_d (b : Nat) (N : NetS) (A : List Blk) (r : List D) (c : List Value) (w : World) (hsh : SH w A w) (hnet : IsNet b N A) (h7 : N.size ≤ 7) (hrd : RdL (Im w A) w r c) (hfit : FitL sh by_ r (sh 14))
    (hn1 : 0 ≤ N.now) (hn2 : N.now ≤ 1000000) (hd1 : 0 ≤ N.delay) (hd2 : N.delay ≤ 1000000) (hps : N.ps.length ≤ 1000000) :
    Calls Try.prog 9 #[.pointer (some ⟨b, 0, none⟩), .agg c.toArray] w fun e w' => ∃ A' add, e = .returned (.int .i64 (if pairB N.size (frD r) (toD r) then 0 else 1)) ∧ IsNet b { N with ps := N.ps ++ add } A' ∧ SH w' A' w' ∧ Tr w A w' A' ∧ PsR (Nw w.heap.size w' A') w' (addD N r) add := by
  obtain ⟨fr, to, kind, term, index, last, commit, rows, ok, ents, rfl, rfl, hents, fR, hby⟩ := msg_open hrd hfit
  have e1 : frD [.int fr, .int to, .int kind, .int term, .int index, .int last, .int commit, .sl rows, .bool ok] = fr := rfl
  have e2 : toD [.int fr, .int to, .int kind, .int term, .int index, .int last, .int commit, .sl rows, .bool ok] = to := rfl
  unfold addD cutD
  rw [e1, e2]
  rcases Bool.eq_false_or_eq_true (pairB N.size fr to) with hp | hp
  rotate_left
  · simp only [hp]
    refine (send_no b N A fr to kind term index last commit ents ok w hsh hnet hp).mono (fun e w' h => ⟨A, [], by simpa using h.1, ?_, h.2.1, h.2.2, trivial⟩)
    simpa using hnet
  · simp only [hp]
    obtain ⟨i, j, rfl, rfl, hi, hj, hij⟩ := pairB_nat hp h7
    simp only [Int.toNat_natCast]
    rcases Bool.eq_false_or_eq_true (N.cut (i * 7 + j)) with hc | hc
    · simp only [hc]
      refine (send_cut b N A i j kind term index last commit ents ok w hsh hnet hp hi hj hc).mono (fun e w' h => ⟨A, [], by simpa using h.1, ?_, h.2.1, h.2.2, trivial⟩)
      simpa using hnet
    · simp only [hc]
      refine (send_yes b N A i j kind term index last commit ents ok rows w hsh hnet hp hi hj hc hents fR hby hn1 hn2 hd1 hd2 hps).mono (fun e w' ⟨A', ents', he, h1, h2, h3, h4⟩ => ⟨A', _, by simpa using he, h1, h2, h3, ⟨⟨rfl, ?_, ?_⟩, trivial⟩⟩)
      · exact ⟨by rw [Rd], by rw [Rd], by rw [Rd], by rw [Rd], by rw [Rd], by rw [Rd], by rw [Rd], h4, by rw [Rd], trivial⟩
      · obtain ⟨ea, ec, rfl⟩ := h4.slv
        exact ⟨i, j, ea, rows.length, ec, hi, hj, rfl, rfl, rfl⟩
theorem tick_d (b : Nat) (N : NetS) (A : List Blk) (xs : List (Int × List D)) (w : World) (hsh : SH w A w) (hnet : IsNet b N A) (hx : PsR (Im w A) w xs N.ps) (hn1 : 0 ≤ N.now) (hn2 : N.now ≤ 1000000) (hps : N.ps.length ≤ 1000000) :
    Calls Try.prog 10 #[.pointer (some ⟨b, 0, none⟩)] w fun e w' => ∃ v A', e = .returned v ∧ IsNet b { N with now := N.now + 1, ps := keepP (N.now + 1) N.ps } A' ∧ SH w' A' w' ∧ Tr w A w' A' ∧ Rd (Im w' A') w' (.sl (dlvrD (N.now + 1) N.cut xs)) v :=
  (tick_ok b N A w hsh hnet hx.ok hn1 hn2 hps).mono (fun e w' ⟨v, A', he, h1, h2, h3, h4⟩ => ⟨v, A', he, h1, h2, h3, RowV.rd h4 ((hx.stays h3.stays).dlvr _ _)⟩)
/-! ### frames -/
theorem SH.staysA {wb w1 : World} {X A : List Blk} (h1 : SH wb (X ++ A) w1) : Stays (Im wb (X ++ A)) wb (Im w1 A) w1 :=
  ⟨h1.size, fun k _ hk => ⟨Nat.lt_of_lt_of_le hk.1 h1.size, fun x hx => hk.2 x (List.mem_append_right _ hx)⟩, fun k _ hk => h1.still hk⟩
theorem SH.netA {wb w1 : World} {X A : List Blk} (h1 : SH wb (X ++ A) w1) : SH w1 A w1 := SH.part (SH.swap h1)
theorem SH.framed {wb w1 w2 : World} {X A A' : List Blk} (h1 : SH wb (X ++ A) w1) (hs : SH w2 A' w2) (ht : Tr w1 A w2 A') : SH w2 (X ++ A') w2 ∧ Tr wb (X ++ A) w2 (X ++ A') ∧ Stays (Nw w1.heap.size w2 A') w2 (Im w2 (X ++ A')) w2 := by
  have hf := SH.frame (SH.swap h1) hs ht
  refine ⟨SH.swap hf.1, Tr.swap hf.2, ⟨Nat.le_refl _, fun k hk h => ⟨hk, fun x hx => ?_⟩, fun _ _ _ => rfl⟩⟩
  rcases List.mem_append.1 hx with hx | hx
  · have h2 := h1.lt (List.mem_append_left _ hx)
    have h3 := h.1
    omega
  · exact h.2.2 x hx
/-- what was there when the call began is as it was, and the known blocks are new -/
def Cool (w wb : World) (L : List Blk) : Prop := Below w.heap.size w wb ∧ ∀ x ∈ L, w.heap.size ≤ x.b
theorem Cool.step {w wb w' : World} {L L' : List Blk} (h : Cool w wb L) (ht : Tr wb L w' L') : Cool w w' L' :=
  ⟨h.1.trans (ht.below h.1.size h.2), fun x hx => by
    rcases ht.new hx with h1 | ⟨y, hy, he⟩
    · exact Nat.le_trans h.1.size h1
    · rw [← he]; exact h.2 y hy⟩
theorem Cool.sh {w wb w' : World} {L : List Blk} (h : Cool w wb L) (hs : SH wb L w') : Cool w w' L := h.step hs.trHere
theorem Cool.nil (w : World) : Cool w w [] := ⟨Below.refl _ _, by simp⟩
/-- data that was there when the call began -/
theorem Cool.stays {w wb : World} {L : List Blk} {S : Nat → Prop} (h : Cool w wb L) : Stays S w (Im wb L) wb :=
  ⟨h.1.size, fun k hk _ => ⟨Nat.lt_of_lt_of_le hk h.1.size, fun x hx => by have := h.2 x hx; omega⟩, fun k hk _ => h.1.block k hk⟩
theorem Cool.call {w wb w1 w2 : World} {L : List Blk} (h : Cool w wb L) (h1 : SH wb L w1) (hb : Below w1.heap.size w1 w2) : Cool w w2 L := h.step (h1.tr hb)
theorem zD_in {r : List D} {rows : List (List D)} (h : r ∈ rows) : (encL r).size ≤ (encR rows).size := encR_mem h
end Go.Proofs.Ytidkaipijocjcaa
