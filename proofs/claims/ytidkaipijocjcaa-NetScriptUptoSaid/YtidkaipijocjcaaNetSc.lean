/- What the law NetScript keeps: the network and its specification side by side. No statement is proved here. -/
import Derived.Test.YtidkaipijocjcaaNetRefB
import Derived.Test.YtidkaipijocjcaaNetDelA
namespace Go.Proofs.Ytidkaipijocjcaa
open Go.Sx Go.RowKit
set_option linter.unusedVariables false
set_option linter.unusedSimpArgs false
def RelC (cut : Nat → Bool) (gl : List (Int × Int)) : Prop := ∀ i j : Nat, i < 7 → j < 7 → i ≠ j → cut (i * 7 + j) = inG gl (i : Int) (j : Int)
theorem isK_iff {a c : Int} {p : Int × Int} : isK a c p = true ↔ p = (mn a c, mx a c) := by
  obtain ⟨p, q⟩ := p
  simp [isK]
theorem kk_iff {i j i' j' : Nat} (hij : i ≠ j) : ((mn (i : Int) j, mx (i : Int) j) : Int × Int) = (mn (i' : Int) j', mx (i' : Int) j') ↔ (i' = i ∧ j' = j) ∨ (i' = j ∧ j' = i) := by
  simp only [Prod.mk.injEq, mn, mx]
  constructor
  · intro ⟨h1, h2⟩
    split at h1 <;> split at h1 <;> split at h2 <;> split at h2 <;> omega
  · rintro (⟨rfl, rfl⟩ | ⟨rfl, rfl⟩)
    · exact ⟨rfl, rfl⟩
    · constructor <;> (split <;> split <;> omega)
theorem inG_wo {gl : List (Int × Int)} {i j i' j' : Nat} (hij : i ≠ j) : inG (wo (i : Int) j gl) i' j' = (inG gl i' j' && !decide ((i' = i ∧ j' = j) ∨ (i' = j ∧ j' = i))) := by
  rw [Bool.eq_iff_iff]
  simp only [inG, wo, List.any_eq_true, List.mem_filter, Bool.and_eq_true, Bool.not_eq_true', decide_eq_false_iff_not]
  constructor
  · rintro ⟨p, ⟨hp, hk⟩, hk'⟩
    refine ⟨⟨p, hp, hk'⟩, fun h => ?_⟩
    rw [isK_iff] at hk'
    have : isK (i : Int) j p = true := isK_iff.2 (hk'.trans ((kk_iff hij).2 h).symm)
    rw [this] at hk
    cases hk
  · rintro ⟨⟨p, hp, hk'⟩, h⟩
    refine ⟨p, ⟨hp, ?_⟩, hk'⟩
    cases hk : isK (i : Int) j p
    · rfl
    · rw [isK_iff] at hk hk'
      exact absurd ((kk_iff hij).1 (hk.symm.trans hk')) h
theorem upd2 {cut : Nat → Bool} {i j i' j' : Nat} {x : Bool} (hi : i < 7) (hj : j < 7) (hi' : i' < 7) (hj' : j' < 7) : upd (upd cut (i * 7 + j) x) (j * 7 + i) x (i' * 7 + j') = if (i' = i ∧ j' = j) ∨ (i' = j ∧ j' = i) then x else cut (i' * 7 + j') := by
  simp only [upd]
  by_cases h : (i' = i ∧ j' = j) ∨ (i' = j ∧ j' = i)
  · rw [if_pos h]
    rcases h with ⟨rfl, rfl⟩ | ⟨rfl, rfl⟩
    · split
      · rfl
      · simp
    · simp
  · rw [if_neg h, if_neg (by omega), if_neg (by omega)]
theorem RelC.cut {cut : Nat → Bool} {gl : List (Int × Int)} (h : RelC cut gl) {i j : Nat} (hi : i < 7) (hj : j < 7) (hij : i ≠ j) : RelC (upd (upd cut (i * 7 + j) true) (j * 7 + i) true) (wo (i : Int) j gl ++ [(mn (i : Int) j, mx (i : Int) j)]) := fun i' j' hi' hj' hne => by
  rw [upd2 hi hj hi' hj']
  have e : inG (wo (i : Int) j gl ++ [(mn (i : Int) j, mx (i : Int) j)]) i' j' = (inG (wo (i : Int) j gl) i' j' || isK i' j' (mn (i : Int) j, mx (i : Int) j)) := by simp [inG]
  rw [e, inG_wo hij, ← h i' j' hi' hj' hne]
  by_cases hk : (i' = i ∧ j' = j) ∨ (i' = j ∧ j' = i)
  · rw [if_pos hk, isK_iff.2 ((kk_iff hij).2 hk), Bool.or_true]
  · rw [if_neg hk]
    have : isK (i' : Int) j' (mn (i : Int) j, mx (i : Int) j) = false := by
      cases hq : isK (i' : Int) j' (mn (i : Int) j, mx (i : Int) j)
      · rfl
      · exact absurd ((kk_iff hij).1 (isK_iff.1 hq)) hk
    rw [this]
    simp [hk]
theorem RelC.heal {cut : Nat → Bool} {gl : List (Int × Int)} (h : RelC cut gl) {i j : Nat} (hi : i < 7) (hj : j < 7) (hij : i ≠ j) : RelC (upd (upd cut (i * 7 + j) false) (j * 7 + i) false) (wo (i : Int) j gl) := fun i' j' hi' hj' hne => by
  rw [upd2 hi hj hi' hj', inG_wo hij, ← h i' j' hi' hj' hne]
  by_cases hk : (i' = i ∧ j' = j) ∨ (i' = j ∧ j' = i)
  · rw [if_pos hk]; simp [hk]
  · rw [if_neg hk]; simp [hk]
theorem upR_no {n a c : Int} {gl : List (Int × Int)} (h : pairB n a c = false) : upR n gl a c = false := by
  unfold upR
  split
  · rfl
  · exact h
theorem upR_yes {n : Int} {gl : List (Int × Int)} {cut : Nat → Bool} (hR : RelC cut gl) {i j : Nat} (hi : i < 7) (hj : j < 7) (hij : i ≠ j) (hp : pairB n (i : Int) (j : Int) = true) : upR n gl (i : Int) (j : Int) = !cut (i * 7 + j) := by
  unfold upR
  rw [hR i j hi hj hij, hp]
  cases inG gl (i : Int) (j : Int) <;> rfl
theorem cutD_up {n : Int} {gl : List (Int × Int)} {cut : Nat → Bool} (hR : RelC cut gl) (h7 : n ≤ 7) {r : List D} (hp : pairB n (frD r) (toD r) = true) : (!cutD cut r) = upR n gl (frD r) (toD r) := by
  obtain ⟨i, j, e1, e2, hi, hj, hij⟩ := pairB_nat hp h7
  unfold cutD
  rw [e1, e2] at hp ⊢
  rw [upR_yes hR hi hj hij hp]
  simp
theorem dlvR_eq {n now : Int} {gl : List (Int × Int)} {cut : Nat → Bool} (hR : RelC cut gl) (h7 : n ≤ 7) {xs : List (Int × List D)} (hp : ∀ x ∈ xs, pairB n (frD x.2) (toD x.2) = true) : dlvR n now gl xs = dlvrD now cut xs := by
  unfold dlvR dlvrD
  congr 1
  refine List.filter_congr (fun x hx => ?_)
  rw [cutD_up hR h7 (hp x hx)]
theorem up_any (b : Nat) (N : NetS) (A : List Blk) (a c : Int) (gl : List (Int × Int)) (w : World) (hsh : SH w A w) (hnet : IsNet b N A) (hR : RelC N.cut gl) (h7 : N.size ≤ 7) :
    Calls Try.prog 14 #[.pointer (some ⟨b, 0, none⟩), .int .i64 a, .int .i64 c] w fun e w' => e = .returned (.bool (upR N.size gl a c)) ∧ w = w' := by
  rcases Bool.eq_false_or_eq_true (pairB N.size a c) with hp | hp
  · obtain ⟨i, j, rfl, rfl, hi, hj, hij⟩ := pairB_nat hp h7
    rw [upR_yes hR hi hj hij hp]
    exact up_yes b N A i j w hsh hnet hp hi hj
  · rw [upR_no hp]
    exact up_no b N A a c w hsh hnet hp
theorem sendCases (n : Int) (gl : List (Int × Int)) (a c : Int) : pairB n a c = false ∨ (pairB n a c = true ∧ upR n gl a c = false) ∨ (pairB n a c = true ∧ upR n gl a c = true) := by
  cases pairB n a c <;> cases upR n gl a c <;> simp
theorem addD_no {N : NetS} {r : List D} (h : pairB N.size (frD r) (toD r) = false) : addD N r = [] := by simp [addD, h]
theorem addD_cut {N : NetS} {r : List D} {gl : List (Int × Int)} (hR : RelC N.cut gl) (h7 : N.size ≤ 7) (hp : pairB N.size (frD r) (toD r) = true) (h : upR N.size gl (frD r) (toD r) = false) : addD N r = [] := by
  unfold addD
  rw [cutD_up hR h7 hp, h]
  simp
theorem addD_yes {N : NetS} {r : List D} {gl : List (Int × Int)} (hR : RelC N.cut gl) (h7 : N.size ≤ 7) (hp : pairB N.size (frD r) (toD r) = true) (h : upR N.size gl (frD r) (toD r) = true) : addD N r = [(N.now + N.delay, r)] := by
  unfold addD
  rw [cutD_up hR h7 hp, h, hp]
  rfl
/-- the state, where the known blocks are L -/
structure SF (w : World) (b : Nat) (nn dd : Int) (L : List Blk) (wb : World) (now : Nat) (ps : List (Int × Msg)) (xs : List (Int × List D)) (gl : List (Int × Int)) (cut : Nat → Bool) (A : List Blk) (wv gv : Value) : Prop where
  hn : IsNet b ⟨nn, dd, (now : Int), cut, ps⟩ A
  hc : Cool w wb L
  hp : PsR (Im wb L) wb xs ps
  hway : Rd (Im wb L) wb (.sl (xs.map rowS)) wv
  hg : Rd (Im wb L) wb (.sl (gl.map gRow)) gv
  hcut : RelC cut gl
  hpair : ∀ x ∈ xs, pairB nn (frD x.2) (toD x.2) = true
  hfit : FitR sh by_ (xs.map (·.2)) (sh 14)
  hz : ∀ r ∈ xs.map (·.2), (encL r).size ≤ 9223372036854775807
theorem SF.tr {w : World} {b : Nat} {nn dd : Int} {L L' : List Blk} {wb w' : World} {now : Nat} {ps : List (Int × Msg)} {xs : List (Int × List D)} {gl : List (Int × Int)} {cut : Nat → Bool} {A : List Blk} {wv gv : Value} (x : SF w b nn dd L wb now ps xs gl cut A wv gv) (ht : Tr wb L w' L') : SF w b nn dd L' w' now ps xs gl cut A wv gv :=
  ⟨x.hn, x.hc.step ht, x.hp.stays ht.stays, x.hway.stays ht.stays, x.hg.stays ht.stays, x.hcut, x.hpair, x.hfit, x.hz⟩
def SL (r1 : Nat) (nn dd now : Int) (wv gv : Value) (A : List Blk) : List Blk := [⟨r1, #[.int .i64 nn, .int .i64 dd, .int .i64 now, wv, gv], 79⟩] ++ A
structure Ss (w : World) (b r1 : Nat) (nn dd : Int) (ol : List (List D)) where
  i : Nat
  wb : World
  now : Nat
  ps : List (Int × Msg)
  xs : List (Int × List D)
  gl : List (Int × Int)
  cut : Nat → Bool
  A : List Blk
  wa : Option Addr
  wc : Nat
  ga : Option Addr
  gc : Nat
  hi : i ≤ ol.length
  hf : SF w b nn dd (SL r1 nn dd (now : Int) (.slice wa xs.length wc) (.slice ga gl.length gc) A) wb now ps xs gl cut A (.slice wa xs.length wc) (.slice ga gl.length gc)
  hnow : now ≤ i
  hx : xs.length ≤ i
  hgl : gl.length ≤ i
theorem fitR_sub' {ks : List K} : ∀ {l m : List (List D)}, FitR sh by_ m ks → (∀ r ∈ l, r ∈ m) → FitR sh by_ l ks
  | [], m, h, _ => by rw [FitR]; trivial
  | r :: l, m, h, hs => by
    rw [FitR]
    exact ⟨h.mem (hs r (List.mem_cons_self ..)), fitR_sub' h (fun y hy => hs y (List.mem_cons_of_mem _ hy))⟩
theorem fitR_app' {ks : List K} : ∀ {l : List (List D)} {r : List D}, FitR sh by_ l ks → FitL sh by_ r ks → FitR sh by_ (l ++ [r]) ks
  | [], r, h, hr => by rw [List.nil_append, FitR]; exact ⟨hr, h⟩
  | x :: l, r, h, hr => by
    rw [List.cons_append, FitR]
    rw [FitR] at h
    exact ⟨h.1, fitR_app' h.2 hr⟩
theorem Rd.slMap {α : Type} {S : Nat → Prop} {w : World} {l : List α} {f : α → List D} {v : Value} (h : Rd S w (.sl (l.map f)) v) : ∃ a c, v = .slice a l.length c := by
  obtain ⟨a, c, h⟩ := h.slv
  exact ⟨a, c, by rw [h, List.length_map]⟩
end Go.Proofs.Ytidkaipijocjcaa
