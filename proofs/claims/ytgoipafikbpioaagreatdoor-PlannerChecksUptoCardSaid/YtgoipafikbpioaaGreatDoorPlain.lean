/- Lemmas of this repository (Pla Plb Plc Pld Ple Plf Plg), several texts in one. No statement is proved here. -/
import Derived.Test.YtgoipafikbpioaaGreatDoorPlLaw
import Derived.Lib.ValidLaws
namespace Go.Proofs.YtgoipafikbpioaaGreatDoor
open Go.RowKit Go.Sx
set_option linter.unusedVariables false
theorem lp_rel {σ τ ρ θ : Type} {B : σ → (σ → ρ) → ρ} {C : τ → (τ → θ) → θ} {z : ρ} {z' : θ} (R : σ → τ → Prop) (Q : ρ → θ → Prop) (μ : σ → Nat) (ν : τ → Nat)
    (h : ∀ x y K J, R x y → (∀ x' y', R x' y' → μ x' < μ x → ν y' < ν y → Q (K x') (J y')) → Q (B x K) (C y J)) : ∀ n m x y, μ x < n → ν y < m → R x y → Q (lpW B z n x) (lpW C z' m y) := by
  intro n
  induction n with
  | zero => intro m x y hx; exact absurd hx (Nat.not_lt_zero _)
  | succ n ih =>
    intro m x y hx hy hr
    cases m with
    | zero => exact absurd hy (Nat.not_lt_zero _)
    | succ m =>
      rw [lpW, lpW]
      exact h x y _ _ hr (fun x' y' hr' h1 h2 => ih m x' y' (by omega) (by omega) hr')
theorem lp_ind {σ ρ : Type} {B : σ → (σ → ρ) → ρ} {z : ρ} (R : σ → Prop) (Q : ρ → Prop) (μ : σ → Nat)
    (h : ∀ x K, R x → (∀ x', R x' → μ x' < μ x → Q (K x')) → Q (B x K)) : ∀ n x, μ x < n → R x → Q (lpW B z n x) := by
  intro n
  induction n with
  | zero => intro x hx; exact absurd hx (Nat.not_lt_zero _)
  | succ n ih =>
    intro x hx hr
    rw [lpW]
    exact h x _ hr (fun x' hr' h1 => ih x' (by omega) hr')
theorem bif_congr {α : Type} {c d : Bool} {a b a' b' : α} (h : c = d) (h1 : d = true → a = a') (h2 : d = false → b = b') : (bif c then a else b) = (bif d then a' else b') := by
  subst h; cases c
  · exact h2 rfl
  · exact h1 rfl
theorem pNot_eq (s : ByteArray) : pNotName s = !nameF s := by
  unfold pNotName nameF
  cases (bif decide ((s.size : Int) < 1) then true else bif decide ((s.size : Int) > 32) then true else (sb s 0) == 36)
  · simp only [cond_false]
    refine lp_rel (B := pNotName_b1 s) (C := nameF_b1 s) (fun x y => x = y) (fun a b => a = !b) (fun x => s.size - x) (fun x => s.size - x) ?_ _ _ 0 0 (Nat.lt_succ_self _) (Nat.lt_succ_self _) rfl
    rintro x _ K J rfl hk
    unfold pNotName_b1 nameF_b1
    cases hc : decide ((x : Int) < (s.size : Int))
    · rfl
    · have := of_dT hc
      cases (bif decide (sb s x < 33) then true else bif decide (sb s x > 126) then true else (sb s x) == 46)
      · exact hk _ _ rfl (by omega) (by omega)
      · rfl
  · rfl
theorem pIndex_eq (R : List (List D)) : decide (pIndex R ≥ 0) = !(lpW (pathF_b1 R) false ((fun x1 : Nat => R.length - x1) 0 + 1) 0) := by
  unfold pIndex
  refine lp_rel (B := pIndex_b1 R) (C := pathF_b1 R) (fun x y => x = y) (fun a b => decide (a ≥ 0) = !b) (fun x => R.length - x) (fun x => R.length - x) ?_ _ _ 0 0 (Nat.lt_succ_self _) (Nat.lt_succ_self _) rfl
  rintro x _ K J rfl hk
  unfold pIndex_b1 pathF_b1
  cases hc : decide ((x : Int) < (R.length : Int))
  · rfl
  · have := of_dT hc
    rw [pNot_eq]
    cases nameF (fS (row R x) 0)
    · simp
    · exact hk _ _ rfl (by omega) (by omega)
theorem pPath_eq (R : List (List D)) : pPath R = pathF R := by
  unfold pPath pathF pContains
  rw [pIndex_eq]
  by_cases h1 : R.length < 1
  · rw [decide_eq_false (by omega : ¬ (R.length : Int) ≥ 1), decide_eq_true (by omega : (R.length : Int) < 1)]; rfl
  · rw [decide_eq_true (by omega : (R.length : Int) ≥ 1), decide_eq_false (by omega : ¬ (R.length : Int) < 1)]
    by_cases h2 : R.length ≤ 16
    · rw [decide_eq_true (by omega : (R.length : Int) ≤ 16), decide_eq_false (by omega : ¬ (R.length : Int) > 16)]; simp
    · rw [decide_eq_false (by omega : ¬ (R.length : Int) ≤ 16), decide_eq_true (by omega : (R.length : Int) > 16)]; rfl
theorem pExName_eq (s : ByteArray) : pExName s = nameF s := by
  unfold pExName
  rw [pPath_eq]
  unfold pathF
  show (bif nameF s then true else false) = nameF s
  cases nameF s <;> rfl
def nmEq (A B : List (List D)) (n : Nat) : Prop := ∀ i, i < n → fS (row A i) 0 = fS (row B i) 0
theorem bne_toList {a b : ByteArray} : (a.toList != b.toList) = true ↔ a ≠ b := by
  rw [bne_iff_ne]
  refine not_congr ⟨fun h => ?_, fun h => by rw [h]⟩
  rw [ByteArray.toList_eq, ByteArray.toList_eq] at h
  cases a; cases b
  congr 1
  exact Array.toList_inj.1 h
theorem eqLoop {A B : List (List D)} {n : Nat} {F : Nat → (Nat → Bool) → Bool} (hF : ∀ x K, F x K = bif decide ((x : Int) < (n : Int)) then (bif (fS (row A x) 0).toList != (fS (row B x) 0).toList then false else K (x + 1)) else true) :
    ∀ m x, n - x < m → (lpW F false m x = true ↔ ∀ i, x ≤ i → i < n → fS (row A i) 0 = fS (row B i) 0) := by
  intro m
  induction m with
  | zero => intro x h; exact absurd h (Nat.not_lt_zero _)
  | succ m ih =>
    intro x hm
    rw [lpW, hF]
    by_cases h : x < n
    · rw [decide_eq_true (by omega : (x : Int) < n), cond_true]
      cases hc : ((fS (row A x) 0).toList != (fS (row B x) 0).toList)
      · rw [cond_false, ih (x + 1) (by omega)]
        have he : fS (row A x) 0 = fS (row B x) 0 := by
          apply Classical.byContradiction
          intro hn
          rw [bne_toList.2 hn] at hc; cases hc
        refine ⟨fun h i h1 h2 => ?_, fun h i h1 h2 => h i (by omega) h2⟩
        by_cases hix : i = x
        · subst hix; exact he
        · exact h i (by omega) h2
      · rw [cond_true]
        exact ⟨fun h => (by cases h), fun hh => absurd (hh x (Nat.le_refl _) h) (bne_toList.1 hc)⟩
    · rw [decide_eq_false (by omega : ¬ (x : Int) < n), cond_false]
      exact ⟨fun _ i h1 h2 => absurd h2 (by omega), fun _ => rfl⟩
theorem pEqual_iff (A B : List (List D)) : pEqual A B = true ↔ A.length = B.length ∧ nmEq A B A.length := by
  unfold pEqual nmEq
  have h := eqLoop (A := A) (B := B) (n := A.length) (F := pEqual_b1 A B) (fun _ _ => rfl) (A.length - 0 + 1) 0 (Nat.lt_succ_self _)
  by_cases hl : A.length = B.length
  · rw [show ((A.length : Int) != (B.length : Int)) = false by simp [hl], cond_false]
    exact h.trans ⟨fun h => ⟨hl, fun i hi => h i (Nat.zero_le _) hi⟩, fun h i _ hi => h.2 i hi⟩
  · rw [show ((A.length : Int) != (B.length : Int)) = true by simp; omega, cond_true]
    exact ⟨fun h => (by cases h), fun h => absurd h.1 hl⟩
theorem same12_iff (A B : List (List D)) : same12F A B = true ↔ A.length = B.length ∧ nmEq A B A.length := pEqual_iff A B
theorem prefix_iff (A B : List (List D)) : prefixF A B = true ↔ A.length ≤ B.length ∧ nmEq A B A.length := by
  unfold prefixF nmEq
  have h := eqLoop (A := A) (B := B) (n := A.length) (F := prefixF_b1 A B) (fun _ _ => rfl) (A.length - 0 + 1) 0 (Nat.lt_succ_self _)
  by_cases hl : A.length ≤ B.length
  · rw [decide_eq_false (by omega : ¬ (A.length : Int) > B.length), cond_false]
    exact h.trans ⟨fun h => ⟨hl, fun i hi => h i (Nat.zero_le _) hi⟩, fun h i _ hi => h.2 i hi⟩
  · rw [decide_eq_true (by omega : (A.length : Int) > B.length), cond_true]
    exact ⟨fun h => (by cases h), fun h => absurd h.1 hl⟩
theorem nmEq.symm {A B : List (List D)} {n : Nat} (h : nmEq A B n) : nmEq B A n := fun i hi => (h i hi).symm
theorem same12_symm (A B : List (List D)) : same12F A B = same12F B A := by
  rw [Bool.eq_iff_iff, same12_iff, same12_iff]
  exact ⟨fun h => ⟨h.1.symm, h.1 ▸ h.2.symm⟩, fun h => ⟨h.1.symm, h.1 ▸ h.2.symm⟩⟩
theorem row_take {A : List (List D)} {k i : Nat} (h : i < k) : row (A.take k) i = row A i := by
  unfold row
  rw [List.getElem?_take_of_lt h]
theorem pOverlap_eq (A B : List (List D)) : pOverlap A B = overlapF B A := by
  unfold pOverlap overlapF
  have hm : (if (B.length : Int) < (A.length : Int) then (B.length : Int) else (A.length : Int)).toNat = min A.length B.length := by
    split <;> omega
  rw [hm, Bool.eq_iff_iff, pEqual_iff, List.length_take, List.length_take]
  have hn : nmEq (A.take (min A.length B.length)) (B.take (min A.length B.length)) (min (min A.length B.length) A.length) ↔ nmEq A B (min A.length B.length) := by
    have h1 : min (min A.length B.length) A.length = min A.length B.length := by omega
    rw [h1]
    exact ⟨fun h i hi => by have := h i hi; rwa [row_take hi, row_take hi] at this, fun h i hi => by rw [row_take hi, row_take hi]; exact h i hi⟩
  rw [hn]
  cases hp : prefixF B A
  · rw [cond_false, prefix_iff]
    have hp' : ¬ (B.length ≤ A.length ∧ nmEq B A B.length) := fun h => by rw [(prefix_iff B A).2 h] at hp; cases hp
    by_cases hl : A.length ≤ B.length
    · rw [Nat.min_eq_left hl]
      exact ⟨fun h => ⟨hl, h.2⟩, fun h => ⟨by omega, h.2⟩⟩
    · have hr : min A.length B.length = B.length := by omega
      rw [hr]
      exact ⟨fun h => absurd ⟨by omega, h.2.symm⟩ hp', fun h => absurd h.1 hl⟩
  · rw [cond_true]
    have := (prefix_iff B A).1 hp
    rw [Nat.min_eq_right this.1]
    exact ⟨fun _ => rfl, fun _ => ⟨by omega, this.2.symm⟩⟩
theorem pOrders_eq (R : List (List D)) : pOrders R = ordersF R := by
  unfold pOrders ordersF
  refine bif_congr rfl (fun _ => rfl) (fun _ => ?_)
  refine lp_rel (B := pOrders_b1 R) (C := ordersF_b1 R) (fun x y => x = y) (fun a b => a = b) (fun x => R.length - x) (fun x => R.length - x) ?_ _ _ 0 0 (Nat.lt_succ_self _) (Nat.lt_succ_self _) rfl
  rintro x _ K J rfl hk
  unfold pOrders_b1 ordersF_b1
  refine bif_congr rfl (fun hc => ?_) (fun _ => rfl)
  have hx := of_dT hc
  refine bif_congr (pPath_eq _) (fun _ => ?_) (fun _ => rfl)
  have hl : (R.take x).length = x := by rw [List.length_take]; omega
  refine lp_rel (B := pOrders_b2 R x K) (C := ordersF_b2 R x J) (fun u v => u = v) (fun a b => a = b) (fun u => x - u) (fun u => x - u) ?_ _ _ 0 0 (by show x - 0 < (R.take x).length - 0 + 1; omega) (Nat.lt_succ_self _) rfl
  rintro u _ K' J' rfl hk'
  unfold pOrders_b2 ordersF_b2
  rw [hl]
  refine bif_congr rfl (fun hc => ?_) (fun _ => hk _ _ rfl (by omega) (by omega))
  have hu := of_dT hc
  rw [row_take (by omega : u < x)]
  refine bif_congr (same12_symm _ _) (fun _ => rfl) (fun _ => hk' _ _ rfl (by omega) (by omega))
end Go.Proofs.YtgoipafikbpioaaGreatDoor

namespace Go.Proofs.YtgoipafikbpioaaGreatDoor
open Go.RowKit Go.Sx
set_option linter.unusedVariables false
theorem lp_fold {α β ρ : Type} {F : Nat × β → (Nat × β → ρ) → ρ} {z : ρ} (xs : List α) (g : List α → β → ρ)
    (h : ∀ i s K (hi : i < xs.length), (∀ s', K (i + 1, s') = g (xs.drop (i + 1)) s') → F (i, s) K = g (xs[i] :: xs.drop (i + 1)) s)
    (he : ∀ i s K, xs.length ≤ i → F (i, s) K = g [] s) : ∀ n i s, xs.length - i < n → lpW F z n (i, s) = g (xs.drop i) s := by
  intro n
  induction n with
  | zero => intro i s hi; exact absurd hi (Nat.not_lt_zero _)
  | succ n ih =>
    intro i s hi
    rw [lpW]
    by_cases hl : i < xs.length
    · rw [h i s _ hl (fun s' => ih (i + 1) s' (by omega)), List.drop_eq_getElem_cons hl]
    · rw [he i s _ (by omega), List.drop_eq_nil_of_le (by omega)]
theorem pd6 {v : List D} (h : fI v 0 = 6) : pd v = (List.range' 0 (fR v 3).length).map (fun i => row (fR v 3) i) := by
  unfold pd; rw [h]; simp
theorem pd5 {v : List D} (h : fI v 0 = 5) : pd v = (List.range' 0 (fR v 4).length).map (fun i => sub (row (fR v 4) i) 1 5) := by
  unfold pd; rw [h]; simp
theorem pd0 {v : List D} (h6 : fI v 0 ≠ 6) (h5 : fI v 0 ≠ 5) : pd v = [] := by
  unfold pd
  rw [show (fI v 0 == 6) = false by simpa using h6, show (fI v 0 == 5) = false by simpa using h5]; rfl
def nfold (rec : List D → Int → Int) (m : Int) : List (List D) → Int → Int
  | [], n => n
  | c :: cs, n => if IntKind.i64.wrap (n + rec c (IntKind.i64.wrap (m - n))) < m then nfold rec m cs (IntKind.i64.wrap (n + rec c (IntKind.i64.wrap (m - n)))) else IntKind.i64.wrap (n + rec c (IntKind.i64.wrap (m - n)))
def cfold (rec : List D → Int → Int) (m : Int) : List (List D) → Int → Int
  | [], n => n
  | c :: cs, n => if n < m then cfold rec m cs (IntKind.i64.wrap (n + rec c (IntKind.i64.wrap (m - n)))) else n
theorem cfold_stop (rec : List D → Int → Int) (m : Int) : ∀ cs n, m ≤ n → cfold rec m cs n = n
  | [], n, _ => rfl
  | c :: cs, n, h => by rw [cfold, if_neg (by omega)]
theorem nfold_cfold (rec : List D → Int → Int) (m : Int) : ∀ cs n, n < m → nfold rec m cs n = cfold rec m cs n
  | [], n, _ => rfl
  | c :: cs, n, h => by
    rw [cfold, if_pos h, nfold]
    by_cases hc : IntKind.i64.wrap (n + rec c (IntKind.i64.wrap (m - n))) < m
    · rw [if_pos hc, nfold_cfold rec m cs _ hc]
    · rw [if_neg hc, cfold_stop rec m cs _ (by omega)]
theorem bif_ite {α : Type} {p : Prop} [Decidable p] (a b : α) : (bif decide p then a else b) = if p then a else b := by
  by_cases h : p
  · rw [decide_eq_true h, if_pos h]; rfl
  · rw [decide_eq_false h, if_neg h]; rfl
theorem pNodesE_fold (rec : List D → Int → Int) (v : List D) (m : Int) : pNodesE rec v 1 m = nfold rec m (pd v) 1 := by
  unfold pNodesE
  by_cases h6 : fI v 0 = 6
  · rw [show (fI v 0 == 6) = true by simpa using h6, cond_true, pd6 h6]
    refine lp_fold (F := pNodesE_b2 rec v 1 m) ((List.range' 0 (fR v 3).length).map (fun i => row (fR v 3) i)) (nfold rec m) ?_ ?_ _ 0 1 (by simp)
    · intro i s K hi hk
      have hl : i < (fR v 3).length := by simpa using hi
      unfold pNodesE_b2 pNodesC
      rw [decide_eq_true (by omega : (i : Int) < (fR v 3).length), cond_true, bif_ite, nfold]
      simp only [List.getElem_map, List.getElem_range', Nat.zero_add, Nat.one_mul]
      rw [hk]
    · intro i s K hi
      have hl : (fR v 3).length ≤ i := by simpa using hi
      unfold pNodesE_b2
      rw [decide_eq_false (by omega : ¬ (i : Int) < (fR v 3).length)]; rfl
  · rw [show (fI v 0 == 6) = false by simpa using h6, cond_false]
    by_cases h5 : fI v 0 = 5
    · rw [show (fI v 0 == 5) = true by simpa using h5, cond_true, pd5 h5]
      refine lp_fold (F := pNodesE_b1 rec v 1 m) ((List.range' 0 (fR v 4).length).map (fun i => sub (row (fR v 4) i) 1 5)) (nfold rec m) ?_ ?_ _ 0 1 (by simp)
      · intro i s K hi hk
        have hl : i < (fR v 4).length := by simpa using hi
        unfold pNodesE_b1 pNodesC
        rw [decide_eq_true (by omega : (i : Int) < (fR v 4).length), cond_true, bif_ite, nfold]
        simp only [List.getElem_map, List.getElem_range', Nat.zero_add, Nat.one_mul]
        rw [hk]
      · intro i s K hi
        have hl : (fR v 4).length ≤ i := by simpa using hi
        unfold pNodesE_b1
        rw [decide_eq_false (by omega : ¬ (i : Int) < (fR v 4).length)]; rfl
    · rw [show (fI v 0 == 5) = false by simpa using h5, cond_false, pd0 h6 h5]; rfl
theorem countF_fold (rec : List D → Int → Int) (v : List D) (m : Int) : countF rec v m = cfold rec m (pd v) 1 := by
  unfold countF
  rw [partsF_eq]
  refine lp_fold (F := countF_b1 rec v m) (pd v) (cfold rec m) ?_ ?_ _ 0 1 (Nat.lt_succ_self _)
  · intro i s K hi hk
    unfold countF_b1
    rw [partsF_eq, decide_eq_true (by omega : (i : Int) < (pd v).length), cond_true, bif_ite, cfold, hk]
    simp only [row, List.getElem?_eq_getElem hi, Option.getD_some]
  · intro i s K hi
    unfold countF_b1
    rw [partsF_eq, decide_eq_false (by omega : ¬ (i : Int) < (pd v).length)]; rfl
theorem cfold_ext {rec rec' : List D → Int → Int} {m : Int} (hm : m ≤ 1099511627776) : ∀ cs n, 1 ≤ n → n ≤ m → (∀ c ∈ cs, ∀ k, 1 ≤ k → k ≤ m → rec c k = rec' c k ∧ 1 ≤ rec' c k ∧ rec' c k ≤ k) →
    cfold rec m cs n = cfold rec' m cs n ∧ 1 ≤ cfold rec' m cs n ∧ cfold rec' m cs n ≤ m
  | [], n, h1, h2, _ => ⟨rfl, h1, h2⟩
  | c :: cs, n, h1, h2, h => by
    rw [cfold, cfold]
    by_cases hc : n < m
    · have w1 : IntKind.i64.wrap (m - n) = m - n := i64w (by omega) (by omega)
      obtain ⟨e, l, u⟩ := h c (List.mem_cons_self ..) (m - n) (by omega) (by omega)
      rw [if_pos hc, if_pos hc, w1, e, i64w (t := n + rec' c (m - n)) (by omega) (by omega)]
      exact cfold_ext hm cs _ (by omega) (by omega) (fun c' hc' => h c' (List.mem_cons_of_mem _ hc'))
    · rw [if_neg hc, if_neg hc]; exact ⟨rfl, h1, h2⟩
abbrev KV : List K := [.int, .int, .str, .sl 0, .sl 1]
theorem nodesR_eq : ∀ (k : Nat) (v : List D) (m : Int), FitL sh by_ v KV → szL v < k → 1 ≤ m → m ≤ 1099511627776 → pNodesHR k v m = countFR k v m ∧ 1 ≤ countFR k v m ∧ countFR k v m ≤ m
  | 0, v, m, _, h, _, _ => absurd h (Nat.not_lt_zero _)
  | k + 1, v, m, hf, hs, h1, h2 => by
    have hx := cfold_ext (rec := pNodesHR k) (rec' := countFR k) h2 (pd v) 1 (Int.le_refl _) h1 (fun c hc j h3 h4 => nodesR_eq k c j (pd_mem hf hc).1 (by have := (pd_mem hf hc).2; omega) h3 (by omega))
    show pNodesH (pNodesHR k) v m = countF (countFR k) v m ∧ 1 ≤ countF (countFR k) v m ∧ countF (countFR k) v m ≤ m
    rw [countF_fold]
    refine ⟨?_, hx.2⟩
    unfold pNodesH
    by_cases hm : m = 1
    · subst hm
      rw [show ((1 : Int) == 1) = true by rfl, cond_true, cfold_stop _ _ _ _ (Int.le_refl _)]
    · rw [show ((1 : Int) == m) = false by simp; omega, cond_false, pNodesE_fold, nfold_cfold _ _ _ _ (by omega)]
      exact hx.1
theorem pNodes_eq {v : List D} (hf : FitL sh by_ v KV) : pNodes v = nodesF v := (nodesR_eq _ v 1025 hf (Nat.lt_succ_self _) (by omega) (by omega)).1
def mx (a b : Int) : Int := if b > a then b else a
def dfold (rec : List D → Int → Int) (m : Int) : List (List D) → Int → Int
  | [], n => n
  | c :: cs, n => if mx n (rec c (IntKind.i64.wrap (m - 1))) < IntKind.i64.wrap (m - 1) then dfold rec m cs (mx n (rec c (IntKind.i64.wrap (m - 1)))) else mx n (rec c (IntKind.i64.wrap (m - 1)))
def lfold (rec : List D → Int → Int) (m : Int) : List (List D) → Int → Int
  | [], n => n
  | c :: cs, n => lfold rec m cs (mx n (rec c (IntKind.i64.wrap (m - 1))))
theorem pDepthE_fold (rec : List D → Int → Int) (v : List D) (m : Int) : pDepthE rec v 0 m = dfold rec m (pd v) 0 := by
  unfold pDepthE
  by_cases h6 : fI v 0 = 6
  · rw [show (fI v 0 == 6) = true by simpa using h6, cond_true, pd6 h6]
    refine lp_fold (F := pDepthE_b2 rec v 0 m) ((List.range' 0 (fR v 3).length).map (fun i => row (fR v 3) i)) (dfold rec m) ?_ ?_ _ 0 0 (by simp)
    · intro i s K hi hk
      have hl : i < (fR v 3).length := by simpa using hi
      unfold pDepthE_b2 pDepthC
      rw [decide_eq_true (by omega : (i : Int) < (fR v 3).length), cond_true, bif_ite, dfold]
      simp only [List.getElem_map, List.getElem_range', Nat.zero_add, Nat.one_mul]
      rw [hk]; rfl
    · intro i s K hi
      have hl : (fR v 3).length ≤ i := by simpa using hi
      unfold pDepthE_b2
      rw [decide_eq_false (by omega : ¬ (i : Int) < (fR v 3).length)]; rfl
  · rw [show (fI v 0 == 6) = false by simpa using h6, cond_false]
    by_cases h5 : fI v 0 = 5
    · rw [show (fI v 0 == 5) = true by simpa using h5, cond_true, pd5 h5]
      refine lp_fold (F := pDepthE_b1 rec v 0 m) ((List.range' 0 (fR v 4).length).map (fun i => sub (row (fR v 4) i) 1 5)) (dfold rec m) ?_ ?_ _ 0 0 (by simp)
      · intro i s K hi hk
        have hl : i < (fR v 4).length := by simpa using hi
        unfold pDepthE_b1 pDepthC
        rw [decide_eq_true (by omega : (i : Int) < (fR v 4).length), cond_true, bif_ite, dfold]
        simp only [List.getElem_map, List.getElem_range', Nat.zero_add, Nat.one_mul]
        rw [hk]; rfl
      · intro i s K hi
        have hl : (fR v 4).length ≤ i := by simpa using hi
        unfold pDepthE_b1
        rw [decide_eq_false (by omega : ¬ (i : Int) < (fR v 4).length)]; rfl
    · rw [show (fI v 0 == 5) = false by simpa using h5, cond_false, pd0 h6 h5]; rfl
theorem levelsF_fold (rec : List D → Int → Int) (v : List D) (m : Int) (hm : 2 ≤ m) : levelsF rec v m = bif ((pd v).length : Int) == 0 then 1 else IntKind.i64.wrap (lfold rec m (pd v) 0 + 1) := by
  unfold levelsF
  rw [partsF_eq, decide_eq_false (by omega : ¬ m < 2), cond_false]
  refine bif_congr rfl (fun _ => rfl) (fun _ => ?_)
  refine lp_fold (F := levelsF_b1 rec v m) (pd v) (fun xs n => IntKind.i64.wrap (lfold rec m xs n + 1)) ?_ ?_ _ 0 0 (Nat.lt_succ_self _)
  · intro i s K hi hk
    unfold levelsF_b1
    rw [partsF_eq, decide_eq_true (by omega : (i : Int) < (pd v).length), cond_true, hk]
    simp only [row, List.getElem?_eq_getElem hi, Option.getD_some, lfold, mx]
  · intro i s K hi
    unfold levelsF_b1
    rw [partsF_eq, decide_eq_false (by omega : ¬ (i : Int) < (pd v).length)]; rfl
theorem lfold_top {rec : List D → Int → Int} {m t : Int} : ∀ cs n, n = t → (∀ c ∈ cs, rec c (IntKind.i64.wrap (m - 1)) ≤ t) → lfold rec m cs n = t
  | [], n, h, _ => h
  | c :: cs, n, h, hc => by
    rw [lfold]
    have := hc c (List.mem_cons_self ..)
    exact lfold_top cs _ (by unfold mx; rw [if_neg (by omega)]; exact h) (fun c' h' => hc c' (List.mem_cons_of_mem _ h'))
theorem lfold_bnd {rec : List D → Int → Int} {m t : Int} : ∀ cs n, 0 ≤ n → n ≤ t → (∀ c ∈ cs, 1 ≤ rec c (IntKind.i64.wrap (m - 1)) ∧ rec c (IntKind.i64.wrap (m - 1)) ≤ t) → 0 ≤ lfold rec m cs n ∧ lfold rec m cs n ≤ t
  | [], n, h, h2, _ => ⟨h, h2⟩
  | c :: cs, n, h, h2, hc => by
    rw [lfold]
    have := hc c (List.mem_cons_self ..)
    exact lfold_bnd cs _ (by unfold mx; split <;> omega) (by unfold mx; split <;> omega) (fun c' h' => hc c' (List.mem_cons_of_mem _ h'))
theorem dfold_lfold {rec rec' : List D → Int → Int} {m : Int} (hm : 2 ≤ m) (hm2 : m ≤ 1099511627776) : ∀ cs n, n ≤ m - 1 → (∀ c ∈ cs, rec c (m - 1) = rec' c (m - 1) ∧ rec' c (m - 1) ≤ m - 1) → dfold rec m cs n = lfold rec' m cs n
  | [], n, _, _ => rfl
  | c :: cs, n, h, hc => by
    have w1 : IntKind.i64.wrap (m - 1) = m - 1 := i64w (by omega) (by omega)
    obtain ⟨e, u⟩ := hc c (List.mem_cons_self ..)
    have hm' : mx n (rec' c (m - 1)) ≤ m - 1 := by unfold mx; split <;> omega
    rw [dfold, lfold, w1, e]
    by_cases hl : mx n (rec' c (m - 1)) < m - 1
    · rw [if_pos hl]; exact dfold_lfold hm hm2 cs _ (by omega) (fun c' h' => hc c' (List.mem_cons_of_mem _ h'))
    · rw [if_neg hl, lfold_top (t := m - 1) cs _ (by omega) (fun c' h' => by rw [w1]; exact (hc c' (List.mem_cons_of_mem _ h')).2)]; omega
theorem depthR_eq : ∀ (k : Nat) (v : List D) (m : Int), FitL sh by_ v KV → szL v < k → 1 ≤ m → m ≤ 1099511627776 → pDepthHR k v m = levelsFR k v m ∧ 1 ≤ levelsFR k v m ∧ levelsFR k v m ≤ m
  | 0, v, m, _, h, _, _ => absurd h (Nat.not_lt_zero _)
  | k + 1, v, m, hf, hs, h1, h2 => by
    show pDepthH (pDepthHR k) v m = levelsF (levelsFR k) v m ∧ 1 ≤ levelsF (levelsFR k) v m ∧ levelsF (levelsFR k) v m ≤ m
    unfold pDepthH
    by_cases hm : m = 1
    · subst hm
      have hl : levelsF (levelsFR k) v 1 = 1 := by unfold levelsF; rfl
      rw [hl]; exact ⟨rfl, by omega, by omega⟩
    · have ih : ∀ c ∈ pd v, pDepthHR k c (m - 1) = levelsFR k c (m - 1) ∧ 1 ≤ levelsFR k c (m - 1) ∧ levelsFR k c (m - 1) ≤ m - 1 := fun c hc =>
        depthR_eq k c (m - 1) (pd_mem hf hc).1 (by have := (pd_mem hf hc).2; omega) (by omega) (by omega)
      have w1 : IntKind.i64.wrap (m - 1) = m - 1 := i64w (by omega) (by omega)
      rw [show (m == 1) = false by simpa using hm, cond_false, pDepthE_fold, levelsF_fold _ _ _ (by omega),
        dfold_lfold (rec' := levelsFR k) (by omega) h2 (pd v) 0 (by omega) (fun c hc => ⟨(ih c hc).1, (ih c hc).2.2⟩)]
      have hb := lfold_bnd (rec := levelsFR k) (m := m) (t := m - 1) (pd v) 0 (Int.le_refl _) (by omega) (fun c hc => by rw [w1]; exact (ih c hc).2)
      cases hp : pd v with
      | nil => refine ⟨?_, ?_, ?_⟩ <;> simp [lfold] <;> first | exact i64w (by omega) (by omega) | omega
      | cons c cs =>
        rw [hp] at hb
        rw [show (((c :: cs).length : Int) == 0) = false by simp; omega, cond_false, i64w (t := lfold (levelsFR k) m (c :: cs) 0 + 1) (by omega) (by omega), i64w (t := 1 + lfold (levelsFR k) m (c :: cs) 0) (by omega) (by omega)]
        exact ⟨by omega, by omega, by omega⟩
theorem pDepth_eq {v : List D} (hf : FitL sh by_ v KV) : pDepth v = depthF v := (depthR_eq _ v 17 hf (Nat.lt_succ_self _) (by omega) (by omega)).1
end Go.Proofs.YtgoipafikbpioaaGreatDoor

namespace Go.Proofs.YtgoipafikbpioaaGreatDoor
open Go.RowKit Go.Sx
set_option linter.unusedVariables false
theorem sb_list (s : ByteArray) (x j : Nat) : sb s (x + j) = ((((s.data.toList.drop x).getD j 0).toNat : Nat) : Int) := by
  unfold sb
  have h : s[x + j]? = (s.data.toList.drop x)[j]? := by
    rw [List.getElem?_drop]
    by_cases hl : x + j < s.size
    · have hl' : x + j < s.data.toList.length := by simpa using hl
      rw [getElem?_pos s (x + j) hl, List.getElem?_eq_getElem hl']
      congr 1
    · have hl' : ¬ x + j < s.data.toList.length := by simpa using hl
      rw [getElem?_neg s (x + j) hl, List.getElem?_eq_none (by omega)]
  rw [h, List.getD_eq_getElem?_getD]
theorem tail_b1 (s : ByteArray) (v n : Int) (x : Nat) (K : Nat → Bool) : tailF_b1 s v n x K = bif decide ((x : Int) < n) then (bif (bif decide (sb s ((v + (x : Int)).toNat) < 128) then (true) else (decide (sb s ((v + (x : Int)).toNat) > 191))) then (false) else (K (x + 1))) else (true) := rfl
theorem tailLoop (s : ByteArray) (v : Int) (k : Nat) {n : Int} (hn : n = k) : ∀ m x, k - x < m → (lpW (tailF_b1 s v n) false m x = true ↔ ∀ i, x ≤ i → i < k → 128 ≤ sb s (v + (i : Int)).toNat ∧ sb s (v + (i : Int)).toNat ≤ 191) := by
  subst hn
  intro m
  induction m with
  | zero => intro x h; exact absurd h (Nat.not_lt_zero _)
  | succ m ih =>
    intro x hm
    rw [lpW, tail_b1]
    by_cases h : x < k
    · rw [decide_eq_true (by omega : (x : Int) < k), cond_true]
      by_cases hc : 128 ≤ sb s (v + (x : Int)).toNat ∧ sb s (v + (x : Int)).toNat ≤ 191
      · rw [decide_eq_false (by omega : ¬ sb s (v + (x : Int)).toNat < 128), cond_false, decide_eq_false (by omega : ¬ sb s (v + (x : Int)).toNat > 191), cond_false, ih (x + 1) (by omega)]
        refine ⟨fun h i h1 h2 => ?_, fun h i h1 h2 => h i (by omega) h2⟩
        by_cases hix : i = x
        · subst hix; exact hc
        · exact h i (by omega) h2
      · have hb : (bif decide (sb s (v + (x : Int)).toNat < 128) then true else decide (sb s (v + (x : Int)).toNat > 191)) = true := by
          by_cases h1 : sb s (v + (x : Int)).toNat < 128
          · rw [decide_eq_true h1]; rfl
          · rw [decide_eq_false h1, cond_false, decide_eq_true (by omega)]
        rw [hb, cond_true]
        exact ⟨fun h => (by cases h), fun hh => absurd (hh x (Nat.le_refl _) h) hc⟩
    · rw [decide_eq_false (by omega : ¬ (x : Int) < k), cond_false]
      exact ⟨fun _ i h1 h2 => absurd h2 (by omega), fun _ => rfl⟩
theorem tail_iff (s : ByteArray) (x k : Nat) {n : Int} (hn : n = k) : tailF s ((x : Int) + 1) n = true ↔ x + 1 + k ≤ s.size ∧ ∀ j, j < k → 128 ≤ sb s (x + (j + 1)) ∧ sb s (x + (j + 1)) ≤ 191 := by
  unfold tailF
  by_cases h : x + 1 + k ≤ s.size
  · rw [decide_eq_false (by omega : ¬ (x : Int) + 1 + n > s.size), cond_false, tailLoop s _ k hn _ 0 (by show k - 0 < n.toNat - 0 + 1; omega)]
    refine ⟨fun hh => ⟨h, fun j hj => ?_⟩, fun hh i _ hi => ?_⟩
    · have := hh j (Nat.zero_le _) hj
      rwa [show ((x : Int) + 1 + (j : Int)).toNat = x + (j + 1) by omega] at this
    · rw [show ((x : Int) + 1 + (i : Int)).toNat = x + (i + 1) by omega]; exact hh.2 i hi
  · rw [decide_eq_true (by omega : (x : Int) + 1 + n > s.size), cond_true]
    exact ⟨fun h => (by cases h), fun hh => absurd hh.1 h⟩
def badP (b0 b1 : Int) : Prop := (b0 = 224 ∧ b1 < 160) ∨ (b0 = 237 ∧ b1 > 159) ∨ (b0 = 240 ∧ b1 < 144) ∨ (b0 = 244 ∧ b1 > 143)
def chainB (b0 b1 : Int) : Bool := (bif b0 == 224 then (bif decide (b1 < 160) then (true) else (bif b0 == 237 then (bif decide (b1 > 159) then (true) else (bif b0 == 240 then (bif decide (b1 < 144) then (true) else (bif b0 == 244 then (decide (b1 > 143)) else (false))) else (bif b0 == 244 then (decide (b1 > 143)) else (false)))) else (bif b0 == 240 then (bif decide (b1 < 144) then (true) else (bif b0 == 244 then (decide (b1 > 143)) else (false))) else (bif b0 == 244 then (decide (b1 > 143)) else (false))))) else (bif b0 == 237 then (bif decide (b1 > 159) then (true) else (bif b0 == 240 then (bif decide (b1 < 144) then (true) else (bif b0 == 244 then (decide (b1 > 143)) else (false))) else (bif b0 == 244 then (decide (b1 > 143)) else (false)))) else (bif b0 == 240 then (bif decide (b1 < 144) then (true) else (bif b0 == 244 then (decide (b1 > 143)) else (false))) else (bif b0 == 244 then (decide (b1 > 143)) else (false)))))
theorem chain_iff (b0 b1 : Int) : chainB b0 b1 = true ↔ badP b0 b1 := by
  unfold chainB badP
  by_cases h0 : b0 = 224
  · subst h0; simp
  by_cases h1 : b0 = 237
  · subst h1; simp
  by_cases h2 : b0 = 240
  · subst h2; simp
  by_cases h3 : b0 = 244
  · subst h3; simp
  rw [show (b0 == 224) = false by simpa using h0, show (b0 == 237) = false by simpa using h1, show (b0 == 240) = false by simpa using h2, show (b0 == 244) = false by simpa using h3]
  simp only [cond_false, Bool.false_eq_true, false_iff]
  omega
theorem utf8_b1 (s : ByteArray) (x : Nat) (K : Nat → Bool) : utf8F_b1 s x K =
    bif decide ((x : Int) < (s.size : Int)) then (bif decide (sb s x < 128) then (bif tailF s ((x : Int) + 1) 0 then (bif chainB (sb s x) (sb s (((x : Int) + 1).toNat)) then false else K (x + 0 + 1)) else false)
      else (bif (bif decide (sb s x ≥ 194) then (decide (sb s x ≤ 223)) else (false)) then (bif tailF s ((x : Int) + 1) 1 then (bif chainB (sb s x) (sb s (((x : Int) + 1).toNat)) then false else K (x + 1 + 1)) else false)
      else (bif (bif decide (sb s x ≥ 224) then (decide (sb s x ≤ 239)) else (false)) then (bif tailF s ((x : Int) + 1) 2 then (bif chainB (sb s x) (sb s (((x : Int) + 1).toNat)) then false else K (x + 2 + 1)) else false)
      else (bif (bif decide (sb s x ≥ 240) then (decide (sb s x ≤ 244)) else (false)) then (bif tailF s ((x : Int) + 1) 3 then (bif chainB (sb s x) (sb s (((x : Int) + 1).toNat)) then false else K (x + 3 + 1)) else false) else false)))) else true := rfl
theorem gate {t c r : Bool} {p q : Prop} (ht : t = true ↔ p) (hc : c = true ↔ q) : (bif t then (bif c then false else r) else false) = true ↔ p ∧ ¬ q ∧ r = true := by
  cases t
  · have hp : ¬ p := fun h => by have := ht.2 h; cases this
    simp [hp]
  · have hp : p := ht.1 rfl
    cases c
    · have hq : ¬ q := fun h => by have := hc.2 h; cases this
      simp [hp, hq]
    · have hq : q := hc.1 rfl
      simp [hq]
theorem checkN_iff {n b1 b2 b3 sz lo hi : Nat} (f : Nat → Bool) (hsz : sz = 2 ∨ sz = 3 ∨ sz = 4) : (match Lib.checkN n b1 b2 b3 sz lo hi with | none => false | some k => f k) = true ↔
    (sz ≤ n ∧ lo ≤ b1 ∧ b1 ≤ hi ∧ (3 ≤ sz → 128 ≤ b2 ∧ b2 ≤ 191) ∧ (4 ≤ sz → 128 ≤ b3 ∧ b3 ≤ 191)) ∧ f sz = true := by
  unfold Lib.checkN
  rcases hsz with rfl | rfl | rfl
  · simp only [if_true]
    by_cases h : n < 2 ∨ b1 < lo ∨ hi < b1
    · rw [if_pos h]; exact ⟨fun h => (by cases h), fun hh => (by omega)⟩
    · rw [if_neg h]; exact ⟨fun hh => ⟨by omega, hh⟩, fun hh => hh.2⟩
  · simp only [if_true, show ¬ (3 = 2) by decide, if_false]
    by_cases h : n < 3 ∨ b1 < lo ∨ hi < b1 ∨ b2 < 128 ∨ 191 < b2
    · rw [if_pos h]; exact ⟨fun h => (by cases h), fun hh => (by omega)⟩
    · rw [if_neg h]; exact ⟨fun hh => ⟨by omega, hh⟩, fun hh => hh.2⟩
  · simp only [if_true, show ¬ (4 = 2) by decide, show ¬ (4 = 3) by decide, if_false]
    by_cases h : n < 4 ∨ b1 < lo ∨ hi < b1 ∨ b2 < 128 ∨ 191 < b2 ∨ b3 < 128 ∨ 191 < b3
    · rw [if_pos h]; exact ⟨fun h => (by cases h), fun hh => (by omega)⟩
    · rw [if_neg h]; exact ⟨fun hh => ⟨by omega, hh⟩, fun hh => hh.2⟩
set_option maxHeartbeats 1000000 in
theorem utf8_loop (s : ByteArray) : ∀ n x, x ≤ s.size → s.size - x < n → lpW (utf8F_b1 s) false n x = Lib.validD (s.data.toList.drop x)
  | 0, x, _, h => absurd h (Nat.not_lt_zero _)
  | n + 1, x, hx, hn => by
    have hlen : s.data.toList.length = s.size := by simp
    rw [lpW, utf8_b1]
    by_cases hl : x < s.size
    · rw [decide_eq_true (by omega : (x : Int) < s.size), cond_true]
      have ih : ∀ k, x + k + 1 ≤ s.size → lpW (utf8F_b1 s) false n (x + k + 1) = Lib.validD ((s.data.toList.drop x).drop (k + 1)) := fun k hk => by
        rw [utf8_loop s n (x + k + 1) hk (by omega), List.drop_drop]; congr 2
      have hb : ∀ j, sb s (x + j) = ((((s.data.toList.drop x).getD j 0).toNat : Nat) : Int) := sb_list s x
      have hne : s.data.toList.drop x ≠ [] := fun he => by have := congrArg List.length he; rw [List.length_drop, hlen] at this; simp at this; omega
      have hll : (s.data.toList.drop x).length = s.size - x := by rw [List.length_drop, hlen]
      have hb0 := hb 0
      rw [Nat.add_zero] at hb0
      have t1 : ((x : Int) + 1).toNat = x + 1 := by omega
      rw [t1]
      have T : ∀ (k : Nat) {m : Int}, m = k → _ := fun k {m} hm => tail_iff s x k hm
      generalize hL : s.data.toList.drop x = l at *
      have g0 := (l.getD 0 0).toNat_lt
      by_cases h128 : sb s x < 128
      · rw [decide_eq_true h128, cond_true, (T 0 (m := 0) rfl).2 ⟨by omega, fun j hj => absurd hj (Nat.not_lt_zero _)⟩, cond_true]
        have hc : chainB (sb s x) (sb s (x + 1)) = false := by
          cases h : chainB (sb s x) (sb s (x + 1))
          · rfl
          · have := (chain_iff _ _).1 h
            unfold badP at this; omega
        rw [hc, cond_false, ih 0 (by omega)]
        cases l with
        | nil => exact absurd rfl hne
        | cons b t =>
          have : b.toNat < 128 := by have h2 : (([b] ++ t).getD 0 0) = b := rfl; rw [show (b :: t).getD 0 0 = b from rfl] at hb0; omega
          rw [Lib.validD_cons b t this]; rfl
      · rw [decide_eq_false h128, cond_false]
        rw [Lib.validD_lead l hne (by omega)]
        have b1 := hb 1
        have b2 := hb 2
        have b3 := hb 3
        generalize (l.getD 0 0).toNat = c0 at *
        generalize (l.getD 1 0).toNat = c1 at *
        generalize (l.getD 2 0).toNat = c2 at *
        generalize (l.getD 3 0).toNat = c3 at *
        rw [Bool.eq_iff_iff]
        have fin : ∀ sz lo hi, Lib.firstT c0 % 8 = sz → Lib.accLo (Lib.firstT c0 / 16) = lo → Lib.accHi (Lib.firstT c0 / 16) = hi → (sz = 2 ∨ sz = 3 ∨ sz = 4) → ∀ (m : Int), m = (sz - 1 : Nat) → (sz = 2 ↔ c0 < 224) → (sz = 3 ↔ 224 ≤ c0 ∧ c0 < 240) → 194 ≤ c0 → c0 ≤ 244 →
            ((lo ≤ c1 ∧ c1 ≤ hi) ↔ (128 ≤ c1 ∧ c1 ≤ 191 ∧ ¬ badP c0 c1)) → ∀ r : Bool, (sz ≤ s.size - x → r = Lib.validD (l.drop sz)) →
            ((bif tailF s ((x : Int) + 1) m then (bif chainB (sb s x) (sb s (x + 1)) then false else r) else false) = true ↔
            (match Lib.checkN l.length c1 c2 c3 (Lib.firstT c0 % 8) (Lib.accLo (Lib.firstT c0 / 16)) (Lib.accHi (Lib.firstT c0 / 16)) with | none => false | some k => Lib.validD (l.drop k)) = true) := by
          intro sz lo hi e1 e2 e3 hsz m hm h2 h3 hlo hhi hacc r hr
          rw [e1, e2, e3, checkN_iff (fun k => Lib.validD (l.drop k)) hsz, gate (T (sz - 1) hm) (chain_iff _ _), hb0, b1]
          constructor
          · rintro ⟨⟨ha, hbb⟩, hq, hrr⟩
            have hs1 := hbb 0 (by omega)
            rw [show x + (0 + 1) = x + 1 by omega, b1] at hs1
            have hac := hacc.2 ⟨by omega, by omega, hq⟩
            refine ⟨⟨by omega, hac.1, hac.2, fun h => ?_, fun h => ?_⟩, by rw [← hr (by omega)]; exact hrr⟩
            · have := hbb 1 (by omega); rw [show x + (1 + 1) = x + 2 by omega, b2] at this; omega
            · have := hbb 2 (by omega); rw [show x + (2 + 1) = x + 3 by omega, b3] at this; omega
          · rintro ⟨⟨ha, hl1, hh1, hc2, hc3⟩, hrr⟩
            have hac := hacc.1 ⟨hl1, hh1⟩
            refine ⟨⟨by omega, fun j hj => ?_⟩, hac.2.2, by rw [hr (by omega)]; exact hrr⟩
            have hj3 : j = 0 ∨ j = 1 ∨ j = 2 := by omega
            rcases hj3 with rfl | rfl | rfl
            · rw [show x + (0 + 1) = x + 1 by omega, b1]; omega
            · rw [show x + (1 + 1) = x + 2 by omega, b2]; have := hc2 (by omega); omega
            · rw [show x + (2 + 1) = x + 3 by omega, b3]; have := hc3 (by omega); omega
        have none_ : ∀ (F : Nat → Bool), Lib.firstT c0 = 241 → (match Lib.checkN l.length c1 c2 c3 (Lib.firstT c0 % 8) (Lib.accLo (Lib.firstT c0 / 16)) (Lib.accHi (Lib.firstT c0 / 16)) with | none => false | some k => F k) = false := fun F h => by rw [h]; rfl
        by_cases k0 : c0 < 194
        · rw [decide_eq_false (by omega : ¬ sb s x ≥ 194), cond_false, cond_false, decide_eq_false (by omega : ¬ sb s x ≥ 224), cond_false, cond_false, decide_eq_false (by omega : ¬ sb s x ≥ 240), cond_false, cond_false]
          exact ⟨fun h => (by cases h), fun h => absurd ((none_ (fun k => Lib.validD (List.drop k l)) (by simp [Lib.firstT, show ¬ c0 < 128 by omega, k0])).symm.trans h) (by decide)⟩
        by_cases k1 : c0 < 224
        · rw [decide_eq_true (by omega : sb s x ≥ 194), cond_true, decide_eq_true (by omega : sb s x ≤ 223), cond_true]
          have f : Lib.firstT c0 = 2 := by simp [Lib.firstT, show ¬ c0 < 128 by omega, k0, k1]
          exact fin 2 128 191 (by rw [f]) (by rw [f]; rfl) (by rw [f]; rfl) (by omega) 1 rfl (by omega) (by omega) (by omega) (by omega) (by unfold badP; omega) _ (fun h => ih 1 (by omega))
        rw [decide_eq_true (by omega : sb s x ≥ 194), cond_true, decide_eq_false (by omega : ¬ sb s x ≤ 223), cond_false]
        by_cases k2 : c0 < 240
        · rw [decide_eq_true (by omega : sb s x ≥ 224), cond_true, decide_eq_true (by omega : sb s x ≤ 239), cond_true]
          by_cases q0 : c0 = 224
          · have f : Lib.firstT c0 = 19 := by rw [q0]; rfl
            exact fin 3 160 191 (by rw [f]) (by rw [f]; rfl) (by rw [f]; rfl) (by omega) 2 rfl (by omega) (by omega) (by omega) (by omega) (by unfold badP; omega) _ (fun h => ih 2 (by omega))
          by_cases q1 : c0 = 237
          · have f : Lib.firstT c0 = 35 := by rw [q1]; rfl
            exact fin 3 128 159 (by rw [f]) (by rw [f]; rfl) (by rw [f]; rfl) (by omega) 2 rfl (by omega) (by omega) (by omega) (by omega) (by unfold badP; omega) _ (fun h => ih 2 (by omega))
          have f : Lib.firstT c0 = 3 := by
            by_cases q2 : c0 < 237
            · simp [Lib.firstT, show ¬ c0 < 128 by omega, k0, k1, q0, q2]
            · simp [Lib.firstT, show ¬ c0 < 128 by omega, k0, k1, q0, q1, q2, k2]
          exact fin 3 128 191 (by rw [f]) (by rw [f]; rfl) (by rw [f]; rfl) (by omega) 2 rfl (by omega) (by omega) (by omega) (by omega) (by unfold badP; omega) _ (fun h => ih 2 (by omega))
        rw [decide_eq_true (by omega : sb s x ≥ 224), cond_true, decide_eq_false (by omega : ¬ sb s x ≤ 239), cond_false, decide_eq_true (by omega : sb s x ≥ 240), cond_true]
        have n0 : ¬ c0 < 128 := by omega
        have n1 : ¬ c0 = 224 := by omega
        have n2 : ¬ c0 < 237 := by omega
        have n3 : ¬ c0 = 237 := by omega
        by_cases k3 : c0 ≤ 244
        · rw [decide_eq_true (by omega : sb s x ≤ 244), cond_true]
          by_cases q0 : c0 = 240
          · have f : Lib.firstT c0 = 52 := by rw [q0]; rfl
            exact fin 4 144 191 (by rw [f]) (by rw [f]; rfl) (by rw [f]; rfl) (by omega) 3 rfl (by omega) (by omega) (by omega) (by omega) (by unfold badP; omega) _ (fun h => ih 3 (by omega))
          by_cases q1 : c0 = 244
          · have f : Lib.firstT c0 = 68 := by rw [q1]; rfl
            exact fin 4 128 143 (by rw [f]) (by rw [f]; rfl) (by rw [f]; rfl) (by omega) 3 rfl (by omega) (by omega) (by omega) (by omega) (by unfold badP; omega) _ (fun h => ih 3 (by omega))
          have f : Lib.firstT c0 = 4 := by simp [Lib.firstT, n0, k0, k1, n1, n2, n3, k2, q0, show c0 < 244 by omega]
          exact fin 4 128 191 (by rw [f]) (by rw [f]; rfl) (by rw [f]; rfl) (by omega) 3 rfl (by omega) (by omega) (by omega) (by omega) (by unfold badP; omega) _ (fun h => ih 3 (by omega))
        · rw [decide_eq_false (by omega : ¬ sb s x ≤ 244), cond_false]
          exact ⟨fun h => (by cases h), fun h => absurd ((none_ (fun k => Lib.validD (List.drop k l)) (by simp [Lib.firstT, n0, k0, k1, n1, n2, n3, k2, show ¬ c0 = 240 by omega, show ¬ c0 < 244 by omega, show ¬ c0 = 244 by omega])).symm.trans h) (by decide)⟩
    · rw [decide_eq_false (by omega : ¬ (x : Int) < s.size), cond_false, List.drop_eq_nil_of_le (by omega)]
      exact Lib.validD_nil.symm
theorem pUtf8_eq (s : ByteArray) : pUtf8 s = utf8F s := by
  unfold pUtf8 utf8F
  exact (utf8_loop s _ 0 (Nat.zero_le _) (Nat.lt_succ_self _)).symm
end Go.Proofs.YtgoipafikbpioaaGreatDoor

namespace Go.Proofs.YtgoipafikbpioaaGreatDoor
open Go.RowKit Go.Sx
set_option linter.unusedVariables false
theorem ba_beq {a b : ByteArray} : (a == b) = true ↔ a = b := by
  cases a; cases b
  rename_i x y
  show (x == y) = true ↔ _
  rw [beq_iff_eq, ByteArray.mk.injEq]
theorem innerLoop {a : Nat → ByteArray} {F : Nat → (Nat → Bool) → Bool} {x : Nat} {r : Bool} (hF : ∀ j K, F j K = bif decide ((j : Int) < (x : Int)) then (bif (a j).toList == (a x).toList then false else K (j + 1)) else r) :
    ∀ m j, x - j < m → lpW F false m j = bif ((List.range' j (x - j)).map a).contains (a x) then false else r := by
  intro m
  induction m with
  | zero => intro j h; exact absurd h (Nat.not_lt_zero _)
  | succ m ih =>
    intro j hm
    rw [lpW, hF]
    by_cases h : j < x
    · rw [decide_eq_true (by omega : (j : Int) < x), cond_true, show x - j = (x - (j + 1)) + 1 by omega, List.range'_succ, List.map_cons, List.contains_cons, ih (j + 1) (by omega)]
      by_cases he : a j = a x
      · rw [he, (ba_beq (a := a x) (b := a x)).2 rfl, Bool.true_or, cond_true, show ((a x).toList == (a x).toList) = true by simp, cond_true]
      · have h1 : ((a j).toList == (a x).toList) = false := by
          rw [beq_eq_false_iff_ne]
          intro hh
          have := bne_toList.2 he
          rw [hh] at this; simp at this
        have h2 : (a x == a j) = false := by
          cases hh : (a x == a j)
          · rfl
          · exact absurd (ba_beq.1 hh).symm he
        rw [h1, h2, cond_false, Bool.false_or]
    · rw [decide_eq_false (by omega : ¬ (j : Int) < x), cond_false, show x - j = 0 by omega]; rfl
def nms (a : Nat → ByteArray) (n : Nat) : List ByteArray := (List.range' 0 n).map a
theorem nms_succ (a : Nat → ByteArray) (n : Nat) : nms a n ++ [a n] = nms a (n + 1) := by
  unfold nms
  rw [List.range'_1_concat, List.map_append]; simp
theorem pDistinct_eq (R : List (List D)) : pDistinct R = namedF R := by
  unfold pDistinct namedF
  refine lp_rel (B := pDistinct_b1 R) (C := namedF_b1 R) (fun x y => x.1 = y ∧ x.2 = nms (fun i => fS (row R i) 0) y) (fun a b => a = b) (fun x => R.length - x.1) (fun x => R.length - x) ?_ _ _ (0, []) 0 (Nat.lt_succ_self _) (Nat.lt_succ_self _) ⟨rfl, rfl⟩
  rintro ⟨x, L⟩ _ K J ⟨rfl, hL⟩ hk
  unfold pDistinct_b1 namedF_b1
  refine bif_congr rfl (fun hc => ?_) (fun _ => rfl)
  have hx := of_dT hc
  rw [innerLoop (a := fun i => fS (row R i) 0) (F := namedF_b2 R x J) (x := x) (r := J (x + 1)) (fun _ _ => rfl) _ 0 (Nat.lt_succ_self _), pExName_eq]
  show (bif (bif nameF (fS (row R x) 0) then L.contains (fS (row R x) 0) else true) then false else K (x + 1, L ++ [fS (row R x) 0])) = _
  cases nameF (fS (row R x) 0)
  · rfl
  · rw [cond_true, cond_true]
    have h : L = (List.range' 0 (x - 0)).map (fun i => fS (row R i) 0) := hL
    rw [← h]
    refine bif_congr rfl (fun _ => rfl) (fun _ => hk _ _ ⟨rfl, ?_⟩ (by show R.length - (x + 1) < R.length - x; omega) (by omega))
    show L ++ _ = _
    rw [show L = nms (fun i => fS (row R i) 0) x from hL]; exact nms_succ (fun i => fS (row R i) 0) x
theorem pFields_eq {rec : List D → Bool} {rec' : List D → Bool → Bool} (v : List D) (h : ∀ i, i < (fR v 4).length → rec (sub (row (fR v 4) i) 1 5) = rec' (sub (row (fR v 4) i) 1 5) true) : pFields rec (fR v 4) = fieldsF rec' v true := by
  unfold pFields fieldsF
  refine lp_rel (B := pFields_b1 rec (fR v 4)) (C := fieldsF_b1 rec' v true) (fun x y => x.1 = y ∧ x.2 = nms (fun i => fS (row (fR v 4) i) 0) y) (fun a b => a = b) (fun x => (fR v 4).length - x.1) (fun x => (fR v 4).length - x) ?_ _ _ (0, []) 0 (Nat.lt_succ_self _) (Nat.lt_succ_self _) ⟨rfl, rfl⟩
  rintro ⟨x, L⟩ _ K J ⟨rfl, hL⟩ hk
  unfold pFields_b1 fieldsF_b1
  refine bif_congr rfl (fun hc => ?_) (fun _ => rfl)
  have hx := of_dT hc
  rw [innerLoop (a := fun i => fS (row (fR v 4) i) 0) (F := fieldsF_b2 rec' v true x J) (x := x) (r := J (x + 1)) (fun _ _ => rfl) _ 0 (Nat.lt_succ_self _), cond_true]
  show (bif (bif nameF (fS (row (fR v 4) x) 0) then (bif L.contains (fS (row (fR v 4) x) 0) then true else !(rec (sub (row (fR v 4) x) 1 5))) else true) then false else K (x + 1, L ++ [fS (row (fR v 4) x) 0])) = _
  rw [h x (by omega)]
  cases nameF (fS (row (fR v 4) x) 0)
  · rfl
  · rw [cond_true, cond_true]
    have hl : L = (List.range' 0 (x - 0)).map (fun i => fS (row (fR v 4) i) 0) := hL
    rw [← hl]
    have hn : K (x + 1, L ++ [fS (row (fR v 4) x) 0]) = J (x + 1) := hk _ _ ⟨rfl, by show L ++ _ = _; rw [show L = nms (fun i => fS (row (fR v 4) i) 0) x from hL]; exact nms_succ (fun i => fS (row (fR v 4) i) 0) x⟩ (by show (fR v 4).length - (x + 1) < (fR v 4).length - x; omega) (by omega)
    show (bif (bif L.contains (fS (row (fR v 4) x) 0) then true else !(rec' (sub (row (fR v 4) x) 1 5) true)) then false else K (x + 1, L ++ [fS (row (fR v 4) x) 0])) = (bif !(rec' (sub (row (fR v 4) x) 1 5) true) then false else bif L.contains (fS (row (fR v 4) x) 0) then false else J (x + 1))
    rw [hn]
    cases L.contains (fS (row (fR v 4) x) 0) <;> cases rec' (sub (row (fR v 4) x) 1 5) true <;> rfl
theorem fields_none {rec : List D → Bool → Bool} {v : List D} (h : (fR v 4).length = 0) : fieldsF rec v true = true := by
  unfold fieldsF
  rw [lpW]; unfold fieldsF_b1
  rw [h]; rfl
theorem formed_list {rec : List D → Bool} {rec' : List D → Bool → Bool} (v : List D) (h : ∀ i, i < (fR v 3).length → rec (row (fR v 3) i) = rec' (row (fR v 3) i) true) (h4 : (fR v 4).length = 0) :
    lpW (pSound_b1 rec v) false ((fun x1 : Nat => (fR v 3).length - x1) 0 + 1) 0 = lpW (formedF_b1 rec' v true) false ((fun x1 : Nat => (fR v 3).length - x1) 0 + 1) 0 := by
  refine lp_rel (B := pSound_b1 rec v) (C := formedF_b1 rec' v true) (fun x y => x = y) (fun a b => a = b) (fun x => (fR v 3).length - x) (fun x => (fR v 3).length - x) ?_ _ _ 0 0 (Nat.lt_succ_self _) (Nat.lt_succ_self _) rfl
  rintro x _ K J rfl hk
  unfold pSound_b1 formedF_b1
  refine bif_congr rfl (fun hc => ?_) (fun _ => (fields_none h4).symm)
  have hx := of_dT hc
  exact bif_congr (h x (by omega)) (fun _ => hk _ _ rfl (by omega) (by omega)) (fun _ => rfl)
theorem formed_nolist {rec' : List D → Bool → Bool} (v : List D) (h3 : (fR v 3).length = 0) : lpW (formedF_b1 rec' v true) false ((fun x1 : Nat => (fR v 3).length - x1) 0 + 1) 0 = fieldsF rec' v true := by
  rw [lpW]; unfold formedF_b1
  rw [h3]; rfl
theorem soundR_eq : ∀ (k : Nat) (v : List D), FitL sh by_ v KV → szL v < k → pSoundR k v = formedFR k v true
  | 0, v, _, h => absurd h (Nat.not_lt_zero _)
  | k + 1, v, hf, hs => by
    show pSound (pSoundR k) v = formedF (formedFR k) v true
    have h3 := FitL.fR (j := 3) (t := 0) hf rfl
    have h4 := FitL.fR (j := 4) (t := 1) hf rfl
    have e3 : ∀ i, i < (fR v 3).length → pSoundR k (row (fR v 3) i) = formedFR k (row (fR v 3) i) true := fun i hi => by
      have := szR_row hi
      have := sz_nth v 3
      exact soundR_eq k _ (h3.1.row hi) (by omega)
    have e4 : ∀ i, i < (fR v 4).length → pSoundR k (sub (row (fR v 4) i) 1 5) = formedFR k (sub (row (fR v 4) i) 1 5) true := fun i hi => by
      have := szR_row hi
      have := sz_nth v 4
      have hf4 := h4.1.row hi
      have := szL_sub (r := row (fR v 4) i) (k := 1) (n := 5) (by rw [hf4.length]; decide)
      exact soundR_eq k _ (FitL.sub hf4 1 5 (by decide)) (by omega)
    have G6 := formed_list (rec := pSoundR k) (rec' := formedFR k) v e3
    have G5 := formed_nolist (rec' := formedFR k) v
    have F5 := pFields_eq (rec := pSoundR k) (rec' := formedFR k) v e4
    have F0 := fields_none (rec := formedFR k) (v := v)
    unfold pSound formedF
    rw [pUtf8_eq, F5]
    generalize lpW (pSound_b1 (pSoundR k) v) false ((fun x1 : Nat => (fR v 3).length - x1) 0 + 1) 0 = A6 at *
    generalize lpW (formedF_b1 (formedFR k) v true) false ((fun x1 : Nat => (fR v 3).length - x1) 0 + 1) 0 = G at *
    generalize fieldsF (formedFR k) v true = A5 at *
    generalize (fI v 1 != 0) = a
    generalize ((fS v 2).toList != (⟨#[]⟩ : ByteArray).toList) = st
    generalize hl3 : decide (((fR v 3).length : Int) > 0) = l3
    generalize hl4 : decide (((fR v 4).length : Int) > 0) = l4
    have z3 : l3 = false → (fR v 3).length = 0 := fun h => by subst h; have := of_dF hl3; omega
    have z4 : l4 = false → (fR v 4).length = 0 := fun h => by subst h; have := of_dF hl4; omega
    have g6 : l4 = false → A6 = G := fun h => G6 (z4 h)
    have g5 : l3 = false → G = A5 := fun h => G5 (z3 h)
    have g0 : l4 = false → A5 = true := fun h => F0 (z4 h)
    clear G6 G5 F5 F0 z3 z4 hl3 hl4 e3 e4 h3 h4
    generalize (bif decide (((fS v 2).size : Int) ≤ 4096) then utf8F (fS v 2) else false) = u4
    generalize decide (((fS v 2).size : Int) ≤ 4096) = u7
    generalize (((fS v 2).size : Int) == 12) = u8
    generalize (bif fI v 1 == 0 then true else fI v 1 == 1) = u9
    generalize decide (fI v 1 ≥ 0) = u10
    generalize fI v 0 = q
    have hq : (q < 1 ∨ q > 11) ∨ q = 1 ∨ q = 2 ∨ q = 3 ∨ q = 4 ∨ q = 5 ∨ q = 6 ∨ q = 7 ∨ q = 8 ∨ q = 9 ∨ q = 10 ∨ q = 11 := by omega
    have out : (q < 1 ∨ q > 11) → (q == 1) = false ∧ (q == 2) = false ∧ (q == 3) = false ∧ (q == 4) = false ∧ (q == 5) = false ∧ (q == 6) = false ∧ (q == 7) = false ∧ (q == 8) = false ∧ (q == 9) = false ∧ (q == 10) = false ∧ (q == 11) = false ∧ (bif decide (q < 1) then true else decide (q > 11)) = true := fun h => by
      refine ⟨?_, ?_, ?_, ?_, ?_, ?_, ?_, ?_, ?_, ?_, ?_, ?_⟩
      iterate 11 (rw [beq_eq_false_iff_ne]; omega)
      by_cases h1 : q < 1
      · rw [decide_eq_true h1]; rfl
      · rw [decide_eq_false h1, cond_false, decide_eq_true (by omega)]
    rcases hq with h | h | h | h | h | h | h | h | h | h | h | h
    · obtain ⟨c1, c2, c3, c4, c5, c6, c7, c8, c9, c10, c11, c12⟩ := out h
      simp only [bne, c1, c2, c3, c4, c5, c6, c7, c8, c9, c10, c11, c12, cond_false, cond_true, Bool.not_false]
      cases a <;> cases st <;> cases l3 <;> cases l4 <;> rfl
    all_goals subst h
    all_goals clear out
    all_goals cases l3 <;> cases l4
    all_goals first | (cases a <;> cases st <;> rfl) | (have h6 := g6 rfl; have h5 := g5 rfl; have h0 := g0 rfl; subst h6 h5; cases a <;> cases st <;> first | rfl | exact h0 | exact h0.symm) | (have h6 := g6 rfl; subst h6; cases a <;> cases st <;> rfl) | (have h5 := g5 rfl; subst h5; cases a <;> cases st <;> rfl)
theorem pValue_eq {v : List D} (hf : FitL sh by_ v KV) : pValue v = valueF v := by
  unfold pValue valueF
  rw [pNodes_eq hf, pDepth_eq hf, show pSoundT v = formedFT v true from soundR_eq _ v hf (Nat.lt_succ_self _)]
  cases decide (nodesF v ≤ 1024) <;> cases decide (depthF v ≤ 16) <;> rfl
end Go.Proofs.YtgoipafikbpioaaGreatDoor

namespace Go.Proofs.YtgoipafikbpioaaGreatDoor
open Go.RowKit Go.Sx
set_option linter.unusedVariables false
abbrev KE : List K := [.int, .sl 2, .str, .sl 2, .int, .int, .str, .sl 0, .sl 1, .int, .sl 5]
theorem same_zero (a : List D) : sameFT a ([.int 0, .int 0, .str ByteArray.empty, .sl [], .sl []]) = pxZero a := by
  show sameF (sameFR (szL a)) a ([.int 0, .int 0, .str ByteArray.empty, .sl [], .sl []]) = pxZero a
  unfold sameF pxZero
  rw [show fI ([.int 0, .int 0, .str ByteArray.empty, .sl [], .sl []]) 0 = 0 from rfl, show fI ([.int 0, .int 0, .str ByteArray.empty, .sl [], .sl []]) 1 = 0 from rfl, show fS ([.int 0, .int 0, .str ByteArray.empty, .sl [], .sl []]) 2 = (⟨#[]⟩ : ByteArray) from rfl,
    show fR ([.int 0, .int 0, .str ByteArray.empty, .sl [], .sl []]) 3 = [] from rfl, show fR ([.int 0, .int 0, .str ByteArray.empty, .sl [], .sl []]) 4 = [] from rfl]
  show (bif (bif !(fI a 0 == 0) then true else bif !(fI a 1 == 0) then true else bif !((fS a 2).toList == (⟨#[]⟩ : ByteArray).toList) then true else bif !(((fR a 3).length : Int) == 0) then true else !(((fR a 4).length : Int) == 0)) then false else lpW _ false _ 0) = _
  cases fI a 0 == 0
  · rfl
  cases fI a 1 == 0
  · rfl
  cases (fS a 2).toList == (⟨#[]⟩ : ByteArray).toList
  · rfl
  cases h3 : ((fR a 3).length : Int) == 0
  · rfl
  cases h4 : ((fR a 4).length : Int) == 0
  · rfl
  have e3 : (fR a 3).length = 0 := by have := of_eT h3; omega
  have e4 : (fR a 4).length = 0 := by have := of_eT h4; omega
  show lpW (sameF_b1 (sameFR (szL a)) a _) false ((fR a 3).length - 0 + 1) 0 = true
  rw [e3]
  show sameF_b1 (sameFR (szL a)) a _ 0 _ = true
  unfold sameF_b1
  rw [e3, decide_eq_false (by omega : ¬ ((0 : Nat) : Int) < ((0 : Nat) : Int)), cond_false, e4]
  show sameF_b2 (sameFR (szL a)) a _ 0 _ = true
  unfold sameF_b2
  rw [e4]; rfl
def kindOk (s e k : Int) : Bool := (s == 0 && e == 0 && k != 34) || (s == 1 && e == 1 && k != 34) || (s == 2 && e == 2 && k != 34) || (s == 3 && e == 2 && k != 34) || (s == 4 && e == 3 && k != 34) || ((s == 5 || s == 6) && e == -1 && k != 34) || (s == 7 && e == -1 && k == 34)
theorem kinds_all : ∀ n : Fin 38, 1 ≤ n.val → kindOk (pShape (n.val : Int)) (exprKidsF (n.val : Int)) (n.val : Int) = true ∧ (pShape (n.val : Int) == 3) = (bif (n.val : Int) == 32 then true else (n.val : Int) == 33) := by decide
theorem kinds_at {k : Int} (h1 : 1 ≤ k) (h2 : k ≤ 37) : kindOk (pShape k) (exprKidsF k) k = true ∧ (pShape k == 3) = (bif k == 32 then true else k == 33) := by
  have := kinds_all ⟨k.toNat, by omega⟩ (by show 1 ≤ k.toNat; omega)
  simp only [show ((k.toNat : Nat) : Int) = k by omega] at this
  exact this
theorem exA {k n l : Int} (hn : 0 ≤ n) {α : Type} {a x y : α} (h : 1 ≤ k → k ≤ 37 → x = y) :
    (bif (bif decide (k < 1) then true else bif decide (k > 37) then true else !(pxKids (pShape k) n)) then a else bif (bif k == 34 then n != l else false) then a else x) =
    (bif (bif decide (k < 1) then true else bif decide (k > 37) then true else bif decide (exprKidsF k ≥ 0) then (bif n != exprKidsF k then true else bif k == 34 then (bif n != l then true else n == 0) else false) else bif k == 34 then (bif n != l then true else n == 0) else false) then a else y) := by
  by_cases h1 : k < 1
  · rw [decide_eq_true h1]; rfl
  by_cases h2 : k > 37
  · rw [decide_eq_true h2]; simp
  rw [decide_eq_false h1, decide_eq_false h2, cond_false, cond_false, cond_false, cond_false, h (by omega) (by omega)]
  obtain ⟨hk, _⟩ := kinds_at (k := k) (by omega) (by omega)
  unfold kindOk at hk
  simp only [Bool.or_eq_true, Bool.and_eq_true, beq_iff_eq, bne_iff_ne, ne_eq] at hk
  unfold pxKids
  generalize pShape k = s at *
  generalize exprKidsF k = e at *
  rcases hk with (((((⟨⟨h1, h2⟩, h3⟩ | ⟨⟨h1, h2⟩, h3⟩) | ⟨⟨h1, h2⟩, h3⟩) | ⟨⟨h1, h2⟩, h3⟩) | ⟨⟨h1, h2⟩, h3⟩) | ⟨⟨h1, h2⟩, h3⟩) | ⟨⟨h1, h2⟩, h3⟩
  · subst h1 h2; rw [show (k == 34) = false by simpa using h3]
    show (bif !(n == 0) then a else y) = (bif (bif !(n == 0) then true else false) then a else y)
    cases n == 0 <;> rfl
  · subst h1 h2; rw [show (k == 34) = false by simpa using h3]
    show (bif !(n == 1) then a else y) = (bif (bif !(n == 1) then true else false) then a else y)
    cases n == 1 <;> rfl
  · subst h1 h2; rw [show (k == 34) = false by simpa using h3]
    show (bif !(n == 2) then a else y) = (bif (bif !(n == 2) then true else false) then a else y)
    cases n == 2 <;> rfl
  · subst h1 h2; rw [show (k == 34) = false by simpa using h3]
    show (bif !(n == 2) then a else y) = (bif (bif !(n == 2) then true else false) then a else y)
    cases n == 2 <;> rfl
  · subst h1 h2; rw [show (k == 34) = false by simpa using h3]
    show (bif !(n == 3) then a else y) = (bif (bif !(n == 3) then true else false) then a else y)
    cases n == 3 <;> rfl
  · rw [show (k == 34) = false by simpa using h3]
    subst h2
    rcases h1 with rfl | rfl <;> rfl
  · subst h1 h2; rw [show (k == 34) = true by simpa using h3]
    show (bif !(decide (n ≥ 1)) then a else bif (n != l) then a else y) = (bif (bif n != l then true else n == 0) then a else y)
    by_cases hz : n = 0
    · rw [decide_eq_false (by omega : ¬ n ≥ 1), show (n == 0) = true by simpa using hz]
      cases n != l <;> rfl
    · rw [decide_eq_true (by omega : n ≥ 1), show (n == 0) = false by simpa using hz]
      cases n != l <;> rfl
theorem exB {α : Type} {a x y : α} {k : Int} {p l : Bool} (h : x = y) :
    (bif (bif (bif k == 2 then true else k == 3) then (bif p then false else bif k == 2 then true else l) else false) then a else x) =
    (bif (bif k == 2 then (bif p then (bif k == 3 then (bif l then !p else false) else false) else true) else bif k == 3 then (bif l then !p else false) else false) then a else y) := by
  subst h
  cases k == 2 <;> cases k == 3 <;> cases p <;> cases l <;> rfl
theorem exE {α : Type} {a x : α} {k2 k3 N k34 k1 l1 l3 st z n9 : Bool} :
    (bif (bif (bif k2 then true else k3) then (bif N then (bif !k34 then l3 else false) else (bif st then true else (bif !k34 then l3 else false))) else (bif l1 then true else (bif N then (bif !k34 then l3 else false) else (bif st then true else (bif !k34 then l3 else false))))) then a else (bif (bif !k1 then (bif z then n9 else true) else n9) then a else x)) =
    (bif (bif !k2 then (bif !k3 then (bif l1 then true else (bif N then (bif !k34 then (bif l3 then true else (bif !k1 then (bif z then n9 else true) else n9)) else (bif !k1 then (bif z then n9 else true) else n9)) else (bif st then true else (bif !k34 then (bif l3 then true else (bif !k1 then (bif z then n9 else true) else n9)) else (bif !k1 then (bif z then n9 else true) else n9))))) else (bif N then (bif !k34 then (bif l3 then true else (bif !k1 then (bif z then n9 else true) else n9)) else (bif !k1 then (bif z then n9 else true) else n9)) else (bif st then true else (bif !k34 then (bif l3 then true else (bif !k1 then (bif z then n9 else true) else n9)) else (bif !k1 then (bif z then n9 else true) else n9))))) else (bif N then (bif !k34 then (bif l3 then true else (bif !k1 then (bif z then n9 else true) else n9)) else (bif !k1 then (bif z then n9 else true) else n9)) else (bif st then true else (bif !k34 then (bif l3 then true else (bif !k1 then (bif z then n9 else true) else n9)) else (bif !k1 then (bif z then n9 else true) else n9))))) then a else x) := by
  cases k2 <;> cases k3 <;> cases l1 <;> cases N <;> cases k34 <;> cases l3 <;> cases st <;> cases k1 <;> cases z <;> cases n9 <;> rfl
theorem pExNode_eq {v : List D} (hf : FitL sh by_ v KE) : pExNode v = exprNodeF v := by
  unfold pExNode exprNodeF
  refine exA (by omega) (fun h1 h2 => ?_)
  rw [pPath_eq, pExName_eq, pDistinct_eq, pValue_eq (FitL.sub hf 4 5 (by decide)), same_zero, (kinds_at h1 h2).2]
  refine exB ?_
  refine bif_congr rfl (fun _ => rfl) (fun _ => ?_)
  refine bif_congr rfl (fun _ => rfl) (fun _ => ?_)
  exact exE
theorem exR_eq : ∀ (k : Nat) (v : List D) (lv n : Int), FitL sh by_ v KE → szL v < k → 0 ≤ n → n ≤ 256 → 1 ≤ lv → lv ≤ 17 →
    (pExCheckR k v lv n).1 = (exprCheckFR k v (n + 1) lv).2 ∧ ((pExCheckR k v lv n).1 = 0 → (pExCheckR k v lv n).2 = (exprCheckFR k v (n + 1) lv).1 ∧ 0 ≤ (pExCheckR k v lv n).2 ∧ (pExCheckR k v lv n).2 ≤ 256)
  | 0, v, lv, n, _, h, _, _, _, _ => absurd h (Nat.not_lt_zero _)
  | k + 1, v, lv, n, hf, hs, h1, h2, h3, h4 => by
    show (pExCheck (pExCheckR k) v lv n).1 = (exprCheckF (exprCheckFR k) v (n + 1) lv).2 ∧ ((pExCheck (pExCheckR k) v lv n).1 = 0 → (pExCheck (pExCheckR k) v lv n).2 = (exprCheckF (exprCheckFR k) v (n + 1) lv).1 ∧ 0 ≤ (pExCheck (pExCheckR k) v lv n).2 ∧ (pExCheck (pExCheckR k) v lv n).2 ≤ 256)
    have h10 := FitL.fR (j := 10) (t := 5) hf rfl
    have ih : ∀ (i : Nat) (x l : Int), i < (fR v 10).length → 0 ≤ x → x ≤ 256 → 1 ≤ l → l ≤ 17 → _ := fun i x l hi a1 a2 a3 a4 => exR_eq k (row (fR v 10) i) l x (h10.1.row hi) (by have := szR_row hi; have := sz_nth v 10; omega) a1 a2 a3 a4
    let Q : Int × Int → Int × Int → Prop := fun a b => a.1 = b.2 ∧ (a.1 = 0 → a.2 = b.1 ∧ 0 ≤ a.2 ∧ a.2 ≤ 256)
    show Q (pExCheck (pExCheckR k) v lv n) (exprCheckF (exprCheckFR k) v (n + 1) lv)
    unfold pExCheck exprCheckF
    by_cases c1 : lv > 16
    · rw [decide_eq_true c1]; exact ⟨rfl, fun h => by cases h⟩
    by_cases c2 : n = 256
    · subst c2
      rw [decide_eq_false c1, cond_false, cond_false, decide_eq_true (by omega : (256 : Int) + 1 > 256)]; exact ⟨rfl, fun h => by cases h⟩
    rw [decide_eq_false c1, cond_false, cond_false, decide_eq_false (by omega : ¬ n + 1 > 256), show (n == 256) = false by simpa using c2, cond_false, cond_false, pExNode_eq hf, i64w (t := n + 1) (by omega) (by omega)]
    cases hz : (exprNodeF v != 0)
    · rw [cond_false, cond_false]
      refine lp_rel (B := pExCheck_b1 (pExCheckR k) v lv n) (C := exprCheckF_b1 (exprCheckFR k) v (n + 1) lv) (fun x y => x.1 = y.1 ∧ x.2 = y.2 ∧ 0 ≤ x.2 ∧ x.2 ≤ 256) Q (fun x => (fR v 10).length - x.1) (fun x => (fR v 10).length - x.1) ?_ _ _ (0, n + 1) (0, n + 1) (Nat.lt_succ_self _) (Nat.lt_succ_self _) ⟨rfl, rfl, by show 0 ≤ n + 1; omega, by show n + 1 ≤ 256; omega⟩
      rintro ⟨i, x⟩ ⟨_, _⟩ K J ⟨rfl, rfl, a1, a2⟩ hk
      simp only at a1 a2
      unfold pExCheck_b1 exprCheckF_b1
      simp only
      by_cases hi : i < (fR v 10).length
      · rw [decide_eq_true (by omega : (i : Int) < (fR v 10).length), cond_true, cond_true, i64w (t := lv + 1) (by omega) (by omega), i64w (t := x + 1) (by omega) (by omega)]
        obtain ⟨e1, e2⟩ := ih i x (lv + 1) hi a1 a2 (by omega) (by omega)
        rw [← e1]
        cases hr : ((pExCheckR k (row (fR v 10) i) (lv + 1) x).1 != 0)
        · rw [cond_false, cond_false]
          have h0 : (pExCheckR k (row (fR v 10) i) (lv + 1) x).1 = 0 := by simpa using hr
          obtain ⟨f1, f2, f3⟩ := e2 h0
          exact hk _ _ ⟨rfl, f1, f2, f3⟩ (by show (fR v 10).length - (i + 1) < (fR v 10).length - i; omega) (by show (fR v 10).length - (i + 1) < (fR v 10).length - i; omega)
        · rw [cond_true, cond_true]
          exact ⟨rfl, fun h => by have : (pExCheckR k (row (fR v 10) i) (lv + 1) x).1 = 0 := h; rw [this] at hr; cases hr⟩
      · rw [decide_eq_false (by omega : ¬ (i : Int) < (fR v 10).length), cond_false, cond_false]
        exact ⟨rfl, fun _ => ⟨rfl, a1, a2⟩⟩
    · rw [cond_true, cond_true]
      exact ⟨rfl, fun h => by have : exprNodeF v = 0 := h; rw [this] at hz; cases hz⟩
theorem pExpr_eq {v : List D} (hf : FitL sh by_ v KE) : pExpr v = exprF v := (exR_eq _ v 1 0 hf (Nat.lt_succ_self _) (by omega) (by omega) (by omega) (by omega)).1
end Go.Proofs.YtgoipafikbpioaaGreatDoor

namespace Go.Proofs.YtgoipafikbpioaaGreatDoor
open Go.RowKit Go.Sx
set_option linter.unusedVariables false
abbrev KP : List K := [.int, .sl 2, .int, .int, .str, .sl 0, .sl 1, .sl 0, .int, .int, .int, .sl 4, .int, .int, .sl 2, .str, .sl 2, .int, .int, .str, .sl 0, .sl 1, .int, .sl 5, .sl 6]
theorem geoLoop {v : List D} {F : Nat → (Nat → Int) → Int} {r : Int} (hF : ∀ x K, F x K = bif decide ((x : Int) < ((fR v 1).length : Int)) then (bif pPoint (row (fR v 1) x) then K (x + 1) else 18) else r) :
    ∀ m x, (fR v 1).length - x < m → lpW F 0 m x = bif decide (∀ i, i < (fR v 1).length → x ≤ i → pPoint (row (fR v 1) i) = true) then r else 18 := by
  intro m
  induction m with
  | zero => intro x h; exact absurd h (Nat.not_lt_zero _)
  | succ m ih =>
    intro x hm
    rw [lpW, hF]
    by_cases h : x < (fR v 1).length
    · rw [decide_eq_true (by omega : (x : Int) < (fR v 1).length), cond_true]
      cases hc : pPoint (row (fR v 1) x)
      · rw [cond_false, decide_eq_false (fun hh => by have := hh x h (Nat.le_refl _); rw [hc] at this; cases this)]; rfl
      · rw [cond_true, ih (x + 1) (by omega)]
        congr 1
        refine decide_eq_decide.2 ⟨fun hh i h1 h2 => ?_, fun hh i h1 h2 => hh i h1 (by omega)⟩
        by_cases hix : i = x
        · subst hix; exact hc
        · exact hh i h1 (by omega)
    · rw [decide_eq_false (by omega : ¬ (x : Int) < (fR v 1).length), cond_false, decide_eq_true (fun i h1 h2 => absurd h1 (by omega))]; rfl
theorem pGeo_eq (v : List D) : pGeo v = geoF v := by
  unfold pGeo geoF
  rw [geoLoop (v := v) (F := pGeo_b1 v) (r := 0) (fun _ _ => rfl) _ 0 (Nat.lt_succ_self _), geoLoop (v := v) (F := pGeo_b2 v) (r := 0) (fun _ _ => rfl) _ 0 (Nat.lt_succ_self _), geoLoop (v := v) (F := pGeo_b3 v) (r := 0) (fun _ _ => rfl) _ 0 (Nat.lt_succ_self _),
    geoLoop (v := v) (F := geoF_b1 v) (r := _) (fun _ _ => rfl) _ 0 (Nat.lt_succ_self _)]
  show _ = bif decide (((fR v 1).length : Int) > 64) then 18 else (bif decide (∀ i, i < (fR v 1).length → 0 ≤ i → pPoint (row (fR v 1) i) = true) then _ else 18)
  generalize decide (∀ i, i < (fR v 1).length → 0 ≤ i → pPoint (row (fR v 1) i) = true) = W
  show _ = bif decide (((fR v 1).length : Int) > 64) then 18 else (bif W then (bif (bif (fI v 0) == 1 then (bif ((fR v 1).length : Int) == 2 then (bif (fI v 2) == 0 then (true) else (bif (fI v 0) == 2 then (bif ((fR v 1).length : Int) == 1 then (bif pCoord (fI v 2) then (true) else (bif (fI v 0) == 3 then (bif decide (((fR v 1).length : Int) ≥ 3) then ((fI v 2) == 0) else (false)) else (false))) else (bif (fI v 0) == 3 then (bif decide (((fR v 1).length : Int) ≥ 3) then ((fI v 2) == 0) else (false)) else (false))) else (bif (fI v 0) == 3 then (bif decide (((fR v 1).length : Int) ≥ 3) then ((fI v 2) == 0) else (false)) else (false)))) else (bif (fI v 0) == 2 then (bif ((fR v 1).length : Int) == 1 then (bif pCoord (fI v 2) then (true) else (bif (fI v 0) == 3 then (bif decide (((fR v 1).length : Int) ≥ 3) then ((fI v 2) == 0) else (false)) else (false))) else (bif (fI v 0) == 3 then (bif decide (((fR v 1).length : Int) ≥ 3) then ((fI v 2) == 0) else (false)) else (false))) else (bif (fI v 0) == 3 then (bif decide (((fR v 1).length : Int) ≥ 3) then ((fI v 2) == 0) else (false)) else (false)))) else (bif (fI v 0) == 2 then (bif ((fR v 1).length : Int) == 1 then (bif pCoord (fI v 2) then (true) else (bif (fI v 0) == 3 then (bif decide (((fR v 1).length : Int) ≥ 3) then ((fI v 2) == 0) else (false)) else (false))) else (bif (fI v 0) == 3 then (bif decide (((fR v 1).length : Int) ≥ 3) then ((fI v 2) == 0) else (false)) else (false))) else (bif (fI v 0) == 3 then (bif decide (((fR v 1).length : Int) ≥ 3) then ((fI v 2) == 0) else (false)) else (false)))) then 0 else 18) else 18)
  generalize (fR v 1).length = n
  generalize pCoord (fI v 2) = pc
  generalize (fI v 2 == 0) = z
  generalize fI v 0 = k
  by_cases h1 : k = 1
  · subst h1
    show (bif (n : Int) == 2 then (bif z then (bif W then 0 else 18) else 18) else 18) = bif decide ((n : Int) > 64) then 18 else (bif W then (bif (bif (n : Int) == 2 then (bif z then true else false) else false) then 0 else 18) else 18)
    by_cases h : n = 2
    · subst h; cases z <;> cases W <;> rfl
    · rw [show ((n : Int) == 2) = false by simp; omega]; cases decide ((n : Int) > 64) <;> cases W <;> rfl
  by_cases h2 : k = 2
  · subst h2
    show (bif (n : Int) == 1 then (bif pc then (bif W then 0 else 18) else 18) else 18) = bif decide ((n : Int) > 64) then 18 else (bif W then (bif (bif (n : Int) == 1 then (bif pc then true else false) else false) then 0 else 18) else 18)
    by_cases h : n = 1
    · subst h; cases pc <;> cases W <;> rfl
    · rw [show ((n : Int) == 1) = false by simp; omega]; cases decide ((n : Int) > 64) <;> cases W <;> rfl
  rw [show (k == 1) = false by simpa using h1, show (k == 2) = false by simpa using h2]
  cases k == 3
  · cases decide ((n : Int) > 64) <;> cases W <;> rfl
  · show (bif decide ((n : Int) ≥ 3) then (bif decide ((n : Int) ≤ 64) then (bif z then (bif W then 0 else 18) else 18) else 18) else 18) = bif decide ((n : Int) > 64) then 18 else (bif W then (bif (bif decide ((n : Int) ≥ 3) then z else false) then 0 else 18) else 18)
    by_cases h : (n : Int) ≤ 64
    · rw [decide_eq_true h, decide_eq_false (by omega : ¬ (n : Int) > 64)]; cases decide ((n : Int) ≥ 3) <;> cases z <;> cases W <;> rfl
    · rw [decide_eq_false h, decide_eq_true (by omega : (n : Int) > 64)]; cases decide ((n : Int) ≥ 3) <;> rfl
theorem clean3 {A P C M Ar L R : Bool} : (bif (bif A then false else P) then false else (bif (bif C then false else !M) then false else (bif (bif Ar then false else L) then false else R))) =
    (bif (bif A then (bif C then (bif Ar then false else L) else (bif M then (bif Ar then false else L) else true)) else (bif P then true else (bif C then (bif Ar then false else L) else (bif M then (bif Ar then false else L) else true)))) then false else R) := by
  cases A <;> cases P <;> cases C <;> cases M <;> cases Ar <;> cases L <;> rfl
theorem clean2 {a b c d n8 n9 R : Bool} : (bif (bif (bif a then true else (bif b then true else (bif c then true else d))) then false else n8) then false else (bif (bif !c then n9 else false) then false else R)) =
    (bif (bif !a then (bif !b then (bif !c then (bif !d then (bif n8 then true else n9) else n9) else false) else (bif !c then n9 else false)) else (bif !c then n9 else false)) then false else R) := by
  cases a <;> cases b <;> cases c <;> cases d <;> cases n8 <;> cases n9 <;> rfl
theorem clean1 {k18 k24 s0 s1 s2 X : Bool} : (bif (bif !k18 then (bif !s0 then true else (bif !s1 then true else !s2)) else false) then false else (bif (bif !k24 then !X else false) then false else true)) =
    (bif k18 then (bif k24 then true else X) else (bif (bif s0 then (bif s1 then s2 else false) else false) then (bif k24 then true else X) else false)) := by
  cases k18 <;> cases k24 <;> cases s0 <;> cases s1 <;> cases s2 <;> cases X <;> rfl
theorem len_pos (n : Nat) : decide ((n : Int) > 0) = !((n : Int) == 0) := by
  by_cases h : n = 0
  · subst h; rfl
  · rw [decide_eq_true (by omega), show ((n : Int) == 0) = false by simpa using h]; rfl
theorem pClean_eq (v : List D) : pClean v = unusedF v := by
  unfold pClean unusedF
  refine clean3.trans (bif_congr rfl (fun _ => rfl) (fun _ => ?_))
  refine clean2.trans (bif_congr rfl (fun _ => rfl) (fun _ => ?_))
  show (bif (bif (!(fI v 0 == 18)) then (bif (!(fI v 10 == 0)) then true else (bif decide (((fR v 11).length : Int) > 0) then true else (!(fI v 12 == 0)))) else false) then false else (bif (bif (!(fI v 0 == 24)) then !(noExprF (sub v 13 11)) else false) then false else true)) =
    (bif fI v 0 == 18 then (bif fI v 0 == 24 then true else noExprF (sub v 13 11)) else (bif (bif fI v 10 == 0 then (bif ((fR v 11).length : Int) == 0 then fI v 12 == 0 else false) else false) then (bif fI v 0 == 24 then true else noExprF (sub v 13 11)) else false))
  rw [len_pos]
  exact clean1
theorem lp_rel2 {σ τ ρ θ : Type} {B : σ → (σ → ρ) → ρ} {C : τ → (τ → θ) → θ} {z : ρ} {z' : θ} (R : σ → τ → Prop) (Q : ρ → θ → Prop) (P : τ → Prop) (S : θ → Prop) (μ : σ → Nat) (ν : τ → Nat)
    (hP : ∀ y J, P y → (∀ y', P y' → ν y' < ν y → S (J y')) → S (C y J))
    (h : ∀ x y K J, R x y → (∀ y', P y' → ν y' < ν y → S (J y')) → (∀ x' y', R x' y' → μ x' < μ x → ν y' < ν y → Q (K x') (J y')) → Q (B x K) (C y J)) : ∀ n m x y, μ x < n → ν y < m → R x y → Q (lpW B z n x) (lpW C z' m y) := by
  intro n
  induction n with
  | zero => intro m x y hx; exact absurd hx (Nat.not_lt_zero _)
  | succ n ih =>
    intro m x y hx hy hr
    cases m with
    | zero => exact absurd hy (Nat.not_lt_zero _)
    | succ m =>
      rw [lpW, lpW]
      exact h x y _ _ hr (fun y' h1 h2 => lp_ind (B := C) P S ν hP m y' (by omega) h1) (fun x' y' hr' h1 h2 => ih m x' y' (by omega) (by omega) hr')
theorem fitsR_eq : ∀ (k : Nat) (v : List D) (lv n : Int), FitL sh by_ v KP → szL v < k → 0 ≤ n → n ≤ 256 → 1 ≤ lv → lv ≤ 17 →
    ((pFitsR k v lv n).1 = false ∧ count13FR k v (17 - lv) (256 - n) < 0) ∨ ((pFitsR k v lv n).1 = true ∧ count13FR k v (17 - lv) (256 - n) = 256 - (pFitsR k v lv n).2 ∧ 0 ≤ (pFitsR k v lv n).2 ∧ (pFitsR k v lv n).2 ≤ 256)
  | 0, v, lv, n, _, h, _, _, _, _ => absurd h (Nat.not_lt_zero _)
  | k + 1, v, lv, n, hf, hs, h1, h2, h3, h4 => by
    have h24 := FitL.fR (j := 24) (t := 6) hf rfl
    have ih : ∀ (i : Nat) (x l : Int), i < (fR v 24).length → 0 ≤ x → x ≤ 256 → 1 ≤ l → l ≤ 17 → _ := fun i x l hi a1 a2 a3 a4 => fitsR_eq k (row (fR v 24) i) l x (h24.1.row hi) (by have := szR_row hi; have := sz_nth v 24; omega) a1 a2 a3 a4
    let Q : Bool × Int → Int → Prop := fun a b => (a.1 = false ∧ b < 0) ∨ (a.1 = true ∧ b = 256 - a.2 ∧ 0 ≤ a.2 ∧ a.2 ≤ 256)
    show Q (pFits (pFitsR k) v lv n) (count13F (count13FR k) v (17 - lv) (256 - n))
    unfold pFits count13F
    by_cases c1 : lv > 16
    · have : lv = 17 := by omega
      subst this
      exact .inl ⟨rfl, by show (-1 : Int) < 0; omega⟩
    by_cases c2 : n = 256
    · subst c2
      rw [decide_eq_false c1, cond_false, show (17 - lv == 0) = false by simp; omega]
      exact .inl ⟨rfl, by show (-1 : Int) < 0; omega⟩
    rw [decide_eq_false c1, cond_false, show (17 - lv == 0) = false by simp; omega, cond_false, decide_eq_false (by omega : ¬ 256 - n ≤ 0), show (n == 256) = false by simpa using c2, cond_false, cond_false, i64w (t := n + 1) (by omega) (by omega), i64w (t := 256 - n - 1) (by omega) (by omega)]
    refine lp_rel2 (B := pFits_b1 (pFitsR k) v lv n) (C := count13F_b1 (count13FR k) v (17 - lv) (256 - n)) (fun x y => x.1 = y.1 ∧ y.2 = 256 - x.2 ∧ 0 ≤ x.2 ∧ x.2 ≤ 256) Q (fun y => y.2 < 0) (fun b => b < 0) (fun x => (fR v 24).length - x.1) (fun x => (fR v 24).length - x.1) ?_ ?_ _ _ (0, n + 1) (0, 256 - n - 1) (Nat.lt_succ_self _) (Nat.lt_succ_self _) ⟨rfl, by show 256 - n - 1 = 256 - (n + 1); omega, by show 0 ≤ n + 1; omega, by show n + 1 ≤ 256; omega⟩
    · rintro ⟨i, y⟩ J hy hJ
      unfold count13F_b1
      simp only at hy ⊢
      rw [decide_eq_false (by omega : ¬ y ≥ 0)]
      cases decide ((i : Int) < (fR v 24).length) <;> exact hy
    · rintro ⟨i, x⟩ ⟨_, y⟩ K J ⟨rfl, hy, a1, a2⟩ hJ hk
      simp only at hy a1 a2
      subst hy
      unfold pFits_b1 count13F_b1
      simp only
      by_cases hi : i < (fR v 24).length
      · rw [decide_eq_true (by omega : (i : Int) < (fR v 24).length), cond_true, cond_true, decide_eq_true (by omega : 256 - x ≥ 0), cond_true, i64w (t := lv + 1) (by omega) (by omega), i64w (t := 17 - lv - 1) (by omega) (by omega), show 17 - lv - 1 = 17 - (lv + 1) by omega]
        rcases ih i x (lv + 1) hi a1 a2 (by omega) (by omega) with ⟨e1, e2⟩ | ⟨e1, e2, e3, e4⟩
        · rw [e1, cond_false]
          exact .inl ⟨rfl, hJ _ e2 (by show (fR v 24).length - (i + 1) < (fR v 24).length - i; omega)⟩
        · rw [e1, cond_true]
          exact hk _ _ ⟨rfl, e2, e3, e4⟩ (by show (fR v 24).length - (i + 1) < (fR v 24).length - i; omega) (by show (fR v 24).length - (i + 1) < (fR v 24).length - i; omega)
      · rw [decide_eq_false (by omega : ¬ (i : Int) < (fR v 24).length), cond_false, cond_false]
        exact .inr ⟨rfl, rfl, a1, a2⟩
theorem fits_eq {v : List D} (hf : FitL sh by_ v KP) : (pFitsT v 1 0).1 = !decide (count13FT v 16 256 < 0) := by
  rcases fitsR_eq _ v 1 0 hf (Nat.lt_succ_self _) (by omega) (by omega) (by omega) (by omega) with ⟨h1, h2⟩ | ⟨h1, h2, h3, h4⟩
  · show (pFitsR (szL v + 1) v 1 0).1 = !decide (count13FR (szL v + 1) v 16 256 < 0)
    rw [h1, decide_eq_true (show count13FR (szL v + 1) v 16 256 < 0 from h2)]; rfl
  · show (pFitsR (szL v + 1) v 1 0).1 = !decide (count13FR (szL v + 1) v 16 256 < 0)
    rw [h1, decide_eq_false (show ¬ count13FR (szL v + 1) v 16 256 < 0 from by rw [show count13FR (szL v + 1) v 16 256 = _ from h2]; omega)]; rfl
end Go.Proofs.YtgoipafikbpioaaGreatDoor

namespace Go.Proofs.YtgoipafikbpioaaGreatDoor
open Go.RowKit Go.Sx
set_option linter.unusedVariables false
def nz (L e : Int) : Int := bif e != 0 then e else L
theorem nz_bif {L : Int} {c : Bool} {a b : Int} : nz L (bif c then a else b) = bif c then nz L a else nz L b := by cases c <;> rfl
theorem nz_self {e : Int} : nz 0 e = e := by
  unfold nz
  cases h : e != 0
  · have : e = 0 := by simpa using h
    rw [this]; rfl
  · rfl
theorem kids_eq (v : List D) : pKids (fI v 0) ((fR v 24).length : Int) = kidsF v := by
  unfold pKids kidsF
  have h : decide (((fR v 24).length : Int) ≥ 1) = decide (((fR v 24).length : Int) > 0) := decide_eq_decide.2 (by omega)
  rw [h]
theorem noText {k : Int} (h : hasArgF k = false) : hasTextF k = false := by
  unfold hasArgF at h
  cases h1 : decide (k ≥ 2) <;> cases h2 : decide (k ≤ 7) <;> rw [h1] at h <;> first | exact h | (rw [h2] at h; first | exact h | cases h)
theorem nodeF_b1 (rec' : List D → Bool → Int) (v : List D) (b : Bool) (x : Nat) (J : Nat → Int) : predNodeF_b1 rec' v b x J = bif (bif decide ((x : Int) < ((fR v 7).length : Int)) then (hasArgsF (fI v 0)) else (false)) then (bif valueF (row (fR v 7) x) then (J (x + 1)) else ((8 : Int))) else
    (bif (fI v 0) == 18 then (bif (geoF (sub v 10 3)) != 0 then (geoF (sub v 10 3)) else (bif unusedF v then (bif (fI v 0) == 24 then (exprF (sub v 13 11)) else (lpW (predNodeF_b2 rec' v b) 0 ((fun x2 : Nat => (fR v 24).length - x2) 0 + 1) 0)) else ((4 : Int)))) else (bif unusedF v then (bif (fI v 0) == 24 then (exprF (sub v 13 11)) else (lpW (predNodeF_b2 rec' v b) 0 ((fun x2 : Nat => (fR v 24).length - x2) 0 + 1) 0)) else ((4 : Int)))) := rfl
theorem predStep {rec rec' : List D → Bool → Int} {v : List D} {b : Bool} (hf : FitL sh by_ v KP) (hr : ∀ i c, i < (fR v 24).length → rec (row (fR v 24) i) c = rec' (row (fR v 24) i) c) : pPredCheck rec v b = predNodeF rec' v b := by
  have hL : lpW (pPredCheck_b1 rec v b) 0 ((fun x1 : Nat => (fR v 24).length - x1) 0 + 1) 0 = lpW (predNodeF_b2 rec' v b) 0 ((fun x2 : Nat => (fR v 24).length - x2) 0 + 1) 0 := by
    refine lp_rel (B := pPredCheck_b1 rec v b) (C := predNodeF_b2 rec' v b) (fun x y => x = y) (fun a b => a = b) (fun x => (fR v 24).length - x) (fun x => (fR v 24).length - x) ?_ _ _ 0 0 (Nat.lt_succ_self _) (Nat.lt_succ_self _) rfl
    rintro x _ K J rfl hk
    unfold pPredCheck_b1 predNodeF_b2
    refine bif_congr rfl (fun hc => ?_) (fun _ => rfl)
    have hx := of_dT hc
    have hn := hk _ _ (rfl : x + 1 = x + 1) (by omega) (by omega)
    rw [hr x _ (by omega), hr x _ (by omega), hn]
  have h0 : (fR v 24).length = 0 → lpW (predNodeF_b2 rec' v b) 0 ((fun x2 : Nat => (fR v 24).length - x2) 0 + 1) 0 = 0 := fun h => by
    rw [lpW]; unfold predNodeF_b2; rw [h]; rfl
  obtain ⟨L, hL2⟩ : ∃ L, lpW (predNodeF_b2 rec' v b) 0 ((fun x2 : Nat => (fR v 24).length - x2) 0 + 1) 0 = L := ⟨_, rfl⟩
  rw [hL2] at h0 hL
  unfold pPredCheck predNodeF
  rw [hL]
  show nz L (pPredNode v b) = _
  -- behind the loop over the arguments
  have tail : kidsF v = true → nz L (bif (fI v 0) == 18 then (bif (pGeo (sub v 10 3)) != 0 then (pGeo (sub v 10 3)) else (bif pClean v then (bif (fI v 0) == 24 then (pExpr (sub v 13 11)) else ((0 : Int))) else ((4 : Int)))) else (bif pClean v then (bif (fI v 0) == 24 then (pExpr (sub v 13 11)) else ((0 : Int))) else ((4 : Int)))) =
      (bif (fI v 0) == 18 then (bif (geoF (sub v 10 3)) != 0 then (geoF (sub v 10 3)) else (bif unusedF v then (bif (fI v 0) == 24 then (exprF (sub v 13 11)) else L) else ((4 : Int)))) else (bif unusedF v then (bif (fI v 0) == 24 then (exprF (sub v 13 11)) else L) else ((4 : Int)))) := fun hk => by
    have hR : nz L (bif pClean v then (bif (fI v 0) == 24 then (pExpr (sub v 13 11)) else ((0 : Int))) else ((4 : Int))) = (bif unusedF v then (bif (fI v 0) == 24 then (exprF (sub v 13 11)) else L) else ((4 : Int))) := by
      rw [nz_bif, pClean_eq]
      refine bif_congr rfl (fun _ => ?_) (fun _ => rfl)
      rw [nz_bif, pExpr_eq (FitL.sub hf 13 11 (by decide))]
      refine bif_congr rfl (fun h24 => ?_) (fun _ => rfl)
      have e24 : fI v 0 = 24 := of_eT h24
      have hz : (fR v 24).length = 0 := by
        unfold kidsF at hk
        rw [e24] at hk
        have : ((fR v 24).length : Int) = 0 := by simpa using hk
        omega
      rw [h0 hz]; exact nz_self
    rw [nz_bif, hR, pGeo_eq, nz_bif, hR]
    refine bif_congr rfl (fun _ => bif_congr rfl (fun hg => ?_) (fun _ => rfl)) (fun _ => rfl)
    unfold nz; rw [hg]; rfl
  unfold pPredNode
  rw [nz_bif, nz_bif, nz_bif, nz_bif, nz_bif, kids_eq, pPath_eq, pValue_eq (FitL.sub hf 2 5 (by decide)), len_pos]
  show (bif _ then (11 : Int) else bif _ then 11 else bif _ then 10 else bif _ then 8 else _) = _
  have hA : ∀ (X Y : Int), (kidsF v = true → X = Y) →
      (bif (bif decide (fI v 0 < 1) then true else bif decide (fI v 0 > 24) then true else !(kidsF v)) then (11 : Int) else bif (bif pArgs (fI v 0) then (bif ((fR v 7).length : Int) == 0 then true else !(pRange v)) else !(pRange v)) then 11 else X) =
      (bif (bif decide (fI v 0 < 1) then true else bif decide (fI v 0 > 24) then true else bif kidsF v then (bif hasArgsF (fI v 0) then (bif ((fR v 7).length : Int) == 0 then true else !(numbersF v)) else !(numbersF v)) else true) then (11 : Int) else Y) := fun X Y h => by
    show (bif (bif decide (fI v 0 < 1) then true else bif decide (fI v 0 > 24) then true else !(kidsF v)) then (11 : Int) else bif (bif hasArgsF (fI v 0) then (bif ((fR v 7).length : Int) == 0 then true else !(numbersF v)) else !(numbersF v)) then 11 else X) = _
    generalize (bif hasArgsF (fI v 0) then (bif ((fR v 7).length : Int) == 0 then true else !(numbersF v)) else !(numbersF v)) = W
    cases decide (fI v 0 < 1) <;> cases decide (fI v 0 > 24) <;> cases hk : kidsF v <;> cases W <;> first | rfl | exact h hk
  refine hA _ _ (fun hk => ?_)
  refine bif_congr rfl (fun _ => rfl) (fun _ => ?_)
  refine bif_congr ?_ (fun _ => rfl) (fun _ => ?_)
  · show (bif hasArgF (fI v 0) then (bif valueF (sub v 2 5) then (bif hasTextF (fI v 0) then ((fI v 2) != 4) else (false)) else (true)) else (bif hasTextF (fI v 0) then ((fI v 2) != 4) else (false))) = _
    cases h : hasArgF (fI v 0)
    · rw [noText h]; rfl
    · rfl
  · cases ha : hasArgsF (fI v 0)
    · rw [show pArgs (fI v 0) = false from ha, cond_false, tail hk, lpW, nodeF_b1, hL2, ha]
      cases decide (((0 : Nat) : Int) < ((fR v 7).length : Int)) <;> rfl
    · rw [show pArgs (fI v 0) = true from ha, cond_true]
      have h7 := FitL.fR (j := 7) (t := 0) hf rfl
      refine lp_rel (B := pPredNode_b1 v b) (C := predNodeF_b1 rec' v b) (fun x y => x = y) (fun a b => nz L a = b) (fun x => (fR v 7).length - x) (fun x => (fR v 7).length - x) ?_ _ _ 0 0 (Nat.lt_succ_self _) (Nat.lt_succ_self _) rfl
      rintro x _ K J rfl hk'
      unfold pPredNode_b1
      rw [nodeF_b1, hL2, ha, nz_bif, tail hk]
      cases hc : decide ((x : Int) < ((fR v 7).length : Int))
      · rfl
      · have hx := of_dT hc
        rw [cond_true, cond_true, cond_true, pValue_eq (h7.1.row (by omega)), nz_bif]
        exact bif_congr rfl (fun _ => hk' _ _ rfl (by omega) (by omega)) (fun _ => rfl)
theorem predR_eq : ∀ (k : Nat) (v : List D) (b : Bool), FitL sh by_ v KP → szL v < k → pPredCheckR k v b = predNodeFR k v b
  | 0, v, b, _, h => absurd h (Nat.not_lt_zero _)
  | k + 1, v, b, hf, hs => by
    have h24 := FitL.fR (j := 24) (t := 6) hf rfl
    exact predStep hf (fun i c hi => predR_eq k _ c (h24.1.row hi) (by have := szR_row hi; have := sz_nth v 24; omega))
theorem pPred_eq {v : List D} (hf : FitL sh by_ v KP) : pPred v = predF v := by
  unfold pPred predF
  rw [fits_eq hf, show pPredCheckT v false = predNodeFT v false from predR_eq _ v false hf (Nat.lt_succ_self _)]
  cases decide (count13FT v 16 256 < 0) <;> rfl
theorem lp_eq {σ ρ : Type} {B : σ → (σ → ρ) → ρ} {z : ρ} (R : σ → Prop) (G : σ → ρ) (μ : σ → Nat) (h : ∀ x K, R x → (∀ x', R x' → μ x' < μ x → K x' = G x') → B x K = G x) : ∀ n x, μ x < n → R x → lpW B z n x = G x := by
  intro n
  induction n with
  | zero => intro x hx; exact absurd hx (Nat.not_lt_zero _)
  | succ n ih =>
    intro x hx hr
    rw [lpW]
    exact h x _ hr (fun x' hr' h1 => ih x' (by omega) hr')
def exP (v : List D) (x : Nat) (r : Int) : Int :=
  (bif (bif decide ((x : Int) - ((fR v 1).length : Int) ≥ 0) then (bif decide (((x : Int) - ((fR v 1).length : Int)) - ((fR v 3).length : Int) < 0) then (decide (fI (row (fR v 3) (((x : Int) - ((fR v 1).length : Int)).toNat)) 2 < 0)) else (false)) else (false)) then ((1 : Int)) else (bif decide (((x : Int) - ((fR v 1).length : Int)) - ((fR v 3).length : Int) ≥ 0) then (bif (exprF (sub (row (fR v 4) ((((x : Int) - ((fR v 1).length : Int)) - ((fR v 3).length : Int)).toNat)) 1 11)) != 0 then (exprF (sub (row (fR v 4) ((((x : Int) - ((fR v 1).length : Int)) - ((fR v 3).length : Int)).toNat)) 1 11)) else r) else r))
def cpP (v : List D) (x : Nat) : Int := pCheckPath (fR (row (pathsF v) x) 0) ((pathsF v).take x)
theorem projStep (v : List D) (x : Nat) (K : Nat → Int) (h : x < (pathsF v).length) : projF_b1 v x K = nz (exP v x (K (x + 1))) (cpP v x) := by
  unfold projF_b1 cpP pCheckPath
  rw [decide_eq_true (by omega : (x : Int) < ((pathsF v).length : Int)), cond_true, nz_bif, pPath_eq]
  refine bif_congr rfl (fun _ => rfl) (fun _ => ?_)
  have hl : ((pathsF v).take x).length = x := by rw [List.length_take]; omega
  refine (lp_rel (B := pCheckPath_b1 (fR (row (pathsF v) x) 0) ((pathsF v).take x)) (C := projF_b2 v x K) (fun x y => x = y) (fun a b => b = nz (exP v x (K (x + 1))) a) (fun u => x - u) (fun u => x - u) ?_ _ _ 0 0 (by show x - 0 < ((pathsF v).take x).length - 0 + 1; omega) (Nat.lt_succ_self _) rfl)
  rintro u _ K' J' rfl hk
  unfold pCheckPath_b1 projF_b2
  rw [hl, nz_bif]
  refine bif_congr rfl (fun hc => ?_) (fun _ => rfl)
  have hu := of_dT hc
  rw [row_take (by omega : u < x), pOverlap_eq, nz_bif]
  exact bif_congr rfl (fun _ => rfl) (fun _ => hk _ _ rfl (by omega) (by omega))
def gP (v : List D) (x : Nat) : Int := lpW (projF_b1 v) 0 ((pathsF v).length - x + 1) x
theorem gP_end {v : List D} {x : Nat} (h : (pathsF v).length ≤ x) : gP v x = 0 := by
  unfold gP
  rw [lpW]; unfold projF_b1
  rw [decide_eq_false (by omega : ¬ (x : Int) < ((pathsF v).length : Int))]; rfl
theorem gP_step {v : List D} {x : Nat} (h : x < (pathsF v).length) : gP v x = nz (exP v x (gP v (x + 1))) (cpP v x) := by
  show lpW (projF_b1 v) 0 ((pathsF v).length - x + 1) x = _
  rw [lpW, projStep v x _ h, show (pathsF v).length - x = (pathsF v).length - (x + 1) + 1 by omega]; rfl
theorem take_row {A : List (List D)} {x : Nat} (h : x < A.length) : A.take x ++ [row A x] = A.take (x + 1) := by
  unfold row
  rw [List.getElem?_eq_getElem h, Option.getD_some, List.take_append_getElem h]
theorem row_app1 {A B : List (List D)} {i : Nat} (h : i < A.length) : row (A ++ B) i = row A i := by unfold row; rw [List.getElem?_append_left h]
theorem row_app2 {A B : List (List D)} {i n : Nat} (h : A.length = n) : row (A ++ B) (n + i) = row B i := by unfold row; rw [List.getElem?_append_right (by omega), show n + i - A.length = i by omega]
theorem row_map {n : Nat} {f : Nat → List D} {i : Nat} (h : i < n) : row ((List.range' 0 n).map f) i = f i := by
  unfold row; rw [List.getElem?_map, List.getElem?_range' h]; simp
theorem paths1 {v : List D} {i : Nat} (h : i < (fR v 1).length) : row (pathsF v) i = row (fR v 1) i := by
  rw [pathsF_eq]; unfold pathsD; rw [row_app1 (by simp; omega), row_app1 h]
theorem paths3 {v : List D} {i : Nat} (h : i < (fR v 3).length) : row (pathsF v) ((fR v 1).length + i) = sub (row (fR v 3) i) 0 1 := by
  rw [pathsF_eq]; unfold pathsD; rw [row_app1 (by simp; omega), row_app2 rfl, row_map h]
theorem paths4 {v : List D} {i : Nat} (h : i < (fR v 4).length) : row (pathsF v) ((fR v 1).length + (fR v 3).length + i) = sub (row (fR v 4) i) 0 1 := by
  rw [pathsF_eq]; unfold pathsD; rw [row_app2 (by simp), row_map h]
abbrev KJ : List K := [.bool, .sl 17, .bool, .sl 18, .sl 19]
theorem pProject_eq {v : List D} (hf : FitL sh by_ v KJ) : pProject v = projF v := by
  have hlen := pathsF_len v
  have h4 := FitL.fR (j := 4) (t := 19) hf rfl
  have L3 : ∀ n x, (fR v 4).length - x.1 < n → (x.1 ≤ (fR v 4).length ∧ x.2 = (pathsF v).take ((fR v 1).length + (fR v 3).length + x.1)) → lpW (pProject_b3 v) 0 n x = gP v ((fR v 1).length + (fR v 3).length + x.1) := by
    refine lp_eq (B := pProject_b3 v) (z := 0) _ (fun x => gP v ((fR v 1).length + (fR v 3).length + x.1)) (fun x => (fR v 4).length - x.1) ?_
    rintro ⟨i, E⟩ K ⟨hi, hE⟩ hk
    simp only at hE
    subst hE
    unfold pProject_b3
    simp only at hi ⊢
    by_cases hc : i < (fR v 4).length
    · rw [decide_eq_true (by omega : (i : Int) < ((fR v 4).length : Int)), cond_true, gP_step (by omega)]
      have hK : K (i + 1, (pathsF v).take ((fR v 1).length + (fR v 3).length + i) ++ [sub (row (fR v 4) i) 0 1]) = gP v ((fR v 1).length + (fR v 3).length + i + 1) := by
        rw [← paths4 hc, take_row (by omega)]
        exact hk (i + 1, _) ⟨by show i + 1 ≤ _; omega, rfl⟩ (by show (fR v 4).length - (i + 1) < (fR v 4).length - i; omega)
      have hcp : cpP v ((fR v 1).length + (fR v 3).length + i) = pCheckPath (fR (row (fR v 4) i) 0) ((pathsF v).take ((fR v 1).length + (fR v 3).length + i)) := by unfold cpP; rw [paths4 hc]; rfl
      rw [hcp, ← hK]
      unfold exP
      have t2 : ((((((fR v 1).length + (fR v 3).length + i : Nat) : Int) - ((fR v 1).length : Int)) - ((fR v 3).length : Int)).toNat) = i := by omega
      rw [t2, decide_eq_false (by omega : ¬ (((((fR v 1).length + (fR v 3).length + i : Nat) : Int) - ((fR v 1).length : Int)) - ((fR v 3).length : Int) < 0)), decide_eq_true (by omega : (((((fR v 1).length + (fR v 3).length + i : Nat) : Int) - ((fR v 1).length : Int)) - ((fR v 3).length : Int) ≥ 0)),
        decide_eq_true (by omega : (((fR v 1).length + (fR v 3).length + i : Nat) : Int) - ((fR v 1).length : Int) ≥ 0), pExpr_eq (FitL.sub (h4.1.row hc) 1 11 (by decide))]
      rfl
    · rw [decide_eq_false (by omega : ¬ (i : Int) < ((fR v 4).length : Int)), cond_false, gP_end (by omega)]
  have L2 : ∀ n x, (fR v 3).length - x.1 < n → (x.1 ≤ (fR v 3).length ∧ x.2 = (pathsF v).take ((fR v 1).length + x.1)) → lpW (pProject_b2 v) 0 n x = gP v ((fR v 1).length + x.1) := by
    refine lp_eq (B := pProject_b2 v) (z := 0) _ (fun x => gP v ((fR v 1).length + x.1)) (fun x => (fR v 3).length - x.1) ?_
    rintro ⟨i, E⟩ K ⟨hi, hE⟩ hk
    simp only at hE
    subst hE
    unfold pProject_b2
    simp only at hi ⊢
    by_cases hc : i < (fR v 3).length
    · rw [decide_eq_true (by omega : (i : Int) < ((fR v 3).length : Int)), cond_true, gP_step (by omega)]
      have hK : K (i + 1, (pathsF v).take ((fR v 1).length + i) ++ [sub (row (fR v 3) i) 0 1]) = gP v ((fR v 1).length + i + 1) := by
        rw [← paths3 hc, take_row (by omega)]
        exact hk (i + 1, _) ⟨by show i + 1 ≤ _; omega, rfl⟩ (by show (fR v 3).length - (i + 1) < (fR v 3).length - i; omega)
      have hcp : cpP v ((fR v 1).length + i) = pCheckPath (fR (row (fR v 3) i) 0) ((pathsF v).take ((fR v 1).length + i)) := by unfold cpP; rw [paths3 hc]; rfl
      rw [hcp, ← hK]
      unfold exP
      have t1 : (((((fR v 1).length + i : Nat) : Int) - ((fR v 1).length : Int)).toNat) = i := by omega
      rw [t1, decide_eq_true (by omega : ((((fR v 1).length + i : Nat) : Int) - ((fR v 1).length : Int)) - ((fR v 3).length : Int) < 0), decide_eq_false (by omega : ¬ ((((fR v 1).length + i : Nat) : Int) - ((fR v 1).length : Int)) - ((fR v 3).length : Int) ≥ 0),
        decide_eq_true (by omega : (((fR v 1).length + i : Nat) : Int) - ((fR v 1).length : Int) ≥ 0)]
      rfl
    · rw [decide_eq_false (by omega : ¬ (i : Int) < ((fR v 3).length : Int)), cond_false]
      have hi' : i = (fR v 3).length := by omega
      subst hi'
      exact L3 _ (0, _) (Nat.lt_succ_self _) ⟨Nat.zero_le _, rfl⟩
  have L1 : ∀ n x, (fR v 1).length - x.1 < n → (x.1 ≤ (fR v 1).length ∧ x.2 = (pathsF v).take x.1) → lpW (pProject_b1 v) 0 n x = gP v x.1 := by
    refine lp_eq (B := pProject_b1 v) (z := 0) _ (fun x => gP v x.1) (fun x => (fR v 1).length - x.1) ?_
    rintro ⟨i, E⟩ K ⟨hi, hE⟩ hk
    simp only at hE
    subst hE
    unfold pProject_b1
    simp only at hi ⊢
    by_cases hc : i < (fR v 1).length
    · rw [decide_eq_true (by omega : (i : Int) < ((fR v 1).length : Int)), cond_true, gP_step (by omega)]
      have hK : K (i + 1, (pathsF v).take i ++ [row (fR v 1) i]) = gP v (i + 1) := by
        rw [← paths1 hc, take_row (by omega)]
        exact hk (i + 1, _) ⟨by show i + 1 ≤ _; omega, rfl⟩ (by show (fR v 1).length - (i + 1) < (fR v 1).length - i; omega)
      have hcp : cpP v i = pCheckPath (fR (row (fR v 1) i) 0) ((pathsF v).take i) := by unfold cpP; rw [paths1 hc]
      rw [hcp, ← hK]
      unfold exP
      rw [decide_eq_false (by omega : ¬ (i : Int) - ((fR v 1).length : Int) ≥ 0), decide_eq_false (by omega : ¬ ((i : Int) - ((fR v 1).length : Int)) - ((fR v 3).length : Int) ≥ 0)]
      rfl
    · rw [decide_eq_false (by omega : ¬ (i : Int) < ((fR v 1).length : Int)), cond_false]
      have hi' : i = (fR v 1).length := by omega
      subst hi'
      exact L2 _ (0, _) (Nat.lt_succ_self _) ⟨Nat.zero_le _, rfl⟩
  unfold pProject projF
  refine bif_congr (decide_eq_decide.2 (by omega)) (fun _ => rfl) (fun _ => ?_)
  exact L1 _ (0, []) (Nat.lt_succ_self _) ⟨Nat.zero_le _, rfl⟩
abbrev KQ : List K := [.int, .sl 2, .int, .int, .str, .sl 0, .sl 1, .sl 0, .int, .int, .int, .sl 4, .int, .int, .sl 2, .str, .sl 2, .int, .int, .str, .sl 0, .sl 1, .int, .sl 5, .sl 6, .sl 7, .int, .int, .bool, .sl 17, .bool, .sl 18, .sl 19, .str]
theorem pPlan_eq {v : List D} (hf : FitL sh by_ v KQ) : pPlan v = queryF v := by
  unfold pPlan queryF
  rw [pPred_eq (FitL.sub hf 0 25 (by decide)), pOrders_eq, pProject_eq (FitL.sub hf 28 5 (by decide))]
theorem lawF_true {v : List D} (hf : FitL sh by_ v KQ) : lawF v = true := by
  unfold lawF
  rw [pPlan_eq hf, show (queryF v == queryF v) = true by simp]
  cases lFew _ [] v <;> rfl
end Go.Proofs.YtgoipafikbpioaaGreatDoor
