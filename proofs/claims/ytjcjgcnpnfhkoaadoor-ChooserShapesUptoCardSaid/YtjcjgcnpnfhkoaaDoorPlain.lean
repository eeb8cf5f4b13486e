/- Lemmas of this repository (En La Lb Lc Ld Le Lf Lg Lh Li), several texts in one. No statement is proved here. -/
import Derived.Test.YtjcjgcnpnfhkoaaDoorBui
import Derived.Test.YtjcjgcnpnfhkoaaDoorCv3
import Derived.Test.YtjcjgcnpnfhkoaaDoorShp
import Derived.Test.YtjcjgcnpnfhkoaaDoorCv7
import Derived.Lib.ItoaLen
namespace Go.Sx
open Go.RowKit
set_option linter.unusedVariables false
theorem cut_sp : ∀ (a b r s : List UInt8), (∀ x ∈ a, x ≠ 32) → (∀ x ∈ b, x ≠ 32) → a ++ 32 :: r = b ++ 32 :: s → a = b ∧ r = s
  | [], [], r, s, _, _, h => ⟨rfl, by simpa using h⟩
  | [], y :: b, r, s, _, hb, h => by
    simp only [List.nil_append, List.cons_append, List.cons.injEq] at h
    exact absurd h.1.symm (hb y (List.mem_cons_self ..))
  | x :: a, [], r, s, ha, _, h => by
    simp only [List.nil_append, List.cons_append, List.cons.injEq] at h
    exact absurd h.1 (ha x (List.mem_cons_self ..))
  | x :: a, y :: b, r, s, ha, hb, h => by
    simp only [List.cons_append, List.cons.injEq] at h
    obtain ⟨h1, h2⟩ := cut_sp a b r s (fun z hz => ha z (List.mem_cons_of_mem _ hz)) (fun z hz => hb z (List.mem_cons_of_mem _ hz)) h.2
    exact ⟨by rw [h.1, h1], h2⟩
def dval (l : List UInt8) : Nat := l.foldl (fun a b => a * 10 + (b.toNat - 48)) 0
theorem dval_snoc (l : List UInt8) (b : UInt8) : dval (l ++ [b]) = dval l * 10 + (b.toNat - 48) := by simp [dval, List.foldl_append]
theorem dig_nat {d : Nat} (h : d < 10) : (UInt8.ofNat (48 + d)).toNat = 48 + d := by rw [UInt8.toNat_ofNat']; omega
theorem dig_val (u : Nat) : dval (Lib.decDigits u) = u ∧ ∀ x ∈ Lib.decDigits u, 48 ≤ x.toNat := by
  induction u using Nat.strongRecOn with
  | ind u ih =>
    rw [Lib.decDigits]
    split
    · rename_i h
      refine ⟨?_, ?_⟩
      · have := dval_snoc [] (UInt8.ofNat (48 + u))
        rw [List.nil_append, dig_nat h] at this
        rw [this]; simp [dval]
      · intro x hx
        rw [List.mem_singleton] at hx
        subst hx; rw [dig_nat h]; omega
    · rename_i h
      obtain ⟨h1, h2⟩ := ih (u / 10) (by omega)
      refine ⟨?_, ?_⟩
      · rw [dval_snoc, h1, dig_nat (Nat.mod_lt _ (by decide))]; omega
      · intro x hx
        rcases List.mem_append.1 hx with hx | hx
        · exact h2 x hx
        · rw [List.mem_singleton] at hx
          subst hx; rw [dig_nat (Nat.mod_lt _ (by decide))]; omega
theorem dec_inj {u v : Nat} (h : Lib.decDigits u = Lib.decDigits v) : u = v := by rw [← (dig_val u).1, h, (dig_val v).1]
theorem itoa_nsp (n : Int) : ∀ x ∈ Lib.itoa n, x ≠ 32 := by
  intro x hx he
  subst he
  unfold Lib.itoa at hx
  split at hx
  · rcases List.mem_cons.1 hx with hx | hx
    · exact absurd hx (by decide)
    · exact absurd ((dig_val _).2 _ hx) (by decide)
  · exact absurd ((dig_val _).2 _ hx) (by decide)
theorem itoa_inj {n m : Int} (h : Lib.itoa n = Lib.itoa m) : n = m := by
  have key : ∀ (a b : Nat), 45 :: Lib.decDigits a ≠ Lib.decDigits b := fun a b he => absurd ((dig_val b).2 45 (he ▸ List.mem_cons_self ..)) (by decide)
  unfold Lib.itoa at h
  split at h <;> split at h
  · have := dec_inj (List.cons.inj h).2; omega
  · exact absurd h (key _ _)
  · exact absurd h.symm (key _ _)
  · have := dec_inj h; omega
theorem encN_pre {n m : Int} {r s : List UInt8} (h : encN n ++ r = encN m ++ s) : n = m ∧ r = s := by
  unfold encN at h
  rw [List.append_assoc, List.append_assoc, List.singleton_append, List.singleton_append] at h
  obtain ⟨h1, h2⟩ := cut_sp _ _ _ _ (itoa_nsp n) (itoa_nsp m) h
  exact ⟨itoa_inj h1, h2⟩
theorem encB_pre {a b : Bool} {r s : List UInt8} (h : encB a ++ r = encB b ++ s) : a = b ∧ r = s := by
  unfold encB at h
  obtain ⟨h1, h2⟩ := encN_pre h
  exact ⟨by cases a <;> cases b <;> simp_all, h2⟩
theorem encT_pre {a b : ByteArray} {r s : List UInt8} (h : encT a ++ r = encT b ++ s) : a = b ∧ r = s := by
  unfold encT at h
  rw [List.append_assoc, List.append_assoc] at h
  obtain ⟨h1, h2⟩ := encN_pre h
  have hl : a.data.toList.length = b.data.toList.length := by
    have h3 : a.data.toList.length = a.size := by simp
    have h4 : b.data.toList.length = b.size := by simp
    omega
  obtain ⟨h3, h4⟩ := List.append_inj h2 hl
  refine ⟨?_, h4⟩
  cases a; cases b
  congr 1
  exact Array.toList_inj.1 h3
theorem flat_pre {R : List D → List D → Prop} {f : List D → List UInt8} : ∀ (A B : List (List D)) (r s : List UInt8), (∀ a ∈ A, ∀ b ∈ B, ∀ r s, f a ++ r = f b ++ s → R a b ∧ r = s) → A.length = B.length → A.flatMap f ++ r = B.flatMap f ++ s →
    (∀ i, i < A.length → R (row A i) (row B i)) ∧ r = s
  | [], [], r, s, _, _, h => ⟨fun i hi => absurd hi (Nat.not_lt_zero _), by simpa using h⟩
  | [], b :: B, _, _, _, h, _ => by simp at h
  | a :: A, [], _, _, _, h, _ => by simp at h
  | a :: A, b :: B, r, s, hf, hl, h => by
    rw [List.flatMap_cons, List.flatMap_cons, List.append_assoc, List.append_assoc] at h
    obtain ⟨h1, h2⟩ := hf a (List.mem_cons_self ..) b (List.mem_cons_self ..) _ _ h
    obtain ⟨h3, h4⟩ := flat_pre A B r s (fun x hx y hy => hf x (List.mem_cons_of_mem _ hx) y (List.mem_cons_of_mem _ hy)) (by simpa using hl) h2
    refine ⟨fun i hi => ?_, h4⟩
    cases i with
    | zero => exact h1
    | succ i => exact h3 i (by simpa using hi)
theorem flat_eq {f : List D → List UInt8} : ∀ (A B : List (List D)), A.length = B.length → (∀ i, i < A.length → f (row A i) = f (row B i)) → A.flatMap f = B.flatMap f
  | [], [], _, _ => rfl
  | [], b :: B, h, _ => by simp at h
  | a :: A, [], h, _ => by simp at h
  | a :: A, b :: B, hl, h => by
    rw [List.flatMap_cons, List.flatMap_cons, flat_eq A B (by simpa using hl) (fun i hi => h (i + 1) (by simpa using hi))]
    rw [show f a = f b from h 0 (by simp)]
end Go.Sx

namespace Go.Proofs.YtjcjgcnpnfhkoaaDoor
open Go.RowKit Go.Sx
set_option linter.unusedVariables false
theorem lp_all {B : Nat → (Nat → Bool) → Bool} {n : Nat} {p : Nat → Bool} {z : Bool} (hB : ∀ x K, x < n → B x K = (p x && K (x + 1))) (he : ∀ K, B n K = z) : ∀ m x, x ≤ n → n - x < m → (lpW B false m x = true ↔ (∀ i, x ≤ i → i < n → p i = true) ∧ z = true) := by
  intro m
  induction m with
  | zero => intro x _ h; exact absurd h (Nat.not_lt_zero _)
  | succ m ih =>
    intro x hx hm
    rw [lpW]
    by_cases h : x < n
    · rw [hB x _ h, Bool.and_eq_true, ih (x + 1) h (by omega)]
      refine ⟨fun h => ⟨fun i hi hn => ?_, h.2.2⟩, fun h => ⟨h.1 x (Nat.le_refl _) (by omega), fun i hi hn => h.1 i (by omega) hn, h.2⟩⟩
      by_cases hix : i = x
      · subst hix; exact h.1
      · exact h.2.1 i (by omega) hn
    · obtain rfl : x = n := by omega
      rw [he]
      exact ⟨fun h => ⟨fun i h1 h2 => absurd h1 (by omega), h⟩, fun h => h.2⟩
theorem ba_toList {a b : ByteArray} : (a.toList = b.toList) ↔ a = b := ⟨fun h => by
  rw [ByteArray.toList_eq, ByteArray.toList_eq] at h
  cases a; cases b
  congr 1
  exact Array.toList_inj.1 h, fun h => by rw [h]⟩
theorem sameF_iff (rec : List D → List D → Bool) (a b : List D) : sameF rec a b = true ↔ fI a 0 = fI b 0 ∧ fI a 1 = fI b 1 ∧ fS a 2 = fS b 2 ∧ (fR a 3).length = (fR b 3).length ∧ (fR a 4).length = (fR b 4).length ∧
    (∀ i, i < (fR a 3).length → rec (row (fR a 3) i) (row (fR b 3) i) = true) ∧ (∀ i, i < (fR a 4).length → fS (row (fR a 4) i) 0 = fS (row (fR b 4) i) 0 ∧ rec (sub (row (fR a 4) i) 1 5) (sub (row (fR b 4) i) 1 5) = true) := by
  unfold sameF
  rw [← ba_toList]
  have h2 := lp_all (B := sameF_b2 rec a b) (n := (fR a 4).length) (p := fun i => decide (fS (row (fR a 4) i) 0 = fS (row (fR b 4) i) 0) && rec (sub (row (fR a 4) i) 1 5) (sub (row (fR b 4) i) 1 5)) (z := true)
    (fun x K hx => by
      unfold sameF_b2
      rw [decide_eq_true (by omega : (x : Int) < _), cond_true]
      by_cases he : fS (row (fR a 4) x) 0 = fS (row (fR b 4) x) 0
      · rw [he]; cases rec (sub (row (fR a 4) x) 1 5) (sub (row (fR b 4) x) 1 5) <;> simp
      · simp [he, ba_toList])
    (fun K => by unfold sameF_b2; rw [decide_eq_false (by omega : ¬ ((fR a 4).length : Int) < _)]; rfl) ((fR a 4).length - 0 + 1) 0 (Nat.zero_le _) (by omega)
  have h1 := lp_all (B := sameF_b1 rec a b) (n := (fR a 3).length) (p := fun i => rec (row (fR a 3) i) (row (fR b 3) i)) (z := lpW (sameF_b2 rec a b) false ((fR a 4).length - 0 + 1) 0)
    (fun x K hx => by
      unfold sameF_b1
      rw [decide_eq_true (by omega : (x : Int) < _), cond_true]
      cases rec (row (fR a 3) x) (row (fR b 3) x) <;> simp)
    (fun K => by unfold sameF_b1; rw [decide_eq_false (by omega : ¬ ((fR a 3).length : Int) < _)]; rfl) ((fR a 3).length - 0 + 1) 0 (Nat.zero_le _) (by omega)
  by_cases e0 : fI a 0 = fI b 0
  · by_cases e1 : fI a 1 = fI b 1
    · by_cases e2 : (fS a 2).toList = (fS b 2).toList
      · by_cases e3 : (fR a 3).length = (fR b 3).length
        · by_cases e4 : (fR a 4).length = (fR b 4).length
          · simp only [e0, e1, e2, bne_self_eq_false, cond_false, show ((fR a 3).length : Int) = ((fR b 3).length : Int) from by rw [e3], show ((fR a 4).length : Int) = ((fR b 4).length : Int) from by rw [e4]]
            rw [h1, h2]
            simp [e3, e4]
          · simp [e0, e1, e2, e3, e4]; omega
        · simp [e0, e1, e2, e3]; omega
      · simp [e0, e1, e2]
    · simp [e0, e1]
  · simp [e0]
abbrev KV : List K := [.int, .int, .str, .sl 0, .sl 1]
theorem szm {r x : List D} {j k : Nat} (h : szL r < k + 1) (hx : x ∈ fR r j) : szL x < k := by
  have := szR_mem hx
  have := sz_nth r j
  omega
theorem szms {r x : List D} {j k a b : Nat} (h : szL r < k + 1) (hx : x ∈ fR r j) (hl : a + b ≤ x.length) : szL (sub x a b) < k := by
  have := szm h hx
  have := szL_sub hl
  omega
theorem v3 {v x : List D} (hf : FitL sh by_ v KV) (hx : x ∈ fR v 3) : FitL sh by_ x KV := (FitL.fR (j := 3) (t := 0) hf rfl).1.mem hx
theorem v4 {v x : List D} (hf : FitL sh by_ v KV) (hx : x ∈ fR v 4) : FitL sh by_ (sub x 1 5) KV ∧ 1 + 5 ≤ x.length := by
  have h := (FitL.fR (j := 4) (t := 1) hf rfl).1.mem hx
  exact ⟨FitL.sub h 1 5 (by decide), by rw [h.length]; decide⟩
theorem row_mem {R : List (List D)} {i : Nat} (h : i < R.length) : row R i ∈ R := List.mem_of_getElem? (row_some h)
theorem encV_pre : ∀ (k : Nat) (a b : List D) (r s : List UInt8), FitL sh by_ a KV → FitL sh by_ b KV → szL a < k → szL b < k → encV k a ++ r = encV k b ++ s → sameFR k a b = true ∧ r = s
  | 0, _, _, _, _, _, _, h, _, _ => absurd h (Nat.not_lt_zero _)
  | k + 1, a, b, r, s, fa, fb, ha, hb, h => by
    simp only [encV, List.append_assoc] at h
    obtain ⟨h0, h⟩ := encN_pre h
    obtain ⟨h1, h⟩ := encN_pre h
    obtain ⟨h2, h⟩ := encT_pre h
    obtain ⟨h3, h⟩ := encN_pre h
    obtain ⟨h4, h⟩ := flat_pre (R := fun x y => sameFR k x y = true) _ _ _ _ (fun x hx y hy r s e => encV_pre k x y r s (v3 fa hx) (v3 fb hy) (szm ha hx) (szm hb hy) e) (by omega) h
    obtain ⟨h5, h⟩ := encN_pre h
    obtain ⟨h6, h⟩ := flat_pre (R := fun x y => fS x 0 = fS y 0 ∧ sameFR k (sub x 1 5) (sub y 1 5) = true) _ _ _ _ (fun x hx y hy r s e => by
      rw [List.append_assoc, List.append_assoc] at e
      obtain ⟨e1, e2⟩ := encT_pre e
      obtain ⟨e3, e4⟩ := encV_pre k _ _ _ _ (v4 fa hx).1 (v4 fb hy).1 (szms ha hx (v4 fa hx).2) (szms hb hy (v4 fb hy).2) e2
      exact ⟨⟨e1, e3⟩, e4⟩) (by omega) h
    exact ⟨(sameF_iff _ _ _).2 ⟨h0, h1, h2, by omega, by omega, h4, h6⟩, h⟩
theorem encV_same : ∀ (k : Nat) (a b : List D), sameFR k a b = true → encV k a = encV k b
  | 0, _, _, h => by cases h
  | k + 1, a, b, h => by
    obtain ⟨h0, h1, h2, h3, h4, h5, h6⟩ := (sameF_iff _ _ _).1 h
    simp only [encV]
    rw [h0, h1, h2, h3, h4, flat_eq (f := fun r => encV k r) (fR a 3) (fR b 3) h3 (fun i hi => encV_same k _ _ (h5 i hi)), flat_eq (f := fun r => encT (fS r 0) ++ encV k (sub r 1 5)) (fR a 4) (fR b 4) h4 (fun i hi => by show encT _ ++ _ = encT _ ++ _; rw [(h6 i hi).1, encV_same k _ _ (h6 i hi).2])]
theorem fm_congr {f g : List D → List UInt8} : ∀ (l : List (List D)), (∀ x ∈ l, f x = g x) → l.flatMap f = l.flatMap g
  | [], _ => rfl
  | x :: l, h => by rw [List.flatMap_cons, List.flatMap_cons, h x (List.mem_cons_self ..), fm_congr l (fun y hy => h y (List.mem_cons_of_mem _ hy))]
theorem encV_up : ∀ (k m : Nat) (a : List D), FitL sh by_ a KV → szL a < k → szL a < m → encV k a = encV m a
  | 0, _, _, _, h, _ => absurd h (Nat.not_lt_zero _)
  | _ + 1, 0, _, _, _, h => absurd h (Nat.not_lt_zero _)
  | k + 1, m + 1, a, fa, h1, h2 => by
    simp only [encV]
    rw [fm_congr (f := fun r => encV k r) (g := fun r => encV m r) (fR a 3) (fun x hx => encV_up k m x (v3 fa hx) (szm h1 hx) (szm h2 hx)), fm_congr (f := fun r => encT (fS r 0) ++ encV k (sub r 1 5)) (g := fun r => encT (fS r 0) ++ encV m (sub r 1 5)) (fR a 4) (fun x hx => by rw [encV_up k m _ (v4 fa hx).1 (szms h1 hx (v4 fa hx).2) (szms h2 hx (v4 fa hx).2)])]
theorem sameFR_up : ∀ (k m : Nat) (a b : List D), FitL sh by_ a KV → szL a < k → szL a < m → sameFR k a b = true → sameFR m a b = true
  | 0, _, _, _, _, h, _, _ => absurd h (Nat.not_lt_zero _)
  | _ + 1, 0, _, _, _, _, h, _ => absurd h (Nat.not_lt_zero _)
  | k + 1, m + 1, a, b, fa, h1, h2, h => by
    obtain ⟨e0, e1, e2, e3, e4, e5, e6⟩ := (sameF_iff _ _ _).1 h
    refine (sameF_iff _ _ _).2 ⟨e0, e1, e2, e3, e4, fun i hi => sameFR_up k m _ _ (v3 fa (row_mem hi)) (szm h1 (row_mem hi)) (szm h2 (row_mem hi)) (e5 i hi), fun i hi => ⟨(e6 i hi).1, sameFR_up k m _ _ (v4 fa (row_mem hi)).1 (szms h1 (row_mem hi) (v4 fa (row_mem hi)).2) (szms h2 (row_mem hi) (v4 fa (row_mem hi)).2) (e6 i hi).2⟩⟩
theorem encVT_pre {a b : List D} {r s : List UInt8} (fa : FitL sh by_ a KV) (fb : FitL sh by_ b KV) (h : encVT a ++ r = encVT b ++ s) : sameFT a b = true ∧ r = s := by
  unfold encVT at h
  rw [encV_up _ (szL a + szL b + 1) a fa (Nat.lt_succ_self _) (by omega), encV_up _ (szL a + szL b + 1) b fb (Nat.lt_succ_self _) (by omega)] at h
  obtain ⟨h1, h2⟩ := encV_pre _ _ _ _ _ fa fb (by omega) (by omega) h
  exact ⟨sameFR_up _ _ _ _ fa (by omega) (Nat.lt_succ_self _) h1, h2⟩
theorem encVT_same {a b : List D} (fa : FitL sh by_ a KV) (fb : FitL sh by_ b KV) (h : sameFT a b = true) : encVT a = encVT b := by
  unfold encVT
  rw [encV_up _ (szL a + szL b + 1) a fa (Nat.lt_succ_self _) (by omega), encV_up _ (szL a + szL b + 1) b fb (Nat.lt_succ_self _) (by omega)]
  exact encV_same _ _ _ (sameFR_up _ _ _ _ fa (Nat.lt_succ_self _) (by omega) h)
end Go.Proofs.YtjcjgcnpnfhkoaaDoor

namespace Go.Proofs.YtjcjgcnpnfhkoaaDoor
open Go.RowKit Go.Sx
set_option linter.unusedVariables false
def Ts (a b : List (List D)) : Prop := a.length = b.length ∧ ∀ i, i < a.length → fS (row a i) 0 = fS (row b i) 0
theorem same4_iff (a b : List (List D)) : same4F a b = true ↔ Ts a b := by
  unfold same4F Ts
  by_cases e : a.length = b.length
  · have h1 := lp_all (B := prefixF_b1 a b) (n := a.length) (p := fun i => decide (fS (row a i) 0 = fS (row b i) 0)) (z := true)
      (fun x K hx => by
        unfold prefixF_b1
        rw [decide_eq_true (by omega : (x : Int) < _), cond_true]
        by_cases he : fS (row a x) 0 = fS (row b x) 0
        · simp [he]
        · simp [he, ba_toList])
      (fun K => by unfold prefixF_b1; rw [decide_eq_false (by omega : ¬ (a.length : Int) < _)]; rfl) (a.length - 0 + 1) 0 (Nat.zero_le _) (by omega)
    have e2 : ((a.length : Int) == (b.length : Int)) = true := by simp [e]
    rw [e2, cond_true]
    unfold prefixF
    simp only [e, Int.lt_irrefl, decide_false, cond_false, gt_iff_lt]
    rw [e] at h1
    simpa [e] using h1
  · have e2 : ((a.length : Int) == (b.length : Int)) = false := by rw [beq_eq_false_iff_ne]; omega
    rw [e2]
    simp [e]
theorem encTs_pre {a b : List (List D)} {r s : List UInt8} (h : encTs a ++ r = encTs b ++ s) : Ts a b ∧ r = s := by
  unfold encTs at h
  simp only [List.append_assoc] at h
  obtain ⟨h1, h⟩ := encN_pre h
  obtain ⟨h2, h⟩ := flat_pre (R := fun x y => fS x 0 = fS y 0) _ _ _ _ (fun x hx y hy r s e => encT_pre e) (by omega) h
  exact ⟨⟨by omega, h2⟩, h⟩
theorem encTs_same {a b : List (List D)} (h : Ts a b) : encTs a = encTs b := by
  unfold encTs
  rw [h.1, flat_eq (f := fun r => encT (fS r 0)) a b h.1 (fun i hi => by show encT _ = encT _; rw [h.2 i hi])]
theorem sameList4_iff (a b : List (List D)) : sameList4F a b = true ↔ a.length = b.length ∧ ∀ i, i < a.length → Ts (fR (row a i) 0) (fR (row b i) 0) := by
  unfold sameList4F
  have h1 := lp_all (B := sameList4F_b1 a b) (n := a.length) (p := fun i => same4F (fR (row a i) 0) (fR (row b i) 0)) (z := true)
    (fun x K hx => by
      unfold sameList4F_b1
      rw [decide_eq_true (by omega : (x : Int) < _), cond_true]
      cases same4F (fR (row a x) 0) (fR (row b x) 0) <;> simp)
    (fun K => by unfold sameList4F_b1; rw [decide_eq_false (by omega : ¬ (a.length : Int) < _)]; rfl) (a.length - 0 + 1) 0 (Nat.zero_le _) (by omega)
  by_cases e : a.length = b.length
  · rw [show ((a.length : Int) != (b.length : Int)) = false from by simp [e], cond_false, h1]
    simp only [and_true, Nat.zero_le, forall_const, same4_iff]
    exact ⟨fun h => ⟨e, h⟩, fun h => h.2⟩
  · rw [show ((a.length : Int) != (b.length : Int)) = true from by simp; omega]
    simp [e]
theorem sameOrders_iff (a b : List (List D)) : sameOrdersF a b = true ↔ a.length = b.length ∧ ∀ i, i < a.length → fB (row a i) 1 = fB (row b i) 1 ∧ Ts (fR (row a i) 0) (fR (row b i) 0) := by
  unfold sameOrdersF
  have h1 := lp_all (B := sameOrdersF_b1 a b) (n := a.length) (p := fun i => (fB (row a i) 1 == fB (row b i) 1) && same4F (fR (row a i) 0) (fR (row b i) 0)) (z := true)
    (fun x K hx => by
      unfold sameOrdersF_b1
      rw [decide_eq_true (by omega : (x : Int) < _), cond_true]
      cases same4F (fR (row a x) 0) (fR (row b x) 0) <;> cases fB (row a x) 1 <;> cases fB (row b x) 1 <;> simp)
    (fun K => by unfold sameOrdersF_b1; rw [decide_eq_false (by omega : ¬ (a.length : Int) < _)]; rfl) (a.length - 0 + 1) 0 (Nat.zero_le _) (by omega)
  by_cases e : a.length = b.length
  · rw [show ((a.length : Int) != (b.length : Int)) = false from by simp [e], cond_false, h1]
    simp only [and_true, Nat.zero_le, forall_const, Bool.and_eq_true, beq_iff_eq, same4_iff]
    exact ⟨fun h => ⟨e, h⟩, fun h => h.2⟩
  · rw [show ((a.length : Int) != (b.length : Int)) = true from by simp; omega]
    simp [e]
theorem encO_pre {a b : List (List D)} {r s : List UInt8} (h : encO a ++ r = encO b ++ s) : sameOrdersF a b = true ∧ r = s := by
  unfold encO at h
  simp only [List.append_assoc] at h
  obtain ⟨h1, h⟩ := encN_pre h
  obtain ⟨h2, h⟩ := flat_pre (R := fun x y => fB x 1 = fB y 1 ∧ Ts (fR x 0) (fR y 0)) _ _ _ _ (fun x hx y hy r s e => by
    rw [List.append_assoc, List.append_assoc] at e
    obtain ⟨e1, e2⟩ := encTs_pre e
    obtain ⟨e3, e4⟩ := encB_pre e2
    exact ⟨⟨e3, e1⟩, e4⟩) (by omega) h
  exact ⟨(sameOrders_iff _ _).2 ⟨by omega, h2⟩, h⟩
theorem encO_same {a b : List (List D)} (h : sameOrdersF a b = true) : encO a = encO b := by
  obtain ⟨h1, h2⟩ := (sameOrders_iff _ _).1 h
  unfold encO
  rw [h1, flat_eq (f := fun r => encTs (fR r 0) ++ encB (fB r 1)) a b h1 (fun i hi => by show encTs _ ++ encB _ = encTs _ ++ encB _; rw [(h2 i hi).1, encTs_same (h2 i hi).2])]
end Go.Proofs.YtjcjgcnpnfhkoaaDoor

namespace Go.Proofs.YtjcjgcnpnfhkoaaDoor
open Go.RowKit Go.Sx
set_option linter.unusedVariables false
abbrev KX : List K := [.int, .sl 2, .str, .sl 2, .int, .int, .str, .sl 0, .sl 1, .int, .sl 5]
theorem sameExprF_iff (rec : List D → List D → Bool) (a b : List D) : sameExprF rec a b = true ↔ fI a 0 = fI b 0 ∧ Ts (fR a 1) (fR b 1) ∧ fS a 2 = fS b 2 ∧ Ts (fR a 3) (fR b 3) ∧ sameFT (sub a 4 5) (sub b 4 5) = true ∧ fI a 9 = fI b 9 ∧ (fR a 10).length = (fR b 10).length ∧
    (∀ i, i < (fR a 10).length → rec (row (fR a 10) i) (row (fR b 10) i) = true) := by
  unfold sameExprF
  rw [← ba_toList, ← same4_iff, ← same4_iff]
  have h1 := lp_all (B := sameExprF_b1 rec a b) (n := (fR a 10).length) (p := fun i => rec (row (fR a 10) i) (row (fR b 10) i)) (z := true)
    (fun x K hx => by
      unfold sameExprF_b1
      rw [decide_eq_true (by omega : (x : Int) < _), cond_true]
      cases rec (row (fR a 10) x) (row (fR b 10) x) <;> simp)
    (fun K => by unfold sameExprF_b1; rw [decide_eq_false (by omega : ¬ ((fR a 10).length : Int) < _)]; rfl) ((fR a 10).length - 0 + 1) 0 (Nat.zero_le _) (by omega)
  by_cases e0 : fI a 0 = fI b 0
  · cases e1 : same4F (fR a 1) (fR b 1)
    · simp
    by_cases e2 : (fS a 2).toList = (fS b 2).toList
    · cases e3 : same4F (fR a 3) (fR b 3)
      · simp
      cases e4 : sameFT (sub a 4 5) (sub b 4 5)
      · simp
      by_cases e9 : fI a 9 = fI b 9
      · by_cases e10 : (fR a 10).length = (fR b 10).length
        · simp only [e0, e2, e9, bne_self_eq_false, cond_false, cond_true, show ((fR a 10).length : Int) = ((fR b 10).length : Int) from by rw [e10]]
          rw [h1]
          simp [e10]
        · simp [e0, e2, e9, e10]; omega
      · simp [e0, e2, e9]
    · simp [e0, e2]
  · simp [e0]
theorem x10 {v x : List D} (hf : FitL sh by_ v KX) (hx : x ∈ fR v 10) : FitL sh by_ x KX := (FitL.fR (j := 10) (t := 5) hf rfl).1.mem hx
theorem x4 {v : List D} (hf : FitL sh by_ v KX) : FitL sh by_ (sub v 4 5) KV := FitL.sub hf 4 5 (by decide)
theorem encE_pre : ∀ (k : Nat) (a b : List D) (r s : List UInt8), FitL sh by_ a KX → FitL sh by_ b KX → szL a < k → szL b < k → encE k a ++ r = encE k b ++ s → sameExprFR k a b = true ∧ r = s
  | 0, _, _, _, _, _, _, h, _, _ => absurd h (Nat.not_lt_zero _)
  | k + 1, a, b, r, s, fa, fb, ha, hb, h => by
    simp only [encE, List.append_assoc] at h
    obtain ⟨h0, h⟩ := encN_pre h
    obtain ⟨h1, h⟩ := encTs_pre h
    obtain ⟨h2, h⟩ := encT_pre h
    obtain ⟨h3, h⟩ := encTs_pre h
    obtain ⟨h4, h⟩ := encVT_pre (x4 fa) (x4 fb) h
    obtain ⟨h9, h⟩ := encN_pre h
    obtain ⟨h10, h⟩ := encN_pre h
    obtain ⟨h11, h⟩ := flat_pre (R := fun x y => sameExprFR k x y = true) _ _ _ _ (fun x hx y hy r s e => encE_pre k x y r s (x10 fa hx) (x10 fb hy) (szm ha hx) (szm hb hy) e) (by omega) h
    exact ⟨(sameExprF_iff _ _ _).2 ⟨h0, h1, h2, h3, h4, h9, by omega, h11⟩, h⟩
theorem encE_same : ∀ (k : Nat) (a b : List D), FitL sh by_ a KX → FitL sh by_ b KX → sameExprFR k a b = true → encE k a = encE k b
  | 0, _, _, _, _, h => by cases h
  | k + 1, a, b, fa, fb, h => by
    obtain ⟨h0, h1, h2, h3, h4, h9, h10, h11⟩ := (sameExprF_iff _ _ _).1 h
    simp only [encE]
    rw [h0, encTs_same h1, h2, encTs_same h3, encVT_same (x4 fa) (x4 fb) h4, h9, h10, flat_eq (f := fun r => encE k r) (fR a 10) (fR b 10) h10 (fun i hi => encE_same k _ _ (x10 fa (row_mem hi)) (x10 fb (row_mem (by omega))) (h11 i hi))]
theorem encE_up : ∀ (k m : Nat) (a : List D), FitL sh by_ a KX → szL a < k → szL a < m → encE k a = encE m a
  | 0, _, _, _, h, _ => absurd h (Nat.not_lt_zero _)
  | _ + 1, 0, _, _, _, h => absurd h (Nat.not_lt_zero _)
  | k + 1, m + 1, a, fa, h1, h2 => by
    simp only [encE]
    rw [fm_congr (f := fun r => encE k r) (g := fun r => encE m r) (fR a 10) (fun x hx => encE_up k m x (x10 fa hx) (szm h1 hx) (szm h2 hx))]
theorem sameExprFR_up : ∀ (k m : Nat) (a b : List D), FitL sh by_ a KX → szL a < k → szL a < m → sameExprFR k a b = true → sameExprFR m a b = true
  | 0, _, _, _, _, h, _, _ => absurd h (Nat.not_lt_zero _)
  | _ + 1, 0, _, _, _, _, h, _ => absurd h (Nat.not_lt_zero _)
  | k + 1, m + 1, a, b, fa, h1, h2, h => by
    obtain ⟨e0, e1, e2, e3, e4, e9, e10, e11⟩ := (sameExprF_iff _ _ _).1 h
    exact (sameExprF_iff _ _ _).2 ⟨e0, e1, e2, e3, e4, e9, e10, fun i hi => sameExprFR_up k m _ _ (x10 fa (row_mem hi)) (szm h1 (row_mem hi)) (szm h2 (row_mem hi)) (e11 i hi)⟩
theorem encET_pre {a b : List D} {r s : List UInt8} (fa : FitL sh by_ a KX) (fb : FitL sh by_ b KX) (h : encET a ++ r = encET b ++ s) : sameExprFT a b = true ∧ r = s := by
  unfold encET at h
  rw [encE_up _ (szL a + szL b + 1) a fa (Nat.lt_succ_self _) (by omega), encE_up _ (szL a + szL b + 1) b fb (Nat.lt_succ_self _) (by omega)] at h
  obtain ⟨h1, h2⟩ := encE_pre _ _ _ _ _ fa fb (by omega) (by omega) h
  exact ⟨sameExprFR_up _ _ _ _ fa (by omega) (Nat.lt_succ_self _) h1, h2⟩
theorem encET_same {a b : List D} (fa : FitL sh by_ a KX) (fb : FitL sh by_ b KX) (h : sameExprFT a b = true) : encET a = encET b := by
  unfold encET
  rw [encE_up _ (szL a + szL b + 1) a fa (Nat.lt_succ_self _) (by omega), encE_up _ (szL a + szL b + 1) b fb (Nat.lt_succ_self _) (by omega)]
  exact encE_same _ _ _ fa fb (sameExprFR_up _ _ _ _ fa (Nat.lt_succ_self _) (by omega) h)
theorem sameComputed_iff (a b : List (List D)) : sameComputedF a b = true ↔ a.length = b.length ∧ ∀ i, i < a.length → Ts (fR (row a i) 0) (fR (row b i) 0) ∧ sameExprFT (sub (row a i) 1 11) (sub (row b i) 1 11) = true := by
  unfold sameComputedF
  have h1 := lp_all (B := sameComputedF_b1 a b) (n := a.length) (p := fun i => same4F (fR (row a i) 0) (fR (row b i) 0) && sameExprFT (sub (row a i) 1 11) (sub (row b i) 1 11)) (z := true)
    (fun x K hx => by
      unfold sameComputedF_b1
      rw [decide_eq_true (by omega : (x : Int) < _), cond_true]
      cases same4F (fR (row a x) 0) (fR (row b x) 0) <;> cases sameExprFT (sub (row a x) 1 11) (sub (row b x) 1 11) <;> simp)
    (fun K => by unfold sameComputedF_b1; rw [decide_eq_false (by omega : ¬ (a.length : Int) < _)]; rfl) (a.length - 0 + 1) 0 (Nat.zero_le _) (by omega)
  by_cases e : a.length = b.length
  · rw [show ((a.length : Int) != (b.length : Int)) = false from by simp [e], cond_false, h1]
    simp only [and_true, Nat.zero_le, forall_const, Bool.and_eq_true, same4_iff]
    exact ⟨fun h => ⟨e, h⟩, fun h => h.2⟩
  · rw [show ((a.length : Int) != (b.length : Int)) = true from by simp; omega]
    simp [e]
theorem sameProject_iff (a b : List D) : sameProjectF a b = true ↔ fB a 0 = fB b 0 ∧ fB a 2 = fB b 2 ∧ sameList4F (fR a 1) (fR b 1) = true ∧ (fR a 3).length = (fR b 3).length ∧
    (∀ i, i < (fR a 3).length → fI (row (fR a 3) i) 1 = fI (row (fR b 3) i) 1 ∧ fI (row (fR a 3) i) 2 = fI (row (fR b 3) i) 2 ∧ Ts (fR (row (fR a 3) i) 0) (fR (row (fR b 3) i) 0)) ∧ sameComputedF (fR a 4) (fR b 4) = true := by
  unfold sameProjectF
  have h1 := lp_all (B := sameProjectF_b1 a b) (n := (fR a 3).length) (p := fun i => (fI (row (fR a 3) i) 1 == fI (row (fR b 3) i) 1) && ((fI (row (fR a 3) i) 2 == fI (row (fR b 3) i) 2) && same4F (fR (row (fR a 3) i) 0) (fR (row (fR b 3) i) 0))) (z := sameComputedF (fR a 4) (fR b 4))
    (fun x K hx => by
      unfold sameProjectF_b1
      rw [decide_eq_true (by omega : (x : Int) < _), cond_true]
      cases same4F (fR (row (fR a 3) x) 0) (fR (row (fR b 3) x) 0) <;> by_cases e1 : fI (row (fR a 3) x) 1 = fI (row (fR b 3) x) 1 <;> by_cases e2 : fI (row (fR a 3) x) 2 = fI (row (fR b 3) x) 2 <;> simp [e1, e2, bne])
    (fun K => by unfold sameProjectF_b1; rw [decide_eq_false (by omega : ¬ ((fR a 3).length : Int) < _)]; rfl) ((fR a 3).length - 0 + 1) 0 (Nat.zero_le _) (by omega)
  simp only [Nat.zero_le, forall_const, Bool.and_eq_true, beq_iff_eq, same4_iff] at h1
  by_cases e0 : fB a 0 = fB b 0
  · by_cases e2 : fB a 2 = fB b 2
    · cases e1 : sameList4F (fR a 1) (fR b 1)
      · simp
      by_cases e3 : (fR a 3).length = (fR b 3).length
      · simp only [e0, e2, bne_self_eq_false, cond_false, cond_true, show ((fR a 3).length : Int) = ((fR b 3).length : Int) from by rw [e3]]
        rw [h1]
        simp [e3]
      · simp [e0, e2, e3]; omega
    · simp [e0, e2]
  · simp [e0]
abbrev KJ : List K := [.bool, .sl 17, .bool, .sl 18, .sl 19]
theorem j4 {v x : List D} (hf : FitL sh by_ v KJ) (hx : x ∈ fR v 4) : FitL sh by_ (sub x 1 11) KX := FitL.sub ((FitL.fR (j := 4) (t := 19) hf rfl).1.mem hx) 1 11 (by decide)
theorem encJ_pre {a b : List D} {r s : List UInt8} (fa : FitL sh by_ a KJ) (fb : FitL sh by_ b KJ) (h : encJ a ++ r = encJ b ++ s) : sameProjectF a b = true ∧ r = s := by
  unfold encJ at h
  simp only [List.append_assoc] at h
  obtain ⟨h0, h⟩ := encB_pre h
  obtain ⟨h1, h⟩ := encN_pre h
  obtain ⟨h2, h⟩ := flat_pre (R := fun x y => Ts (fR x 0) (fR y 0)) _ _ _ _ (fun x hx y hy r s e => encTs_pre e) (by omega) h
  obtain ⟨h3, h⟩ := encB_pre h
  obtain ⟨h4, h⟩ := encN_pre h
  obtain ⟨h5, h⟩ := flat_pre (R := fun x y => fI x 1 = fI y 1 ∧ fI x 2 = fI y 2 ∧ Ts (fR x 0) (fR y 0)) _ _ _ _ (fun x hx y hy r s e => by
    simp only [List.append_assoc] at e
    obtain ⟨e1, e⟩ := encTs_pre e
    obtain ⟨e2, e⟩ := encN_pre e
    obtain ⟨e3, e⟩ := encN_pre e
    exact ⟨⟨e2, e3, e1⟩, e⟩) (by omega) h
  obtain ⟨h6, h⟩ := encN_pre h
  obtain ⟨h7, h⟩ := flat_pre (R := fun x y => Ts (fR x 0) (fR y 0) ∧ sameExprFT (sub x 1 11) (sub y 1 11) = true) _ _ _ _ (fun x hx y hy r s e => by
    simp only [List.append_assoc] at e
    obtain ⟨e1, e⟩ := encTs_pre e
    obtain ⟨e2, e⟩ := encET_pre (j4 fa hx) (j4 fb hy) e
    exact ⟨⟨e1, e2⟩, e⟩) (by omega) h
  exact ⟨(sameProject_iff _ _).2 ⟨h0, h3, (sameList4_iff _ _).2 ⟨by omega, h2⟩, by omega, h5, (sameComputed_iff _ _).2 ⟨by omega, h7⟩⟩, h⟩
theorem encJ_same {a b : List D} (fa : FitL sh by_ a KJ) (fb : FitL sh by_ b KJ) (h : sameProjectF a b = true) : encJ a = encJ b := by
  obtain ⟨h0, h2, h1, h3, h5, h7⟩ := (sameProject_iff _ _).1 h
  obtain ⟨l1, h1⟩ := (sameList4_iff _ _).1 h1
  obtain ⟨l4, h7⟩ := (sameComputed_iff _ _).1 h7
  unfold encJ
  rw [h0, h2, l1, h3, l4, flat_eq (f := fun r => encTs (fR r 0)) (fR a 1) (fR b 1) l1 (fun i hi => encTs_same (h1 i hi)),
    flat_eq (f := fun r => encTs (fR r 0) ++ encN (fI r 1) ++ encN (fI r 2)) (fR a 3) (fR b 3) h3 (fun i hi => by show encTs _ ++ encN _ ++ encN _ = encTs _ ++ encN _ ++ encN _; rw [(h5 i hi).1, (h5 i hi).2.1, encTs_same (h5 i hi).2.2]),
    flat_eq (f := fun r => encTs (fR r 0) ++ encET (sub r 1 11)) (fR a 4) (fR b 4) l4 (fun i hi => by show encTs _ ++ encET _ = encTs _ ++ encET _; rw [encTs_same (h7 i hi).1, encET_same (j4 fa (row_mem hi)) (j4 fb (row_mem (by omega))) (h7 i hi).2])]
end Go.Proofs.YtjcjgcnpnfhkoaaDoor

namespace Go.Proofs.YtjcjgcnpnfhkoaaDoor
open Go.RowKit Go.Sx
set_option linter.unusedVariables false
theorem samePredF_iff (rec : List D → List D → Bool) (a b : List D) : samePredF rec a b = true ↔ fI a 0 = fI b 0 ∧ Ts (fR a 1) (fR b 1) ∧ sameFT (sub a 2 5) (sub b 2 5) = true ∧ sameListF (fR a 7) (fR b 7) = true ∧ fI a 8 = fI b 8 ∧ fI a 9 = fI b 9 ∧ sameShapeF (sub a 10 3) (sub b 10 3) = true ∧ sameExprFT (sub a 13 11) (sub b 13 11) = true ∧ (fR a 24).length = (fR b 24).length ∧
    (∀ i, i < (fR a 24).length → rec (row (fR a 24) i) (row (fR b 24) i) = true) := by
  unfold samePredF
  rw [← same4_iff]
  have h1 := lp_all (B := samePredF_b1 rec a b) (n := (fR a 24).length) (p := fun i => rec (row (fR a 24) i) (row (fR b 24) i)) (z := true)
    (fun x K hx => by
      unfold samePredF_b1
      rw [decide_eq_true (by omega : (x : Int) < _), cond_true]
      cases rec (row (fR a 24) x) (row (fR b 24) x) <;> simp)
    (fun K => by unfold samePredF_b1; rw [decide_eq_false (by omega : ¬ ((fR a 24).length : Int) < _)]; rfl) ((fR a 24).length - 0 + 1) 0 (Nat.zero_le _) (by omega)
  by_cases e0 : fI a 0 = fI b 0
  · cases e1 : same4F (fR a 1) (fR b 1)
    · simp
    cases e2 : sameFT (sub a 2 5) (sub b 2 5)
    · simp
    cases e3 : sameListF (fR a 7) (fR b 7)
    · simp
    by_cases e8 : fI a 8 = fI b 8
    · by_cases e9 : fI a 9 = fI b 9
      · cases e4 : sameShapeF (sub a 10 3) (sub b 10 3)
        · simp
        cases e5 : sameExprFT (sub a 13 11) (sub b 13 11)
        · simp
        by_cases e10 : (fR a 24).length = (fR b 24).length
        · simp only [e0, e8, e9, bne_self_eq_false, cond_false, cond_true, show ((fR a 24).length : Int) = ((fR b 24).length : Int) from by rw [e10]]
          rw [h1]
          simp [e10]
        · simp [e0, e8, e9, e10]; omega
      · simp [e0, e8, e9]
    · simp [e0, e8]
  · simp [e0]
theorem row_map (f : List D → List D) {R : List (List D)} {i : Nat} (h : i < R.length) : row (R.map f) i = f (row R i) := by
  have h1 := row_some (R := R.map f) (i := i) (by rw [List.length_map]; exact h)
  rw [List.getElem?_map, row_some h] at h1
  exact (Option.some.inj h1).symm
theorem kd_inj {x y : Int} : ((bif x == 0 then (0 : Int) else 3) = (bif y == 0 then (0 : Int) else 3) ∧ (bif x == 0 then (0 : Int) else x) = (bif y == 0 then (0 : Int) else y)) ↔ x = y := by
  constructor
  · rintro ⟨h1, h2⟩
    cases hx : (x == 0) <;> cases hy : (y == 0) <;> rw [hx, hy] at h1 h2
    · exact h2
    · exact absurd h1 (by decide)
    · exact absurd h1 (by decide)
    · rw [beq_iff_eq.1 hx, beq_iff_eq.1 hy]
  · rintro rfl; exact ⟨rfl, rfl⟩
theorem kd_same (m : Nat) (x y : Int) : sameFR (m + 1) (kdD x) (kdD y) = true ↔ x = y := by
  show sameF (sameFR m) (kdD x) (kdD y) = true ↔ x = y
  refine ((sameF_iff _ _ _).trans ?_).trans kd_inj
  constructor
  · intro h; exact ⟨h.1, h.2.1⟩
  · intro h; exact ⟨h.1, h.2, rfl, rfl, rfl, fun i hi => absurd hi (Nat.not_lt_zero _), fun i hi => absurd hi (Nat.not_lt_zero _)⟩
theorem kdT_same (x y : Int) : sameFT (kdD x) (kdD y) = true ↔ x = y := kd_same _ x y
theorem list_same (a b : List (List D)) : sameListF (a.map (fun x => kdD (fI x 0))) (b.map (fun x => kdD (fI x 0))) = true ↔ a.length = b.length ∧ ∀ i, i < a.length → fI (row a i) 0 = fI (row b i) 0 := by
  unfold sameListF sameFT
  rw [show ∀ A : List (List D), szL [.int 6, .int 0, .str ByteArray.empty, .sl A, .sl []] = (szL [.int 0, .str ByteArray.empty, .sl A, .sl []]) + 1 from fun A => by simp only [szL, D.sz]; omega]
  show sameF (sameFR _) _ _ = true ↔ _
  rw [sameF_iff]
  constructor
  · rintro ⟨_, _, _, h3, _, h5, _⟩
    have h3 : (a.map (fun x => kdD (fI x 0))).length = (b.map (fun x => kdD (fI x 0))).length := h3
    rw [List.length_map, List.length_map] at h3
    refine ⟨h3, fun i hi => ?_⟩
    have := h5 i (show i < (a.map (fun x => kdD (fI x 0))).length by rw [List.length_map]; exact hi)
    rw [show fR [D.int 6, .int 0, .str ByteArray.empty, .sl (a.map (fun x => kdD (fI x 0))), .sl []] 3 = a.map (fun x => kdD (fI x 0)) from rfl, show fR [D.int 6, .int 0, .str ByteArray.empty, .sl (b.map (fun x => kdD (fI x 0))), .sl []] 3 = b.map (fun x => kdD (fI x 0)) from rfl, row_map _ hi, row_map _ (by omega), kd_same] at this
    exact this
  · rintro ⟨h3, h5⟩
    refine ⟨rfl, rfl, rfl, ?_, rfl, fun i hi => ?_, fun i hi => absurd hi (Nat.not_lt_zero _)⟩
    · show (a.map (fun x => kdD (fI x 0))).length = (b.map (fun x => kdD (fI x 0))).length
      rw [List.length_map, List.length_map]; exact h3
    · have hi : i < (a.map (fun x => kdD (fI x 0))).length := hi
      rw [List.length_map] at hi
      rw [show fR [D.int 6, .int 0, .str ByteArray.empty, .sl (a.map (fun x => kdD (fI x 0))), .sl []] 3 = a.map (fun x => kdD (fI x 0)) from rfl, show fR [D.int 6, .int 0, .str ByteArray.empty, .sl (b.map (fun x => kdD (fI x 0))), .sl []] 3 = b.map (fun x => kdD (fI x 0)) from rfl, row_map _ hi, row_map _ (by omega), kd_same]
      exact h5 i hi
theorem shape_same (x y : Int) : sameShapeF [.int x, .sl [], .int 0] [.int y, .sl [], .int 0] = true ↔ x = y := by
  unfold sameShapeF
  by_cases h : x = y
  · subst h
    simp [fI, fR, nth, dI, dR, lpW, sameShapeF_b1]
  · simp [fI, fR, nth, dI, dR, h]
end Go.Proofs.YtjcjgcnpnfhkoaaDoor

namespace Go.Proofs.YtjcjgcnpnfhkoaaDoor
open Go.RowKit Go.Sx
set_option linter.unusedVariables false
theorem nthI {v : List D} {ks : List K} {j : Nat} (h : FitL sh by_ v ks) (hk : ks[j]? = some .int) : nth v j = .int (fI v j) := by
  have h1 := h.nthF hk
  unfold fI
  cases hn : nth v j <;> rw [hn] at h1 <;> first | rfl | (rw [Fit] at h1; exact absurd h1 (by simp))
theorem nthS {v : List D} {ks : List K} {j : Nat} (h : FitL sh by_ v ks) (hk : ks[j]? = some .str) : nth v j = .str (fS v j) := by
  have h1 := h.nthF hk
  unfold fS
  cases hn : nth v j <;> rw [hn] at h1 <;> first | rfl | (rw [Fit] at h1; exact absurd h1 (by simp))
theorem nthR {v : List D} {ks : List K} {j t : Nat} (h : FitL sh by_ v ks) (hk : ks[j]? = some (.sl t)) : nth v j = .sl (fR v j) := by
  have h1 := h.nthF hk
  unfold fR
  cases hn : nth v j <;> rw [hn] at h1 <;> first | rfl | (rw [Fit] at h1; exact absurd h1 (by simp))
abbrev KPr : List K := .int :: .sl 2 :: .int :: .int :: .str :: .sl 0 :: .sl 1 :: .sl 0 :: .int :: .int :: .int :: .sl 4 :: .int :: .int :: .sl 2 :: .str :: .sl 2 :: .int :: .int :: .str :: .sl 0 :: .sl 1 :: .int :: .sl 5 :: .sl 6 :: []
theorem skel_expr {k : Nat} {v : List D} (h : FitL sh by_ v KPr) : sub (skelP (k + 1) v) 13 11 = sub v 13 11 := by
  show [D.int (fI v 13), .sl (fR v 14), .str (fS v 15), .sl (fR v 16), .int (fI v 17), .int (fI v 18), .str (fS v 19), .sl (fR v 20), .sl (fR v 21), .int (fI v 22), .sl (fR v 23)] = [nth v 13, nth v 14, nth v 15, nth v 16, nth v 17, nth v 18, nth v 19, nth v 20, nth v 21, nth v 22, nth v 23]
  rw [nthI (j := 13) h rfl, nthR (j := 14) h rfl, nthS (j := 15) h rfl, nthR (j := 16) h rfl, nthI (j := 17) h rfl, nthI (j := 18) h rfl, nthS (j := 19) h rfl, nthR (j := 20) h rfl, nthR (j := 21) h rfl, nthI (j := 22) h rfl, nthR (j := 23) h rfl]
theorem pE {v : List D} (h : FitL sh by_ v KPr) : FitL sh by_ (sub v 13 11) KX := FitL.sub h 13 11 (by decide)
theorem p24 {v x : List D} (hf : FitL sh by_ v KPr) (hx : x ∈ fR v 24) : FitL sh by_ x KPr := (FitL.fR (j := 24) (t := 6) hf rfl).1.mem hx
theorem skel_iff (m k k' : Nat) {a b : List D} (fa : FitL sh by_ a KPr) (fb : FitL sh by_ b KPr) : samePredFR (m + 1) (skelP (k + 1) a) (skelP (k' + 1) b) = true ↔ fI a 0 = fI b 0 ∧ Ts (fR a 1) (fR b 1) ∧ fI a 2 = fI b 2 ∧ ((fR a 7).length = (fR b 7).length ∧ ∀ i, i < (fR a 7).length → fI (row (fR a 7) i) 0 = fI (row (fR b 7) i) 0) ∧ fI a 8 = fI b 8 ∧ fI a 9 = fI b 9 ∧ fI a 10 = fI b 10 ∧ sameExprFT (sub a 13 11) (sub b 13 11) = true ∧ (fR a 24).length = (fR b 24).length ∧
    (∀ i, i < (fR a 24).length → samePredFR m (skelP k (row (fR a 24) i)) (skelP k' (row (fR b 24) i)) = true) := by
  have e7 := list_same (fR a 7) (fR b 7)
  have e2 := kdT_same (fI a 2) (fI b 2)
  have e10 := shape_same (fI a 10) (fI b 10)
  rw [← e7, ← e10, ← skel_expr (k := k) fa, ← skel_expr (k := k') fb, ← e2]
  show samePredF (samePredFR m) (skelP (k + 1) a) (skelP (k' + 1) b) = true ↔ _
  refine (samePredF_iff _ _ _).trans ?_
  have hA : fR (skelP (k + 1) a) 24 = (fR a 24).map (skelP k) := rfl
  have hB : fR (skelP (k' + 1) b) 24 = (fR b 24).map (skelP k') := rfl
  rw [hA, hB, List.length_map, List.length_map]
  constructor
  · rintro ⟨h0, h1, h2, h7, h8, h9, h10, h13, h24, hr⟩
    exact ⟨h0, h1, h2, h7, h8, h9, h10, h13, h24, fun i hi => by have := hr i hi; rw [row_map _ hi, row_map _ (by omega)] at this; exact this⟩
  · rintro ⟨h0, h1, h2, h7, h8, h9, h10, h13, h24, hr⟩
    exact ⟨h0, h1, h2, h7, h8, h9, h10, h13, h24, fun i hi => by rw [row_map _ hi, row_map _ (by omega)]; exact hr i hi⟩
end Go.Proofs.YtjcjgcnpnfhkoaaDoor

namespace Go.Proofs.YtjcjgcnpnfhkoaaDoor
open Go.RowKit Go.Sx
set_option linter.unusedVariables false
theorem encP_pre (j : Nat) : ∀ (m k k' : Nat) (a b : List D) (r s : List UInt8), FitL sh by_ a KPr → FitL sh by_ b KPr → szL a < j → szL b < j → szL a < k → szL b < k' → szL (skelP k a) < m → encP j a ++ r = encP j b ++ s → samePredFR m (skelP k a) (skelP k' b) = true ∧ r = s := by
  induction j with
  | zero => intro m k k' a b r s fa fb ja; exact absurd ja (Nat.not_lt_zero _)
  | succ j encP_pre =>
    intro m k k' a b r s fa fb ja jb ka kb hm h
    obtain _ | m := m
    · exact absurd hm (Nat.not_lt_zero _)
    obtain _ | k := k
    · exact absurd ka (Nat.not_lt_zero _)
    obtain _ | k' := k'
    · exact absurd kb (Nat.not_lt_zero _)
    simp only [encP, List.append_assoc] at h
    obtain ⟨h0, h⟩ := encN_pre h
    obtain ⟨h1, h⟩ := encTs_pre h
    obtain ⟨h2, h⟩ := encN_pre h
    obtain ⟨l7, h⟩ := encN_pre h
    obtain ⟨h7, h⟩ := flat_pre (R := fun x y => fI x 0 = fI y 0) _ _ _ _ (fun x hx y hy r s e => encN_pre e) (by omega) h
    obtain ⟨h8, h⟩ := encN_pre h
    obtain ⟨h9, h⟩ := encN_pre h
    obtain ⟨h10, h⟩ := encN_pre h
    obtain ⟨h13, h⟩ := encET_pre (pE fa) (pE fb) h
    obtain ⟨l24, h⟩ := encN_pre h
    obtain ⟨h24, h⟩ := flat_pre (R := fun x y => samePredFR m (skelP k x) (skelP k' y) = true) _ _ _ _ (fun x hx y hy r s e => encP_pre m k k' x y r s (p24 fa hx) (p24 fb hy) (szm ja hx) (szm jb hy) (szm ka hx) (szm kb hy)
      (szm (r := skelP (k + 1) a) (j := 24) hm (List.mem_map_of_mem (f := skelP k) hx)) e) (by omega) h
    exact ⟨(skel_iff m k k' fa fb).2 ⟨h0, h1, h2, ⟨by omega, h7⟩, h8, h9, h10, h13, by omega, h24⟩, h⟩
theorem encP_same : ∀ (m j k k' : Nat) (a b : List D), FitL sh by_ a KPr → FitL sh by_ b KPr → szL a < k → szL b < k' → samePredFR m (skelP k a) (skelP k' b) = true → encP j a = encP j b
  | 0, _, _, _, _, _, _, _, _, _, h => by cases h
  | _ + 1, 0, _, _, _, _, _, _, _, _, _ => rfl
  | _ + 1, _ + 1, 0, _, _, _, _, _, h, _, _ => absurd h (Nat.not_lt_zero _)
  | _ + 1, _ + 1, _ + 1, 0, _, _, _, _, _, h, _ => absurd h (Nat.not_lt_zero _)
  | m + 1, j + 1, k + 1, k' + 1, a, b, fa, fb, ka, kb, h => by
    obtain ⟨h0, h1, h2, ⟨l7, h7⟩, h8, h9, h10, h13, l24, h24⟩ := (skel_iff m k k' fa fb).1 h
    simp only [encP]
    rw [h0, encTs_same h1, h2, l7, h8, h9, h10, encET_same (pE fa) (pE fb) h13, l24, flat_eq (f := fun r => encN (fI r 0)) (fR a 7) (fR b 7) l7 (fun i hi => by show encN _ = encN _; rw [h7 i hi]),
      flat_eq (f := fun r => encP j r) (fR a 24) (fR b 24) l24 (fun i hi => encP_same m j k k' _ _ (p24 fa (row_mem hi)) (p24 fb (row_mem (by omega))) (szm ka (row_mem hi)) (szm kb (row_mem (by omega))) (h24 i hi))]
theorem encP_up : ∀ (k m : Nat) (a : List D), FitL sh by_ a KPr → szL a < k → szL a < m → encP k a = encP m a
  | 0, _, _, _, h, _ => absurd h (Nat.not_lt_zero _)
  | _ + 1, 0, _, _, _, h => absurd h (Nat.not_lt_zero _)
  | k + 1, m + 1, a, fa, h1, h2 => by
    simp only [encP]
    rw [fm_congr (f := fun r => encP k r) (g := fun r => encP m r) (fR a 24) (fun x hx => encP_up k m x (p24 fa hx) (szm h1 hx) (szm h2 hx))]
theorem encPT_pre {a b : List D} {r s : List UInt8} (fa : FitL sh by_ a KPr) (fb : FitL sh by_ b KPr) (h : encPT a ++ r = encPT b ++ s) : samePredFT (skelT a) (skelT b) = true ∧ r = s := by
  unfold encPT at h
  rw [encP_up _ (szL a + szL b + 1) a fa (Nat.lt_succ_self _) (by omega), encP_up _ (szL a + szL b + 1) b fb (Nat.lt_succ_self _) (by omega)] at h
  exact encP_pre _ _ _ _ _ _ _ _ fa fb (by omega) (by omega) (Nat.lt_succ_self _) (Nat.lt_succ_self _) (Nat.lt_succ_self _) h
theorem encPT_same {a b : List D} (fa : FitL sh by_ a KPr) (fb : FitL sh by_ b KPr) (h : samePredFT (skelT a) (skelT b) = true) : encPT a = encPT b := by
  unfold encPT
  rw [encP_up _ (szL a + szL b + 1) a fa (Nat.lt_succ_self _) (by omega), encP_up _ (szL a + szL b + 1) b fb (Nat.lt_succ_self _) (by omega)]
  exact encP_same _ _ _ _ _ _ fa fb (Nat.lt_succ_self _) (Nat.lt_succ_self _) h
abbrev KQ : List K := .int :: .sl 2 :: .int :: .int :: .str :: .sl 0 :: .sl 1 :: .sl 0 :: .int :: .int :: .int :: .sl 4 :: .int :: .int :: .sl 2 :: .str :: .sl 2 :: .int :: .int :: .str :: .sl 0 :: .sl 1 :: .int :: .sl 5 :: .sl 6 :: .sl 7 :: .int :: .int :: .bool :: .sl 17 :: .bool :: .sl 18 :: .sl 19 :: .str :: []
theorem encQ_iff {a b : List D} (fa : FitL sh by_ a KQ) (fb : FitL sh by_ b KQ) : encQ a = encQ b ↔ sameShapeQ a b = true := by
  have pa : FitL sh by_ (sub a 0 25) KPr := FitL.sub fa 0 25 (by decide)
  have pb : FitL sh by_ (sub b 0 25) KPr := FitL.sub fb 0 25 (by decide)
  have ja : FitL sh by_ (sub a 28 5) KJ := FitL.sub fa 28 5 (by decide)
  have jb : FitL sh by_ (sub b 28 5) KJ := FitL.sub fb 28 5 (by decide)
  constructor
  · intro h
    simp only [encQ, List.append_assoc] at h
    obtain ⟨h0, h⟩ := encPT_pre pa pb h
    obtain ⟨h1, h⟩ := encO_pre h
    obtain ⟨h2, h⟩ := encN_pre h
    obtain ⟨h3, h⟩ := encN_pre h
    obtain ⟨h4, h⟩ := encJ_pre ja jb h
    obtain ⟨h5, _⟩ := encT_pre (a := fS a 33) (b := fS b 33) (r := []) (s := []) (by rw [h])
    simp [sameShapeQ, h0, h1, h2, h3, h4, h5]
  · intro h
    have : samePredFT (skelT (sub a 0 25)) (skelT (sub b 0 25)) = true ∧ sameOrdersF (fR a 25) (fR b 25) = true ∧ fI a 26 = fI b 26 ∧ fI a 27 = fI b 27 ∧ sameProjectF (sub a 28 5) (sub b 28 5) = true ∧ fS a 33 = fS b 33 := by
      simpa [sameShapeQ, Bool.cond_eq_ite, ba_toList, and_assoc] using h
    obtain ⟨h0, h1, h2, h3, h4, h5⟩ := this
    rw [encQ, encQ, encPT_same pa pb h0, encO_same h1, h2, h3, encJ_same ja jb h4, h5]
end Go.Proofs.YtjcjgcnpnfhkoaaDoor

namespace Go.Proofs.YtjcjgcnpnfhkoaaDoor
open Go.RowKit Go.Sx
set_option linter.unusedVariables false
theorem szd {v : List D} {j : Nat} (h : j < v.length) : szL (v.drop j) = (nth v j).sz + szL (v.drop (j + 1)) := by
  induction v generalizing j with
  | nil => exact absurd h (Nat.not_lt_zero _)
  | cons d v ih =>
    cases j with
    | zero => rfl
    | succ j => exact ih (by simpa using h)
theorem szs {v : List D} {k n : Nat} (h : k + n ≤ v.length) : szL (v.drop k) = szL (sub v k n) + szL (v.drop (k + n)) := by
  rw [sub_eq n k v h, ← List.drop_drop, ← szL_append, List.take_append_drop]
theorem szI {v : List D} {ks : List K} {j : Nat} (h : FitL sh by_ v ks) (hk : ks[j]? = some .int) : szL (v.drop j) = 1 + szL (v.drop (j + 1)) := by
  rw [szd (by rw [h.length]; exact (List.getElem?_eq_some_iff.1 hk).1), nthI h hk]; rfl
theorem szS {v : List D} {ks : List K} {j : Nat} (h : FitL sh by_ v ks) (hk : ks[j]? = some .str) : szL (v.drop j) = (fS v j).size + 1 + szL (v.drop (j + 1)) := by
  rw [szd (by rw [h.length]; exact (List.getElem?_eq_some_iff.1 hk).1), nthS h hk]; rfl
theorem szRw {v : List D} {ks : List K} {j t : Nat} (h : FitL sh by_ v ks) (hk : ks[j]? = some (.sl t)) : szL (v.drop j) = szR (fR v j) + 1 + szL (v.drop (j + 1)) := by
  rw [szd (by rw [h.length]; exact (List.getElem?_eq_some_iff.1 hk).1), nthR h hk]; rfl
theorem nI {n : Int} (h : -9223372036854775808 ≤ n ∧ n ≤ 9223372036854775807) : (encN n).length ≤ 22 := by
  have := Lib.itoa_length_le n h.1 h.2
  unfold encN
  rw [List.length_append, List.length_singleton]; omega
theorem nL {n : Nat} (h : n ≤ 140737488355328) : (encN (n : Int)).length ≤ 22 := nI (by omega)
theorem nB (b : Bool) : (encB b).length ≤ 22 := by cases b <;> exact nI (by decide)
theorem nT {s : ByteArray} (h : s.size ≤ 140737488355328) : (encT s).length ≤ 22 * (s.size + 1) := by
  unfold encT
  have := nL h
  have h3 : s.data.toList.length = s.size := by simp
  rw [List.length_append, h3]; omega
theorem nF {f : List D → List UInt8} : ∀ (R : List (List D)), (∀ x ∈ R, (f x).length ≤ 22 * szL x + 22) → (R.flatMap f).length ≤ 22 * szR R
  | [], _ => by simp [szR]
  | x :: R, h => by
    have h1 := nF R (fun y hy => h y (List.mem_cons_of_mem _ hy))
    have h2 := h x (List.mem_cons_self ..)
    rw [List.flatMap_cons, List.length_append, szR]; omega
theorem nTs {R : List (List D)} (hl : R.length ≤ 140737488355328) (h : FitR sh by_ R (sh 2)) : (encTs R).length ≤ 22 * (szR R + 1) := by
  unfold encTs
  have h1 := nL hl
  have h2 := nF (f := fun r => encT (fS r 0)) R (fun x hx => by
    have hf : FitL sh by_ x [.str] := h.mem hx
    have h3 := nT (hf.fS (j := 0) rfl)
    have h4 := szS (j := 0) hf rfl
    rw [List.drop_zero] at h4
    show (encT (fS x 0)).length ≤ _
    omega)
  rw [List.length_append]; omega
end Go.Proofs.YtjcjgcnpnfhkoaaDoor

namespace Go.Proofs.YtjcjgcnpnfhkoaaDoor
open Go.RowKit Go.Sx
set_option linter.unusedVariables false
theorem le_of {x k M : Nat} (h : x * k ≤ M) (hk : 1 ≤ k) : x ≤ M := Nat.le_trans (Nat.le_mul_of_pos_right x hk) h
theorem nV (k : Nat) : ∀ v : List D, FitL sh by_ v KV → (encV k v).length ≤ 22 * szL v := by
  induction k with
  | zero => intro v _; exact Nat.zero_le _
  | succ k ih =>
    intro v hf
    have z0 := szI (j := 0) hf rfl; have z1 := szI (j := 1) hf rfl; have z2 := szS (j := 2) hf rfl; have z3 := szRw (j := 3) hf rfl; have z4 := szRw (j := 4) hf rfl
    rw [List.drop_zero] at z0
    simp only [Nat.reduceAdd] at z0 z1 z2 z3 z4
    have l0 := nI (hf.fI (j := 0) rfl); have l1 := nI (hf.fI (j := 1) rfl); have l2 := nT (hf.fS (j := 2) rfl)
    have l3 := nL (le_of (FitL.fR (j := 3) (t := 0) hf rfl).2 (by decide)); have l4 := nL (le_of (FitL.fR (j := 4) (t := 1) hf rfl).2 (by decide))
    have f3 := nF (f := fun r => encV k r) (fR v 3) (fun x hx => Nat.le_trans (ih x (v3 hf hx)) (by omega))
    have f4 := nF (f := fun r => encT (fS r 0) ++ encV k (sub r 1 5)) (fR v 4) (fun x hx => by
      have hx6 : FitL sh by_ x [.str, .int, .int, .str, .sl 0, .sl 1] := (FitL.fR (j := 4) (t := 1) hf rfl).1.mem hx
      have y0 := szS (j := 0) hx6 rfl
      have y1 := szs (v := x) (k := 1) (n := 5) (by rw [hx6.length]; decide)
      have y2 := nT (hx6.fS (j := 0) rfl)
      have y3 := ih _ (v4 hf hx).1
      rw [List.drop_zero] at y0
      simp only [Nat.reduceAdd] at y0 y1
      simp only [List.length_append]; omega)
    simp only [encV, List.length_append]
    omega
theorem nE (k : Nat) : ∀ v : List D, FitL sh by_ v KX → (encE k v).length ≤ 22 * szL v := by
  induction k with
  | zero => intro v _; exact Nat.zero_le _
  | succ k ih =>
    intro v hf
    have z0 := szI (j := 0) hf rfl; have z1 := szRw (j := 1) hf rfl; have z2 := szS (j := 2) hf rfl; have z3 := szRw (j := 3) hf rfl
    have z4 := szs (v := v) (k := 4) (n := 5) (by rw [hf.length]; decide)
    have z9 := szI (j := 9) hf rfl; have z10 := szRw (j := 10) hf rfl
    rw [List.drop_zero] at z0
    simp only [Nat.reduceAdd] at z0 z1 z2 z3 z4 z9 z10
    have l0 := nI (hf.fI (j := 0) rfl); have l2 := nT (hf.fS (j := 2) rfl); have l9 := nI (hf.fI (j := 9) rfl)
    have l1 := nTs (le_of (FitL.fR (j := 1) (t := 2) hf rfl).2 (by decide)) (FitL.fR (j := 1) (t := 2) hf rfl).1
    have l3 := nTs (le_of (FitL.fR (j := 3) (t := 2) hf rfl).2 (by decide)) (FitL.fR (j := 3) (t := 2) hf rfl).1
    have l4 : (encVT (sub v 4 5)).length ≤ 22 * szL (sub v 4 5) := nV _ _ (x4 hf)
    have l10 := nL (le_of (FitL.fR (j := 10) (t := 5) hf rfl).2 (by decide))
    have f10 := nF (f := fun r => encE k r) (fR v 10) (fun x hx => Nat.le_trans (ih x (x10 hf hx)) (by omega))
    simp only [encE, List.length_append]
    omega
theorem nP (k : Nat) : ∀ v : List D, FitL sh by_ v KPr → (encP k v).length ≤ 22 * szL v := by
  induction k with
  | zero => intro v _; exact Nat.zero_le _
  | succ k ih =>
    intro v hf
    have z0 := szI (j := 0) hf rfl; have z1 := szRw (j := 1) hf rfl; have z2 := szI (j := 2) hf rfl
    have z3 := szs (v := v) (k := 3) (n := 4) (by rw [hf.length]; decide)
    have z7 := szRw (j := 7) hf rfl; have z8 := szI (j := 8) hf rfl; have z9 := szI (j := 9) hf rfl; have z10 := szI (j := 10) hf rfl
    have z11 := szs (v := v) (k := 11) (n := 2) (by rw [hf.length]; decide)
    have z13 := szs (v := v) (k := 13) (n := 11) (by rw [hf.length]; decide); have z24 := szRw (j := 24) hf rfl
    rw [List.drop_zero] at z0
    simp only [Nat.reduceAdd] at z0 z1 z2 z3 z7 z8 z9 z10 z11 z13 z24
    have l0 := nI (hf.fI (j := 0) rfl); have l2 := nI (hf.fI (j := 2) rfl); have l8 := nI (hf.fI (j := 8) rfl); have l9 := nI (hf.fI (j := 9) rfl); have l10 := nI (hf.fI (j := 10) rfl)
    have l1 := nTs (le_of (FitL.fR (j := 1) (t := 2) hf rfl).2 (by decide)) (FitL.fR (j := 1) (t := 2) hf rfl).1
    have l7 := nL (le_of (FitL.fR (j := 7) (t := 0) hf rfl).2 (by decide)); have l24 := nL (le_of (FitL.fR (j := 24) (t := 6) hf rfl).2 (by decide))
    have l13 : (encET (sub v 13 11)).length ≤ 22 * szL (sub v 13 11) := nE _ _ (pE hf)
    have f7 := nF (f := fun r => encN (fI r 0)) (fR v 7) (fun x hx => by
      have hx5 : FitL sh by_ x KV := (FitL.fR (j := 7) (t := 0) hf rfl).1.mem hx
      have := nI (hx5.fI (j := 0) rfl)
      show (encN (fI x 0)).length ≤ _
      omega)
    have f24 := nF (f := fun r => encP k r) (fR v 24) (fun x hx => Nat.le_trans (ih x (p24 hf hx)) (by omega))
    simp only [encP, List.length_append]
    omega
end Go.Proofs.YtjcjgcnpnfhkoaaDoor

namespace Go.Proofs.YtjcjgcnpnfhkoaaDoor
open Go.RowKit Go.Sx
set_option linter.unusedVariables false
theorem szp (d : D) : 1 ≤ d.sz := by cases d <;> simp only [D.sz] <;> omega
theorem szB {v : List D} {ks : List K} {j : Nat} (h : FitL sh by_ v ks) (hk : j < ks.length) : 1 + szL (v.drop (j + 1)) ≤ szL (v.drop j) := by
  have := szp (nth v j)
  rw [szd (v := v) (j := j) (by rw [h.length]; exact hk)]; omega
theorem tsR {v : List D} {ks : List K} {j : Nat} (hf : FitL sh by_ v ks) (hk : ks[j]? = some (.sl 2)) : (encTs (fR v j)).length ≤ 22 * (szR (fR v j) + 1) := nTs (le_of (FitL.fR hf hk).2 (by decide)) (FitL.fR hf hk).1
theorem nO {R : List (List D)} (hl : R.length ≤ 140737488355328) (h : FitR sh by_ R (sh 7)) : (encO R).length ≤ 22 * (szR R + 1) := by
  unfold encO
  have h1 := nL hl
  have h2 := nF (f := fun r => encTs (fR r 0) ++ encB (fB r 1)) R (fun x hx => by
    have hf : FitL sh by_ x [.sl 2, .bool] := h.mem hx
    have h3 := tsR (j := 0) hf rfl
    have h4 := nB (fB x 1)
    have z0 := szRw (j := 0) hf rfl
    have z1 := szB (j := 1) hf (by decide)
    rw [List.drop_zero] at z0
    simp only [Nat.reduceAdd] at z0 z1
    simp only [List.length_append]; omega)
  rw [List.length_append]; omega
theorem nJ {v : List D} (hf : FitL sh by_ v KJ) : (encJ v).length ≤ 22 * szL v := by
  have z0 := szB (j := 0) hf (by decide); have z1 := szRw (j := 1) hf rfl; have z2 := szB (j := 2) hf (by decide); have z3 := szRw (j := 3) hf rfl; have z4 := szRw (j := 4) hf rfl
  rw [List.drop_zero] at z0
  simp only [Nat.reduceAdd] at z0 z1 z2 z3 z4
  have l0 := nB (fB v 0); have l2 := nB (fB v 2)
  have l1 := nL (le_of (FitL.fR (j := 1) (t := 17) hf rfl).2 (by decide)); have l3 := nL (le_of (FitL.fR (j := 3) (t := 18) hf rfl).2 (by decide)); have l4 := nL (le_of (FitL.fR (j := 4) (t := 19) hf rfl).2 (by decide))
  have f1 := nF (f := fun r => encTs (fR r 0)) (fR v 1) (fun x hx => by
    have hx1 : FitL sh by_ x [.sl 2] := (FitL.fR (j := 1) (t := 17) hf rfl).1.mem hx
    have h3 := tsR (j := 0) hx1 rfl
    have y0 := szRw (j := 0) hx1 rfl
    rw [List.drop_zero] at y0
    show (encTs (fR x 0)).length ≤ _
    omega)
  have f3 := nF (f := fun r => encTs (fR r 0) ++ encN (fI r 1) ++ encN (fI r 2)) (fR v 3) (fun x hx => by
    have hx1 : FitL sh by_ x [.sl 2, .int, .int] := (FitL.fR (j := 3) (t := 18) hf rfl).1.mem hx
    have h3 := tsR (j := 0) hx1 rfl
    have y0 := szRw (j := 0) hx1 rfl; have y1 := szI (j := 1) hx1 rfl; have y2 := szI (j := 2) hx1 rfl
    have i1 := nI (hx1.fI (j := 1) rfl); have i2 := nI (hx1.fI (j := 2) rfl)
    rw [List.drop_zero] at y0
    simp only [Nat.reduceAdd] at y0 y1 y2
    simp only [List.length_append]; omega)
  have f4 := nF (f := fun r => encTs (fR r 0) ++ encET (sub r 1 11)) (fR v 4) (fun x hx => by
    have hx1 : FitL sh by_ x (.sl 2 :: KX) := (FitL.fR (j := 4) (t := 19) hf rfl).1.mem hx
    have h3 := tsR (j := 0) hx1 rfl
    have y0 := szRw (j := 0) hx1 rfl; have y1 := szs (v := x) (k := 1) (n := 11) (by rw [hx1.length]; decide)
    have i1 : (encET (sub x 1 11)).length ≤ 22 * szL (sub x 1 11) := nE _ _ (j4 hf hx)
    rw [List.drop_zero] at y0
    simp only [Nat.reduceAdd] at y0 y1
    simp only [List.length_append]; omega)
  simp only [encJ, List.length_append]
  omega
theorem nQ {v : List D} (hf : FitL sh by_ v KQ) : (encQ v).length ≤ 22 * szL v := by
  have z0 := szs (v := v) (k := 0) (n := 25) (by rw [hf.length]; decide); have z25 := szRw (j := 25) hf rfl; have z26 := szI (j := 26) hf rfl; have z27 := szI (j := 27) hf rfl
  have z28 := szs (v := v) (k := 28) (n := 5) (by rw [hf.length]; decide); have z33 := szS (j := 33) hf rfl
  rw [List.drop_zero] at z0
  simp only [Nat.reduceAdd] at z0 z25 z26 z27 z28 z33
  have l0 : (encPT (sub v 0 25)).length ≤ 22 * szL (sub v 0 25) := nP _ _ (FitL.sub hf 0 25 (by decide))
  have l25 := nO (le_of (FitL.fR (j := 25) (t := 7) hf rfl).2 (by decide)) (FitL.fR (j := 25) (t := 7) hf rfl).1
  have l26 := nI (hf.fI (j := 26) rfl); have l27 := nI (hf.fI (j := 27) rfl)
  have l28 := nJ (FitL.sub hf 28 5 (by decide) : FitL sh by_ (sub v 28 5) KJ)
  have l33 := nT (hf.fS (j := 33) rfl)
  simp only [encQ, List.length_append]
  omega
end Go.Proofs.YtjcjgcnpnfhkoaaDoor
