/- Data compared. No statement is proved here. -/
import Derived.Test.YtpdichhabjieeaaGreatDoorAo
import Derived.Laws.StructEq
namespace Go.Sx
open Go.RowKit
set_option linter.unusedVariables false
mutual
def eqD : D → D → Bool
  | .int a, .int b => a == b
  | .bool a, .bool b => a == b
  | .str a, .str b => a.toList == b.toList
  | .sl a, .sl b => eqR a b
  | _, _ => false
def eqR : List (List D) → List (List D) → Bool
  | [], [] => true
  | a :: as, b :: bs => eqL a b && eqR as bs
  | _, _ => false
def eqL : List D → List D → Bool
  | [], [] => true
  | a :: as, b :: bs => eqD a b && eqL as bs
  | _, _ => false
end
mutual
theorem eqD_iff : ∀ (a b : D), eqD a b = true ↔ a = b
  | .int a, b => by cases b <;> simp [eqD]
  | .bool a, b => by cases b <;> simp [eqD]
  | .str a, b => by
    cases b with
    | str b =>
      rw [eqD, beq_iff_eq, ByteArray.toList_eq, ByteArray.toList_eq]
      obtain ⟨⟨x⟩⟩ := a
      obtain ⟨⟨y⟩⟩ := b
      simp
    | _ => simp [eqD]
  | .sl a, b => by
    cases b with
    | sl b => rw [eqD, eqR_iff a b]; simp
    | _ => simp [eqD]
theorem eqR_iff : ∀ (a b : List (List D)), eqR a b = true ↔ a = b
  | [], b => by cases b <;> simp [eqR]
  | x :: xs, b => by
    cases b with
    | nil => simp [eqR]
    | cons y ys => rw [eqR, Bool.and_eq_true, eqL_iff x y, eqR_iff xs ys]; simp
theorem eqL_iff : ∀ (a b : List D), eqL a b = true ↔ a = b
  | [], b => by cases b <;> simp [eqL]
  | x :: xs, b => by
    cases b with
    | nil => simp [eqL]
    | cons y ys => rw [eqL, Bool.and_eq_true, eqD_iff x y, eqL_iff xs ys]; simp
end
theorem eqR_of {a b : List (List D)} (hl : a.length = b.length) (h : ∀ j, j < a.length → a[j]? = b[j]?) : eqR a b = true := (eqR_iff a b).2 (List.ext_getElem? (fun j => by
  by_cases hj : j < a.length
  · exact h j hj
  · rw [List.getElem?_eq_none (by omega), List.getElem?_eq_none (by omega)]))
theorem eqR_not {a b : List (List D)} {j : Nat} {x y : List D} (ha : a[j]? = some x) (hb : b[j]? = some y) (h : eqL x y = false) : eqR a b = false := by
  cases hq : eqR a b
  · rfl
  · rw [eqR_iff] at hq
    subst hq
    rw [ha] at hb
    cases hb
    rw [(eqL_iff x x).2 rfl] at h
    cases h
theorem eqR_len {a b : List (List D)} (h : a.length ≠ b.length) : eqR a b = false := by
  cases hq : eqR a b
  · rfl
  · rw [eqR_iff] at hq
    exact absurd (congrArg List.length hq) h
theorem rows_same {a b : List (List D)} {j : Nat} {x y : List D} (ha : a[j]? = some x) (hb : b[j]? = some y) (h : eqL x y = true) : a[j]? = b[j]? := by
  rw [ha, hb, (eqL_iff x y).1 h]
theorem range_cut {w : World} {g o : Nat} {cs : List Value} (h : w.rangeAt g o cs) (k n : Nat) : w.rangeAt g (o + k) ((cs.drop k).take n) := fun j v hj => by
  rw [List.getElem?_take] at hj
  split at hj
  · rw [List.getElem?_drop] at hj
    have := h (k + j) v hj
    rwa [← Nat.add_assoc] at this
  · cases hj
end Go.Sx
