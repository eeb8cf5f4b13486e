/- The shapes of the program's data (package api), for the calculus 'Sx'. -/
import Derived.Test.YtpdichhabjieeaaGreatDoorCopy
namespace Go.Sx

/-- 0 Value, 1 Field, 2 string, 3 int, 4 Point, 5 Expr, 6 Pred, 7 Order, 8 Index, 9 Schema, 10 Prop, 11 Space, 12 Write, 13 Entry, 14 Message, 15 Op (docstorelaw46), 16 Trial, 17 path ([]string), 18 Slice, 19 Computed, 20 Query, 21 row of Interval ([]Interval), 22 Interval -/
def shV : List K := [.int, .int, .str, .sl 0, .sl 1]
def shExpr : List K := [.int, .sl 2, .str, .sl 2] ++ shV ++ [.int, .sl 5]
def shPred : List K := [.int, .sl 2] ++ shV ++ [.sl 0, .int, .int, .int, .sl 4, .int] ++ shExpr ++ [.sl 6]
def shIndex : List K := [.str, .int, .sl 7, .bool, .bool, .bool] ++ shPred
def shSchema : List K := [.int, .bool] ++ shV ++ [.bool] ++ shV ++ [.sl 0, .int, .int, .sl 2, .sl 10, .bool, .sl 9, .bool]
def shSpace : List K := [.str, .sl 8] ++ shSchema ++ [.int, .int]
def shWrite : List K := [.int, .str] ++ shV ++ shV ++ shV ++ shSpace ++ shIndex ++ [.str, .int, .sl 12, .sl 3, .bool]
def shMsg : List K := [.int, .int, .int, .int, .int, .int, .int, .sl 13, .bool]
def sh : Nat → List K
  | 0 => shV
  | 1 => .str :: shV
  | 2 => [.str]
  | 3 => [.int]
  | 4 => [.int, .int]
  | 5 => shExpr
  | 6 => shPred
  | 7 => [.sl 2, .bool]
  | 8 => shIndex
  | 9 => shSchema
  | 10 => .str :: shSchema
  | 11 => shSpace
  | 12 => shWrite
  | 13 => [.int, .int, .str, .int] ++ shWrite
  | 14 => shMsg
  | 15 => [.int] ++ shMsg ++ [.int, .int]
  | 16 => [.sl 0, .int, .int, .int, .bool]
  | 17 => [.sl 2]
  | 18 => [.sl 2, .int, .int]
  | 19 => [.sl 2] ++ shExpr
  | 20 => shPred ++ [.sl 7, .int, .int, .bool, .sl 17, .bool, .sl 18, .sl 19, .str]
  | 21 => [.sl 22]
  | 22 => shV ++ shV ++ [.bool, .bool]
  | _ => []
def by_ : Nat → Nat
  | 0 => 80
  | 1 => 96
  | 2 => 16
  | 3 => 8
  | 4 => 16
  | 5 => 184
  | 6 => 400
  | 7 => 32
  | 8 => 456
  | 9 => 312
  | 10 => 328
  | 11 => 368
  | 12 => 1168
  | 13 => 1208
  | 14 => 88
  | 15 => 112
  | 16 => 56
  | 17 => 24
  | 18 => 40
  | 19 => 208
  | 20 => 0
  | 21 => 24
  | 22 => 168
  | _ => 0

theorem bare_of_fit {ds : List D} : ∀ {ks : List K}, FitL sh by_ ds ks → (∀ k ∈ ks, k = .int ∨ k = .bool ∨ k = .str) → ds.all D.bare = true := by
  induction ds with
  | nil => intros; rfl
  | cons d ds ih =>
    intro ks h hk
    rw [FitL] at h
    obtain ⟨k, ks', rfl, h1, h2⟩ := h
    simp only [List.all_cons, Bool.and_eq_true]
    refine ⟨?_, ih h2 (fun x hx => hk x (List.mem_cons_of_mem _ hx))⟩
    rcases hk k (List.mem_cons_self ..) with rfl | rfl | rfl
    · obtain ⟨n, rfl, _⟩ := h1.int; rfl
    · obtain ⟨n, rfl⟩ := h1.bool; rfl
    · obtain ⟨n, rfl, _⟩ := h1.str; rfl
theorem bareR_of_fit {rows : List (List D)} {ks : List K} (h : FitR sh by_ rows ks) (hk : ∀ k ∈ ks, k = .int ∨ k = .bool ∨ k = .str) : ∀ r ∈ rows, r.all D.bare = true := fun r hr => by
  obtain ⟨i, hi⟩ := List.getElem?_of_mem hr
  exact bare_of_fit (h.get i r hi) hk
end Go.Sx
