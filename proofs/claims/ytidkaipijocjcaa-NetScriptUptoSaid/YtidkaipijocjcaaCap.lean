/- A slice's length is at most its capacity, out of what a row reads of an argument. No statement is proved here. -/
import Derived.Test.YtidkaipijocjcaaLaw
namespace Go.Sx
set_option linter.unusedVariables false
section
variable {H : Type} {enc : TypeId × Value → H} {P : Program} {w : World} {spare : Nat → Bool} {held : Bool}
theorem cap_of_trodL {t e : TypeId} {fuel : Nat} {a : Option Addr} {n c : Nat} {x : DataW H × List MemPlace} (hu : P.underlying t = some (.slice e)) (h : DataW.trod enc P w 0 spare held fuel t [.slice a n c] = some x) : n ≤ c := by
  rcases DataW.trod_slice hu h with ⟨h1, _⟩ | ⟨a', len, cap, elems, rest, m, _, h1, _, _, hl, _⟩
  · cases h1; exact Nat.le_refl _
  · cases h1; exact hl
theorem cap_of_trod {t e : TypeId} {a : Option Addr} {n c : Nat} {d : DataW H} {ps : List MemPlace} (hu : P.underlying t = some (.slice e)) (h : DataW.Trod enc P w 0 spare held t (.slice a n c) d ps) : n ≤ c := by
  obtain ⟨fuel, h⟩ := h
  exact cap_of_trodL hu h
theorem cap_of_field {t t' e : TypeId} {fs : Array Field} {fuel i : Nat} {f : Field} {cs : List Value} {a : Option Addr} {n c : Nat} {x : DataW H × List MemPlace} (hs : P.underlying t = some (.struct fs)) (h : DataW.trod enc P w 0 spare held fuel t cs = some x)
    (hf : fs[i]? = some f) (hu : P.underlying f.type = some (.slice e)) (hc : (cs.drop f.offset).take (P.cellsOf f.type) = [.slice a n c]) : n ≤ c := by
  obtain ⟨xs, m, _, _, _, hl, hx⟩ := DataW.trod_struct hs h
  have h1 := hx i f hf
  rw [hc] at h1
  have hi : i < xs.length := by rw [hl]; exact (Array.getElem?_eq_some_iff.1 hf).1
  rw [List.getElem?_eq_getElem hi] at h1
  exact cap_of_trodL hu h1
theorem cap_of_cell {t e : TypeId} {fs : Array Field} {fuel i o : Nat} {f : Field} {cs : List Value} {a : Option Addr} {n c : Nat} {x : DataW H × List MemPlace} (hs : P.underlying t = some (.struct fs)) (h : DataW.trod enc P w 0 spare held fuel t cs = some x)
    (hf : fs[i]? = some f) (hu : P.underlying f.type = some (.slice e)) (ho : f.offset = o) (hn : P.cellsOf f.type = 1) (hc : cs[o]? = some (.slice a n c)) : n ≤ c := by
  refine cap_of_field (t' := t) hs h hf hu (a := a) ?_
  rw [ho, hn]
  have hl := (List.getElem?_eq_some_iff.1 hc)
  rw [List.drop_eq_getElem_cons hl.1, hl.2]
  rfl
mutual
theorem bulk_mono {f : DataW H → Nat} {fs : List (DataW H) → Nat} (h1 : ∀ b, b.length + 1 ≤ f (.lit (.string b))) (h2 : ∀ l, 1 ≤ f (.lit l)) (h3 : 1 ≤ f .nil) (h4 : ∀ d, f d + 1 ≤ f (.ptr d)) (h5 : ∀ a b, fs a + fs b + 1 ≤ f (.slice a b)) (h6 : ∀ a, fs a + 1 ≤ f (.agg a))
    (h7 : ∀ t d, f d + 1 ≤ f (.iface t d)) (h8 : ∀ m, 1 ≤ f (.map m)) (h9 : ∀ x, 1 ≤ f (.held x)) (h10 : ∀ d r, f d + fs r ≤ fs (d :: r)) : ∀ d : DataW H, bulk d ≤ f d
  | .lit (.string b) => by rw [bulk]; exact h1 b
  | .lit (.int k n) => by rw [bulk]; exact h2 _; intro b; intro hb; cases hb
  | .lit (.bool b) => by rw [bulk]; exact h2 _; intro b; intro hb; cases hb
  | .lit l => by
    cases l with
    | string b => rw [bulk]; exact h1 b
    | _ => rw [bulk]; exact h2 _; intro b hb; cases hb
  | .nil => by rw [bulk]; exact h3
  | .ptr d => by rw [bulk]; have := bulk_mono h1 h2 h3 h4 h5 h6 h7 h8 h9 h10 d; have := h4 d; omega
  | .slice a b => by rw [bulk]; have := bulks_mono h1 h2 h3 h4 h5 h6 h7 h8 h9 h10 a; have := bulks_mono h1 h2 h3 h4 h5 h6 h7 h8 h9 h10 b; have := h5 a b; omega
  | .agg a => by rw [bulk]; have := bulks_mono h1 h2 h3 h4 h5 h6 h7 h8 h9 h10 a; have := h6 a; omega
  | .iface t d => by rw [bulk]; have := bulk_mono h1 h2 h3 h4 h5 h6 h7 h8 h9 h10 d; have := h7 t d; omega
  | .map m => by rw [bulk]; exact h8 m
  | .held x => by rw [bulk]; exact h9 x
theorem bulks_mono {f : DataW H → Nat} {fs : List (DataW H) → Nat} (h1 : ∀ b, b.length + 1 ≤ f (.lit (.string b))) (h2 : ∀ l, 1 ≤ f (.lit l)) (h3 : 1 ≤ f .nil) (h4 : ∀ d, f d + 1 ≤ f (.ptr d)) (h5 : ∀ a b, fs a + fs b + 1 ≤ f (.slice a b)) (h6 : ∀ a, fs a + 1 ≤ f (.agg a))
    (h7 : ∀ t d, f d + 1 ≤ f (.iface t d)) (h8 : ∀ m, 1 ≤ f (.map m)) (h9 : ∀ x, 1 ≤ f (.held x)) (h10 : ∀ d r, f d + fs r ≤ fs (d :: r)) : ∀ l : List (DataW H), bulkAll l ≤ fs l
  | [] => by rw [bulkAll]; exact Nat.zero_le _
  | d :: r => by rw [bulkAll]; have := bulk_mono h1 h2 h3 h4 h5 h6 h7 h8 h9 h10 d; have := bulks_mono h1 h2 h3 h4 h5 h6 h7 h8 h9 h10 r; have := h10 d r; omega
end
end
end Go.Sx
