/- A slice's length is at most its capacity, out of what a row reads of an argument. No statement is proved here. -/
import Derived.Test.YthedokpgogopiaaLaw
namespace Go.Sx
set_option linter.unusedVariables false
section
variable {H : Type} {enc : TypeId × Value → H} {P : Program} {w : World} {spare : Nat → Bool} {held : Bool}
theorem cap_of_trodL {t e : TypeId} {fuel : Nat} {a : Option Addr} {n c : Nat} {x : DataW H × List MemPlace} (hu : P.underlying t = some (.slice e)) (h : DataW.trod enc P w 0 spare held fuel t [.slice a n c] = some x) : n ≤ c := by
  rcases DataW.trod_slice hu h with ⟨h1, _⟩ | ⟨a', len, cap, elems, rest, m, _, h1, _, _, hl, _⟩
  · cases h1; exact Nat.le_refl _
  · cases h1; exact hl
theorem cap_of_trod {t e : TypeId} {a : Option Addr} {n c : Nat} {d : DataW H} {ps : List MemPlace} (hu : P.underlying t = some (.slice e)) (h : DataW.Trod enc P w 0 spare held t (.slice a n c) d ps) : n ≤ c := by
  obtain ⟨fuel, h⟩ := h
  exact cap_of_trodL hu h
theorem cap_of_field {t t' e : TypeId} {fs : Array Field} {fuel i : Nat} {f : Field} {cs : List Value} {a : Option Addr} {n c : Nat} {x : DataW H × List MemPlace} (hs : P.underlying t = some (.struct fs)) (h : DataW.trod enc P w 0 spare held fuel t cs = some x)
    (hf : fs[i]? = some f) (hu : P.underlying f.type = some (.slice e)) (hc : (cs.drop f.offset).take (P.cellsOf f.type) = [.slice a n c]) : n ≤ c := by
  obtain ⟨xs, m, _, _, _, hl, hx⟩ := DataW.trod_struct hs h
  have h1 := hx i f hf
  rw [hc] at h1
  have hi : i < xs.length := by rw [hl]; exact (Array.getElem?_eq_some_iff.1 hf).1
  rw [List.getElem?_eq_getElem hi] at h1
  exact cap_of_trodL hu h1
end
end Go.Sx
