/- The evaluator on arguments of which only the outer form is known. No statement is proved here. -/
import Derived.Test.YtpdichhabjieeaaGreatDoorEw10
import Derived.Test.YtpdichhabjieeaaGreatDoorOpen
namespace Go.Ev
open Go.RowKit Go.Sx
set_option linter.unusedVariables false

theorem rd_one {S : Nat → Prop} {w : World} {sh : Nat → List K} {by_ : Nat → Nat} {d : D} {k : K} {v : Value} (h : Rd S w d v) (hf : Fit sh by_ d k) : v.oneCell' = true := by
  cases k with
  | int => obtain ⟨n, rfl, _⟩ := hf.int; rw [Rd] at h; subst h; rfl
  | bool => obtain ⟨n, rfl⟩ := hf.bool; rw [Rd] at h; subst h; rfl
  | str => obtain ⟨n, rfl, _⟩ := hf.str; rw [Rd] at h; subst h; rfl
  | sl t => obtain ⟨rows, rfl, _⟩ := hf.sl; obtain ⟨a, c, rfl⟩ := h.slv; rfl
theorem vrl_o1 {ρ : Names} {S : Nat → Prop} {w : World} {sh : Nat → List K} {by_ : Nat → Nat} : ∀ {ks : List K} {ds : List D} {cs : List Value}, RdL S w ds cs → FitL sh by_ ds ks → VRL ρ (List.replicate ks.length .o1) cs
  | [], ds, cs, h, hf => by
    obtain rfl := FitL.nil hf
    obtain rfl := RdL.nil h
    exact VRL.mk0
  | k :: ks, ds, cs, h, hf => by
    obtain ⟨d, ds', rfl, h1, h2⟩ := FitL.cons hf
    obtain ⟨c, cs', rfl, h3, h4⟩ := RdL.cons h
    exact VRL.mk (by rw [VR]; exact rd_one h3 h1) (vrl_o1 h4 h2)

end Go.Ev
