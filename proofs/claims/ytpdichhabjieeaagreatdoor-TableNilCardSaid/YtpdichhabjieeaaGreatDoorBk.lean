/- Calls that leave all that was there alone, under any condition that such calls keep. No statement is proved here. -/
import Derived.Test.YtpdichhabjieeaaGreatDoorBl
namespace Go.Sx
open Go.RowKit
set_option linter.unusedVariables false

section
variable {P : Program} {ops : Array Oper} {Q : Exit → Act → World → Prop} {n : Nat} {e : Env}
theorem wl_callK {S : World → Prop} (hS : ∀ w w', S w → Below w.heap.size w w' → S w') {o : Oper} {rest : List Oper} {d : Nat} {f : FuncId} {args : Array Value} {v : Value} (hf : fit ops n e o (some d) = true) (hv : pureVal P (execOp (rho e) o) = some (.enter f args))
    (h : ∀ w, S w → Calls P f args w (fun x w' => x = .returned v ∧ Below w.heap.size w w')) (k : WL P ops Q n ((d, v) :: e) S rest) : WL P ops Q n e S (o :: rest) := by
  obtain ⟨h1, h2, h3, h4⟩ := fit_some hf
  refine wl_call h1 h2 h3 h4 hv (R := fun w x w' => x = .returned v ∧ Below w.heap.size w w') h (fun w x w' hw hR => ⟨v, hR.1, ?_⟩)
  exact fun a w2 ha hww => k a w2 ha (by subst hww; exact hS _ _ hw hR.2)
theorem wd_callK {S : World → Prop} (hS : ∀ w w', S w → Below w.heap.size w w' → S w') (i : Nat) {m fu d : Nat} {oi : Oper} {listed : Array Bool} {f : FuncId} {args : Array Value} {v : Value} (hi : ops[i]? = some oi) (him : i < m) (hr : Region.ready .any ops listed = [i]) (hf : fit ops n e oi (some d) = true) (hv : pureVal P (execOp (rho e) oi) = some (.enter f args))
    (h : ∀ w, S w → Calls P f args w (fun x w' => x = .returned v ∧ Below w.heap.size w w')) (k : WD P ops Q n m S S fu (listed.setIfInBounds i true) ((d, v) :: e)) : WD P ops Q n m S S (fu + 1) listed e := by
  refine wd_call i hi him hr hf hv (R := fun w x w' => x = .returned v ∧ Below w.heap.size w w') h (fun w x w' hw hR => ⟨v, hR.1, hS _ _ hw hR.2, ?_⟩)
  exact fun a w2 inv ha hww => k a w2 inv ha (by subst hww; exact hS _ _ hw hR.2)
end
theorem shK {wb : World} {L : List Blk} : ∀ w w', SH wb L w → Below w.heap.size w w' → SH wb L w' := fun _ _ h hb => h.keep hb
theorem look_int {e : Env} {k : Nat} {r r' : Int} (h : r = r') (hl : look e k = some (.int .i64 r)) : look e k = some (.int .i64 r') := h ▸ hl
theorem im_of {wb : World} {L : List Blk} {g off : Nat} {v : Value} (hv : wb.cell? ⟨g, off, none⟩ = some v) (hL : ∀ x ∈ L, wb.heap.size ≤ x.b) : Im wb L g := by
  have : g < wb.heap.size := block_lt_of_cell hv
  exact ⟨this, fun x hx => by have := hL x hx; omega⟩
end Go.Sx
