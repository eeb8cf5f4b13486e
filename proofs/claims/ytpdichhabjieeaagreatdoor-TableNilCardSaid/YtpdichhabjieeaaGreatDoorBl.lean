/- The calculus 'Sx' where all that was there when the call began stands still: loads of it, calls that leave it alone. No statement is proved here. -/
import Derived.Test.YtpdichhabjieeaaGreatDoorMore
namespace Go.Sx
open Go.RowKit
set_option linter.unusedVariables false

/-- all that w0 held is as it was -/
abbrev Bl (w0 : World) (w : World) : Prop := Below w0.heap.size w0 w
theorem Bl.drew {w0 w : World} (h : Bl w0 w) : Bl w0 w.drew := ⟨h.os, h.tape, h.output, h.size, h.block⟩
theorem Bl.call {w0 w w' : World} (h : Bl w0 w) (hb : Below w.heap.size w w') : Bl w0 w' := h.trans (hb.mono h.size)
theorem Bl.cell {w0 w : World} (h : Bl w0 w) {g o : Nat} {v : Value} (hv : w0.cell? ⟨g, o, none⟩ = some v) : w.cell? ⟨g, o, none⟩ = some v := by
  rw [World.cell?_of_block (w := w0) (w' := w) (a := ⟨g, o, none⟩) (h.block g (block_lt_of_cell hv))]; exact hv
theorem Bl.stays {w0 w : World} (h : Bl w0 w) : Stays (fun _ => True) w0 (fun _ => True) w := ⟨h.size, fun _ _ _ => trivial, fun k hk _ => h.block k hk⟩
theorem RdL.any {S : Nat → Prop} {w : World} {ds : List D} {vs : List Value} (h : RdL S w ds vs) : RdL (fun _ => True) w ds vs := h.stays ⟨Nat.le_refl _, fun _ _ _ => trivial, fun _ _ _ => rfl⟩
theorem Rd.any {S : Nat → Prop} {w : World} {d : D} {v : Value} (h : Rd S w d v) : Rd (fun _ => True) w d v := h.stays ⟨Nat.le_refl _, fun _ _ _ => trivial, fun _ _ _ => rfl⟩

section
variable {P : Program} {ops : Array Oper} {Q : Exit → Act → World → Prop} {n : Nat} {e : Env} {w0 : World}

theorem yl_loadB {o : Oper} {T : TypeId} {x : Operand} {b off : Nat} {v : Value} (ho : o.op = .load T x) (hx : rho e x = .pointer (some ⟨b, off, none⟩)) (hk : kindOf P T = some none) (hv : w0.cell? ⟨b, off, none⟩ = some v) : Yl P (Bl w0) e o v := fun w hw => by
  unfold execOp
  simp only [ho, hx, Instr.loadAt, Instr.sureAddr, Sem.run_bind, Sem.run_pure, Result.andThen_ok, run_load_one w T _ v hk (hw.cell hv)]
theorem yl_loadsB {o : Oper} {T : TypeId} {x : Operand} {b off : Nat} {cs : List Value} (ho : o.op = .load T x) (hx : rho e x = .pointer (some ⟨b, off, none⟩)) (hk : kindOf P T = some (some cs.length)) (hv : w0.rangeAt b off cs) : Yl P (Bl w0) e o (.agg cs.toArray) := fun w hw => by
  unfold execOp
  simp only [ho, hx, Instr.loadAt, Instr.sureAddr, Sem.run_bind, Sem.run_pure, Result.andThen_ok, run_load_many w T b off cs hk (fun j v hj => hw.cell (hv j v hj))]
/-- a call that leaves all that was there alone -/
theorem wl_callQ {o : Oper} {rest : List Oper} {d : Nat} {f : FuncId} {args : Array Value} {v : Value} (hf : fit ops n e o (some d) = true) (hv : pureVal P (execOp (rho e) o) = some (.enter f args))
    (h : ∀ w, Bl w0 w → Calls P f args w (fun x w' => x = .returned v ∧ Below w.heap.size w w')) (k : WL P ops Q n ((d, v) :: e) (Bl w0) rest) : WL P ops Q n e (Bl w0) (o :: rest) := by
  obtain ⟨h1, h2, h3, h4⟩ := fit_some hf
  refine wl_call h1 h2 h3 h4 hv (R := fun w x w' => x = .returned v ∧ Below w.heap.size w w') h (fun w x w' hw hR => ⟨v, hR.1, ?_⟩)
  exact fun a w2 ha hww => k a w2 ha (by subst hww; exact Bl.call hw hR.2)
theorem wd_callQ (i : Nat) {m fu d : Nat} {oi : Oper} {listed : Array Bool} {f : FuncId} {args : Array Value} {v : Value} (hi : ops[i]? = some oi) (him : i < m) (hr : Region.ready .any ops listed = [i]) (hf : fit ops n e oi (some d) = true) (hv : pureVal P (execOp (rho e) oi) = some (.enter f args))
    (h : ∀ w, Bl w0 w → Calls P f args w (fun x w' => x = .returned v ∧ Below w.heap.size w w')) (k : WD P ops Q n m (Bl w0) (Bl w0) fu (listed.setIfInBounds i true) ((d, v) :: e)) : WD P ops Q n m (Bl w0) (Bl w0) (fu + 1) listed e := by
  refine wd_call i hi him hr hf hv (R := fun w x w' => x = .returned v ∧ Below w.heap.size w w') h (fun w x w' hw hR => ⟨v, hR.1, Bl.call hw hR.2, ?_⟩)
  exact fun a w2 inv ha hww => k a w2 inv ha (by subst hww; exact Bl.call hw hR.2)
/-- an index that is reckoned -/
theorem yl_indexI {S : World → Prop} {o : Oper} {T E : TypeId} {x y : Operand} {b off len cap es : Nat} (k : Nat) {i : Int} (ho : o.op = .indexAddr T x y)
    (hT : (P.underlying T, (P.info? E).map (·.size)) = (some (.slice E), some es)) (hx : rho e x = .slice (some ⟨b, off, none⟩) len cap) (hy : rho e y = .int .i64 i) (hi : i = (k : Int)) (hk : k < len) :
    Yl P S e o (.pointer (some ⟨b, off + k * es, none⟩)) := yl_index ho hT hx (by rw [hy, hi]) hk
end

/-- the rows of a slice that was there -/
theorem Rd.rows {S : Nat → Prop} {w : World} {rows : List (List D)} {v : Value} (h : Rd S w (.sl rows) v) (hne : rows ≠ []) : ∃ g off cap rv, v = .slice (some ⟨g, off, none⟩) rows.length cap ∧ RdR S w rows rv ∧ w.rangeAt g off rv.flatten := by
  rw [Rd] at h
  obtain ⟨a, cap, rfl, h⟩ := h
  rcases h with h | ⟨g, off, rfl, _, _, h⟩
  · exact absurd h hne
  · obtain ⟨rv, h1, h2⟩ := RdRows.vals h
    exact ⟨g, off, cap, rv, rfl, h1, h2⟩
theorem range_row {w : World} {g off es : Nat} {rv : List (List Value)} (h : w.rangeAt g off rv.flatten) (hl : ∀ x ∈ rv, x.length = es) {i : Nat} {r : List Value} (hi : rv[i]? = some r) : w.rangeAt g (off + i * es) r := fun j u hj => by
  obtain ⟨h1, h2, _⟩ := split_row hl hi
  have hjl := (List.getElem?_eq_some_iff.1 hj).1
  have := h (i * es + j) u (by
    rw [h1, List.append_assoc, List.getElem?_append_right (by omega), h2, List.getElem?_append_left (by omega)]
    rw [show i * es + j - i * es = j by omega]; exact hj)
  rwa [show off + (i * es + j) = off + i * es + j by omega] at this
end Go.Sx
