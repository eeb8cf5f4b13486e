/- Regions that draw their order where two operations may come up: a call, and a new variable that may be made at any time. No statement is proved here. -/
import Derived.Test.YtpdichhabjieeaaGreatDoorAn
namespace Go.Sx
open Go.RowKit
set_option linter.unusedVariables false
section
variable {P : Program} {ops : Array Oper} {Q : Exit → Act → World → Prop} {n : Nat}
/-- the operation i comes up now -/
def W1 (P : Program) (ops : Array Oper) (Q : Exit → Act → World → Prop) (n m : Nat) (S T : World → Prop) (f : Nat) (listed : Array Bool) (e : Env) (i : Nat) : Prop :=
  ∀ a w, HeadInv .any ops m listed → Has e n a → T w → i ∈ Region.ready .any ops listed → i < m ∧ wpOp P ops (ON Q) i (fun a' w' => S w' ∧ wpHead P ops (ON Q) m S (Zt P ops (ON Q) m) f (listed.setIfInBounds i true) a' w') a w
theorem wd_two (i j : Nat) {m f : Nat} {e : Env} {S T : World → Prop} {listed : Array Bool} (hr : Region.ready .any ops listed = [i, j]) (hi : W1 P ops Q n m S T f listed e i) (hj : W1 P ops Q n m S T f listed e j) : WD P ops Q n m S T (f + 1) listed e := by
  intro a w inv ha hw
  refine ⟨by rw [hr]; simp, fun k hk => ?_⟩
  have hk' := hk
  rw [hr] at hk'
  simp only [List.mem_cons, List.not_mem_nil, or_false] at hk'
  rcases hk' with rfl | rfl
  · exact hi a w inv ha hw hk
  · exact hj a w inv ha hw hk
theorem w1_run (i : Nat) {m f d : Nat} {oi : Oper} {e : Env} {S T : World → Prop} {listed : Array Bool} {σ : Type} (V : σ → Value) (T' : σ → World → Prop)
    (hi : ops[i]? = some oi) (him : i < m) (hf : fit ops n e oi (some d) = true)
    (h : ∀ w, T w → ∃ x w', (execOp (rho e) oi).run P w = .ok (.value (V x)) w' ∧ T' x w') (hS : ∀ x w, T' x w → S w)
    (k : ∀ x, WD P ops Q n m S (T' x) f (listed.setIfInBounds i true) ((d, V x) :: e)) : W1 P ops Q n m S T f listed e i := by
  intro a w inv ha hw him'
  obtain ⟨h1, h2, h3, h4⟩ := fit_some hf
  refine ⟨him, ?_⟩
  unfold wpOp
  simp only [hi, guardOf_wanted ha h3, if_true]
  refine .inl ?_
  obtain ⟨x, w', hrun, hT'⟩ := h w hw
  unfold Oper.wp
  rw [ha.exec h4, hrun]
  simp only [Oper.upon, h1]
  exact ⟨hS x w' hT', k x _ w' (inv.set him' him) (ha.put d _ h2) hT'⟩
theorem w1_new {m f : Nat} {e : Env} {wb : World} {L : List Blk} {S : World → Prop} {listed : Array Bool} {oi : Oper} {d : Nat} (i : Nat) (C : Array Value) (T : TypeId) (V : Nat → Value)
    (hi : ops[i]? = some oi) (him : i < m) (hf : fit ops n e oi (some d) = true)
    (hn : ∀ r, newAt P r (execOp (rho e) oi) = some (.cells C T (0, 0), .value (V r))) (hS : ∀ r w, wb.heap.size ≤ r → SH wb (⟨r, C, T⟩ :: L) w → S w)
    (k : ∀ r, wb.heap.size ≤ r → WD P ops Q n m S (SH wb (⟨r, C, T⟩ :: L)) f (listed.setIfInBounds i true) ((d, V r) :: e)) : W1 P ops Q n m S (SH wb L) f listed e i :=
  w1_run i (σ := { r : Nat // wb.heap.size ≤ r }) (fun r => V r.1) (fun r => SH wb (⟨r.1, C, T⟩ :: L)) hi him hf
    (fun w hw => ⟨⟨w.heap.size, hw.size⟩, w.alloc (.cells C T), newAt_run _ w _ _ (hn _), hw.alloc C T⟩) (fun r w h => hS r.1 w r.2 h) (fun r => k r.1 r.2)
theorem w1_callB (i : Nat) {X : Type} (V : X → Value) (Rel : World → X → World → Prop) {m fu d : Nat} {oi : Oper} {e : Env} {S T : World → Prop} {listed : Array Bool} {g : FuncId} {args : Array Value}
    (hi : ops[i]? = some oi) (him : i < m) (hf : fit ops n e oi (some d) = true) (hv : pureVal P (execOp (rho e) oi) = some (.enter g args))
    (h : ∀ w, T w → Calls P g args w (fun z w' => ∃ x, z = .returned (V x) ∧ Rel w x w'))
    (k : ∀ w x w', T w → Rel w x w' → S w' ∧ WD P ops Q n m S (· = w') fu (listed.setIfInBounds i true) ((d, V x) :: e)) : W1 P ops Q n m S T fu listed e i := by
  intro a w inv ha hw him'
  obtain ⟨h1, h2, h3, h4⟩ := fit_some hf
  refine ⟨him, ?_⟩
  unfold wpOp
  simp only [hi, guardOf_wanted ha h3, if_true]
  refine .inl ?_
  unfold Oper.wp
  rw [ha.exec h4, pureVal_run _ _ hv w]
  simp only [Oper.upon]
  refine (h w hw).mono fun ending w' hR => ?_
  obtain ⟨x, rfl, hrel⟩ := hR
  obtain ⟨hS, hk⟩ := k w x w' hw hrel
  simp only [h1]
  exact ⟨hS, hk _ w' (inv.set him' him) (ha.put d _ h2) rfl⟩
end
end Go.Sx
