/- append to a nil slice of rows that hold memory: a shallow copy, in the calculus 'Sx'. No statement is proved here. -/
import Derived.Test.YtpdichhabjieeaaGreatDoorSl
namespace Go.Sx
open Go.RowKit
set_option linter.unusedVariables false
set_option linter.unusedSimpArgs false
/-- known blocks that have not changed, beside new ones -/
theorem SH.staysAll {wb : World} {N L : List Blk} {w : World} (h0 : SH wb L wb) (h : SH wb (N ++ L) w) (hN : ∀ x ∈ N, wb.heap.size ≤ x.b) : Stays (fun _ => True) wb (fun _ => True) w :=
  ⟨h.size, fun _ _ _ => trivial, fun k hk _ => by
    by_cases hx : ∃ x ∈ L, x.b = k
    · obtain ⟨x, hx, rfl⟩ := hx
      rw [h.blk x (List.mem_append_right _ hx), h0.blk x hx]
    · exact h.kept k hk (fun y hy e => by
        rcases List.mem_append.1 hy with hy | hy
        · have := hN y hy; omega
        · exact hx ⟨y, hy, e⟩)⟩
section
variable {P : Program} {ops : Array Oper} {Q : Exit → Act → World → Prop} {n : Nat} {e : Env}
theorem appendSh {wb : World} {L : List Blk} {w : World} (t ty E : TypeId) (z : Value) (size bytes : Nat) (rows : List (List D)) {v : Value} (hT : (P.underlying t, (P.info? E).map (fun i => (i.zero, i.size, i.bytes))) = (some (.slice E), some (some z, size, bytes))) (hz : z.cells.size = size) (hs0 : 0 < size)
    (hw : SH wb L w) (hrd : Rd (Im wb L) wb (.sl rows) v) (hes : ∀ r ∈ rows, r.length = size) (h63 : rows.length ≤ maxLen) (hby : rows.length * bytes ≤ 140737488355328) :
    ∃ w' v', (Builtin.append_ #[t, t] ty #[.slice none 0 0, v]).run P w = .ok v' w' ∧ Rd (Im w' L) w' (.sl rows) v' ∧ Tr wb L w' L ∧ SH w' L w' ∧ SH wb L w' := by
  rw [Rd] at hrd
  obtain ⟨a, cap, rfl, hr⟩ := hrd
  rcases hr with rfl | ⟨g, off, rfl, hI, hg, hR⟩
  · exact ⟨w, _, run_append_none t ty E z size bytes hT a cap w, by rw [Rd]; exact ⟨none, 0, rfl, .inl rfl⟩, hw.trHere, hw.here, hw⟩
  · obtain ⟨rv, r1, r2⟩ := RdRows.vals hR
    obtain ⟨v', R', w', hr, ho', hsh, htr, R1, hR1, hs1⟩ := append_sh (P := P) (R := []) t ty E z size bytes hT hz hs0 (.slice none 0 0) 0 [] (Own.nil E size) (show SH wb ([] ++ L) w from hw) ⟨g, off, none⟩ rows.length cap rv.flatten ((r1.flat hes).2) (fun j u hj => by
      rw [Addr.add_mid, hw.cellIm hI]; exact r2 j u hj) r1.oneCell (by omega) (by rw [Nat.zero_add]; exact hby)
    have hT' : Tr wb L w' L := htr.less (fun y hy => List.mem_append_right _ hy)
    have hs1' : SH wb L w' := by
      cases R1 with
      | nil => exact hs1
      | cons x y => simp at hR1
    refine ⟨w', v', hr, ?_, hT', hsh.swap.drop, hs1'⟩
    rw [Nat.zero_add, List.nil_append] at ho'
    rw [Rd]
    rcases ho'.2 with ⟨rfl, hn, rfl⟩ | ⟨g', cap', c, rfl, rfl, _, _, _, htake⟩
    · exact ⟨none, 0, by rw [hn], .inl (List.eq_nil_of_length_eq_zero hn)⟩
    · have hblk := hsh.blk ⟨g', c, E⟩ (by simp)
      have hlt : g' < w'.heap.size := hsh.lt (x := ⟨g', c, E⟩) (by simp)
      refine ⟨_, cap', rfl, .inr ⟨g', 0, rfl, ⟨hlt, fun y hy he => ?_⟩, hlt, RdRows.mk (r1.stays hT'.stays) (fun j u hj => ?_)⟩⟩
      · obtain ⟨iy, hiy⟩ := List.getElem?_of_mem hy
        have := hsh.dis 0 (iy + 1) ⟨g', c, E⟩ y rfl (by simpa using hiy) he.symm
        omega
      · rw [cell_of_row w' g' (0 + j) _ E (0, 0) hblk, Nat.zero_add]
        rw [← htake] at hj
        have hj2 : c.toList[j]? = some u := by
          rw [List.getElem?_take] at hj
          split at hj
          · exact hj
          · cases hj
        simpa using hj2
theorem wl_appendS {wb : World} {L : List Blk} {o : Oper} {rest : List Oper} {d : Nat} {s x : Operand} {t : TypeId} (E : TypeId) (z : Value) (size bytes : Nat) (rows : List (List D)) {v : Value}
    (hf : fit ops n e o (some d) = true) (ho : o.op = .call { callee := .builtin .append, args := #[s, x], argTypes := #[t, t] })
    (hT : (P.underlying t, (P.info? E).map (fun i => (i.zero, i.size, i.bytes))) = (some (.slice E), some (some z, size, bytes))) (hz : z.cells.size = size) (hs0 : 0 < size)
    (hs : rho e s = .slice none 0 0) (hx : rho e x = v) (hrd : Rd (Im wb L) wb (.sl rows) v) (hes : ∀ r ∈ rows, r.length = size) (h63 : rows.length ≤ maxLen) (hby : rows.length * bytes ≤ 140737488355328)
    (kk : ∀ w' v', Rd (Im w' L) w' (.sl rows) v' → Tr wb L w' L → WL P ops Q n ((d, v') :: e) (SH w' L) rest) : WL P ops Q n e (SH wb L) (o :: rest) := by
  obtain ⟨h1', h2, h3, h4⟩ := fit_some hf
  refine wl_run (σ := { x : World × Value // Rd (Im x.1 L) x.1 (.sl rows) x.2 ∧ Tr wb L x.1 L }) (fun x => x.1.2) (fun x => SH x.1.1 L) h1' h2 h3 h4 (fun w hw => ?_) (fun x => kk x.1.1 x.1.2 x.2.1 x.2.2)
  obtain ⟨w', v', a1, a2, a3, a4, _⟩ := appendSh t o.type E z size bytes rows hT hz hs0 hw hrd hes h63 hby
  refine ⟨⟨(w', v'), a2, a3⟩, w', ?_, a4⟩
  unfold execOp
  simp only [ho, resolve, invoke, builtin, Sem.run_bind, Sem.run_pure, Result.andThen_ok, List.map_toArray, List.map_cons, List.map_nil, hs, hx, a1]
theorem wd_appendS {m f : Nat} {wb : World} {L : List Blk} {S : World → Prop} {listed : Array Bool} {o : Oper} {d : Nat} {s x : Operand} {t : TypeId} (i : Nat) (E : TypeId) (z : Value) (size bytes : Nat) (rows : List (List D)) {v : Value}
    (hi : ops[i]? = some o) (him : i < m) (hr : Region.ready .any ops listed = [i]) (hf : fit ops n e o (some d) = true) (ho : o.op = .call { callee := .builtin .append, args := #[s, x], argTypes := #[t, t] })
    (hT : (P.underlying t, (P.info? E).map (fun i => (i.zero, i.size, i.bytes))) = (some (.slice E), some (some z, size, bytes))) (hz : z.cells.size = size) (hs0 : 0 < size)
    (hs : rho e s = .slice none 0 0) (hx : rho e x = v) (hrd : Rd (Im wb L) wb (.sl rows) v) (hes : ∀ r ∈ rows, r.length = size) (h63 : rows.length ≤ maxLen) (hby : rows.length * bytes ≤ 140737488355328) (hS : ∀ w, SH wb L w → S w)
    (kk : ∀ w' v', Rd (Im w' L) w' (.sl rows) v' → Tr wb L w' L → (∀ q, SH w' L q → S q) → WD P ops Q n m S (SH w' L) f (listed.setIfInBounds i true) ((d, v') :: e)) : WD P ops Q n m S (SH wb L) (f + 1) listed e := by
  refine wd_one i (σ := { x : World × Value // Rd (Im x.1 L) x.1 (.sl rows) x.2 ∧ Tr wb L x.1 L ∧ ∀ q, SH x.1 L q → S q }) (fun x => x.1.2) (fun x => SH x.1.1 L) hi him hr hf (fun w hw => ?_) (fun x q h => x.2.2.2 q h) (fun x => kk x.1.1 x.1.2 x.2.1 x.2.2.1 x.2.2.2)
  obtain ⟨w', v', a1, a2, a3, a4, a5⟩ := appendSh t o.type E z size bytes rows hT hz hs0 hw hrd hes h63 hby
  refine ⟨⟨(w', v'), a2, a3, fun q h => hS q (a5.trans h)⟩, w', ?_, a4⟩
  unfold execOp
  simp only [ho, resolve, invoke, builtin, Sem.run_bind, Sem.run_pure, Result.andThen_ok, List.map_toArray, List.map_cons, List.map_nil, hs, hx, a1]
end
end Go.Sx
