/- append([]T(nil), l...): the copy of a slice of plain cells, for the calculus 'Sx'. No statement is proved here. -/
import Derived.Test.YtpdichhabjieeaaGreatDoorBd
namespace Go.Sx
open Go.RowKit
set_option linter.unusedVariables false
set_option linter.unusedSimpArgs false

theorem RdR.bareAll {S S' : Nat → Prop} {w w' : World} : ∀ (rs : List (List D)) (vs : List (List Value)), (∀ r ∈ rs, r.all D.bare = true) → RdR S w rs vs → RdR S' w' rs vs
  | [], [], _, _ => trivial
  | [], _ :: _, _, h => h.elim
  | _ :: _, [], _, h => h.elim
  | r :: rs, v :: vs, hb, h => ⟨h.1.bare (hb r (List.mem_cons_self ..)), RdR.bareAll rs vs (fun r hr => hb r (List.mem_cons_of_mem _ hr)) h.2⟩
section
variable {P : Program} {ops : Array Oper} {Q : Exit → Act → World → Prop} {n : Nat} {e : Env}
theorem run_append_none (t ty E : TypeId) (z : Value) (size bytes : Nat) (hT : (P.underlying t, (P.info? E).map (fun i => (i.zero, i.size, i.bytes))) = (some (.slice E), some (some z, size, bytes))) (a : Option Addr) (c : Nat) (w : World) :
    (Builtin.append_ #[t, t] ty #[.slice none 0 0, .slice a 0 c]).run P w = .ok (.slice none 0 0) w := by
  simp only [Prod.mk.injEq] at hT
  obtain ⟨ht, hi0⟩ := hT
  obtain ⟨i, hi, hii⟩ := Option.map_eq_some_iff.1 hi0
  have hu : (underlying t).run P w = .ok (.slice E) w := by simp [underlying, ht]
  cases a with
  | none => simp [Builtin.append_, ht, underlying, sizeOf, typeInfo, hi, Builtin.lenOf, Builtin.firstCells]
  | some a =>
    have h0 := run_firstCells_some (P := P) w i.size 0 a 0 c [] (by simp) (fun j u hu => by simp at hu)
    simp [Builtin.append_, ht, underlying, sizeOf, typeInfo, hi, Builtin.lenOf, h0]
theorem wl_appendNil {wb : World} {L : List Blk} {o : Oper} {rest : List Oper} {d : Nat} {s x : Operand} {t : TypeId} (E : TypeId) (z : Value) (size bytes : Nat) (rows : List (List D)) (B : Nat) {v : Value}
    (hf : fit ops n e o (some d) = true) (ho : o.op = .call { callee := .builtin .append, args := #[s, x], argTypes := #[t, t] })
    (hT : (P.underlying t, (P.info? E).map (fun i => (i.zero, i.size, i.bytes))) = (some (.slice E), some (some z, size, bytes))) (hz : z.cells.size = size) (hs0 : 0 < size)
    (hs : rho e s = .slice none 0 0) (hx : rho e x = v) (hrd : Rd (Im wb L) wb (.sl rows) v) (hes : ∀ r ∈ rows, r.length = size) (hbare : ∀ r ∈ rows, r.all D.bare = true) (hB : B ≤ wb.heap.size)
    (h63 : rows.length ≤ maxLen) (hby : rows.length * bytes ≤ 140737488355328)
    (kk : ∀ w' v', Rd (Nw B w' L) w' (.sl rows) v' → Tr wb L w' L → WL P ops Q n ((d, v') :: e) (SH w' L) rest) : WL P ops Q n e (SH wb L) (o :: rest) := by
  obtain ⟨h1', h2, h3, h4⟩ := fit_some hf
  refine wl_run (σ := { x : World × Value // Rd (Nw B x.1 L) x.1 (.sl rows) x.2 ∧ Tr wb L x.1 L }) (fun x => x.1.2) (fun x => SH x.1.1 L) h1' h2 h3 h4 (fun w hw => ?_) (fun x => kk x.1.1 x.1.2 x.2.1 x.2.2)
  have hres : ∃ w' v', (Builtin.append_ #[t, t] o.type #[.slice none 0 0, v]).run P w = .ok v' w' ∧ Rd (Nw B w' L) w' (.sl rows) v' ∧ Tr wb L w' L ∧ SH w' L w' := by
    rw [Rd] at hrd
    obtain ⟨a, cap, rfl, hr⟩ := hrd
    rcases hr with rfl | ⟨g, off, rfl, hI, hg, hR⟩
    · exact ⟨w, _, run_append_none t o.type E z size bytes hT a cap w, by rw [Rd]; exact ⟨none, 0, rfl, .inl rfl⟩, hw.trHere, hw.here⟩
    · obtain ⟨rv, r1, r2⟩ := RdRows.vals hR
      obtain ⟨v', R', w', hr, ho', hsh, htr, _⟩ := append_sh (P := P) (R := []) t o.type E z size bytes hT hz hs0 (.slice none 0 0) 0 [] (Own.nil E size) (show SH wb ([] ++ L) w from hw) ⟨g, off, none⟩ rows.length cap rv.flatten ((r1.flat hes).2) (fun j u hj => by
        rw [Addr.add_mid, hw.cellIm hI]; exact r2 j u hj) r1.oneCell (by omega) (by rw [Nat.zero_add]; exact hby)
      refine ⟨w', v', hr, ?_, htr.less (fun y hy => List.mem_append_right _ hy), hsh.swap.drop⟩
      rw [Nat.zero_add, List.nil_append] at ho'
      rw [Rd]
      rcases ho'.2 with ⟨rfl, hn, rfl⟩ | ⟨g', cap', c, rfl, rfl, _, _, _, htake⟩
      · exact ⟨none, 0, by rw [hn], .inl (List.eq_nil_of_length_eq_zero hn)⟩
      · have hblk := hsh.blk ⟨g', c, E⟩ (by simp)
        have hlt : g' < w'.heap.size := hsh.lt (x := ⟨g', c, E⟩) (by simp)
        refine ⟨_, cap', rfl, .inr ⟨g', 0, rfl, ⟨?_, hlt, fun y hy he => ?_⟩, hlt, RdRows.mk (RdR.bareAll rows rv hbare r1) (fun j u hj => ?_)⟩⟩
        · rcases htr.new (x := ⟨g', c, E⟩) (by simp) with h | ⟨y, hy, he⟩
          · exact Nat.le_trans hB h
          · obtain ⟨iy, hiy⟩ := List.getElem?_of_mem (show y ∈ L from by simpa using hy)
            have := hsh.dis 0 (iy + 1) ⟨g', c, E⟩ y rfl (by simpa using hiy) he.symm
            omega
        · obtain ⟨iy, hiy⟩ := List.getElem?_of_mem hy
          have := hsh.dis 0 (iy + 1) ⟨g', c, E⟩ y rfl (by simpa using hiy) he.symm
          omega
        · rw [cell_of_row w' g' (0 + j) _ E (0, 0) hblk, Nat.zero_add]
          have hjl := (List.getElem?_eq_some_iff.1 hj).1
          rw [← htake] at hj
          have hj2 : c.toList[j]? = some u := by
            rw [List.getElem?_take] at hj
            split at hj
            · exact hj
            · cases hj
          simpa using hj2
  obtain ⟨w', v', a1, a2, a3, a4⟩ := hres
  refine ⟨⟨(w', v'), a2, a3⟩, w', ?_, a4⟩
  unfold execOp
  simp only [ho, resolve, invoke, builtin, Sem.run_bind, Sem.run_pure, Result.andThen_ok, List.map_toArray, List.map_cons, List.map_nil, hs, hx, a1]
end
end Go.Sx
