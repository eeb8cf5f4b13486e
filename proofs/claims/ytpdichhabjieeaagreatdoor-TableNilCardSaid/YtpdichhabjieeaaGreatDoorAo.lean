/- append of rows that hold memory to a row that the call owns, in a region that draws; the result read as data. No statement is proved here. -/
import Derived.Test.YtpdichhabjieeaaGreatDoorAp
namespace Go.Sx
open Go.RowKit
set_option linter.unusedVariables false
set_option linter.unusedSimpArgs false
theorem SH.transN {wb0 w2 q : World} {L R : List Blk} (h1 : SH wb0 L w2) (h : SH w2 (L ++ R) q) (hR : ∀ x ∈ R, wb0.heap.size ≤ x.b) : SH wb0 L q :=
  ⟨h.os.trans h1.os, h.tape.trans h1.tape, h.output.trans h1.output, Nat.le_trans h1.size h.size, fun k hk hx => by
    rw [h.kept k (Nat.lt_of_lt_of_le hk h1.size) (fun y hy => by
      rcases List.mem_append.1 hy with hy | hy
      · exact hx y hy
      · have := hR y hy; omega)]
    exact h1.kept k hk hx, fun x hx => h.blk x (List.mem_append_left _ hx), fun i j x y hi hj he =>
      h.dis i j x y (by rw [List.getElem?_append_left (List.getElem?_eq_some_iff.1 hi).1]; exact hi) (by rw [List.getElem?_append_left (List.getElem?_eq_some_iff.1 hj).1]; exact hj) he⟩
theorem SH.forget {wb q : World} {L R : List Blk} (h0 : SH wb (L ++ R) wb) (h : SH wb (L ++ R) q) : SH wb L q :=
  ⟨h.os, h.tape, h.output, h.size, fun k hk hx => by
    by_cases hr : ∃ y ∈ R, y.b = k
    · obtain ⟨y, hy, rfl⟩ := hr
      rw [h.blk y (List.mem_append_right _ hy), h0.blk y (List.mem_append_right _ hy)]
    · exact h.kept k hk (fun y hy e => by
        rcases List.mem_append.1 hy with hy | hy
        · exact hx y hy e
        · exact hr ⟨y, hy, e⟩), fun x hx => h.blk x (List.mem_append_left _ hx), fun i j x y hi hj he =>
      h.dis i j x y (by rw [List.getElem?_append_left (List.getElem?_eq_some_iff.1 hi).1]; exact hi) (by rw [List.getElem?_append_left (List.getElem?_eq_some_iff.1 hj).1]; exact hj) he⟩
theorem SH.join {w : World} {L R : List Blk} (h : SH w L w) (h' : SH w R w) (hd : ∀ x ∈ L, ∀ y ∈ R, x.b ≠ y.b) : SH w (L ++ R) w :=
  ⟨rfl, rfl, rfl, Nat.le_refl _, fun _ _ _ => rfl, fun x hx => by
    rcases List.mem_append.1 hx with hx | hx
    · exact h.blk x hx
    · exact h'.blk x hx, fun i j x y hi hj he => by
    have look : ∀ (i : Nat) (x : Blk), (L ++ R)[i]? = some x → (i < L.length ∧ L[i]? = some x) ∨ (L.length ≤ i ∧ R[i - L.length]? = some x) := fun i x hi => by
      by_cases hl : i < L.length
      · rw [List.getElem?_append_left hl] at hi; exact .inl ⟨hl, hi⟩
      · rw [List.getElem?_append_right (by omega)] at hi; exact .inr ⟨by omega, hi⟩
    rcases look i x hi with ⟨a1, a2⟩ | ⟨a1, a2⟩ <;> rcases look j y hj with ⟨b1, b2⟩ | ⟨b1, b2⟩
    · exact h.dis i j x y a2 b2 he
    · exact absurd he (hd x (List.mem_of_getElem? a2) y (List.mem_of_getElem? b2))
    · exact absurd he.symm (hd y (List.mem_of_getElem? b2) x (List.mem_of_getElem? a2))
    · have := h'.dis _ _ x y a2 b2 he
      omega⟩
/-- behind a call that hands back a row of its own -/
theorem SH.joined {wb w1 w2 : World} {L R : List Blk} (h1 : SH wb L w1) (hb : Below w1.heap.size w1 w2) (hR : SH w2 R w2) (hn : ∀ x ∈ R, w1.heap.size ≤ x.b) : SH w2 (L ++ R) w2 ∧ Tr wb L w2 (L ++ R) ∧ Stays (Im wb L) w1 (Im w2 (L ++ R)) w2 := by
  have key : ∀ k, Im wb L k → Im w2 (L ++ R) k := fun k hk => ⟨Nat.lt_of_lt_of_le hk.1 (Nat.le_trans h1.size hb.size), fun x hx => by
    rcases List.mem_append.1 hx with hx | hx
    · exact hk.2 x hx
    · have := hn x hx; have := hk.1; have := h1.size; omega⟩
  refine ⟨(h1.after hb).join hR (fun x hx y hy e => by have := h1.lt hx; have := hn y hy; omega), ⟨hb.os.trans h1.os, hb.tape.trans h1.tape, hb.output.trans h1.output, Nat.le_trans h1.size hb.size, key, fun k hk => ?_⟩, ⟨hb.size, fun k _ hk => key k hk, fun k _ hk => ?_⟩⟩
  · rw [hb.block k (Nat.lt_of_lt_of_le hk.1 h1.size)]; exact h1.still hk
  · exact hb.block k (Nat.lt_of_lt_of_le hk.1 h1.size)
theorem map_ge {R R1 : List Blk} {B : Nat} (h : R1.map (·.b) = R.map (·.b)) (hR : ∀ x ∈ R, B ≤ x.b) : ∀ x ∈ R1, B ≤ x.b := fun x hx => by
  have : x.b ∈ R1.map (·.b) := List.mem_map.2 ⟨x, hx, rfl⟩
  rw [h] at this
  obtain ⟨y, hy, e⟩ := List.mem_map.1 this
  rw [← e]; exact hR y hy
/-- a row that the call owns reads as data -/
theorem own_rd {E es : Nat} {w : World} {L R : List Blk} {v : Value} {rows : List (List D)} {rv : List (List Value)} (ho : Own E es v rows.length rv.flatten R) (hsh : SH w (L ++ R) w) (hr : RdR (Im w L) w rows rv) : Rd (Im w L) w (.sl rows) v := by
  rw [Rd]
  rcases ho.2 with ⟨rfl, hn, rfl⟩ | ⟨g, cap, c, rfl, rfl, _, _, _, ht⟩
  · exact ⟨none, 0, by rw [hn], .inl (List.eq_nil_of_length_eq_zero hn)⟩
  · have hlt : g < w.heap.size := hsh.lt (x := ⟨g, c, E⟩) (by simp)
    refine ⟨_, cap, rfl, .inr ⟨g, 0, rfl, ⟨hlt, fun x hx he => ?_⟩, hlt, RdRows.mk hr (fun j u hj => ?_)⟩⟩
    · obtain ⟨i, hi⟩ := List.getElem?_of_mem hx
      have hil := (List.getElem?_eq_some_iff.1 hi).1
      have := hsh.dis i L.length x ⟨g, c, E⟩ (by rw [List.getElem?_append_left hil]; exact hi) (by simp) he
      omega
    · rw [Nat.zero_add, cell_of_row w g j c E (0, 0) (hsh.blk ⟨g, c, E⟩ (by simp))]
      rw [← ht, List.getElem?_take] at hj
      split at hj
      · simpa using hj
      · cases hj
theorem RdR.app {S : Nat → Prop} {w : World} : ∀ {a b : List (List D)} {u v : List (List Value)}, RdR S w a u → RdR S w b v → RdR S w (a ++ b) (u ++ v)
  | [], _, [], _, _, h => h
  | _ :: _, _, _ :: _, _, h, h' => ⟨h.1, RdR.app h.2 h'⟩
  | [], _, _ :: _, _, h, _ => h.elim
  | _ :: _, _, [], _, h, _ => h.elim
section
variable {P : Program} {ops : Array Oper} {Q : Exit → Act → World → Prop} {n : Nat} {e : Env}
/-- append of no elements -/
theorem run_append_zero (t ty E : TypeId) (z : Value) (size bytes : Nat) (hT : (P.underlying t, (P.info? E).map (fun i => (i.zero, i.size, i.bytes))) = (some (.slice E), some (some z, size, bytes))) (b : Option Addr) (k cap : Nat) (hk : k ≤ cap) (a : Option Addr) (c : Nat) (w : World) :
    (Builtin.append_ #[t, t] ty #[.slice b k cap, .slice a 0 c]).run P w = .ok (.slice b k cap) w := by
  simp only [Prod.mk.injEq] at hT
  obtain ⟨ht, hi0⟩ := hT
  obtain ⟨i, hi, hii⟩ := Option.map_eq_some_iff.1 hi0
  have hfc : (Builtin.firstCells i.size 0 (.slice a 0 c)).run P w = .ok #[] w := by
    cases a with
    | none => simp [Builtin.firstCells]
    | some a => exact run_firstCells_some (P := P) w i.size 0 a 0 c [] (by simp) (fun j u hu => by simp at hu)
  cases b with
  | none => simp [Builtin.append_, ht, underlying, sizeOf, typeInfo, hi, Builtin.lenOf, hfc, hk]
  | some b => simp [Builtin.append_, ht, underlying, sizeOf, typeInfo, hi, Builtin.lenOf, hfc, hk, storeCells]
theorem appendOwn {wb : World} {L R : List Blk} {w : World} (t ty E : TypeId) (z : Value) (size bytes : Nat) (rows1 rows2 : List (List D)) (rv1 : List (List Value)) {v vx : Value} (hT : (P.underlying t, (P.info? E).map (fun i => (i.zero, i.size, i.bytes))) = (some (.slice E), some (some z, size, bytes))) (hz : z.cells.size = size) (hs0 : 0 < size)
    (hw : SH wb (L ++ R) w) (hown : Own E size v rows1.length rv1.flatten R) (hr1 : RdR (Im wb (L ++ R)) wb rows1 rv1) (hrd : Rd (Im wb (L ++ R)) wb (.sl rows2) vx) (hes : ∀ r ∈ rows2, r.length = size) (h63 : rows1.length + rows2.length ≤ maxLen) (hby : (rows1.length + rows2.length) * bytes ≤ 140737488355328) :
    ∃ w' v', (Builtin.append_ #[t, t] ty #[v, vx]).run P w = .ok v' w' ∧ Rd (Im w' L) w' (.sl (rows1 ++ rows2)) v' ∧ Tr wb (L ++ R) w' L ∧ SH w' L w' ∧ ∃ R1, R1.map (·.b) = R.map (·.b) ∧ SH wb (L ++ R1) w' := by
  rw [Rd] at hrd
  obtain ⟨a, cap, rfl, hr⟩ := hrd
  rcases hr with rfl | ⟨g, off, rfl, hI, hg, hR⟩
  · have hT1 : Tr wb (L ++ R) w L := hw.trDrop
    refine ⟨w, v, ?_, ?_, hT1, hw.drop, R, rfl, hw⟩
    · rcases hown.2 with ⟨rfl, _, _⟩ | ⟨g, cp, c, rfl, _, hle, _⟩
      · exact run_append_zero t ty E z size bytes hT _ _ _ (Nat.le_refl _) a cap w
      · exact run_append_zero t ty E z size bytes hT _ _ _ hle a cap w
    · rw [List.append_nil]
      exact own_rd hown hw.here (hr1.stays hT1.stays)
  · obtain ⟨rv, r1, r2⟩ := RdRows.vals hR
    obtain ⟨v', R', w', hr, ho', hsh, htr, R1, hR1, hs1⟩ := append_sh (P := P) t ty E z size bytes hT hz hs0 v rows1.length rv1.flatten hown hw.swap ⟨g, off, none⟩ rows2.length cap rv.flatten ((r1.flat hes).2) (fun j u hj => by
      rw [Addr.add_mid, hw.cellIm hI]; exact r2 j u hj) r1.oneCell h63 hby
    have hT' : Tr wb (L ++ R) w' L := htr.swap.less (fun y hy => List.mem_append_left _ hy)
    refine ⟨w', v', hr, ?_, hT', hsh.swap.drop, R1, hR1, hs1.swap⟩
    refine own_rd (E := E) (es := size) (rv := rv1 ++ rv) (R := R') ?_ hsh.swap (RdR.app (hr1.stays hT'.stays) (r1.stays hT'.stays))
    rw [List.length_append, List.flatten_append]
    exact ho'
theorem wd_appendG {m f : Nat} {wb : World} {L R : List Blk} {S : World → Prop} {listed : Array Bool} {o : Oper} {d : Nat} {s x : Operand} {t : TypeId} (i : Nat) (E : TypeId) (z : Value) (size bytes : Nat) (rows1 rows2 : List (List D)) (rv1 : List (List Value)) {v vx : Value}
    (hi : ops[i]? = some o) (him : i < m) (hr : Region.ready .any ops listed = [i]) (hf : fit ops n e o (some d) = true) (ho : o.op = .call { callee := .builtin .append, args := #[s, x], argTypes := #[t, t] })
    (hT : (P.underlying t, (P.info? E).map (fun i => (i.zero, i.size, i.bytes))) = (some (.slice E), some (some z, size, bytes))) (hz : z.cells.size = size) (hs0 : 0 < size)
    (hs : rho e s = v) (hx : rho e x = vx) (hown : Own E size v rows1.length rv1.flatten R) (hr1 : RdR (Im wb (L ++ R)) wb rows1 rv1) (hrd : Rd (Im wb (L ++ R)) wb (.sl rows2) vx) (hes : ∀ r ∈ rows2, r.length = size) (h63 : rows1.length + rows2.length ≤ maxLen) (hby : (rows1.length + rows2.length) * bytes ≤ 140737488355328)
    (hS : ∀ R1 q, R1.map (·.b) = R.map (·.b) → SH wb (L ++ R1) q → S q) (hSt : ∀ w' q, S w' → SH w' L q → S q)
    (kk : ∀ w' v', Rd (Im w' L) w' (.sl (rows1 ++ rows2)) v' → Tr wb (L ++ R) w' L → (∀ q, SH w' L q → S q) → WD P ops Q n m S (SH w' L) f (listed.setIfInBounds i true) ((d, v') :: e)) : WD P ops Q n m S (SH wb (L ++ R)) (f + 1) listed e := by
  refine wd_one i (σ := { x : World × Value // Rd (Im x.1 L) x.1 (.sl (rows1 ++ rows2)) x.2 ∧ Tr wb (L ++ R) x.1 L ∧ ∀ q, SH x.1 L q → S q }) (fun x => x.1.2) (fun x => SH x.1.1 L) hi him hr hf (fun w hw => ?_) (fun x q h => x.2.2.2 q h) (fun x => kk x.1.1 x.1.2 x.2.1 x.2.2.1 x.2.2.2)
  obtain ⟨w', v', a1, a2, a3, a4, R1, hR1, a5⟩ := appendOwn t o.type E z size bytes rows1 rows2 rv1 hT hz hs0 hw hown hr1 hrd hes h63 hby
  refine ⟨⟨(w', v'), a2, a3, fun q h => hSt w' q (hS R1 w' hR1 a5) h⟩, w', ?_, a4⟩
  unfold execOp
  simp only [ho, resolve, invoke, builtin, Sem.run_bind, Sem.run_pure, Result.andThen_ok, List.map_toArray, List.map_cons, List.map_nil, hs, hx, a1]
end
end Go.Sx
