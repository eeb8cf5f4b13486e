/- Transport and regions, more, for the calculus 'Sx'. No statement is proved here. -/
import Derived.Test.YtpdichhabjieeaaGreatDoorCopy
namespace Go.Sx
open Go.RowKit
set_option linter.unusedVariables false

/-! ### Transport, more -/
theorem Tr.more {w0 wb : World} {A L : List Blk} {b : Nat} {c : Array Value} {t : TypeId} (h : Tr w0 A wb L) (hb : wb.heap.size ≤ b) : Tr w0 A wb (⟨b, c, t⟩ :: L) :=
  ⟨h.os, h.tape, h.output, h.size, fun k hk => (im_more hb).sub k (h.im k hk).1 (h.im k hk), h.same⟩
theorem Tr.drop1 {w0 wb : World} {A L : List Blk} {x : Blk} (h : Tr w0 A wb (x :: L)) : Tr w0 A wb L :=
  ⟨h.os, h.tape, h.output, h.size, fun k hk => ⟨(h.im k hk).1, fun y hy => (h.im k hk).2 y (List.mem_cons_of_mem _ hy)⟩, h.same⟩
theorem SH.drop1 {wb : World} {L : List Blk} {x : Blk} {w : World} (h : SH wb (x :: L) w) : SH w L w :=
  ⟨rfl, rfl, rfl, Nat.le_refl _, fun _ _ _ => rfl, fun y hy => h.blk y (List.mem_cons_of_mem _ hy), fun i j y z hi hj he => by
    have := h.dis (i + 1) (j + 1) y z (by simpa using hi) (by simpa using hj) he; omega⟩
theorem nw_drop1 {wb : World} {L : List Blk} {x : Blk} {B : Nat} : Stays (Nw B wb (x :: L)) wb (Nw B wb L) wb := ⟨Nat.le_refl _, fun k hk h => ⟨h.1, hk, fun y hy => h.2.2 y (List.mem_cons_of_mem _ hy)⟩, fun _ _ _ => rfl⟩
/-- cells that lie in a known block from its head on -/
theorem SH.news {wb : World} {L : List Blk} {w : World} (h : SH wb L w) (p : Nat) {r : Nat} {t : TypeId} {news : List Value} (hp : L[p]? = some ⟨r, news.toArray, t⟩) : ∀ j u, news[j]? = some u → w.cell? ((⟨r, 0, none⟩ : Addr).add j) = some u := fun j u hu => by
  rw [Addr.add_mid, Nat.zero_add, h.cell p hp j]
  simpa using hu
theorem Own.val {E size : Nat} {v : Value} {n : Nat} {xs : List Value} {R : List Blk} (h : Own E size v n xs R) : ∃ a cap, v = .slice a n cap := by
  rcases h.2 with ⟨rfl, rfl, _⟩ | ⟨g, cap, c, rfl, _⟩
  · exact ⟨none, 0, rfl⟩
  · exact ⟨_, cap, rfl⟩
section
variable {P : Program} {ops : Array Oper} {Q : Exit → Act → World → Prop} {n : Nat}
/-- a new block in a region that draws, whatever the region keeps -/
theorem wd_newX {m f : Nat} {e : Env} {wb : World} {L : List Blk} {S : World → Prop} {listed : Array Bool} {oi : Oper} {d : Nat} (i : Nat) (C : Array Value) (T : TypeId) (V : Nat → Value)
    (hi : ops[i]? = some oi) (him : i < m) (hr : Region.ready .any ops listed = [i]) (hf : fit ops n e oi (some d) = true)
    (hn : ∀ r, newAt P r (execOp (rho e) oi) = some (.cells C T (0, 0), .value (V r))) (hS : ∀ r w, wb.heap.size ≤ r → SH wb (⟨r, C, T⟩ :: L) w → S w)
    (k : ∀ r, wb.heap.size ≤ r → WD P ops Q n m S (SH wb (⟨r, C, T⟩ :: L)) f (listed.setIfInBounds i true) ((d, V r) :: e)) : WD P ops Q n m S (SH wb L) (f + 1) listed e :=
  wd_one i (σ := { r : Nat // wb.heap.size ≤ r }) (fun r => V r.1) (fun r => SH wb (⟨r.1, C, T⟩ :: L)) hi him hr hf
    (fun w hw => ⟨⟨w.heap.size, hw.size⟩, w.alloc (.cells C T), newAt_run _ w _ _ (hn _), hw.alloc C T⟩) (fun r w h => hS r.1 w r.2 h) (fun r => k r.1 r.2)
end
theorem Rd.slv {S : Nat → Prop} {w : World} {rows : List (List D)} {v : Value} (h : Rd S w (.sl rows) v) : ∃ a c, v = .slice a rows.length c := by
  rw [Rd] at h
  obtain ⟨a, c, h, _⟩ := h
  exact ⟨a, c, h⟩

theorem SH.rot {wb : World} {A R S : List Blk} {w : World} (h : SH wb ((A ++ R) ++ S) w) : SH wb ((A ++ S) ++ R) w := by
  refine h.perm (fun x => by simp only [List.mem_append]; constructor <;> (rintro ((h | h) | h) <;> simp [h])) (fun i j x y hi hj he => ?_)
  have look : ∀ (i : Nat) (x : Blk), ((A ++ S) ++ R)[i]? = some x → ∃ i', ((A ++ R) ++ S)[i']? = some x ∧ ((i < A.length ∧ i' = i) ∨ (A.length ≤ i ∧ i < A.length + S.length ∧ i' = i + R.length) ∨ (A.length + S.length ≤ i ∧ i < A.length + S.length + R.length ∧ i' + S.length = i)) := fun i x hi => by
    by_cases h1 : i < A.length
    · rw [List.append_assoc, List.getElem?_append_left h1] at hi
      exact ⟨i, by rw [List.append_assoc, List.getElem?_append_left h1]; exact hi, .inl ⟨h1, rfl⟩⟩
    · by_cases h2 : i < A.length + S.length
      · rw [List.getElem?_append_left (by simp; omega), List.getElem?_append_right (by omega)] at hi
        exact ⟨i + R.length, by rw [List.getElem?_append_right (by simp; omega)]; simpa [show i + R.length - (A.length + R.length) = i - A.length by omega] using hi, .inr (.inl ⟨by omega, h2, rfl⟩)⟩
      · rw [List.getElem?_append_right (by simp; omega)] at hi
        have hl := (List.getElem?_eq_some_iff.1 hi).1
        simp only [List.length_append] at hi hl
        refine ⟨i - S.length, ?_, .inr (.inr ⟨by omega, by omega, by omega⟩)⟩
        rw [List.getElem?_append_left (by simp; omega), List.getElem?_append_right (by omega), show i - S.length - A.length = i - (A.length + S.length) by omega]
        exact hi
  obtain ⟨i', hi', e1⟩ := look i x hi
  obtain ⟨j', hj', e2⟩ := look j y hj
  have := h.dis i' j' x y hi' hj' he
  rcases e1 with e1 | e1 | e1 <;> rcases e2 with e2 | e2 | e2 <;> omega
theorem Tr.rotR {w0 wb : World} {L A R S : List Blk} (h : Tr w0 L wb ((A ++ R) ++ S)) : Tr w0 L wb ((A ++ S) ++ R) :=
  ⟨h.os, h.tape, h.output, h.size, fun k hk => ⟨(h.im k hk).1, fun x hx => (h.im k hk).2 x (by simp only [List.mem_append] at hx ⊢; rcases hx with (h | h) | h <;> simp [h])⟩, h.same⟩
theorem Tr.rotL {w0 wb : World} {L A R S : List Blk} (h : Tr w0 ((A ++ R) ++ S) wb L) : Tr w0 ((A ++ S) ++ R) wb L :=
  ⟨h.os, h.tape, h.output, h.size, fun k hk => h.im k ⟨hk.1, fun x hx => hk.2 x (by simp only [List.mem_append] at hx ⊢; rcases hx with (h | h) | h <;> simp [h])⟩, fun k hk => h.same k ⟨hk.1, fun x hx => hk.2 x (by simp only [List.mem_append] at hx ⊢; rcases hx with (h | h) | h <;> simp [h])⟩⟩
/-- fewer known blocks to begin with -/
theorem Tr.wide {w0 wb : World} {A A' L : List Blk} (h : Tr w0 A wb L) (hA : ∀ x ∈ A, x ∈ A') : Tr w0 A' wb L :=
  ⟨h.os, h.tape, h.output, h.size, fun k hk => h.im k ⟨hk.1, fun x hx => hk.2 x (hA x hx)⟩, fun k hk => h.same k ⟨hk.1, fun x hx => hk.2 x (hA x hx)⟩⟩
/-- fewer known blocks in the end -/
theorem Tr.less {w0 wb : World} {A L L' : List Blk} (h : Tr w0 A wb L) (hL : ∀ x ∈ L', x ∈ L) : Tr w0 A wb L' :=
  ⟨h.os, h.tape, h.output, h.size, fun k hk => ⟨(h.im k hk).1, fun x hx => (h.im k hk).2 x (hL x hx)⟩, h.same⟩
theorem Tr.range {w0 wb : World} {A L : List Blk} (h : Tr w0 A wb L) {g o : Nat} {cs : List Value} (hI : Im w0 A g) (hr : w0.rangeAt g o cs) : wb.rangeAt g o cs := fun j v hj => by
  rw [World.cell?_of_block (w := w0) (w' := wb) (a := ⟨g, o + j, none⟩) (h.same g hI)]; exact hr j v hj
theorem SH.sub {wb : World} {L L' : List Blk} {w : World} (h : SH wb L w) (hL : ∀ x ∈ L', x ∈ L) (hd : ∀ (i j : Nat) (x y : Blk), L'[i]? = some x → L'[j]? = some y → x.b = y.b → i = j) : SH w L' w :=
  ⟨rfl, rfl, rfl, Nat.le_refl _, fun _ _ _ => rfl, fun x hx => h.blk x (hL x hx), hd⟩

/-- the rows of a slice that stands still: rv its rows -/
def RowV (wb : World) (L : List Blk) (B : Nat) (v : Value) (rv : List (List Value)) : Prop :=
  ∃ a cap, v = .slice a rv.length cap ∧ (rv = [] ∨ ∃ g, a = some ⟨g, 0, none⟩ ∧ B ≤ g ∧ Im wb L g ∧ wb.rangeAt g 0 rv.flatten)
theorem RowV.tr {wb wb' : World} {L L' : List Blk} {B : Nat} {v : Value} {rv : List (List Value)} (h : RowV wb L B v rv) (ht : Tr wb L wb' L') : RowV wb' L' B v rv := by
  obtain ⟨a, cap, rfl, h⟩ := h
  refine ⟨a, cap, rfl, ?_⟩
  rcases h with h | ⟨g, ha, hB, hI, hr⟩
  · exact .inl h
  · exact .inr ⟨g, ha, hB, ht.im g hI, ht.range hI hr⟩
/-- a row that the call owns, beside the blocks that it keeps -/
theorem RowV.of_own {wb w : World} {L R : List Blk} {E es B : Nat} {v : Value} {rv : List (List Value)} (ho : Own E es v rv.length rv.flatten R) (hsh : SH wb (L ++ R) w) (hB : ∀ x ∈ R, B ≤ x.b) : RowV w L B v rv := by
  rcases ho.2 with ⟨rfl, hn, rfl⟩ | ⟨g, cap, c, rfl, rfl, _, _, _, ht⟩
  · exact ⟨none, 0, by rw [hn], .inl (List.eq_nil_of_length_eq_zero hn)⟩
  · refine ⟨_, cap, rfl, .inr ⟨g, rfl, hB ⟨g, c, E⟩ (by simp), ⟨hsh.lt (x := ⟨g, c, E⟩) (by simp), fun x hx he => ?_⟩, fun j u hj => ?_⟩⟩
    · obtain ⟨i, hi⟩ := List.getElem?_of_mem hx
      have hil := (List.getElem?_eq_some_iff.1 hi).1
      have := hsh.dis i L.length x ⟨g, c, E⟩ (by rw [List.getElem?_append_left hil]; exact hi) (by simp) he
      omega
    · rw [Nat.zero_add, cell_of_row w g j c E (0, 0) (hsh.blk ⟨g, c, E⟩ (by simp))]
      rw [← ht, List.getElem?_take] at hj
      split at hj
      · simpa using hj
      · cases hj
end Go.Sx
