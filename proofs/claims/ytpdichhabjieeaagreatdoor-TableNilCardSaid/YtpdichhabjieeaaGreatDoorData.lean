/- Data in memory for the calculus 'Sx': what a cell reads as (numbers, bools, strings, slices of rows of cells). No statement is proved here. -/
import Derived.Test.YtpdichhabjieeaaGreatDoorRow
namespace Go.Sx
open Go.RowKit
set_option linter.unusedVariables false

inductive D where
  | int (n : Int)
  | bool (b : Bool)
  | str (s : ByteArray)
  | sl (rows : List (List D))

mutual
/-- the value v reads as d, out of blocks of S alone -/
def Rd (S : Nat → Prop) (w : World) : D → Value → Prop
  | .int n, v => v = .int .i64 n
  | .bool b, v => v = .bool b
  | .str s, v => v = .string s
  | .sl rows, v => ∃ a cap, v = .slice a rows.length cap ∧ (rows = [] ∨ ∃ g off, a = some ⟨g, off, none⟩ ∧ S g ∧ g < w.heap.size ∧ RdRows S w rows g off)
def RdRows (S : Nat → Prop) (w : World) : List (List D) → Nat → Nat → Prop
  | [], _, _ => True
  | r :: rs, g, off => RdCells S w r g off ∧ RdRows S w rs g (off + r.length)
def RdCells (S : Nat → Prop) (w : World) : List D → Nat → Nat → Prop
  | [], _, _ => True
  | d :: ds, g, off => (∃ v, w.cell? ⟨g, off, none⟩ = some v ∧ Rd S w d v) ∧ RdCells S w ds g (off + 1)
end

/-- a list of values reads as a list of data -/
def RdL (S : Nat → Prop) (w : World) : List D → List Value → Prop
  | [], [] => True
  | d :: ds, v :: vs => Rd S w d v ∧ RdL S w ds vs
  | _, _ => False

theorem RdL.length {S : Nat → Prop} {w : World} : ∀ {ds : List D} {vs : List Value}, RdL S w ds vs → ds.length = vs.length
  | [], [], _ => rfl
  | _ :: _, _ :: _, h => by simp [RdL.length h.2]
  | [], _ :: _, h => h.elim
  | _ :: _, [], h => h.elim

theorem RdL.append {S : Nat → Prop} {w : World} : ∀ {ds ds' : List D} {vs vs' : List Value}, RdL S w ds vs → RdL S w ds' vs' → RdL S w (ds ++ ds') (vs ++ vs')
  | [], _, [], _, _, h' => h'
  | _ :: _, _, _ :: _, _, h, h' => ⟨h.1, RdL.append h.2 h'⟩
  | [], _, _ :: _, _, h, _ => h.elim
  | _ :: _, _, [], _, h, _ => h.elim

theorem RdL.split {S : Nat → Prop} {w : World} : ∀ {ds ds' : List D} {vs : List Value}, RdL S w (ds ++ ds') vs → ∃ u u', vs = u ++ u' ∧ RdL S w ds u ∧ RdL S w ds' u'
  | [], _, vs, h => ⟨[], vs, rfl, trivial, h⟩
  | d :: ds, ds', [], h => h.elim
  | d :: ds, ds', v :: vs, h => by
    obtain ⟨u, u', rfl, h1, h2⟩ := RdL.split (ds := ds) (ds' := ds') h.2
    exact ⟨v :: u, u', rfl, ⟨h.1, h1⟩, h2⟩

/-- the cells of a row, out of memory -/
theorem RdCells.vals {S : Nat → Prop} {w : World} : ∀ {ds : List D} {g off : Nat}, RdCells S w ds g off → ∃ vs, RdL S w ds vs ∧ w.rangeAt g off vs
  | [], _, _, _ => ⟨[], trivial, fun j v h => by simp at h⟩
  | d :: ds, g, off, h => by
    obtain ⟨v, hv, hd⟩ := h.1
    obtain ⟨vs, h1, h2⟩ := RdCells.vals (ds := ds) h.2
    refine ⟨v :: vs, ⟨hd, h1⟩, fun j u hj => ?_⟩
    cases j with
    | zero => simp at hj; subst hj; exact hv
    | succ j => simp at hj; have := h2 j u hj; rwa [show off + (j + 1) = off + 1 + j by omega]

theorem RdCells.mk {S : Nat → Prop} {w : World} : ∀ {ds : List D} {vs : List Value} {g off : Nat}, RdL S w ds vs → w.rangeAt g off vs → RdCells S w ds g off
  | [], _, _, _, _, _ => trivial
  | d :: ds, [], _, _, h, _ => h.elim
  | d :: ds, v :: vs, g, off, h, hr => ⟨⟨v, by have := hr 0 v rfl; simpa using this, h.1⟩, RdCells.mk (vs := vs) h.2 (fun j u hj => by have := hr (j + 1) u (by simpa using hj); rwa [show off + 1 + j = off + (j + 1) by omega])⟩

theorem RdCells.lt {S : Nat → Prop} {w : World} {ds : List D} {g off : Nat} (h : RdCells S w ds g off) (hd : ds ≠ []) : g < w.heap.size := by
  cases ds with
  | nil => exact absurd rfl hd
  | cons d ds => obtain ⟨v, hv, _⟩ := h.1; exact block_lt_of_cell hv

/-- reading stays where the blocks that are read stay -/
structure Stays (S : Nat → Prop) (w : World) (S' : Nat → Prop) (w' : World) : Prop where
  size : w.heap.size ≤ w'.heap.size
  sub : ∀ k, k < w.heap.size → S k → S' k
  same : ∀ k, k < w.heap.size → S k → w'.heap[k]? = w.heap[k]?

theorem Stays.cell {S S' : Nat → Prop} {w w' : World} (h : Stays S w S' w') {g off : Nat} {v : Value} (hS : S g) (hc : w.cell? ⟨g, off, none⟩ = some v) : w'.cell? ⟨g, off, none⟩ = some v := by
  rw [World.cell?_of_block (w := w) (w' := w') (a := ⟨g, off, none⟩) (h.same g (block_lt_of_cell hc) hS)]; exact hc

mutual
theorem Rd.stays {S S' : Nat → Prop} {w w' : World} (h : Stays S w S' w') : ∀ (d : D) (v : Value), Rd S w d v → Rd S' w' d v
  | .int _, _, hr => by simpa [Rd] using hr
  | .bool _, _, hr => by simpa [Rd] using hr
  | .str _, _, hr => by simpa [Rd] using hr
  | .sl rows, v, hr => by
    rw [Rd] at hr ⊢
    obtain ⟨a, cap, hv, hrows⟩ := hr
    refine ⟨a, cap, hv, ?_⟩
    rcases hrows with hn | ⟨g, off, ha, hS, hg, hR⟩
    · exact .inl hn
    · exact .inr ⟨g, off, ha, h.sub g hg hS, Nat.lt_of_lt_of_le hg h.size, RdRows.stays h rows g off hS hR⟩
theorem RdRows.stays {S S' : Nat → Prop} {w w' : World} (h : Stays S w S' w') : ∀ (rows : List (List D)) (g off : Nat), S g → RdRows S w rows g off → RdRows S' w' rows g off
  | [], _, _, _, _ => by simp [RdRows]
  | r :: rs, g, off, hS, hR => by
    rw [RdRows] at hR ⊢
    exact ⟨RdCells.stays h r g off hS hR.1, RdRows.stays h rs g _ hS hR.2⟩
theorem RdCells.stays {S S' : Nat → Prop} {w w' : World} (h : Stays S w S' w') : ∀ (ds : List D) (g off : Nat), S g → RdCells S w ds g off → RdCells S' w' ds g off
  | [], _, _, _, _ => by simp [RdCells]
  | d :: ds, g, off, hS, hR => by
    rw [RdCells] at hR ⊢
    obtain ⟨⟨v, hv, hd⟩, hr⟩ := hR
    exact ⟨⟨v, h.cell hS hv, Rd.stays h d v hd⟩, RdCells.stays h ds g _ hS hr⟩
end

theorem RdL.stays {S S' : Nat → Prop} {w w' : World} (h : Stays S w S' w') : ∀ {ds : List D} {vs : List Value}, RdL S w ds vs → RdL S' w' ds vs
  | [], [], _ => trivial
  | _ :: _, _ :: _, hr => ⟨Rd.stays h _ _ hr.1, RdL.stays h hr.2⟩
  | [], _ :: _, hr => hr.elim
  | _ :: _, [], hr => hr.elim

/-- a new base -/
theorem Tr.stays {wb wb' : World} {L L' : List Blk} (h : Tr wb L wb' L') : Stays (Im wb L) wb (Im wb' L') wb' := ⟨h.size, fun k _ hk => h.im k hk, fun k _ hk => h.same k hk⟩

/-- out of new blocks: they are still ones of the base behind the call -/
theorem stays_new {B : Nat} {w' : World} {L : List Blk} (hL : ∀ x ∈ L, x.b < B) : Stays (fun k => B ≤ k) w' (Im w' L) w' :=
  ⟨Nat.le_refl _, fun k hk hB => ⟨hk, fun x hx => by have := hL x hx; omega⟩, fun _ _ _ => rfl⟩

/-- every value that reads is one cell -/
theorem Rd.oneCell {S : Nat → Prop} {w : World} {d : D} {v : Value} (h : Rd S w d v) : v.oneCell' = true := by
  cases d with
  | int n => rw [Rd] at h; subst h; rfl
  | bool n => rw [Rd] at h; subst h; rfl
  | str n => rw [Rd] at h; subst h; rfl
  | sl rows => rw [Rd] at h; obtain ⟨a, cap, rfl, _⟩ := h; rfl

theorem RdL.oneCell {S : Nat → Prop} {w : World} : ∀ {ds : List D} {vs : List Value}, RdL S w ds vs → ∀ v ∈ vs, v.oneCell' = true
  | [], [], _ => by simp
  | _ :: _, _ :: _, h => by
    intro v hv
    rcases List.mem_cons.1 hv with rfl | hv
    · exact h.1.oneCell
    · exact RdL.oneCell h.2 v hv
  | [], _ :: _, h => h.elim
  | _ :: _, [], h => h.elim

/-! ### Rows of one length -/
/-- each row reads -/
def RdR (S : Nat → Prop) (w : World) : List (List D) → List (List Value) → Prop
  | [], [] => True
  | r :: rs, v :: vs => RdL S w r v ∧ RdR S w rs vs
  | _, _ => False

theorem RdR.length {S : Nat → Prop} {w : World} : ∀ {rs : List (List D)} {vs : List (List Value)}, RdR S w rs vs → rs.length = vs.length
  | [], [], _ => rfl
  | _ :: _, _ :: _, h => by simp [RdR.length h.2]
  | [], _ :: _, h => h.elim
  | _ :: _, [], h => h.elim

theorem RdR.stays {S S' : Nat → Prop} {w w' : World} (h : Stays S w S' w') : ∀ {rs : List (List D)} {vs : List (List Value)}, RdR S w rs vs → RdR S' w' rs vs
  | [], [], _ => trivial
  | _ :: _, _ :: _, hr => ⟨RdL.stays h hr.1, RdR.stays h hr.2⟩
  | [], _ :: _, hr => hr.elim
  | _ :: _, [], hr => hr.elim

theorem RdR.get {S : Nat → Prop} {w : World} : ∀ {rs : List (List D)} {vs : List (List Value)}, RdR S w rs vs → ∀ (i : Nat) (r : List D), rs[i]? = some r → ∃ v, vs[i]? = some v ∧ RdL S w r v
  | [], [], _, i, r, h => by simp at h
  | _ :: _, v :: _, hr, 0, r, h => by simp at h; subst h; exact ⟨v, rfl, hr.1⟩
  | _ :: _, _ :: _, hr, i + 1, r, h => by simp at h; simpa using RdR.get hr.2 i r h
  | [], _ :: _, h, _, _, _ => h.elim
  | _ :: _, [], h, _, _, _ => h.elim

theorem RdR.set {S : Nat → Prop} {w : World} : ∀ {rs : List (List D)} {vs : List (List Value)}, RdR S w rs vs → ∀ (i : Nat) (r : List D) (v : List Value), rs[i]? = some r → RdL S w r v → RdR S w rs (vs.set i v)
  | [], [], _, i, r, v, h, _ => by simp at h
  | _ :: _, u :: _, hr, 0, r, v, h, hv => by simp at h; subst h; exact ⟨hv, hr.2⟩
  | _ :: _, _ :: _, hr, i + 1, r, v, h, hv => by simp at h; exact ⟨hr.1, RdR.set hr.2 i r v h hv⟩
  | [], _ :: _, h, _, _, _, _, _ => h.elim
  | _ :: _, [], h, _, _, _, _, _ => h.elim

theorem RdRows.vals {S : Nat → Prop} {w : World} : ∀ {rs : List (List D)} {g off : Nat}, RdRows S w rs g off → ∃ vs, RdR S w rs vs ∧ w.rangeAt g off vs.flatten
  | [], _, _, _ => ⟨[], trivial, fun j v h => by simp at h⟩
  | r :: rs, g, off, h => by
    rw [RdRows] at h
    obtain ⟨v, h1, h2⟩ := RdCells.vals h.1
    obtain ⟨vs, h3, h4⟩ := RdRows.vals (rs := rs) h.2
    refine ⟨v :: vs, ⟨h1, h3⟩, fun j u hj => ?_⟩
    have hl := h1.length
    rw [List.flatten_cons] at hj
    by_cases hjl : j < v.length
    · rw [List.getElem?_append_left hjl] at hj
      exact h2 j u hj
    · rw [List.getElem?_append_right (by omega)] at hj
      have := h4 (j - v.length) u hj
      rwa [show off + r.length + (j - v.length) = off + j by omega] at this

theorem RdRows.mk {S : Nat → Prop} {w : World} : ∀ {rs : List (List D)} {vs : List (List Value)} {g off : Nat}, RdR S w rs vs → w.rangeAt g off vs.flatten → RdRows S w rs g off
  | [], _, _, _, _, _ => by rw [RdRows]; trivial
  | r :: rs, [], _, _, h, _ => h.elim
  | r :: rs, v :: vs, g, off, h, hr => by
    rw [RdRows]
    have hl := h.1.length
    refine ⟨RdCells.mk h.1 (fun j u hj => hr j u ?_), RdRows.mk (vs := vs) h.2 (fun j u hj => ?_)⟩
    · rw [List.flatten_cons, List.getElem?_append_left (List.getElem?_eq_some_iff.1 hj).1]; exact hj
    · have := hr (v.length + j) u (by rw [List.flatten_cons, List.getElem?_append_right (by omega)]; simpa using hj)
      rwa [show off + (v.length + j) = off + r.length + j by omega] at this


/-! ### A variable in the middle of a row -/
section
variable {P : Program}

theorem readAt_mid {T : TypeId} {X mid Y : List Value} {off : Nat} (ho : off = X.length) (hk : kindOf P T = some (some mid.length)) : readAt P T (X ++ mid ++ Y).toArray off = some (.agg mid.toArray) := by
  subst ho
  unfold readAt
  rw [hk]
  simp only
  rw [if_pos (by simp)]
  congr 2
  apply Array.toList_inj.1
  simp

theorem readAt_mid1 {T : TypeId} {X Y : List Value} {v : Value} {off : Nat} (ho : off = X.length) (hk : kindOf P T = some none) : readAt P T (X ++ [v] ++ Y).toArray off = some v := by
  subst ho
  unfold readAt
  rw [hk]
  simp

theorem writeAt_mid {T : TypeId} {X mid Y : List Value} {off : Nat} {v : Value} (mid' : List Value) (ho : off = X.length) (hv : v.cells = mid'.toArray) (hl : mid'.length = mid.length)
    (hi : (P.info? T).map (·.size) = some mid'.length) (h1 : ∀ u ∈ mid', u.oneCell' = true) : writeAt P T (X ++ mid ++ Y).toArray off v = some (X ++ mid' ++ Y).toArray := by
  subst ho
  unfold writeAt
  cases hq : P.info? T with
  | none => simp [hq] at hi
  | some i =>
    simp only [hq, Option.map_some, Option.some.injEq] at hi
    simp only
    rw [if_pos ⟨by rw [hv]; simpa using hi, by rw [hv]; simp; omega, by rw [hv]; exact all_oneCell_toArray h1⟩]
    congr 2
    rw [hv]
    simp only [List.size_toArray, hl]
    rw [show List.take X.length (X ++ mid ++ Y) = X by rw [List.append_assoc]; exact List.take_left]
    rw [show List.drop (X.length + mid.length) (X ++ mid ++ Y) = Y by rw [← List.length_append]; exact List.drop_left]

theorem split_row {es : Nat} : ∀ {rv : List (List Value)} {i : Nat} {r : List Value}, (∀ x ∈ rv, x.length = es) → rv[i]? = some r →
    rv.flatten = (rv.take i).flatten ++ r ++ (rv.drop (i + 1)).flatten ∧ (rv.take i).flatten.length = i * es ∧ ∀ r', (rv.set i r').flatten = (rv.take i).flatten ++ r' ++ (rv.drop (i + 1)).flatten
  | [], i, r, _, h => by simp at h
  | x :: rv, 0, r, _, h => by simp at h; subst h; simp
  | x :: rv, i + 1, r, hl, h => by
    simp at h
    obtain ⟨h1, h2, h3⟩ := split_row (es := es) (rv := rv) (i := i) (r := r) (fun y hy => hl y (List.mem_cons_of_mem _ hy)) h
    have hx : x.length = es := hl x (List.mem_cons_self ..)
    refine ⟨by simp [h1], ?_, fun r' => by simp [h3]⟩
    simp only [List.take_succ_cons, List.flatten_cons, List.length_append, h2, hx, Nat.add_mul, Nat.one_mul]
    omega

/-- the part 'mid' of row i -/
theorem readAt_row {T : TypeId} {es i off : Nat} {rv : List (List Value)} {sp pre mid post : List Value} (hl : ∀ x ∈ rv, x.length = es) (hi : rv[i]? = some (pre ++ mid ++ post)) (ho : off = i * es + pre.length)
    (hk : kindOf P T = some (some mid.length)) : readAt P T (rv.flatten ++ sp).toArray off = some (.agg mid.toArray) := by
  obtain ⟨h1, h2, _⟩ := split_row hl hi
  rw [h1, show (rv.take i).flatten ++ (pre ++ mid ++ post) ++ (rv.drop (i + 1)).flatten ++ sp = ((rv.take i).flatten ++ pre) ++ mid ++ (post ++ (rv.drop (i + 1)).flatten ++ sp) by simp]
  exact readAt_mid (by simp [h2, ho]) hk

theorem readAt_row1 {T : TypeId} {es i off : Nat} {rv : List (List Value)} {sp pre post : List Value} {v : Value} (hl : ∀ x ∈ rv, x.length = es) (hi : rv[i]? = some (pre ++ [v] ++ post)) (ho : off = i * es + pre.length)
    (hk : kindOf P T = some none) : readAt P T (rv.flatten ++ sp).toArray off = some v := by
  obtain ⟨h1, h2, _⟩ := split_row hl hi
  rw [h1, show (rv.take i).flatten ++ (pre ++ [v] ++ post) ++ (rv.drop (i + 1)).flatten ++ sp = ((rv.take i).flatten ++ pre) ++ [v] ++ (post ++ (rv.drop (i + 1)).flatten ++ sp) by simp]
  exact readAt_mid1 (by simp [h2, ho]) hk

theorem writeAt_row {T : TypeId} {es i off : Nat} {rv : List (List Value)} {sp pre mid post : List Value} {v : Value} (mid' : List Value) (hl : ∀ x ∈ rv, x.length = es) (hi : rv[i]? = some (pre ++ mid ++ post)) (ho : off = i * es + pre.length)
    (hv : v.cells = mid'.toArray) (hml : mid'.length = mid.length) (hs : (P.info? T).map (·.size) = some mid'.length) (h1 : ∀ u ∈ mid', u.oneCell' = true) :
    writeAt P T (rv.flatten ++ sp).toArray off v = some ((rv.set i (pre ++ mid' ++ post)).flatten ++ sp).toArray := by
  obtain ⟨e1, e2, e3⟩ := split_row hl hi
  rw [e1, e3, show (rv.take i).flatten ++ (pre ++ mid ++ post) ++ (rv.drop (i + 1)).flatten ++ sp = ((rv.take i).flatten ++ pre) ++ mid ++ (post ++ (rv.drop (i + 1)).flatten ++ sp) by simp,
    show (rv.take i).flatten ++ (pre ++ mid' ++ post) ++ (rv.drop (i + 1)).flatten ++ sp = ((rv.take i).flatten ++ pre) ++ mid' ++ (post ++ (rv.drop (i + 1)).flatten ++ sp) by simp]
  exact writeAt_mid mid' (by simp [e2, ho]) hv hml hs h1

theorem set_len {es : Nat} {rv : List (List Value)} (hl : ∀ x ∈ rv, x.length = es) (i : Nat) {r : List Value} (hr : r.length = es) : ∀ x ∈ rv.set i r, x.length = es := fun x hx => by
  rcases List.mem_or_eq_of_mem_set hx with h | rfl
  · exact hl x h
  · exact hr
end

theorem Tr.new {wb w' : World} {L L' : List Blk} (h : Tr wb L w' L') {x : Blk} (hx : x ∈ L') : wb.heap.size ≤ x.b ∨ ∃ y ∈ L, y.b = x.b := by
  by_cases h1 : wb.heap.size ≤ x.b
  · exact .inl h1
  · by_cases h2 : ∃ y ∈ L, y.b = x.b
    · exact .inr h2
    · exact absurd rfl ((h.im x.b ⟨by omega, fun y hy e => h2 ⟨y, hy, e⟩⟩).2 x hx)

/-- what a shallow copy of a slice hands back: R its block (none where there are no rows) -/
def Cl (E : TypeId) (S : Nat → Prop) (w : World) (rows : List (List D)) (v' : Value) (w' : World) (R : List Blk) (rv : List (List Value)) : Prop :=
  Below w.heap.size w w' ∧ RdR S w rows rv ∧ (∃ a cap, v' = .slice a rows.length cap ∧ ((rows = [] ∧ R = []) ∨ ∃ g sp, a = some ⟨g, 0, none⟩ ∧ w.heap.size ≤ g ∧ R = [⟨g, (rv.flatten ++ sp).toArray, E⟩])) ∧
  ∀ x ∈ R, w'.heap[x.b]? = some (.cells x.c x.t (0, 0))

theorem RdR.oneCell {S : Nat → Prop} {w : World} : ∀ {rs : List (List D)} {vs : List (List Value)}, RdR S w rs vs → ∀ v ∈ vs.flatten, v.oneCell' = true
  | [], [], _ => by simp
  | _ :: _, v :: vs, h => by
    intro u hu
    rw [List.flatten_cons] at hu
    rcases List.mem_append.1 hu with hu | hu
    · exact h.1.oneCell u hu
    · exact RdR.oneCell h.2 u hu
  | [], _ :: _, h => h.elim
  | _ :: _, [], h => h.elim

theorem RdR.flat {S : Nat → Prop} {w : World} {es : Nat} : ∀ {rs : List (List D)} {vs : List (List Value)}, RdR S w rs vs → (∀ r ∈ rs, r.length = es) → (∀ v ∈ vs, v.length = es) ∧ vs.flatten.length = rs.length * es
  | [], [], _, _ => by simp
  | r :: rs, v :: vs, h, hl => by
    obtain ⟨h1, h2⟩ := RdR.flat (es := es) h.2 (fun x hx => hl x (List.mem_cons_of_mem _ hx))
    have h3 := h.1.length
    have h4 := hl r (List.mem_cons_self ..)
    refine ⟨fun x hx => ?_, ?_⟩
    · rcases List.mem_cons.1 hx with rfl | hx
      · omega
      · exact h1 x hx
    · rw [List.flatten_cons, List.length_append, h2, List.length_cons, Nat.add_mul]; omega
  | [], _ :: _, h, _ => h.elim
  | _ :: _, [], h, _ => h.elim

/-- the end of 'append([]E{}, s...)' -/
theorem cl_of_own {E es : Nat} {S : Nat → Prop} {w w' : World} {rows : List (List D)} {rv : List (List Value)} {v' : Value} {r1 : Nat} {R' : List Blk} (hr1 : w.heap.size ≤ r1) (hrv : RdR S w rows rv)
    (hown : Own E es v' (0 + rows.length) ([] ++ rv.flatten) R') (htr : Tr w [⟨r1, #[], E⟩] w' R') (hsh : SH w' R' w') : Cl E S w rows v' w' R' rv := by
  refine ⟨htr.below (Nat.le_refl _) (by simp; exact hr1), hrv, ?_, hsh.blk⟩
  rw [Nat.zero_add, List.nil_append] at hown
  rcases hown.2 with ⟨rfl, hn, rfl⟩ | ⟨g, cap, c, rfl, rfl, _, _, _, htake⟩
  · exact ⟨none, 0, by rw [hn], .inl ⟨List.eq_nil_of_length_eq_zero hn, rfl⟩⟩
  · refine ⟨_, cap, rfl, .inr ⟨g, c.toList.drop (rows.length * es), rfl, ?_, ?_⟩⟩
    · rcases htr.new (x := ⟨g, c, E⟩) (by simp) with h | ⟨y, hy, he⟩
      · exact h
      · simp only [List.mem_singleton] at hy; subst hy; show w.heap.size ≤ g; have : r1 = g := he; omega
    · rw [← htake, List.take_append_drop, Array.toArray_toList]
end Go.Sx
