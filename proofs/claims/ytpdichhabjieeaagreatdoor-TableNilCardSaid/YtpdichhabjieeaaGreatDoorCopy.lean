/- Deep copies in the calculus 'Sx': shapes of data, and the state of a loop that copies a part of each row. No statement is proved here. -/
import Derived.Test.YtpdichhabjieeaaGreatDoorData
namespace Go.Sx
open Go.RowKit
set_option linter.unusedVariables false

/-! ### Shapes -/
inductive K where
  | int | bool | str
  | sl (t : Nat)

/-- a number of bytes for which append and make always have room -/
def room : Nat := 140737488355328

mutual
/-- d has the kind k; sh: the cells of each type of element; by_: its bytes -/
def Fit (sh : Nat → List K) (by_ : Nat → Nat) : D → K → Prop
  | .int n, k => k = .int ∧ -9223372036854775808 ≤ n ∧ n ≤ 9223372036854775807
  | .bool _, k => k = .bool
  | .str s, k => k = .str ∧ s.size ≤ 140737488355328
  | .sl rows, k => ∃ t, k = .sl t ∧ rows.length * by_ t ≤ 140737488355328 ∧ FitR sh by_ rows (sh t)
def FitR (sh : Nat → List K) (by_ : Nat → Nat) : List (List D) → List K → Prop
  | [], _ => True
  | r :: rs, ks => FitL sh by_ r ks ∧ FitR sh by_ rs ks
def FitL (sh : Nat → List K) (by_ : Nat → Nat) : List D → List K → Prop
  | [], ks => ks = []
  | d :: ds, ks => ∃ k ks', ks = k :: ks' ∧ Fit sh by_ d k ∧ FitL sh by_ ds ks'
end

mutual
def D.sz : D → Nat
  | .int _ => 1
  | .bool _ => 1
  | .str s => s.size + 1
  | .sl rows => szR rows + 1
def szR : List (List D) → Nat
  | [] => 0
  | r :: rs => szL r + szR rs + 1
def szL : List D → Nat
  | [] => 0
  | d :: ds => d.sz + szL ds
end

theorem szL_append (a b : List D) : szL (a ++ b) = szL a + szL b := by
  induction a with
  | nil => simp [szL]
  | cons d a ih => simp only [List.cons_append, szL, ih]; omega

theorem szR_get {rs : List (List D)} {i : Nat} {r : List D} (h : rs[i]? = some r) : szL r < szR rs := by
  induction rs generalizing i with
  | nil => simp at h
  | cons x rs ih =>
    cases i with
    | zero => simp at h; subst h; simp only [szR]; omega
    | succ i => simp at h; have := ih h; simp only [szR]; omega

section
variable {sh : Nat → List K} {by_ : Nat → Nat}

theorem FitL.length : ∀ {ds : List D} {ks : List K}, FitL sh by_ ds ks → ds.length = ks.length
  | [], _, h => by rw [FitL] at h; subst h; rfl
  | d :: ds, _, h => by rw [FitL] at h; obtain ⟨k, ks', rfl, _, h2⟩ := h; simp [FitL.length h2]

theorem FitL.split : ∀ {ds : List D} {ks ks' : List K}, FitL sh by_ ds (ks ++ ks') → ∃ u u', ds = u ++ u' ∧ FitL sh by_ u ks ∧ FitL sh by_ u' ks'
  | ds, [], ks', h => ⟨[], ds, rfl, by rw [FitL], h⟩
  | [], k :: ks, ks', h => by rw [FitL] at h; cases h
  | d :: ds, k :: ks, ks', h => by
    rw [FitL] at h
    obtain ⟨k1, ks1, he, h1, h2⟩ := h
    simp only [List.cons_append, List.cons.injEq] at he
    obtain ⟨rfl, rfl⟩ := he
    obtain ⟨u, u', rfl, h3, h4⟩ := FitL.split h2
    refine ⟨d :: u, u', rfl, ?_, h4⟩
    rw [FitL]
    exact ⟨_, _, rfl, h1, h3⟩

theorem FitL.cons {ds : List D} {k : K} {ks : List K} (h : FitL sh by_ ds (k :: ks)) : ∃ d ds', ds = d :: ds' ∧ Fit sh by_ d k ∧ FitL sh by_ ds' ks := by
  cases ds with
  | nil => rw [FitL] at h; cases h
  | cons d ds => rw [FitL] at h; obtain ⟨k1, ks1, he, h1, h2⟩ := h; cases he; exact ⟨d, ds, rfl, h1, h2⟩

theorem FitL.nil {ds : List D} (h : FitL sh by_ ds []) : ds = [] := by
  cases ds with
  | nil => rfl
  | cons d ds => rw [FitL] at h; obtain ⟨k1, ks1, he, _⟩ := h; cases he

theorem Fit.int {d : D} (h : Fit sh by_ d .int) : ∃ n, d = .int n ∧ -9223372036854775808 ≤ n ∧ n ≤ 9223372036854775807 := by
  cases d with
  | int n => rw [Fit] at h; exact ⟨n, rfl, h.2⟩
  | bool b => rw [Fit] at h; cases h
  | str s => rw [Fit] at h; cases h.1
  | sl r => rw [Fit] at h; obtain ⟨t, h, _⟩ := h; cases h
theorem Fit.bool {d : D} (h : Fit sh by_ d .bool) : ∃ b, d = .bool b := by
  cases d with
  | int n => rw [Fit] at h; cases h.1
  | bool b => exact ⟨b, rfl⟩
  | str s => rw [Fit] at h; cases h.1
  | sl r => rw [Fit] at h; obtain ⟨t, h, _⟩ := h; cases h
theorem Fit.str {d : D} (h : Fit sh by_ d .str) : ∃ s, d = .str s ∧ s.size ≤ 140737488355328 := by
  cases d with
  | int n => rw [Fit] at h; cases h.1
  | bool b => rw [Fit] at h; cases h
  | str s => rw [Fit] at h; exact ⟨s, rfl, h.2⟩
  | sl r => rw [Fit] at h; obtain ⟨t, h, _⟩ := h; cases h
theorem Fit.sl {d : D} {t : Nat} (h : Fit sh by_ d (.sl t)) : ∃ rows, d = .sl rows ∧ rows.length * by_ t ≤ 140737488355328 ∧ FitR sh by_ rows (sh t) := by
  cases d with
  | int n => rw [Fit] at h; cases h.1
  | bool b => rw [Fit] at h; cases h
  | str s => rw [Fit] at h; cases h.1
  | sl r => rw [Fit] at h; obtain ⟨t', h, h2⟩ := h; cases h; exact ⟨r, rfl, h2⟩

theorem FitR.get : ∀ {rs : List (List D)} {ks : List K}, FitR sh by_ rs ks → ∀ (i : Nat) (r : List D), rs[i]? = some r → FitL sh by_ r ks
  | [], _, _, i, r, h => by simp at h
  | x :: rs, ks, hf, 0, r, h => by simp at h; subst h; rw [FitR] at hf; exact hf.1
  | x :: rs, ks, hf, i + 1, r, h => by simp at h; rw [FitR] at hf; exact FitR.get hf.2 i r h

theorem FitR.length {rs : List (List D)} {ks : List K} (h : FitR sh by_ rs ks) : ∀ r ∈ rs, r.length = ks.length := fun r hr => by
  obtain ⟨i, hi⟩ := List.getElem?_of_mem hr
  exact (h.get i r hi).length
end

/-- no memory is read -/
def D.bare : D → Bool
  | .sl _ => false
  | _ => true

theorem Rd.bare {S S' : Nat → Prop} {w w' : World} {d : D} {v : Value} (hb : d.bare = true) (h : Rd S w d v) : Rd S' w' d v := by
  cases d with
  | int n => rw [Rd] at h ⊢; exact h
  | bool n => rw [Rd] at h ⊢; exact h
  | str n => rw [Rd] at h ⊢; exact h
  | sl r => cases hb
theorem RdL.bare {S S' : Nat → Prop} {w w' : World} : ∀ {ds : List D} {vs : List Value}, ds.all D.bare = true → RdL S w ds vs → RdL S' w' ds vs
  | [], [], _, _ => trivial
  | d :: ds, v :: vs, hb, h => by simp only [List.all_cons, Bool.and_eq_true] at hb; exact ⟨h.1.bare hb.1, RdL.bare hb.2 h.2⟩
  | [], _ :: _, _, h => h.elim
  | _ :: _, [], _, h => h.elim

/-! ### Facts across calls -/
/-- a still block that is not older than B -/
abbrev Nw (B : Nat) (wb : World) (L : List Blk) : Nat → Prop := fun k => B ≤ k ∧ Im wb L k

theorem im_cong {wb : World} {L L' : List Blk} (h : L.map (·.b) = L'.map (·.b)) {k : Nat} (hk : Im wb L k) : Im wb L' k := ⟨hk.1, fun x hx => by
  have : x.b ∈ L.map (·.b) := by rw [h]; exact List.mem_map.2 ⟨x, hx, rfl⟩
  obtain ⟨y, hy, he⟩ := List.mem_map.1 this
  rw [← he]; exact hk.2 y hy⟩

theorem Tr.cong {wb wb' : World} {L L' L0 : List Blk} (h : Tr wb L wb' L') (hL : L0.map (·.b) = L.map (·.b)) : Tr wb L0 wb' L' :=
  ⟨h.os, h.tape, h.output, h.size, fun k hk => h.im k (im_cong hL hk), fun k hk => h.same k (im_cong hL hk)⟩

theorem Tr.staysN {wb wb' : World} {L L' : List Blk} {B : Nat} (h : Tr wb L wb' L') : Stays (Nw B wb L) wb (Nw B wb' L') wb' := ⟨h.size, fun k _ hk => ⟨hk.1, h.im k hk.2⟩, fun k _ hk => h.same k hk.2⟩

/-- at a world of the base: the list of known blocks may have turned, not their numbers -/
theorem SH.staysC {wb : World} {L L0 : List Blk} {w : World} (h : SH wb L w) (hL : L0.map (·.b) = L.map (·.b)) : Stays (Im wb L0) wb (Im wb L) w := ⟨h.size, fun _ _ hk => im_cong hL hk, fun k _ hk => h.still (im_cong hL hk)⟩
theorem SH.staysN {wb : World} {L L0 : List Blk} {w : World} {B : Nat} (h : SH wb L w) (hL : L0.map (·.b) = L.map (·.b)) : Stays (Nw B wb L0) wb (fun k => B ≤ k) w := ⟨h.size, fun _ _ hk => hk.1, fun k _ hk => h.still (im_cong hL hk.2)⟩
theorem SH.staysNC {wb : World} {L L0 : List Blk} {w : World} {B : Nat} (h : SH wb L w) (hL : L0.map (·.b) = L.map (·.b)) : Stays (Nw B wb L0) wb (Im wb L) w := ⟨h.size, fun _ _ hk => im_cong hL hk.2, fun k _ hk => h.still (im_cong hL hk.2)⟩

/-- what a call has made anew -/
theorem stays_newN {wb w w' : World} {L : List Blk} {B : Nat} (h : SH wb L w) (hB : B ≤ w.heap.size) : Stays (fun k => w.heap.size ≤ k) w' (Nw B w' L) w' :=
  ⟨Nat.le_refl _, fun k hk hn => ⟨Nat.le_trans hB hn, hk, fun x hx => by have := h.lt hx; omega⟩, fun _ _ _ => rfl⟩

theorem SH.belowCall {wb w w' w0 : World} {L : List Blk} (h : SH wb L w) (h0 : Below w0.heap.size w0 wb) (hL : ∀ x ∈ L, w0.heap.size ≤ x.b) (hb : Below w.heap.size w w') : Below w0.heap.size w0 w' :=
  (h.below h0 h0.size hL).trans (hb.mono (Nat.le_trans h0.size h.size))

theorem ge_nil (B : Nat) : ∀ x ∈ ([] : List Blk), B ≤ x.b := by simp
theorem ge_cons {B : Nat} {x : Blk} {L : List Blk} (h : B ≤ x.b) (hL : ∀ x ∈ L, B ≤ x.b) : ∀ y ∈ x :: L, B ≤ y.b := fun y hy => by
  rcases List.mem_cons.1 hy with rfl | hy
  · exact h
  · exact hL y hy

theorem Tr.congR {wb wb' : World} {L L' L0 : List Blk} (h : Tr wb L wb' L') (hL : L'.map (·.b) = L0.map (·.b)) : Tr wb L wb' L0 :=
  ⟨h.os, h.tape, h.output, h.size, fun k hk => im_cong hL (h.im k hk), fun k hk => h.same k hk⟩

theorem SH.trans {wb w1 : World} {L : List Blk} {w : World} (h1 : SH wb L w1) (h : SH w1 L w) : SH wb L w :=
  ⟨h.os.trans h1.os, h.tape.trans h1.tape, h.output.trans h1.output, Nat.le_trans h1.size h.size, fun k hk hL => (h.kept k (Nat.lt_of_lt_of_le hk h1.size) hL).trans (h1.kept k hk hL), h.blk, h.dis⟩
theorem im_more {wb : World} {L : List Blk} {b : Nat} {c : Array Value} {t : TypeId} (hb : wb.heap.size ≤ b) : Stays (Im wb L) wb (Im wb (⟨b, c, t⟩ :: L)) wb := ⟨Nat.le_refl _, fun k hk hI => ⟨hk, fun x hx => by
  rcases List.mem_cons.1 hx with rfl | hx
  · show b ≠ k; omega
  · exact hI.2 x hx⟩, fun _ _ _ => rfl⟩
theorem nw_more {wb : World} {L : List Blk} {B b : Nat} {c : Array Value} {t : TypeId} (hb : wb.heap.size ≤ b) : Stays (Nw B wb L) wb (Nw B wb (⟨b, c, t⟩ :: L)) wb := ⟨Nat.le_refl _, fun k hk hI => ⟨hI.1, (im_more hb).sub k hk hI.2⟩, fun _ _ _ => rfl⟩

/-- a new base of which the known blocks are the elder ones and a copy's own -/
theorem Cl.tr {E : TypeId} {S : Nat → Prop} {wb w w' : World} {rows : List (List D)} {v : Value} {L L0 R : List Blk} {rv : List (List Value)} (hsh : SH wb L w) (hcl : Cl E S w rows v w' R rv) (hL : L0.map (·.b) = L.map (·.b)) : Tr wb L0 w' (L ++ R) := by
  have h := (hsh.tr hcl.1).cong hL
  refine ⟨h.os, h.tape, h.output, h.size, fun k hk => ⟨(h.im k hk).1, fun x hx => ?_⟩, h.same⟩
  rcases List.mem_append.1 hx with hx | hx
  · exact (h.im k hk).2 x hx
  · obtain ⟨a', cap', he, h3⟩ := hcl.2.2.1
    rcases h3 with h3 | ⟨g, sp, ha, hg, hR⟩
    · rw [h3.2] at hx; cases hx
    · rw [hR] at hx; simp only [List.mem_singleton] at hx; subst hx
      have := hk.1; have := hsh.size
      show g ≠ k
      omega

/-! ### A loop that copies a part of each row -/
/-- its state: i rows are done; the known blocks: L and R (the copy's own, if there are rows) -/
structure Cp (E es : Nat) (w0 ws : World) (Ls : List Blk) (rows : List (List D)) (a : Option Addr) (L : List Blk) where
  i : Nat
  wb : World
  rv : List (List Value)
  R : List Blk
  hi : i ≤ rows.length
  hcnt : rv.length = rows.length
  hlen : ∀ x ∈ rv, x.length = es
  hR : (rows = [] ∧ R = []) ∨ ∃ g sp, a = some ⟨g, 0, none⟩ ∧ w0.heap.size ≤ g ∧ R = [⟨g, (rv.flatten ++ sp).toArray, E⟩]
  hnew : ∀ j r v, j < i → rows[j]? = some r → rv[j]? = some v → RdL (Nw w0.heap.size wb (L ++ R)) wb r v
  hold : ∀ j r v, i ≤ j → rows[j]? = some r → rv[j]? = some v → RdL (Im wb (L ++ R)) wb r v
  hbel : Below w0.heap.size w0 wb
  hL : ∀ x ∈ L ++ R, w0.heap.size ≤ x.b
  htr : Tr ws Ls wb (L ++ R)

/-- the state at the loop's beginning, behind the shallow copy -/
def Cp.start {E es : Nat} {w0 wb w w' : World} {rows : List (List D)} {a : Option Addr} {cap : Nat} {L R : List Blk} {rv : List (List Value)} (h0 : Below w0.heap.size w0 wb) (hL : ∀ x ∈ L, w0.heap.size ≤ x.b)
    (hsh : SH wb L w) (hcl : Cl E (Im wb L) w rows (.slice a rows.length cap) w' R rv) (hes : ∀ r ∈ rows, r.length = es) (Ls : List Blk) (hLs : Ls.map (·.b) = L.map (·.b)) : Cp E es w0 wb Ls rows a L where
  i := 0
  wb := w'
  rv := rv
  R := R
  hi := Nat.zero_le _
  hcnt := hcl.2.1.length.symm
  hlen := (hcl.2.1.flat hes).1
  hR := by
    obtain ⟨a', cap', he, h⟩ := hcl.2.2.1
    cases he
    rcases h with h | ⟨g, sp, ha, hg, hR⟩
    · exact .inl h
    · exact .inr ⟨g, sp, ha, Nat.le_trans (Nat.le_trans h0.size hsh.size) hg, hR⟩
  hnew := fun j r v hj => absurd hj (Nat.not_lt_zero _)
  hold := fun j r v _ hr hv => by
    obtain ⟨u, hu, hd⟩ := hcl.2.1.get j r hr
    rw [hv] at hu
    cases hu
    refine hd.stays ⟨hcl.1.size, fun k hk hI => ⟨Nat.lt_of_lt_of_le hk hcl.1.size, fun x hx => ?_⟩, fun k hk _ => hcl.1.block k hk⟩
    rcases List.mem_append.1 hx with hx | hx
    · exact hI.2 x hx
    · obtain ⟨a', cap', he, h⟩ := hcl.2.2.1
      rcases h with h | ⟨g, sp, ha, hg, hR⟩
      · rw [h.2] at hx; cases hx
      · rw [hR] at hx; simp only [List.mem_singleton] at hx; subst hx; show g ≠ k; omega
  hbel := (hsh.below h0 h0.size hL).trans (hcl.1.mono (Nat.le_trans h0.size hsh.size))
  hL := fun x hx => by
    rcases List.mem_append.1 hx with hx | hx
    · exact hL x hx
    · obtain ⟨a', cap', he, h⟩ := hcl.2.2.1
      rcases h with h | ⟨g, sp, ha, hg, hR⟩
      · rw [h.2] at hx; cases hx
      · rw [hR] at hx; simp only [List.mem_singleton] at hx; subst hx; exact Nat.le_trans (Nat.le_trans h0.size hsh.size) hg
  htr := Cl.tr hsh hcl hLs

theorem nw_cong {wb : World} {L L' : List Blk} {B : Nat} (h : L.map (·.b) = L'.map (·.b)) : Stays (Nw B wb L) wb (Nw B wb L') wb := ⟨Nat.le_refl _, fun k _ hk => ⟨hk.1, im_cong h hk.2⟩, fun _ _ _ => rfl⟩
theorem im_congS {wb : World} {L L' : List Blk} (h : L.map (·.b) = L'.map (·.b)) : Stays (Im wb L) wb (Im wb L') wb := ⟨Nat.le_refl _, fun k _ hk => im_cong h hk, fun _ _ _ => rfl⟩

/-- the same where the contents of the known blocks L have turned -/
def Cp.cast {E es : Nat} {w0 ws : World} {Ls : List Blk} {rows : List (List D)} {a : Option Addr} {L : List Blk} (x : Cp E es w0 ws Ls rows a L) {L1 : List Blk} (h : L.map (·.b) = L1.map (·.b)) : Cp E es w0 ws Ls rows a L1 where
  i := x.i
  wb := x.wb
  rv := x.rv
  R := x.R
  hi := x.hi
  hcnt := x.hcnt
  hlen := x.hlen
  hR := x.hR
  hnew := fun j r v h1 h2 h3 => (x.hnew j r v h1 h2 h3).stays (nw_cong (by simp [h]))
  hold := fun j r v h1 h2 h3 => (x.hold j r v h1 h2 h3).stays (im_congS (by simp [h]))
  hbel := x.hbel
  hL := fun y hy => by
    rcases List.mem_append.1 hy with hy | hy
    · have : y.b ∈ L.map (·.b) := by rw [h]; exact List.mem_map.2 ⟨y, hy, rfl⟩
      obtain ⟨z, hz, he⟩ := List.mem_map.1 this
      have h2 := x.hL z (List.mem_append_left _ hz)
      have h3 : z.b = y.b := he
      omega
    · exact x.hL y (List.mem_append_right _ hy)
  htr := x.htr.congR (by simp [h])

theorem Cp.startSH {E : Nat} {wb w w' : World} {rows : List (List D)} {v : Value} {L R : List Blk} {rv : List (List Value)} {S : Nat → Prop} (hsh : SH wb L w) (hcl : Cl E S w rows v w' R rv) : SH w' (L ++ R) w' := by
  refine ⟨rfl, rfl, rfl, Nat.le_refl _, fun _ _ _ => rfl, fun x hx => ?_, ?_⟩
  · rcases List.mem_append.1 hx with hx | hx
    · rw [hcl.1.block _ (hsh.lt hx)]; exact hsh.blk x hx
    · exact hcl.2.2.2 x hx
  · obtain ⟨a', cap', he, h⟩ := hcl.2.2.1
    rcases h with h | ⟨g, sp, ha, hg, hR⟩
    · rw [h.2, List.append_nil]; exact hsh.dis
    · rw [hR]
      have hin : ∀ (i : Nat) (x : Blk), (L ++ [⟨g, (rv.flatten ++ sp).toArray, E⟩])[i]? = some x → (i < L.length ∧ L[i]? = some x ∧ x.b < w.heap.size) ∨ (i = L.length ∧ x.b = g) := fun i x hi => by
        by_cases hl : i < L.length
        · rw [List.getElem?_append_left hl] at hi
          exact .inl ⟨hl, hi, hsh.lt (List.mem_of_getElem? hi)⟩
        · rw [List.getElem?_append_right (by omega)] at hi
          have h0 : i - L.length = 0 := by
            have := (List.getElem?_eq_some_iff.1 hi).1
            simp at this
            omega
          rw [h0] at hi
          simp at hi
          exact .inr ⟨by omega, by rw [← hi]⟩
      intro i j x y hi hj he
      rcases hin i x hi with ⟨h1, h2, h3⟩ | ⟨h1, h2⟩ <;> rcases hin j y hj with ⟨h4, h5, h6⟩ | ⟨h4, h5⟩
      · exact hsh.dis i j x y h2 h5 he
      · omega
      · omega
      · omega

/-- one row more: 'dm' of it is copied by a call from w to w1 -/
def Cp.next {E es : Nat} {w0 ws : World} {Ls : List Blk} {rows : List (List D)} {g : Nat} {L : List Blk} (x : Cp E es w0 ws Ls rows (some ⟨g, 0, none⟩) L) {w w1 : World} {sp : List Value} {dp dm dq : List D} {p m q m' : List Value}
    (hlt : x.i < rows.length) (hrow : rows[x.i]? = some (dp ++ dm ++ dq)) (hval : x.rv[x.i]? = some (p ++ m ++ q)) (hxR : x.R = [⟨g, (x.rv.flatten ++ sp).toArray, E⟩])
    (hp : RdL (Im x.wb (L ++ x.R)) x.wb dp p) (hq : RdL (Im x.wb (L ++ x.R)) x.wb dq q) (hbp : dp.all D.bare = true) (hbq : dq.all D.bare = true) (hml : m.length = m'.length)
    (hsh : SH x.wb (L ++ x.R) w) (hb : Below w.heap.size w w1) (hm : RdL (fun k => w.heap.size ≤ k) w1 dm m') : Cp E es w0 ws Ls rows (some ⟨g, 0, none⟩) L where
  i := x.i + 1
  wb := w1
  rv := x.rv.set x.i (p ++ m' ++ q)
  R := [⟨g, ((x.rv.set x.i (p ++ m' ++ q)).flatten ++ sp).toArray, E⟩]
  hi := hlt
  hcnt := by simp [x.hcnt]
  hlen := set_len x.hlen _ (by have := x.hlen _ (List.mem_of_getElem? hval); simp at this ⊢; omega)
  hR := .inr ⟨g, sp, rfl, x.hL ⟨g, (x.rv.flatten ++ sp).toArray, E⟩ (by rw [hxR]; simp), rfl⟩
  hnew := fun j r v hj hr hv => by
    have hcg : (L ++ x.R).map Blk.b = (L ++ [(⟨g, ((x.rv.set x.i (p ++ m' ++ q)).flatten ++ sp).toArray, E⟩ : Blk)]).map Blk.b := by rw [hxR]; simp
    have hT := (hsh.tr hb).congR hcg
    by_cases hji : j = x.i
    · subst hji
      rw [hrow] at hr
      cases hr
      rw [List.getElem?_set_self (by rw [x.hcnt]; exact hlt)] at hv
      cases hv
      refine RdL.append (RdL.append (hp.bare hbp) ?_) (hq.bare hbq)
      exact (hm.stays (stays_newN hsh (Nat.le_trans x.hbel.size hsh.size))).stays (nw_cong hcg)
    · rw [List.getElem?_set_ne (Ne.symm hji)] at hv
      exact (x.hnew j r v (by omega) hr hv).stays hT.staysN
  hold := fun j r v hj hr hv => by
    have hcg : (L ++ x.R).map Blk.b = (L ++ [(⟨g, ((x.rv.set x.i (p ++ m' ++ q)).flatten ++ sp).toArray, E⟩ : Blk)]).map Blk.b := by rw [hxR]; simp
    rw [List.getElem?_set_ne (by omega)] at hv
    exact (x.hold j r v (by omega) hr hv).stays ((hsh.tr hb).congR hcg).stays
  hbel := hsh.belowCall x.hbel x.hL hb
  hL := fun y hy => by
    rcases List.mem_append.1 hy with hy | hy
    · exact x.hL y (List.mem_append_left _ hy)
    · simp only [List.mem_singleton] at hy; subst hy
      exact x.hL ⟨g, (x.rv.flatten ++ sp).toArray, E⟩ (by rw [hxR]; simp)
  htr := (x.htr.trans (hsh.tr hb)).congR (by rw [hxR]; simp)

theorem SH.drop {wb : World} {R L : List Blk} {w : World} (h : SH wb (L ++ R) w) : SH w L w :=
  ⟨rfl, rfl, rfl, Nat.le_refl _, fun _ _ _ => rfl, fun x hx => h.blk x (List.mem_append_left _ hx), fun i j x y hi hj he =>
    h.dis i j x y (by rw [List.getElem?_append_left (List.getElem?_eq_some_iff.1 hi).1]; exact hi) (by rw [List.getElem?_append_left (List.getElem?_eq_some_iff.1 hj).1]; exact hj) he⟩
theorem SH.trDrop {wb : World} {R L : List Blk} {w : World} (h : SH wb (L ++ R) w) : Tr wb (L ++ R) w L :=
  ⟨h.os, h.tape, h.output, h.size, fun k hk => ⟨Nat.lt_of_lt_of_le hk.1 h.size, fun x hx => hk.2 x (List.mem_append_left _ hx)⟩, fun k hk => h.still hk⟩

theorem RdR.of {S : Nat → Prop} {w : World} : ∀ (rs : List (List D)) (vs : List (List Value)), rs.length = vs.length → (∀ (j : Nat) (r : List D) (v : List Value), rs[j]? = some r → vs[j]? = some v → RdL S w r v) → RdR S w rs vs
  | [], [], _, _ => trivial
  | [], _ :: _, hl, _ => by simp at hl
  | _ :: _, [], hl, _ => by simp at hl
  | r :: rs, v :: vs, hl, h => ⟨h 0 r v rfl rfl, RdR.of rs vs (by simpa using hl) (fun j r' v' hr hv => h (j + 1) r' v' (by simpa using hr) (by simpa using hv))⟩

/-- the loop's end: the copy reads as the rows do, out of new blocks -/
theorem Cp.done {E es : Nat} {w0 ws : World} {Ls : List Blk} {rows : List (List D)} {a : Option Addr} {L : List Blk} (x : Cp E es w0 ws Ls rows a L) (hi : rows.length ≤ x.i) {w : World} (hsh : SH x.wb (L ++ x.R) w) (cap : Nat) :
    Rd (Nw w0.heap.size w L) w (.sl rows) (.slice a rows.length cap) := by
  rw [Rd]
  refine ⟨a, cap, rfl, ?_⟩
  rcases x.hR with h | ⟨g, sp, ha, hg, hR⟩
  · exact .inl h.1
  · have hmem : (⟨g, (x.rv.flatten ++ sp).toArray, E⟩ : Blk) ∈ L ++ x.R := by rw [hR]; simp
    have hlt := hsh.lt hmem
    have hb := hsh.blk _ hmem
    refine .inr ⟨g, 0, ha, ⟨hg, hlt, fun y hy he => ?_⟩, hlt, RdRows.mk (vs := x.rv) ?_ (fun j v hj => ?_)⟩
    · obtain ⟨i, hi'⟩ := List.getElem?_of_mem hy
      have hil := (List.getElem?_eq_some_iff.1 hi').1
      have := hsh.dis L.length i ⟨g, (x.rv.flatten ++ sp).toArray, E⟩ y (by rw [hR]; simp) (by rw [List.getElem?_append_left hil]; exact hi') he.symm
      omega
    · refine RdR.of rows x.rv x.hcnt.symm (fun j r v hr hv => ?_)
      have hj : j < rows.length := (List.getElem?_eq_some_iff.1 hr).1
      exact (x.hnew j r v (by omega) hr hv).stays ⟨hsh.size, fun k _ hk => ⟨hk.1, (hsh.trDrop.im k hk.2)⟩, fun k _ hk => hsh.still hk.2⟩
    · rw [cell_of_row w g (0 + j) _ E (0, 0) hb, Nat.zero_add]
      have hjl := (List.getElem?_eq_some_iff.1 hj).1
      simp only [List.getElem?_toArray]
      rw [List.getElem?_append_left hjl]
      exact hj

theorem Cp.row {E es : Nat} {w0 ws : World} {Ls : List Blk} {rows : List (List D)} {a : Option Addr} {L : List Blk} (x : Cp E es w0 ws Ls rows a L) (hlt : x.i < rows.length) :
    ∃ g sp r v, a = some ⟨g, 0, none⟩ ∧ x.R = [⟨g, (x.rv.flatten ++ sp).toArray, E⟩] ∧ rows[x.i]? = some r ∧ x.rv[x.i]? = some v ∧ RdL (Im x.wb (L ++ x.R)) x.wb r v := by
  rcases x.hR with h | ⟨g, sp, ha, hg, hR⟩
  · have h0 := congrArg List.length h.1
    simp only [List.length_nil] at h0
    omega
  · have h1 : rows[x.i]? = some rows[x.i] := List.getElem?_eq_getElem hlt
    have h2 : x.rv[x.i]? = some (x.rv[x.i]'(by rw [x.hcnt]; exact hlt)) := List.getElem?_eq_getElem _
    exact ⟨g, sp, _, _, ha, hR, h1, h2, x.hold _ _ _ (Nat.le_refl _) h1 h2⟩

/-! ### Cells in segments -/
section
variable {P : Program}

theorem split_seg : ∀ {segs : List (List Value)} {j : Nat} {r : List Value}, segs[j]? = some r →
    segs.flatten = (segs.take j).flatten ++ r ++ (segs.drop (j + 1)).flatten ∧ (segs.take j).flatten.length = ((segs.take j).map List.length).sum ∧ ∀ r', (segs.set j r').flatten = (segs.take j).flatten ++ r' ++ (segs.drop (j + 1)).flatten
  | [], j, r, h => by simp at h
  | x :: segs, 0, r, h => by simp at h; subst h; simp
  | x :: segs, j + 1, r, h => by
    simp at h
    obtain ⟨h1, h2, h3⟩ := split_seg (segs := segs) (j := j) (r := r) h
    exact ⟨by simp [h1], by simp [List.take_succ_cons, List.flatten_cons, h2], fun r' => by simp [h3]⟩

theorem readAt_seg {T : TypeId} {segs : List (List Value)} {mid : List Value} {off : Nat} (j : Nat) (hj : segs[j]? = some mid) (ho : ((segs.take j).map List.length).sum = off) (hk : kindOf P T = some (some mid.length)) :
    readAt P T segs.flatten.toArray off = some (.agg mid.toArray) := by
  obtain ⟨h1, h2, _⟩ := split_seg hj
  rw [h1]; exact readAt_mid (by rw [h2, ho]) hk

theorem readAt_seg1 {T : TypeId} {segs : List (List Value)} {v : Value} {off : Nat} (j : Nat) (hj : segs[j]? = some [v]) (ho : ((segs.take j).map List.length).sum = off) (hk : kindOf P T = some none) :
    readAt P T segs.flatten.toArray off = some v := by
  obtain ⟨h1, h2, _⟩ := split_seg hj
  rw [h1]; exact readAt_mid1 (by rw [h2, ho]) hk

theorem writeAt_seg {T : TypeId} {segs segs' : List (List Value)} {mid : List Value} {off : Nat} {v : Value} (j : Nat) (mid' : List Value) (hj : segs[j]? = some mid) (ho : ((segs.take j).map List.length).sum = off)
    (hv : v.cells = mid'.toArray) (hl : mid'.length = mid.length) (hi : (P.info? T).map (·.size) = some mid'.length) (h1 : ∀ u ∈ mid', u.oneCell' = true) (hs : segs.set j mid' = segs') :
    writeAt P T segs.flatten.toArray off v = some segs'.flatten.toArray := by
  obtain ⟨e1, e2, e3⟩ := split_seg hj
  rw [← hs, e3, e1]
  exact writeAt_mid mid' (by rw [e2, ho]) hv hl hi h1

theorem readAt_all {T : TypeId} {l : List Value} (hk : kindOf P T = some (some l.length)) : readAt P T l.toArray 0 = some (.agg l.toArray) := by
  have := readAt_mid (P := P) (T := T) (X := []) (mid := l) (Y := []) (off := 0) rfl hk
  simpa using this

theorem writeAt_all {T : TypeId} {c : Array Value} {l : List Value} (hi : (P.info? T).map (·.size) = some l.length) (hc : c.size = l.length) (h1 : ∀ u ∈ l, u.oneCell' = true) : writeAt P T c 0 (.agg l.toArray) = some l.toArray := by
  have hc' : c = ([] ++ c.toList ++ []).toArray := by simp
  rw [hc']
  have := writeAt_mid (P := P) (T := T) (X := []) (mid := c.toList) (Y := []) (off := 0) (v := .agg l.toArray) l rfl rfl (by simp [hc]) hi h1
  simpa using this

theorem RdL.cons {S : Nat → Prop} {w : World} {d : D} {ds : List D} {vs : List Value} (h : RdL S w (d :: ds) vs) : ∃ v vs', vs = v :: vs' ∧ Rd S w d v ∧ RdL S w ds vs' := by
  cases vs with
  | nil => exact h.elim
  | cons v vs => exact ⟨v, vs, rfl, h.1, h.2⟩
theorem RdL.nil {S : Nat → Prop} {w : World} {vs : List Value} (h : RdL S w [] vs) : vs = [] := by
  cases vs with
  | nil => rfl
  | cons v vs => exact h.elim
end

/-- a function that copies a struct whose cells read as ds -/
def CopyS (P : Program) (f : FuncId) (ds : List D) : Prop := ∀ (w : World) (S : Nat → Prop) (cs : List Value), RdL S w ds cs →
  Calls P f #[.agg cs.toArray] w (fun e w' => ∃ cs', e = .returned (.agg cs'.toArray) ∧ RdL (fun k => w.heap.size ≤ k) w' ds cs' ∧ Below w.heap.size w w')
/-- a function that copies a slice -/
def CopyV (P : Program) (f : FuncId) (rows : List (List D)) : Prop := ∀ (w : World) (S : Nat → Prop) (v : Value), Rd S w (.sl rows) v →
  Calls P f #[v] w (fun e w' => ∃ v', e = .returned v' ∧ Rd (fun k => w.heap.size ≤ k) w' (.sl rows) v' ∧ Below w.heap.size w w')

/-- any blocks will do to begin with -/
theorem Rd.im {S : Nat → Prop} {w : World} {d : D} {v : Value} (h : Rd S w d v) : Rd (Im w []) w d v := h.stays ⟨Nat.le_refl _, fun k hk _ => ⟨hk, by simp⟩, fun _ _ _ => rfl⟩
theorem RdL.im {S : Nat → Prop} {w : World} {ds : List D} {vs : List Value} (h : RdL S w ds vs) : RdL (Im w []) w ds vs := h.stays ⟨Nat.le_refl _, fun k hk _ => ⟨hk, by simp⟩, fun _ _ _ => rfl⟩
/-- at a world of the base -/
theorem SH.stays {wb : World} {L : List Blk} {w : World} (h : SH wb L w) : Stays (Im wb L) wb (Im wb L) w := ⟨h.size, fun _ _ hk => hk, fun k _ hk => h.still hk⟩
/-- a shallow copy of strings, numbers: all of it is new -/
theorem Cl.rd {E es : Nat} {S : Nat → Prop} {w : World} {rows : List (List D)} {v' : Value} {w' : World} {R : List Blk} {rv : List (List Value)} (h : Cl E S w rows v' w' R rv) (hb : ∀ r ∈ rows, r.all D.bare = true) :
    Rd (fun k => w.heap.size ≤ k) w' (.sl rows) v' := by
  obtain ⟨h1, h2, ⟨a, cap, rfl, h3⟩, h4⟩ := h
  rw [Rd]
  refine ⟨a, cap, rfl, ?_⟩
  rcases h3 with h3 | ⟨g, sp, ha, hg, hR⟩
  · exact .inl h3.1
  · have hblk := h4 ⟨g, (rv.flatten ++ sp).toArray, E⟩ (by rw [hR]; simp)
    refine .inr ⟨g, 0, ha, hg, (Array.getElem?_eq_some_iff.1 hblk).1, RdRows.mk (vs := rv) ?_ (fun j v hj => ?_)⟩
    · have key : ∀ (rs : List (List D)) (vs : List (List Value)), (∀ r ∈ rs, r.all D.bare = true) → RdR S w rs vs → RdR (fun k => w.heap.size ≤ k) w' rs vs := by
        intro rs
        induction rs with
        | nil => intro vs _ h; cases vs with
          | nil => trivial
          | cons v vs => exact h.elim
        | cons r rs ih => intro vs hb h; cases vs with
          | nil => exact h.elim
          | cons v vs => exact ⟨h.1.bare (hb r (List.mem_cons_self ..)), ih vs (fun r hr => hb r (List.mem_cons_of_mem _ hr)) h.2⟩
      exact key rows rv hb h2
    · rw [cell_of_row w' g (0 + j) _ E (0, 0) hblk, Nat.zero_add]
      simp only [List.getElem?_toArray]
      rw [List.getElem?_append_left (List.getElem?_eq_some_iff.1 hj).1]
      exact hj


theorem RdL.mk {S : Nat → Prop} {w : World} {d : D} {ds : List D} {v : Value} {vs : List Value} (h : Rd S w d v) (hs : RdL S w ds vs) : RdL S w (d :: ds) (v :: vs) := ⟨h, hs⟩
theorem RdL.none {S : Nat → Prop} {w : World} : RdL S w [] [] := trivial
theorem oc_nil : ∀ u ∈ List.flatten ([] : List (List Value)), u.oneCell' = true := by simp
theorem oc_cons {x : List Value} {xs : List (List Value)} (h : ∀ u ∈ x, u.oneCell' = true) (hs : ∀ u ∈ List.flatten xs, u.oneCell' = true) : ∀ u ∈ List.flatten (x :: xs), u.oneCell' = true := fun u hu => by
  rw [List.flatten_cons] at hu
  rcases List.mem_append.1 hu with hu | hu
  · exact h u hu
  · exact hs u hu
theorem Rd.cells {S : Nat → Prop} {w : World} {d : D} {v : Value} (h : Rd S w d v) : v.cells = [v].toArray := by
  cases d with
  | int n => rw [Rd] at h; subst h; rfl
  | bool n => rw [Rd] at h; subst h; rfl
  | str n => rw [Rd] at h; subst h; rfl
  | sl rows => rw [Rd] at h; obtain ⟨a, cap, rfl, _⟩ := h; rfl
end Go.Sx
