/- The state of a network (package net) in memory, and small laws on it. -/
import Derived.Test.YtidkaipijocjcaaNetCopy
import Derived.Test.YtidkaipijocjcaaMore
import Derived.Test.YtidkaipijocjcaaRows
namespace Go.Proofs.Ytidkaipijocjcaa
open Go.RowKit Go.Sx
set_option linter.unusedVariables false
set_option linter.unusedSimpArgs false

def netC (size delay now : Int) (cut : Nat → Bool) (way : Value) : Array Value :=
  (.int .i64 size :: .int .i64 delay :: .int .i64 now :: ((List.range 49).map (fun i => Value.bool (cut i)) ++ [way])).toArray

structure Msg where
  fr : Int
  to : Int
  kind : Int
  term : Int
  index : Int
  last : Int
  commit : Int
  ents : Value
  ok : Bool

def Msg.cells (m : Msg) : List Value := [.int .i64 m.fr, .int .i64 m.to, .int .i64 m.kind, .int .i64 m.term, .int .i64 m.index, .int .i64 m.last, .int .i64 m.commit, m.ents, .bool m.ok]
def parC (p : Int × Msg) : List Value := .int .i64 p.1 :: p.2.cells
def flat (ps : List (Int × Msg)) : List Value := (ps.map parC).flatten
structure NetS where
  size : Int
  delay : Int
  now : Int
  cut : Nat → Bool
  ps : List (Int × Msg)

/-- the blocks A are those of the network N at block b -/
def IsNet (b : Nat) (N : NetS) (A : List Blk) : Prop := ∃ way R, A = ⟨b, netC N.size N.delay N.now N.cut way, 97⟩ :: R ∧ Own 100 10 way N.ps.length (flat N.ps) R

def pairB (size a b : Int) : Bool := decide (a ≥ 0) && (decide (a < size) && (decide (b ≥ 0) && (decide (b < size) && (a != b))))

theorem pairB_nat {size a b : Int} (h : pairB size a b = true) (h7 : size ≤ 7) : ∃ i j : Nat, a = (i : Int) ∧ b = (j : Int) ∧ i < 7 ∧ j < 7 ∧ i ≠ j := by
  simp only [pairB, Bool.and_eq_true, decide_eq_true_eq, bne_iff_ne] at h
  obtain ⟨h1, h2, h3, h4, h5⟩ := h
  obtain ⟨i, rfl⟩ := Int.eq_ofNat_of_zero_le h1
  obtain ⟨j, rfl⟩ := Int.eq_ofNat_of_zero_le h3
  exact ⟨i, j, rfl, rfl, by omega, by omega, fun e => h5 (by rw [e])⟩

def upd (cut : Nat → Bool) (k : Nat) (x : Bool) : Nat → Bool := fun m => if m = k then x else cut m

theorem netC_cell (size delay now : Int) (cut : Nat → Bool) (way : Value) (k : Nat) (hk : k < 49) : (netC size delay now cut way)[3 + k]? = some (.bool (cut k)) := by
  simp only [netC, List.getElem?_toArray]
  rw [show 3 + k = k + 1 + 1 + 1 by omega]
  simp only [List.getElem?_cons_succ]
  rw [List.getElem?_append_left (by simp; exact hk)]
  simp [hk]

theorem netC_cut (size delay now : Int) (cut : Nat → Bool) (way : Value) (i j : Nat) (hi : i < 7) (hj : j < 7) : readAt Try.prog 4 (netC size delay now cut way) (3 + i * 7 + j * 1) = some (.bool (cut (i * 7 + j))) := by
  have hk : kindOf Try.prog 4 = some none := by kernel_rfl
  unfold readAt
  rw [hk]
  simp only
  rw [show 3 + i * 7 + j * 1 = 3 + (i * 7 + j) by omega]
  exact netC_cell size delay now cut way _ (by omega)

theorem netC_set (size delay now : Int) (cut : Nat → Bool) (way : Value) (i j : Nat) (x : Bool) (hi : i < 7) (hj : j < 7) :
    writeAt Try.prog 4 (netC size delay now cut way) (3 + i * 7 + j * 1) (.bool x) = some (netC size delay now (upd cut (i * 7 + j) x) way) := by
  have hk : i * 7 + j < 49 := by omega
  have he : ∀ (f : Nat → Bool), netC size delay now f way = ((Value.int .i64 size :: Value.int .i64 delay :: Value.int .i64 now :: (List.range (i * 7 + j)).map (fun q => Value.bool (f q))) ++ [Value.bool (f (i * 7 + j))] ++ ((List.range' (i * 7 + j + 1) (48 - (i * 7 + j))).map (fun q => Value.bool (f q)) ++ [way])).toArray := fun f => by
    simp only [netC]
    congr 1
    have h1 : List.range 49 = List.range (i * 7 + j) ++ [i * 7 + j] ++ List.range' (i * 7 + j + 1) (48 - (i * 7 + j)) := by
      rw [List.range_eq_range', List.range_eq_range', show [i * 7 + j] = List.range' (i * 7 + j) 1 by simp, show (49 : Nat) = (i * 7 + j) + 1 + (48 - (i * 7 + j)) by omega]
      rw [← List.range'_append_1, ← List.range'_append_1]
      simp
    rw [h1]
    simp
  rw [he cut, he (upd cut (i * 7 + j) x)]
  have hm1 : (List.range (i * 7 + j)).map (fun q => Value.bool (upd cut (i * 7 + j) x q)) = (List.range (i * 7 + j)).map (fun q => Value.bool (cut q)) := List.map_congr_left (fun q hq => by
    have := List.mem_range.1 hq
    simp [upd, show q ≠ i * 7 + j by omega])
  have hm2 : (List.range' (i * 7 + j + 1) (48 - (i * 7 + j))).map (fun q => Value.bool (upd cut (i * 7 + j) x q)) = (List.range' (i * 7 + j + 1) (48 - (i * 7 + j))).map (fun q => Value.bool (cut q)) := List.map_congr_left (fun q hq => by
    have := (List.mem_range'_1.1 hq).1
    simp [upd, show q ≠ i * 7 + j by omega])
  rw [hm1, hm2, show upd cut (i * 7 + j) x (i * 7 + j) = x by simp [upd]]
  exact writeAt_mid [.bool x] (by simp; omega) rfl rfl (by kernel_rfl) (by simp [Value.oneCell'])

/-- the address of an array's element -/
theorem yl_indexA {P : Program} {e : Env} {S : World → Prop} {o : Oper} {T E : TypeId} {x y : Operand} {b off len k es : Nat} (ho : o.op = .indexAddr T x y)
    (hT : (P.underlying T, (P.info? E).map (·.size)) = (some (.array len E), some es)) (hx : rho e x = .pointer (some ⟨b, off, none⟩)) (hy : rho e y = .int .i64 (k : Int)) (hk : k < len) :
    Yl P S e o (.pointer (some ⟨b, off + k * es, none⟩)) := fun w _ => by
  simp only [Prod.mk.injEq] at hT
  obtain ⟨hu, hi⟩ := hT
  cases hq : P.info? E with
  | none => simp [hq] at hi
  | some i =>
    have hs : i.size = es := by simpa [hq] using hi
    have hadd : (⟨b, off, none⟩ : Addr).add (k * es) = ⟨b, off + k * es, none⟩ := by unfold Addr.add; split <;> simp_all
    unfold execOp
    simp [ho, hx, hy, Instr.indexAt, Instr.sureAddr, asIntOf, run_underlying hu, hk, sizeOf, typeInfo, hq, hs, hadd]

theorem yl_eq {P : Program} {e : Env} {S : World → Prop} {o : Oper} {v : Value} {w : World} (h : Yl P S e o v) (hw : S w) : Yl P (· = w) e o v := fun w' h' => h w' (h' ▸ hw)

/-! ### Tick -/
def cutOf (cut : Nat → Bool) (m : Msg) : Bool := cut (m.fr.toNat * 7 + m.to.toNat)
def keepP (now : Int) (ps : List (Int × Msg)) : List (Int × Msg) := ps.filter (fun p => decide (now < p.1))
def dlvr (now : Int) (cut : Nat → Bool) (ps : List (Int × Msg)) : List Msg := (ps.filter (fun p => !decide (now < p.1) && !cutOf cut p.2)).map (·.2)
def flatM (ms : List Msg) : List Value := (ms.map Msg.cells).flatten
/-- a message on the way: its members are members, its entries a slice -/
def okP (p : Int × Msg) : Prop := ∃ (f t : Nat) (ea : Option Addr) (en ec : Nat), f < 7 ∧ t < 7 ∧ p.2.fr = (f : Int) ∧ p.2.to = (t : Int) ∧ p.2.ents = .slice ea en ec

theorem take_snoc_p {ps : List (Int × Msg)} {i : Nat} {p : Int × Msg} (h : ps[i]? = some p) : ps.take (i + 1) = ps.take i ++ [p] := by
  rw [List.take_add_one, h]; rfl
theorem keepP_le (now : Int) (l : List (Int × Msg)) : (keepP now l).length ≤ l.length := List.length_filter_le _ _
theorem dlvr_le (now : Int) (cut : Nat → Bool) (l : List (Int × Msg)) : (dlvr now cut l).length ≤ l.length := by
  simp only [dlvr, List.length_map]; exact List.length_filter_le _ _
theorem flat_snoc (l : List (Int × Msg)) (p : Int × Msg) : flat (l ++ [p]) = flat l ++ parC p := by simp [flat]
theorem flatM_snoc (l : List Msg) (m : Msg) : flatM (l ++ [m]) = flatM l ++ m.cells := by simp [flatM]

structure Tk (w : World) (b : Nat) (N : NetS) (n0 nb : Blk) where
  i : Nat
  wb : World
  v3 : Value
  v4 : Value
  R3 : List Blk
  R4 : List Blk
  hi : i ≤ N.ps.length
  own3 : Own 59 9 v3 (dlvr (N.now + 1) N.cut (N.ps.take i)).length (flatM (dlvr (N.now + 1) N.cut (N.ps.take i))) R3
  own4 : Own 100 10 v4 (keepP (N.now + 1) (N.ps.take i)).length (flat (keepP (N.now + 1) (N.ps.take i))) R4
  htr : Tr w [n0] wb (([nb] ++ R3) ++ R4)

def Tk.nextA {w : World} {b : Nat} {N : NetS} {n0 nb : Blk} (x : Tk w b N n0 nb) {p : Int × Msg} (hp : N.ps[x.i]? = some p) (hd : N.now + 1 < p.1) {w' : World} {v4 : Value} {R4 : List Blk}
    (own4 : Own 100 10 v4 ((keepP (N.now + 1) (N.ps.take x.i)).length + 1) (flat (keepP (N.now + 1) (N.ps.take x.i)) ++ parC p) R4) (htr : Tr w [n0] w' (([nb] ++ x.R3) ++ R4)) : Tk w b N n0 nb where
  i := x.i + 1
  wb := w'
  v3 := x.v3
  v4 := v4
  R3 := x.R3
  R4 := R4
  hi := (List.getElem?_eq_some_iff.1 hp).1
  own3 := by
    have : dlvr (N.now + 1) N.cut (N.ps.take (x.i + 1)) = dlvr (N.now + 1) N.cut (N.ps.take x.i) := by rw [take_snoc_p hp]; simp [dlvr, hd]
    rw [this]; exact x.own3
  own4 := by
    have : keepP (N.now + 1) (N.ps.take (x.i + 1)) = keepP (N.now + 1) (N.ps.take x.i) ++ [p] := by rw [take_snoc_p hp]; simp [keepP, hd]
    rw [this, flat_snoc, List.length_append]; exact own4
  htr := htr

def Tk.nextB {w : World} {b : Nat} {N : NetS} {n0 nb : Blk} (x : Tk w b N n0 nb) {p : Int × Msg} (hp : N.ps[x.i]? = some p) (hd : ¬ N.now + 1 < p.1) (hc : cutOf N.cut p.2 = false) {w' : World} {v3 : Value} {R3 : List Blk}
    (own3 : Own 59 9 v3 ((dlvr (N.now + 1) N.cut (N.ps.take x.i)).length + 1) (flatM (dlvr (N.now + 1) N.cut (N.ps.take x.i)) ++ p.2.cells) R3) (htr : Tr w [n0] w' (([nb] ++ R3) ++ x.R4)) : Tk w b N n0 nb where
  i := x.i + 1
  wb := w'
  v3 := v3
  v4 := x.v4
  R3 := R3
  R4 := x.R4
  hi := (List.getElem?_eq_some_iff.1 hp).1
  own3 := by
    have : dlvr (N.now + 1) N.cut (N.ps.take (x.i + 1)) = dlvr (N.now + 1) N.cut (N.ps.take x.i) ++ [p.2] := by rw [take_snoc_p hp]; simp [dlvr, hd, hc]
    rw [this, flatM_snoc, List.length_append]; exact own3
  own4 := by
    have : keepP (N.now + 1) (N.ps.take (x.i + 1)) = keepP (N.now + 1) (N.ps.take x.i) := by rw [take_snoc_p hp]; simp [keepP, hd]
    rw [this]; exact x.own4
  htr := htr

def Tk.nextC {w : World} {b : Nat} {N : NetS} {n0 nb : Blk} (x : Tk w b N n0 nb) {p : Int × Msg} (hp : N.ps[x.i]? = some p) (hd : ¬ N.now + 1 < p.1) (hc : cutOf N.cut p.2 = true) {w' : World} (htr : Tr w [n0] w' (([nb] ++ x.R3) ++ x.R4)) : Tk w b N n0 nb where
  i := x.i + 1
  wb := w'
  v3 := x.v3
  v4 := x.v4
  R3 := x.R3
  R4 := x.R4
  hi := (List.getElem?_eq_some_iff.1 hp).1
  own3 := by
    have : dlvr (N.now + 1) N.cut (N.ps.take (x.i + 1)) = dlvr (N.now + 1) N.cut (N.ps.take x.i) := by rw [take_snoc_p hp]; simp [dlvr, hc]
    rw [this]; exact x.own3
  own4 := by
    have : keepP (N.now + 1) (N.ps.take (x.i + 1)) = keepP (N.now + 1) (N.ps.take x.i) := by rw [take_snoc_p hp]; simp [keepP, hd]
    rw [this]; exact x.own4
  htr := htr

def Tk.begin {w : World} {b : Nat} {N : NetS} {n0 nb : Blk} {w' : World} (h : Tr w [n0] w' [nb]) : Tk w b N n0 nb where
  i := 0
  wb := w'
  v3 := .slice none 0 0
  v4 := .slice none 0 0
  R3 := []
  R4 := []
  hi := Nat.zero_le _
  own3 := Own.nil _ _
  own4 := Own.nil _ _
  htr := h

/-- row i of a slice that stands still -/
theorem range_row {w : World} {g es i : Nat} {rv : List (List Value)} {r : List Value} (h : w.rangeAt g 0 rv.flatten) (hl : ∀ x ∈ rv, x.length = es) (hi : rv[i]? = some r) : w.rangeAt g (0 + i * es) r := fun j v hj => by
  obtain ⟨h1, h2, _⟩ := split_row hl hi
  have hjr := (List.getElem?_eq_some_iff.1 hj).1
  have := h (i * es + j) v (by rw [h1, List.append_assoc, List.getElem?_append_right (by omega), h2, show i * es + j - i * es = j by omega, List.getElem?_append_left hjr]; exact hj)
  rw [Nat.zero_add] at this ⊢
  exact this

theorem Tk.row {w : World} {b : Nat} {N : NetS} {n0 nb : Blk} (x : Tk w b N n0 nb) {wa : Option Addr} {wc : Nat} (hrow : RowV w [n0] 0 (.slice wa N.ps.length wc) (N.ps.map parC)) (hok : ∀ p ∈ N.ps, okP p) (hlt : x.i < N.ps.length) :
    ∃ (g f t : Nat) (due kind term index last commit : Int) (ea : Option Addr) (en ec : Nat) (ok : Bool), wa = some ⟨g, 0, none⟩ ∧ f < 7 ∧ t < 7 ∧ N.ps[x.i]? = some (due, ⟨(f : Int), (t : Int), kind, term, index, last, commit, .slice ea en ec, ok⟩) ∧
      Im x.wb (([nb] ++ x.R3) ++ x.R4) g ∧ x.wb.rangeAt g (0 + x.i * 10) [.int .i64 due, .int .i64 (f : Int), .int .i64 (t : Int), .int .i64 kind, .int .i64 term, .int .i64 index, .int .i64 last, .int .i64 commit, .slice ea en ec, .bool ok] := by
  obtain ⟨p, hp⟩ : ∃ p, N.ps[x.i]? = some p := ⟨_, List.getElem?_eq_getElem hlt⟩
  obtain ⟨f, t, ea, en, ec, hf, ht, e1, e2, e3⟩ := hok p (List.mem_of_getElem? hp)
  obtain ⟨due, fr, to, kind, term, index, last, commit, ents, ok⟩ := p
  simp only at e1 e2 e3
  subst e1 e2 e3
  obtain ⟨a, cap, he, h⟩ := hrow
  simp only [Value.slice.injEq] at he
  obtain ⟨rfl, _, _⟩ := he
  rcases h with h | ⟨g, ha, _, hI, hr⟩
  · have := congrArg List.length h
    simp at this
    rw [this] at hlt
    simp at hlt
  · refine ⟨g, f, t, due, kind, term, index, last, commit, ea, en, ec, ok, ha, hf, ht, hp, x.htr.im g hI, ?_⟩
    have := range_row (es := 10) (i := x.i) (x.htr.range hI hr) (fun y hy => by obtain ⟨q, _, rfl⟩ := List.mem_map.1 hy; rfl) (r := parC (due, ⟨(f : Int), (t : Int), kind, term, index, last, commit, .slice ea en ec, ok⟩)) (by simp [hp])
    exact this

end Go.Proofs.Ytidkaipijocjcaa
