/- Memory for the calculus 'Sx': known blocks beside memory that stands still; loads, stores, new blocks. No statement is proved here. -/
import Derived.Test.YtpdichhabjieeaaGreatDoorSx
namespace Go.Sx
open Go.RowKit
set_option linter.unusedVariables false

structure Blk where
  b : Nat
  c : Array Value
  t : TypeId

/-- the world w: the blocks of L are known, every other block of wb is as it was in wb -/
structure SH (wb : World) (L : List Blk) (w : World) : Prop where
  os : w.os = wb.os
  tape : w.tape = wb.tape
  output : w.output = wb.output
  size : wb.heap.size ≤ w.heap.size
  kept : ∀ k, k < wb.heap.size → (∀ x ∈ L, x.b ≠ k) → w.heap[k]? = wb.heap[k]?
  blk : ∀ x ∈ L, w.heap[x.b]? = some (.cells x.c x.t (0, 0))
  dis : ∀ (i j : Nat) (x y : Blk), L[i]? = some x → L[j]? = some y → x.b = y.b → i = j

/-- a block that stands still -/
def Im (wb : World) (L : List Blk) (k : Nat) : Prop := k < wb.heap.size ∧ ∀ x ∈ L, x.b ≠ k

theorem SH.refl (w : World) : SH w [] w := ⟨rfl, rfl, rfl, Nat.le_refl _, fun _ _ _ => rfl, by simp, by simp⟩

theorem SH.drew {wb : World} {L : List Blk} {w : World} (h : SH wb L w) : SH wb L w.drew := ⟨h.os, h.tape, h.output, h.size, h.kept, h.blk, h.dis⟩

theorem SH.lt {wb : World} {L : List Blk} {w : World} (h : SH wb L w) {x : Blk} (hx : x ∈ L) : x.b < w.heap.size := (Array.getElem?_eq_some_iff.1 (h.blk x hx)).1

theorem SH.alloc {wb : World} {L : List Blk} {w : World} (h : SH wb L w) (C : Array Value) (T : TypeId) : SH wb (⟨w.heap.size, C, T⟩ :: L) (w.alloc (.cells C T)) := by
  refine ⟨h.os, h.tape, h.output, Nat.le_trans h.size (by simp), fun k hk hx => ?_, fun x hx => ?_, ?_⟩
  · rw [Below.heap_alloc w _ k (Nat.lt_of_lt_of_le hk h.size)]
    exact h.kept k hk (fun x hx' => hx x (List.mem_cons_of_mem _ hx'))
  · rcases List.mem_cons.1 hx with rfl | hx
    · exact heap_alloc_new w _
    · rw [Below.heap_alloc w _ _ (h.lt hx)]; exact h.blk x hx
  · intro i j x y hi hj he
    cases i with
    | zero =>
      simp at hi
      cases j with
      | zero => rfl
      | succ j =>
        simp at hj
        have := h.lt (List.mem_of_getElem? hj)
        rw [← he, ← hi] at this
        exact absurd this (Nat.lt_irrefl _)
    | succ i =>
      simp at hi
      cases j with
      | zero =>
        simp at hj
        have := h.lt (List.mem_of_getElem? hi)
        rw [he, ← hj] at this
        exact absurd this (Nat.lt_irrefl _)
      | succ j => simp at hj; rw [h.dis i j x y hi hj he]

theorem SH.setRow {wb : World} {L : List Blk} {w : World} (h : SH wb L w) (p : Nat) {b : Nat} {c : Array Value} {t : TypeId} (hp : L[p]? = some ⟨b, c, t⟩) (c' : Array Value) :
    SH wb (L.set p ⟨b, c', t⟩) (w.setRow b c') := by
  have hpl : p < L.length := (List.getElem?_eq_some_iff.1 hp).1
  have hmem : (⟨b, c, t⟩ : Blk) ∈ L := List.mem_of_getElem? hp
  have hset : ∀ (i : Nat) (x : Blk), (L.set p ⟨b, c', t⟩)[i]? = some x → ∃ y, L[i]? = some y ∧ y.b = x.b := fun i x hi => by
    by_cases hpi : p = i
    · subst hpi; simp [hpl] at hi; exact ⟨_, hp, by rw [← hi]⟩
    · rw [List.getElem?_set_ne hpi] at hi; exact ⟨x, hi, rfl⟩
  refine ⟨h.os, h.tape, h.output, by simpa using h.size, fun k hk hx => ?_, fun x hx => ?_, fun i j x y hi hj he => ?_⟩
  · have hkb : k ≠ b := fun e => by
      subst e
      have : (⟨k, c', t⟩ : Blk) ∈ L.set p ⟨k, c', t⟩ := List.mem_of_getElem? (i := p) (by simp [hpl])
      exact hx _ this rfl
    rw [setRow_other w b k c' hkb]
    refine h.kept k hk (fun x hx' hxe => ?_)
    obtain ⟨i, hi⟩ := List.getElem?_of_mem hx'
    by_cases hpi : p = i
    · subst hpi; rw [hp] at hi; cases hi; exact hkb hxe.symm
    · exact hx x (List.mem_of_getElem? (i := i) (by rw [List.getElem?_set_ne hpi]; exact hi)) hxe
  · obtain ⟨i, hi⟩ := List.getElem?_of_mem hx
    by_cases hpi : p = i
    · subst hpi
      simp [hpl] at hi
      subst hi
      exact setRow_heap w b c c' t _ (h.blk _ hmem)
    · rw [List.getElem?_set_ne hpi] at hi
      have hne : x.b ≠ b := fun e => by
        exact hpi (h.dis p i _ _ hp hi e.symm)
      rw [setRow_other w b _ c' hne]
      exact h.blk x (List.mem_of_getElem? hi)
  · obtain ⟨x', hx', ex⟩ := hset i x hi
    obtain ⟨y', hy', ey⟩ := hset j y hj
    exact h.dis i j x' y' hx' hy' (by rw [ex, ey, he])

theorem SH.cell {wb : World} {L : List Blk} {w : World} (h : SH wb L w) (p : Nat) {b : Nat} {c : Array Value} {t : TypeId} (hp : L[p]? = some ⟨b, c, t⟩) (i : Nat) : w.cell? ⟨b, i, none⟩ = c[i]? :=
  cell_of_row w b i c t (0, 0) (h.blk _ (List.mem_of_getElem? hp))

theorem SH.frozen {wb : World} {L : List Blk} {w : World} (h : SH wb L w) (p : Nat) {b : Nat} {c : Array Value} {t : TypeId} (hp : L[p]? = some ⟨b, c, t⟩) (i : Nat) : w.frozen? ⟨b, i, none⟩ = false :=
  frozen_of_row w b i c t (h.blk _ (List.mem_of_getElem? hp))

theorem SH.still {wb : World} {L : List Blk} {w : World} (h : SH wb L w) {k : Nat} (hk : Im wb L k) : w.heap[k]? = wb.heap[k]? := h.kept k hk.1 hk.2

theorem SH.cellIm {wb : World} {L : List Blk} {w : World} (h : SH wb L w) {k : Nat} (hk : Im wb L k) (i : Nat) : w.cell? ⟨k, i, none⟩ = wb.cell? ⟨k, i, none⟩ :=
  World.cell?_of_block (w := wb) (w' := w) (a := ⟨k, i, none⟩) (h.still hk)

/-! ### Types -/
/-- how a variable of the type is read: one cell, or so many -/
def kindOf (P : Program) (T : TypeId) : Option (Option Nat) :=
  match P.underlying T, P.info? T with
  | some (.struct _), some i | some (.array _ _), some i => some (some i.size)
  | some _, some i => if i.size = 1 then some none else none
  | _, _ => none

section
variable {P : Program} {ops : Array Oper} {Q : Exit → Act → World → Prop} {n : Nat}

theorem run_load_one (w : World) (T : TypeId) (a : Addr) (v : Value) (hk : kindOf P T = some none) (hc : w.cell? a = some v) : (loadVar T a).run P w = .ok v w := by
  unfold kindOf at hk
  split at hk
  · simp at hk
  · simp at hk
  · rename_i d i hns hna hu hi
    have hagg : (isAgg T).run P w = .ok false w := by
      unfold isAgg
      rw [Sem.run_bind, run_underlying hu w]
      cases d <;> simp_all
    simp [loadVar, hagg, load, Sem.run, hc]
  · cases hk

theorem run_load_many (w : World) (T : TypeId) (b o : Nat) (cs : List Value) (hk : kindOf P T = some (some cs.length)) (hc : w.rangeAt b o cs) : (loadVar T ⟨b, o, none⟩).run P w = .ok (.agg cs.toArray) w := by
  unfold kindOf at hk
  split at hk
  · rename_i fs i hu hi
    exact run_loadVar_mid w b o T cs _ hc hu rfl (by rw [hi]; simpa using hk)
  · rename_i m e i hu hi
    exact run_loadVar_mid w b o T cs _ hc hu rfl (by rw [hi]; simpa using hk)
  · split at hk <;> simp at hk
  · cases hk

/-- a variable read out of a known row of cells -/
def readAt (P : Program) (T : TypeId) (c : Array Value) (off : Nat) : Option Value :=
  match kindOf P T with
  | some none => c[off]?
  | some (some s) => if off + s ≤ c.size then some (.agg (c.extract off (off + s))) else none
  | none => none

theorem rangeAt_row {w : World} {b : Nat} {c : Array Value} (hc : ∀ i, w.cell? ⟨b, i, none⟩ = c[i]?) (o s : Nat) : w.rangeAt b o (c.extract o (o + s)).toList := fun j v hv => by
  rw [hc]
  simp only [Array.getElem?_toList, Array.getElem?_extract] at hv
  split at hv
  · exact hv
  · cases hv

theorem run_readAt (w : World) (T : TypeId) (b off : Nat) (c : Array Value) (v : Value) (hc : ∀ i, w.cell? ⟨b, i, none⟩ = c[i]?) (hv : readAt P T c off = some v) :
    (loadVar T ⟨b, off, none⟩).run P w = .ok v w := by
  unfold readAt at hv
  split at hv
  · rename_i hk
    exact run_load_one w T _ v hk (by rw [hc]; exact hv)
  · rename_i s hk
    split at hv
    · rename_i hle
      cases hv
      have hlen : (c.extract off (off + s)).toList.length = s := by simp; omega
      have := run_load_many (P := P) w T b off (c.extract off (off + s)).toList (by rw [hlen]; exact hk) (rangeAt_row hc off s)
      rwa [Array.toArray_toList] at this
    · cases hv
  · cases hv

theorem yl_load {e : Env} {wb : World} {L : List Blk} {o : Oper} {T : TypeId} {x : Operand} {b off : Nat} {c : Array Value} {t : TypeId} {v : Value} (p : Nat) (ho : o.op = .load T x)
    (hx : rho e x = .pointer (some ⟨b, off, none⟩)) (hp : L[p]? = some ⟨b, c, t⟩) (hv : readAt P T c off = some v) : Yl P (SH wb L) e o v := fun w hw => by
  unfold execOp
  simp only [ho, hx, Instr.loadAt, Instr.sureAddr, Sem.run_bind, Sem.run_pure, Result.andThen_ok, run_readAt w T b off c v (fun i => hw.cell p hp i) hv]

theorem yl_load_im {e : Env} {wb : World} {L : List Blk} {o : Oper} {T : TypeId} {x : Operand} {b off : Nat} {v : Value} (ho : o.op = .load T x)
    (hx : rho e x = .pointer (some ⟨b, off, none⟩)) (hI : Im wb L b) (hk : kindOf P T = some none) (hv : wb.cell? ⟨b, off, none⟩ = some v) : Yl P (SH wb L) e o v := fun w hw => by
  unfold execOp
  simp only [ho, hx, Instr.loadAt, Instr.sureAddr, Sem.run_bind, Sem.run_pure, Result.andThen_ok, run_load_one w T _ v hk (by rw [hw.cellIm hI]; exact hv)]

theorem yl_loads_im {e : Env} {wb : World} {L : List Blk} {o : Oper} {T : TypeId} {x : Operand} {b off : Nat} {cs : List Value} (ho : o.op = .load T x)
    (hx : rho e x = .pointer (some ⟨b, off, none⟩)) (hI : Im wb L b) (hk : kindOf P T = some (some cs.length)) (hv : wb.rangeAt b off cs) : Yl P (SH wb L) e o (.agg cs.toArray) := fun w hw => by
  unfold execOp
  simp only [ho, hx, Instr.loadAt, Instr.sureAddr, Sem.run_bind, Sem.run_pure, Result.andThen_ok, run_load_many w T b off cs hk (fun j v hj => by rw [hw.cellIm hI]; exact hv j v hj)]

/-- a variable written into a known row of cells -/
def writeAt (P : Program) (T : TypeId) (c : Array Value) (off : Nat) (v : Value) : Option (Array Value) :=
  match P.info? T with
  | some i => if i.size = v.cells.size ∧ off + v.cells.size ≤ c.size ∧ v.cells.all (·.oneCell') = true
      then some (c.toList.take off ++ v.cells.toList ++ c.toList.drop (off + v.cells.size)).toArray else none
  | none => none

theorem run_writeAt (w : World) (T : TypeId) (b off : Nat) (c c' : Array Value) (t : TypeId) (v : Value) (hb : w.heap[b]? = some (.cells c t (0, 0))) (hv : writeAt P T c off v = some c') :
    (storeVar T ⟨b, off, none⟩ v).run P w = .ok () (w.setRow b c') := by
  unfold writeAt at hv
  split at hv
  · rename_i i hi
    split at hv
    · rename_i h
      obtain ⟨h1, h2, h3⟩ := h
      cases hv
      have := run_storeCells_at P b off t v.cells.toList 0 c w hb (by simpa using h2) (fun u hu => (Array.all_eq_true_iff_forall_mem.1 h3) u (by simpa using hu))
      simp only [Nat.add_zero, Array.length_toList] at this
      simp [storeVar, sizeOf, typeInfo, hi, h1, this]
    · cases hv
  · cases hv

theorem wl_store {e : Env} {wb : World} {L L' : List Blk} {o : Oper} {rest : List Oper} {T : TypeId} {x y : Operand} {b off : Nat} {c c' : Array Value} {t : TypeId} {v : Value} (p : Nat)
    (hf : fit ops n e o none = true) (ho : o.op = .store T x y) (hx : rho e x = .pointer (some ⟨b, off, none⟩)) (hy : rho e y = v) (hp : L[p]? = some ⟨b, c, t⟩)
    (hv : writeAt P T c off v = some c') (hL : L.set p ⟨b, c', t⟩ = L')
    (k : WL P ops Q n e (SH wb L') rest) : WL P ops Q n e (SH wb L) (o :: rest) := by
  obtain ⟨h1, h2, h3⟩ := fit_none hf
  refine wl_skip (SH wb L') h1 h2 h3 (fun w hw => ⟨w.setRow b c', ?_, hL ▸ hw.setRow p hp c'⟩) k
  unfold execOp
  simp only [ho, hx, hy, Instr.storeAt, Instr.sureAddr, Sem.run_bind, Sem.run_pure, Result.andThen_ok, run_writeAt w T b off c c' t v (hw.blk _ (List.mem_of_getElem? hp)) hv]

/-- an operation that makes one block -/
def newAt (P : Program) (r : Nat) : Sem Next → Option (Obj × Next)
  | .new o k => (pureVal P (k r)).map fun x => (o, x)
  | .program k => newAt P r (k P)
  | .mark _ k => newAt P r k
  | _ => none

theorem newAt_run (s : Sem Next) (w : World) (o : Obj) (x : Next) (h : newAt P w.heap.size s = some (o, x)) : s.run P w = .ok x (w.alloc o) := by
  induction s with
  | new ob k ih =>
    simp only [newAt, Option.map_eq_some_iff] at h
    obtain ⟨y, hy, he⟩ := h
    cases he
    simp only [Sem.run]
    exact pureVal_run _ _ hy _
  | program k ih => simp only [newAt] at h; simp only [Sem.run]; exact ih P h
  | mark m k ih => simp only [newAt] at h; simp only [Sem.run]; exact ih h
  | _ => simp [newAt] at h

theorem wl_new {e : Env} {wb : World} {L : List Blk} {o : Oper} {rest : List Oper} {d : Nat} (C : Array Value) (T : TypeId) (V : Nat → Value)
    (hf : fit ops n e o (some d) = true) (hn : ∀ r, newAt P r (execOp (rho e) o) = some (.cells C T (0, 0), .value (V r)))
    (k : ∀ r, wb.heap.size ≤ r → WL P ops Q n ((d, V r) :: e) (SH wb (⟨r, C, T⟩ :: L)) rest) : WL P ops Q n e (SH wb L) (o :: rest) := by
  obtain ⟨h1, h2, h3, h4⟩ := fit_some hf
  refine wl_run (σ := { r : Nat // wb.heap.size ≤ r }) (fun r => V r.1) (fun r => SH wb (⟨r.1, C, T⟩ :: L)) h1 h2 h3 h4 (fun w hw => ⟨⟨w.heap.size, hw.size⟩, w.alloc (.cells C T), newAt_run _ w _ _ (hn _), hw.alloc C T⟩) (fun r => k r.1 r.2)

/-- the same where it is the one operation that may come up in a region that draws -/
theorem wd_new {m f : Nat} {e : Env} {wb : World} {L L0 : List Blk} {listed : Array Bool} {oi : Oper} {d : Nat} (i : Nat) (C : Array Value) (T : TypeId) (V : Nat → Value)
    (hi : ops[i]? = some oi) (him : i < m) (hr : Region.ready .any ops listed = [i]) (hf : fit ops n e oi (some d) = true)
    (hn : ∀ r, newAt P r (execOp (rho e) oi) = some (.cells C T (0, 0), .value (V r))) (hS : ∀ r w, SH wb (⟨r, C, T⟩ :: L) w → SH wb L0 w)
    (k : ∀ r, wb.heap.size ≤ r → WD P ops Q n m (SH wb L0) (SH wb (⟨r, C, T⟩ :: L)) f (listed.setIfInBounds i true) ((d, V r) :: e)) : WD P ops Q n m (SH wb L0) (SH wb L) (f + 1) listed e :=
  wd_one i (σ := { r : Nat // wb.heap.size ≤ r }) (fun r => V r.1) (fun r => SH wb (⟨r.1, C, T⟩ :: L)) hi him hr hf
    (fun w hw => ⟨⟨w.heap.size, hw.size⟩, w.alloc (.cells C T), newAt_run _ w _ _ (hn _), hw.alloc C T⟩) (fun r w h => hS r.1 w h) (fun r => k r.1 r.2)

/-! ### Bases -/
theorem SH.tail {wb : World} {x : Blk} {L : List Blk} {w : World} (h : SH wb (x :: L) w) (hx : wb.heap.size ≤ x.b) : SH wb L w :=
  ⟨h.os, h.tape, h.output, h.size, fun k hk hL => h.kept k hk (fun y hy => by
    rcases List.mem_cons.1 hy with rfl | hy
    · omega
    · exact hL y hy), fun y hy => h.blk y (List.mem_cons_of_mem _ hy),
   fun i j y z hi hj he => by have := h.dis (i + 1) (j + 1) y z (by simpa using hi) (by simpa using hj) he; omega⟩

/-- behind a call that leaves every old block alone -/
theorem SH.after {wb : World} {L : List Blk} {w w' : World} (h : SH wb L w) (hb : Below w.heap.size w w') : SH w' L w' :=
  ⟨rfl, rfl, rfl, Nat.le_refl _, fun _ _ _ => rfl, fun x hx => by rw [hb.block _ (h.lt hx)]; exact h.blk x hx, h.dis⟩

/-- ditto, the elder base kept -/
theorem SH.keep {wb : World} {L : List Blk} {w w' : World} (h : SH wb L w) (hb : Below w.heap.size w w') : SH wb L w' :=
  ⟨hb.os.trans h.os, hb.tape.trans h.tape, hb.output.trans h.output, Nat.le_trans h.size hb.size, fun k hk hx => by rw [hb.block _ (Nat.lt_of_lt_of_le hk h.size)]; exact h.kept k hk hx,
   fun x hx => by rw [hb.block _ (h.lt hx)]; exact h.blk x hx, h.dis⟩

/-- what is known of the still blocks of one base holds of another -/
structure Tr (wb : World) (L : List Blk) (wb' : World) (L' : List Blk) : Prop where
  os : wb'.os = wb.os
  tape : wb'.tape = wb.tape
  output : wb'.output = wb.output
  size : wb.heap.size ≤ wb'.heap.size
  im : ∀ k, Im wb L k → Im wb' L' k
  same : ∀ k, Im wb L k → wb'.heap[k]? = wb.heap[k]?

theorem Tr.refl (wb : World) (L : List Blk) : Tr wb L wb L := ⟨rfl, rfl, rfl, Nat.le_refl _, fun _ h => h, fun _ _ => rfl⟩
theorem Tr.trans {a b c : World} {L M N : List Blk} (h : Tr a L b M) (k : Tr b M c N) : Tr a L c N :=
  ⟨k.os.trans h.os, k.tape.trans h.tape, k.output.trans h.output, Nat.le_trans h.size k.size, fun i hi => k.im i (h.im i hi), fun i hi => (k.same i (h.im i hi)).trans (h.same i hi)⟩
/-- what was there below B when the call began, where the known blocks lie from B on -/
theorem Tr.below {wb wb' : World} {L L' : List Blk} (h : Tr wb L wb' L') {B : Nat} (hB : B ≤ wb.heap.size) (hL : ∀ x ∈ L, B ≤ x.b) : Below B wb wb' :=
  ⟨h.os, h.tape, h.output, h.size, fun k hk => h.same k ⟨by omega, fun x hx => by have := hL x hx; omega⟩⟩

theorem SH.tr {wb : World} {L : List Blk} {w w' : World} (h : SH wb L w) (hb : Below w.heap.size w w') : Tr wb L w' L :=
  ⟨hb.os.trans h.os, hb.tape.trans h.tape, hb.output.trans h.output, Nat.le_trans h.size hb.size, fun k hk => ⟨Nat.lt_of_lt_of_le hk.1 (Nat.le_trans h.size hb.size), hk.2⟩, fun k hk => by rw [hb.block _ (Nat.lt_of_lt_of_le hk.1 h.size)]; exact h.still hk⟩

theorem SH.here {wb : World} {L : List Blk} {w : World} (h : SH wb L w) : SH w L w :=
  ⟨rfl, rfl, rfl, Nat.le_refl _, fun _ _ _ => rfl, h.blk, h.dis⟩

theorem SH.trHere {wb : World} {L : List Blk} {w : World} (h : SH wb L w) : Tr wb L w L :=
  ⟨h.os, h.tape, h.output, h.size, fun k hk => ⟨Nat.lt_of_lt_of_le hk.1 h.size, hk.2⟩, fun k hk => h.still hk⟩

/-- all that was there when the call began is as it was, where the known blocks are new -/
theorem SH.below {wb : World} {L : List Blk} {w : World} (h : SH wb L w) {B : Nat} {w0 : World} (h0 : Below B w0 wb) (hB : B ≤ wb.heap.size) (hL : ∀ x ∈ L, B ≤ x.b) : Below B w0 w :=
  h0.trans ⟨h.os, h.tape, h.output, h.size, fun k hk => h.kept k (by omega) (fun x hx => by have := hL x hx; omega)⟩


theorem ret_cell {fn : Func} {R : Ending → World → Prop} {e : Env} {wb : World} {L : List Blk} {a T : Nat} {b off : Nat} {c : Array Value} {t : TypeId} {v : Value} (p : Nat) (hr : fn.results = #[.cell a T])
    (ha : look e a = some (.pointer (some ⟨b, off, none⟩))) (hp : L[p]? = some ⟨b, c, t⟩) (hv : readAt P T c off = some v) (hR : ∀ w, SH wb L w → R (.returned v) w) :
    ∀ x w, Has e n x → SH wb L w → bodyPost P fn R .ret x w := fun x w hx hw => by
  refine bodyPost_ret (v := v) ?_ hx.defers (hR w hw)
  have h1 := hx.at_ a _ ha
  have h2 := run_readAt w T b off c v (fun i => hw.cell p hp i) hv
  simp [results, hr, h1, asAddr, h2]

/-- the address of a slice's element -/
theorem yl_index {e : Env} {S : World → Prop} {o : Oper} {T E : TypeId} {x y : Operand} {b off len cap k es : Nat} (ho : o.op = .indexAddr T x y)
    (hT : (P.underlying T, (P.info? E).map (·.size)) = (some (.slice E), some es)) (hx : rho e x = .slice (some ⟨b, off, none⟩) len cap) (hy : rho e y = .int .i64 (k : Int)) (hk : k < len) :
    Yl P S e o (.pointer (some ⟨b, off + k * es, none⟩)) := fun w _ => by
  simp only [Prod.mk.injEq] at hT
  obtain ⟨hu, hi⟩ := hT
  cases hq : P.info? E with
  | none => simp [hq] at hi
  | some i =>
    have hs : i.size = es := by simpa [hq] using hi
    have hadd : (⟨b, off, none⟩ : Addr).add (k * es) = ⟨b, off + k * es, none⟩ := by unfold Addr.add; split <;> simp_all
    unfold execOp
    simp [ho, hx, hy, Instr.indexAt, asIntOf, run_underlying hu, hk, sizeOf, typeInfo, hq, hs, hadd]
end
end Go.Sx
