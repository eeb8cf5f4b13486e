/- Slices made and filled row by row with copies (copyAll of the program), for the calculus 'Sx'. No statement is proved here. -/
import Derived.Test.YtpdichhabjieeaaGreatDoorBk
import Derived.Laws.MakeOwn
namespace Go.Sx
open Go.RowKit
set_option linter.unusedVariables false

section
variable {P : Program} {ops : Array Oper} {Q : Exit → Act → World → Prop} {n : Nat} {e : Env}
theorem chop (es : Nat) : ∀ (m : Nat) (c : List Value), c.length = m * es → ∃ rv : List (List Value), rv.flatten = c ∧ rv.length = m ∧ ∀ x ∈ rv, x.length = es
  | 0, c, h => ⟨[], by simp at h; simp [h], rfl, by simp⟩
  | m + 1, c, h => by
    rw [Nat.add_mul, Nat.one_mul] at h
    obtain ⟨rv, h1, h2, h3⟩ := chop es m (c.drop es) (by simp; omega)
    refine ⟨c.take es :: rv, by simp [h1], by simp [h2], fun x hx => ?_⟩
    rcases List.mem_cons.1 hx with rfl | hx
    · simp; omega
    · exact h3 x hx
/-- make([]T, m): so many rows, whatever they hold -/
theorem wl_make {wb : World} {L : List Blk} {o : Oper} {rest : List Oper} {d : Nat} {t : TypeId} {x y : Operand} (E : TypeId) (z : Value) (es by' m : Nat) (hf : fit ops n e o (some d) = true) (ho : o.op = .makeSlice t x y)
    (hT : (P.underlying t, (P.info? E).map (fun i => (i.zero, i.size, i.bytes))) = (some (.slice E), some (some z, es, by'))) (hx : rho e x = .int .i64 (m : Int)) (hy : rho e y = .int .i64 (m : Int)) (hz : z.cells.size = es) (hb : by' * m ≤ 281474976710656) (h63 : m ≤ 4611686018427387904)
    (k : ∀ (r : Nat) (rv : List (List Value)), wb.heap.size ≤ r → rv.length = m → (∀ q ∈ rv, q.length = es) → WL P ops Q n ((d, .slice (some ⟨r, 0, none⟩) m m) :: e) (SH wb (⟨r, (rv.flatten ++ []).toArray, E⟩ :: L)) rest) : WL P ops Q n e (SH wb L) (o :: rest) := by
  obtain ⟨h1, h2, h3, h4⟩ := fit_some hf
  simp only [Prod.mk.injEq] at hT
  obtain ⟨hT1, hT2⟩ := hT
  obtain ⟨i, hi, hii⟩ := Option.map_eq_some_iff.1 hT2
  simp only [Prod.mk.injEq] at hii
  obtain ⟨i1, i2, i3⟩ := hii
  subst i2 i3
  refine wl_run (σ := { x : Nat × List (List Value) // wb.heap.size ≤ x.1 ∧ x.2.length = m ∧ ∀ q ∈ x.2, q.length = i.size }) (fun x => .slice (some ⟨x.1.1, 0, none⟩) m m) (fun x => SH wb (⟨x.1.1, (x.1.2.flatten ++ []).toArray, E⟩ :: L)) h1 h2 h3 h4 (fun w hw => ?_) (fun x => k x.1.1 x.1.2 x.2.1 x.2.2.1 x.2.2.2)
  have hrun := run_make (P := P) w t E i z hT1 hi i1 .i64 .i64 (m : Int) (m : Int) (by omega) (by omega) (by have q4' := Int.ofNat_le.2 hb; rw [Int.natCast_mul] at q4'; exact q4') (by omega)
  obtain ⟨rv, r1, r2, r3⟩ := chop i.size m (madeCells z.cells ((m : Int).toNat * i.size)).toList (by simp [madeCells])
  refine ⟨⟨(w.heap.size, rv), hw.size, r2, r3⟩, w.alloc (.cells (madeCells z.cells ((m : Int).toNat * i.size)) E), ?_, ?_⟩
  · unfold execOp
    simp only [ho, hx, hy, Sem.run_bind, hrun, Result.andThen_ok, Sem.run_pure]
    simp
  · have := hw.alloc (madeCells z.cells ((m : Int).toNat * i.size)) E
    simpa [r1] using this
end

/-- the state of copyAll's loop: i rows are copied into the row g -/
structure Ca (E es : Nat) (w0 : World) (rows : List (List D)) (g : Nat) where
  i : Nat
  wb : World
  rv : List (List Value)
  hi : i ≤ rows.length
  hcnt : rv.length = rows.length
  hlen : ∀ x ∈ rv, x.length = es
  hg : w0.heap.size ≤ g
  hnew : ∀ j r v, j < i → rows[j]? = some r → rv[j]? = some v → RdL (Nw w0.heap.size wb [⟨g, (rv.flatten ++ []).toArray, E⟩]) wb r v
  hbel : Below w0.heap.size w0 wb
/-- one row more -/
def Ca.next {E es : Nat} {w0 : World} {rows : List (List D)} {g : Nat} (x : Ca E es w0 rows g) {r1 : Nat} {c1 : Array Value} {t1 : TypeId} {w1 w2 w3 : World} {r : List D} {cs : List Value} (hlt : x.i < rows.length) (hrow : rows[x.i]? = some r) (hr1 : x.wb.heap.size ≤ r1)
    (h1 : SH x.wb [⟨r1, c1, t1⟩, ⟨g, (x.rv.flatten ++ []).toArray, E⟩] w1) (hb : Below w1.heap.size w1 w2) (hm : RdL (fun k => w1.heap.size ≤ k) w2 r cs) (hl : cs.length = es)
    (h3 : SH w2 [⟨r1, c1, t1⟩, ⟨g, ((x.rv.set x.i cs).flatten ++ []).toArray, E⟩] w3) : Ca E es w0 rows g where
  i := x.i + 1
  wb := w3
  rv := x.rv.set x.i cs
  hi := hlt
  hcnt := by simp [x.hcnt]
  hlen := set_len x.hlen _ hl
  hg := x.hg
  hnew := fun j q v hj hq hv => by
    have hB : w0.heap.size ≤ x.wb.heap.size := x.hbel.size
    have hT : Tr x.wb [⟨r1, c1, t1⟩, ⟨g, (x.rv.flatten ++ []).toArray, E⟩] w2 [⟨r1, c1, t1⟩, ⟨g, ((x.rv.set x.i cs).flatten ++ []).toArray, E⟩] := (h1.tr hb).congR rfl
    have hT3 : Tr w2 [⟨r1, c1, t1⟩, ⟨g, ((x.rv.set x.i cs).flatten ++ []).toArray, E⟩] w3 [⟨g, ((x.rv.set x.i cs).flatten ++ []).toArray, E⟩] := h3.trHere.drop1
    by_cases hji : j = x.i
    · subst hji
      rw [hrow] at hq
      cases hq
      rw [List.getElem?_set_self (by rw [x.hcnt]; exact hlt)] at hv
      cases hv
      have := (hm.stays (stays_newN h1 (Nat.le_trans hB h1.size))).stays (nw_cong (L := [⟨r1, c1, t1⟩, ⟨g, (x.rv.flatten ++ []).toArray, E⟩]) (L' := [⟨r1, c1, t1⟩, ⟨g, ((x.rv.set x.i cs).flatten ++ []).toArray, E⟩]) rfl)
      exact this.stays hT3.staysN
    · rw [List.getElem?_set_ne (Ne.symm hji)] at hv
      have h0 := x.hnew j q v (by omega) hq hv
      exact ((h0.stays (nw_more (c := c1) (t := t1) hr1)).stays hT.staysN).stays hT3.staysN
  hbel := by
    have hL : ∀ y ∈ [(⟨r1, c1, t1⟩ : Blk), ⟨g, (x.rv.flatten ++ []).toArray, E⟩], w0.heap.size ≤ y.b := ge_cons (Nat.le_trans x.hbel.size hr1) (ge_cons x.hg (ge_nil _))
    have hb2 := h1.belowCall x.hbel hL hb
    exact h3.below hb2 hb2.size (ge_cons (Nat.le_trans x.hbel.size hr1) (ge_cons x.hg (ge_nil _)))
/-- all rows are copied -/
theorem Ca.done {E es : Nat} {w0 : World} {rows : List (List D)} {g : Nat} (x : Ca E es w0 rows g) (hi : rows.length ≤ x.i) (hes : 0 < es) {w : World} (hsh : SH x.wb [⟨g, (x.rv.flatten ++ []).toArray, E⟩] w) (cap : Nat) :
    Rd (fun k => w0.heap.size ≤ k) w (.sl rows) (.slice (some ⟨g, 0, none⟩) rows.length cap) := by
  have hcell : w.rangeAt g 0 x.rv.flatten := fun j u hj => by
    have := hsh.cell 0 rfl (0 + j)
    rw [this]
    simpa using hj
  rw [Rd]
  refine ⟨some ⟨g, 0, none⟩, cap, rfl, .inr ⟨g, 0, rfl, x.hg, hsh.lt (x := ⟨g, (x.rv.flatten ++ []).toArray, E⟩) (by simp), ?_⟩⟩
  refine RdRows.mk (RdR.of rows x.rv x.hcnt.symm (fun j r v hr hv => ?_)) hcell
  have hj : j < rows.length := (List.getElem?_eq_some_iff.1 hr).1
  exact (x.hnew j r v (by omega) hr hv).stays (hsh.staysN rfl)
theorem writeAt_rowAll {P : Program} {T : TypeId} {es i off : Nat} {rv : List (List Value)} {mid : List Value} {v : Value} (mid' : List Value) (hl : ∀ x ∈ rv, x.length = es) (hi : rv[i]? = some mid) (ho : off = i * es)
    (hv : v.cells = mid'.toArray) (hml : mid'.length = mid.length) (hs : (P.info? T).map (·.size) = some mid'.length) (h1 : ∀ u ∈ mid', u.oneCell' = true) :
    writeAt P T (rv.flatten ++ []).toArray off v = some ((rv.set i mid').flatten ++ []).toArray := by
  have := writeAt_row (P := P) (T := T) (sp := []) (pre := []) (post := []) (mid := mid) mid' hl (by simpa using hi) (by simpa using ho) hv hml hs h1
  simpa using this
theorem Ca.row {E es : Nat} {w0 : World} {rows : List (List D)} {g : Nat} (x : Ca E es w0 rows g) {gs o : Nat} {cs : List Value} (h : w0.rangeAt gs o cs) (hl : cs.length = es) (hes : 0 < es) (c : Array Value) (t : TypeId) :
    x.wb.rangeAt gs o cs ∧ Im x.wb [⟨g, c, t⟩] gs := by
  have h0 := h 0 (cs[0]'(by omega)) (List.getElem?_eq_getElem (by omega))
  have hlt : gs < w0.heap.size := block_lt_of_cell h0
  have := x.hg
  have := x.hbel.size
  exact ⟨fun j u hj => Bl.cell x.hbel (h j u hj), by omega, fun y hy => by simp only [List.mem_singleton] at hy; subst hy; show g ≠ gs; omega⟩
theorem Ca.src {E es : Nat} {w0 : World} {rows : List (List D)} {g : Nat} (x : Ca E es w0 rows g) {L : List Blk} {w1 : World} (h1 : SH x.wb L w1) (hL : ∀ y ∈ L, w0.heap.size ≤ y.b) : Stays (Im w0 []) w0 (fun _ => True) w1 :=
  ⟨Nat.le_trans x.hbel.size h1.size, fun _ _ _ => trivial, fun k hk _ => by
    rw [h1.kept k (Nat.lt_of_lt_of_le hk x.hbel.size) (fun y hy => by have := hL y hy; omega)]
    exact x.hbel.block k hk⟩
/-- copyAll at an element type, with a function that copies an element -/
def CopyA (P : Program) (f g : FuncId) (rows : List (List D)) : Prop := ∀ (w : World) (S : Nat → Prop) (v : Value), Rd S w (.sl rows) v →
  Calls P f #[v, .func (.func g) #[] #[]] w (fun e w' => ∃ v', e = .returned v' ∧ Rd (fun k => w.heap.size ≤ k) w' (.sl rows) v' ∧ Below w.heap.size w w')
end Go.Sx
