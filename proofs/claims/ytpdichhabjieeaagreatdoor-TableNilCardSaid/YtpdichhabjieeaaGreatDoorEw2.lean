/- The evaluator, second part: operations that leave memory alone. No statement is proved here. -/
import Derived.Test.YtpdichhabjieeaaGreatDoorEw1
import Derived.Laws.MakeOwn
import Derived.Laws.BytesString
import Derived.Lib.EndianMore
namespace Go.Ev
open Go.RowKit Go.Sx
set_option linter.unusedVariables false
set_option linter.unusedSimpArgs false

/-! ### Tables of types and functions -/
inductive TK where
  | st (fs : List (Nat × Nat))
  | ar (n e : Nat)
  | sl (e : Nat)
  | str
  | ifc
  | ptr (e : Nat)
  | uptr
  | fn
  | int (k : IntKind)
  | mp (k e : Nat)
  | oth
structure TI where
  k : TK
  size : Nat
  bytes : Nat
  zero : List Value
  zv : Value
def kindT : TypeDesc → TK
  | .struct fs => .st (fs.toList.map fun f => (f.offset, f.type))
  | .array n e => .ar n e
  | .slice e => .sl e
  | .string => .str
  | .interface _ => .ifc
  | .pointer e => .ptr e
  | .unsafePointer => .uptr
  | .int k => .int k
  | .func _ _ _ => .fn
  | .map k e => .mp k e
  | _ => .oth
def tiOf (P : Program) (t : TypeId) : Option TI :=
  match P.underlying t, P.info? t with
  | some d, some i => match i.zero with
    | some z => some ⟨kindT d, i.size, i.bytes, z.cells.toList, z⟩
    | none => none
  | _, _ => none

def T.listF {α : Type} : Nat → T α → List (Nat × α)
  | 0, _ => []
  | f + 1, t => match t with
    | .l => []
    | .n x a b => (match x with | some v => [(0, v)] | none => []) ++ ((T.listF f a).map (fun p => (2 * (p.1 + 1), p.2)) ++ (T.listF f b).map (fun p => (2 * p.1 + 1, p.2)))
def T.list {α : Type} (t : T α) : List (Nat × α) := T.listF 40 t
theorem T.mem_listF {α : Type} : ∀ (f : Nat) (t : T α) (k : Nat) (x : α), T.getF f t k = some x → (k, x) ∈ T.listF f t
  | 0, _, _, _, h => by cases h
  | f + 1, t, k, x, h => by
    cases t with
    | l => simp [T.getF] at h
    | n y a b =>
      simp only [T.getF] at h
      have e0 : ∀ n : Nat, Nat.beq n 0 = decide (n = 0) := fun n => by cases n <;> simp [Nat.beq]
      simp only [e0] at h
      by_cases hk : k = 0
      · simp [hk] at h; subst h; subst hk; simp [T.listF]
      · by_cases hk2 : k % 2 = 0
        · simp [hk, hk2] at h
          have := T.mem_listF f a _ x h
          simp only [T.listF, List.mem_append, List.mem_map]
          exact .inr (.inl ⟨_, this, by simp; omega⟩)
        · simp [hk, hk2] at h
          have := T.mem_listF f b _ x h
          simp only [T.listF, List.mem_append, List.mem_map]
          exact .inr (.inr ⟨_, this, by simp; omega⟩)
theorem T.mem_list {α : Type} {t : T α} {k : Nat} {x : α} (h : t.get k = some x) : (k, x) ∈ t.list := T.mem_listF 40 t k x h

structure Tab where
  ty : T TI
  fn : T Unit
  idf : T Unit      -- functions that hand back their one argument
  orc : T Unit      -- functions whose calls on values that are not looked at are taken as given
structure TOk (P : Program) (tb : Tab) : Prop where
  ty : tb.ty.list.map (fun x => tiOf P x.1) = tb.ty.list.map (fun x => some x.2)
  fn : tb.fn.list.map (fun x => match P.funcs[x.1]? with | some f => !(f.name == "runtime.NumGoroutine" || f.body.isNone) | none => false) = tb.fn.list.map (fun _ => true)
  mix : P.follows .mixedOrders = true
  idf : ∀ (g : Nat) (u : Unit), tb.idf.get g = some u → ∀ (v : Value) (w : World), (callFunc g #[v]).run P w = .ok (.value v) w

theorem map_at {α β : Type} {l : List α} {f g : α → β} (h : l.map f = l.map g) {x : α} (hx : x ∈ l) : f x = g x := by
  induction l with
  | nil => cases hx
  | cons a r ih =>
    simp only [List.map_cons, List.cons.injEq] at h
    rcases List.mem_cons.1 hx with rfl | hx
    · exact h.1
    · exact ih h.2 hx

section
variable {P : Program} {tb : Tab} {w0 : World} {n : Nat} {ds : List Deferred}

theorem TOk.at_ (ok : TOk P tb) {t : TypeId} {i : TI} (h : tb.ty.get t = some i) : ∃ d inf z, P.underlying t = some d ∧ P.info? t = some inf ∧ inf.zero = some z ∧ i.k = kindT d ∧ i.size = inf.size ∧ i.bytes = inf.bytes ∧ i.zero = z.cells.toList := by
  have := map_at ok.ty (T.mem_list h)
  simp only at this
  unfold tiOf at this
  split at this
  · rename_i d inf hd hi
    split at this
    · rename_i z hz
      simp only [Option.some.injEq] at this
      exact ⟨d, inf, z, hd, hi, hz, by rw [← this], by rw [← this], by rw [← this], by rw [← this]⟩
    · cases this
  · cases this
theorem TOk.zv (ok : TOk P tb) {t : TypeId} {i : TI} (h : tb.ty.get t = some i) : ∃ inf, P.info? t = some inf ∧ inf.zero = some i.zv := by
  have := map_at ok.ty (T.mem_list h)
  simp only at this
  unfold tiOf at this
  split at this
  · rename_i d inf hd hi
    split at this
    · rename_i z hz
      simp only [Option.some.injEq] at this
      exact ⟨inf, hi, by rw [hz, ← this]⟩
    · cases this
  · cases this
theorem TOk.func (ok : TOk P tb) {f : FuncId} {u : Unit} (h : tb.fn.get f = some u) : ∃ fn, P.funcs[f]? = some fn ∧ (fn.name == "runtime.NumGoroutine") = false ∧ fn.body.isNone = false := by
  have := map_at ok.fn (T.mem_list h)
  simp only at this
  split at this
  · rename_i fn hfn
    simp only [Bool.not_eq_true', Bool.or_eq_false_iff] at this
    exact ⟨fn, hfn, this⟩
  · cases this

def kindA (tb : Tab) (t : TypeId) : Option (Option Nat) :=
  match tb.ty.get t with
  | some i => (match i.k with
    | .st _ | .ar _ _ => some (some i.size)
    | _ => bif Nat.beq i.size 1 then some none else none)
  | none => none
theorem kindA_ok (ok : TOk P tb) {t : TypeId} {x : Option Nat} (h : kindA tb t = some x) : kindOf P t = some x := by
  unfold kindA at h
  split at h
  · rename_i i hi
    obtain ⟨d, inf, z, hd, hinf, hz, hk, hs, _⟩ := ok.at_ hi
    unfold kindOf
    rw [hd, hinf]
    rw [hk, hs] at h
    have hb : ∀ y : Option (Option Nat), (bif Nat.beq inf.size 1 then some none else none) = some x → y = (if inf.size = 1 then some none else none) → y = some x := fun y h1 h2 => by
      cases hb : Nat.beq inf.size 1 with
      | true => rw [hb] at h1; rw [h2, if_pos (Nat.eq_of_beq_eq_true hb)]; exact h1
      | false => rw [hb] at h1; cases h1
    cases d <;> simp only [kindT] at h <;> first | exact h | exact hb _ h rfl
  · cases h

/-! ### Frames -/
structure FR (n : Nat) (ds : List Deferred) (ρ : Names) (E : T AV) (a : Act) : Prop where
  defers : a.defers = ds
  size : a.tmps.size = n
  at_ : ∀ (k : Nat) (x : AV), E.get k = some x → ∃ v, a.tmps[k]? = some v ∧ VR ρ x v
theorem FR.ext {ρ ρ' : Names} {E : T AV} {a : Act} (h : FR n ds ρ E a) (he : Ext ρ ρ') : FR n ds ρ' E a := ⟨h.defers, h.size, fun k x hk => by
  obtain ⟨v, h1, h2⟩ := h.at_ k x hk
  exact ⟨v, h1, h2.ext he⟩⟩
theorem FR.put {ρ : Names} {E : T AV} {a : Act} (h : FR n ds ρ E a) (d : Nat) {x : AV} {v : Value} (hd : d < n) (hv : VR ρ x v) : FR n ds ρ (E.set d (some x)) (a.put (some d) v) := by
  refine ⟨by simp [Act.put, h.defers], by simp [Act.put, h.size], fun k y hk => ?_⟩
  rcases T.get_set hk with ⟨rfl, h2⟩ | ⟨h1, h2⟩
  · cases h2
    exact ⟨v, by simp [Act.put, h.size, hd], hv⟩
  · obtain ⟨u, h3, h4⟩ := h.at_ k y h2
    exact ⟨u, by simp only [Act.put]; rw [Array.getElem?_setIfInBounds_ne (Ne.symm h1)]; exact h3, h4⟩

def opnd (E : T AV) : Operand → Option AV
  | .tmp t => E.get t
  | .const v => some (.pl v)
  | .global g => some (.pl (.pointer (some ⟨g, 0, none⟩)))
  | .func f => some (.pl (.func (.func f) #[] #[]))
theorem FR.opnd {ρ : Names} {E : T AV} {a : Act} (h : FR n ds ρ E a) {x : Operand} {y : AV} (hx : Ev.opnd E x = some y) : VR ρ y (a.eval x) := by
  cases x with
  | tmp t =>
    obtain ⟨v, h1, h2⟩ := h.at_ t y hx
    simpa [Act.eval, h1] using h2
  | const v => cases hx; exact VR.pl
  | global g => cases hx; exact VR.pl
  | func f => cases hx; exact VR.pl
/-- an operand without memory -/
def pv (E : T AV) (x : Operand) : Option Value := match opnd E x with | some y => plain y | none => none
theorem FR.pv {ρ : Names} {E : T AV} {a : Act} (h : FR n ds ρ E a) {x : Operand} {v : Value} (hx : Ev.pv E x = some v) : a.eval x = v := by
  unfold Ev.pv at hx
  split at hx
  · rename_i y hy; exact VR.plain y v _ hx (h.opnd hy)
  · cases hx
def pvs (E : T AV) : List Operand → Option (List Value)
  | [] => some []
  | x :: r => match pv E x, pvs E r with | some v, some vs => some (v :: vs) | _, _ => none
def opnds (E : T AV) : List Operand → Option (List AV)
  | [] => some []
  | x :: r => match opnd E x, opnds E r with | some v, some vs => some (v :: vs) | _, _ => none
theorem FR.opnds {ρ : Names} {E : T AV} {a : Act} (h : FR n ds ρ E a) : ∀ {l : List Operand} {ys : List AV}, Ev.opnds E l = some ys → VRL ρ ys (l.map a.eval)
  | [], _, hx => by cases hx; exact VRL.mk0
  | x :: r, _, hx => by
    simp only [Ev.opnds] at hx
    split at hx
    · rename_i v vs h1 h2; cases hx; exact VRL.mk (h.opnd h1) (h.opnds h2)
    · cases hx

/-! ### Plain operations -/
def plainOp (P : Program) (E : T AV) (o : Oper) : Option AV :=
  match noSel o.op && o.op.operands.toList.all (fun x => (pv E x).isSome) with
  | true => (match pureVal P (execOp (fun x => (pv E x).getD undef) o) with
    | some (.value v) => some (.pl v)
    | _ => none)
  | false => none
theorem plainOp_ok {ρ : Names} {E : T AV} {a : Act} (h : FR n ds ρ E a) {o : Oper} {x : AV} (hx : plainOp P E o = some x) : ∃ v, x = .pl v ∧ ∀ w, (execOp a.eval o).run P w = .ok (.value v) w := by
  unfold plainOp at hx
  split at hx
  · rename_i hc
    simp only [Bool.and_eq_true] at hc
    split at hx
    · rename_i v hv
      cases hx
      refine ⟨v, rfl, fun w => ?_⟩
      rw [execOp_congr (ρ := a.eval) (ρ' := fun x => (pv E x).getD undef) o (fun cs b hb => by rw [hb] at hc; simp [noSel] at hc) (fun y hy => ?_)]
      · exact pureVal_run _ _ hv w
      · obtain ⟨u, hu⟩ := Option.isSome_iff_exists.1 (List.all_eq_true.1 hc.2 y (by simpa using hy))
        rw [h.pv hu, hu]; rfl
    · cases hx
  · cases hx

/-! ### Parts of rows -/
def readA (c : List AV) (off : Nat) : Option Nat → Option AV
  | none => c[off]?
  | some s => let l := (c.drop off).take s; bif Nat.beq l.length s then some (.agg l) else none

theorem HR.at_ {ρ : Names} {H : AH} {w : World} (h : HR w0 ρ H w) {i : Nat} {b : Nat × Nat} {k : ABlk} (hi : H.get i = some k) (hb : ρ[i]? = some b) : BR ρ k b.2 w.heap[b.1]? := by
  obtain ⟨b', hb', hB⟩ := h.blk i k hi
  rw [hb] at hb'; cases hb'; exact hB
theorem BR.cell {ρ : Names} {k : ABlk} {w : World} {b cp : Nat} (h : BR ρ k cp w.heap[b]?) : ∃ vs : List Value, VRL ρ k.cells vs ∧ ∀ j u, vs[j]? = some u → w.cell? ⟨b, j, none⟩ = some u := by
  rcases h with ⟨_, vs, rest, fr, h1, h2, _⟩ | ⟨h1, _⟩
  · refine ⟨vs, h2, fun j u hu => ?_⟩
    rw [cell_of_row w b j _ _ fr h1]
    simp only [List.getElem?_toArray]
    rw [List.getElem?_append_left (List.getElem?_eq_some_iff.1 hu).1]
    exact hu
  · exact ⟨[], by rw [h1]; exact VRL.mk0, fun j u hu => by simp at hu⟩
theorem rangeAt_of {w : World} {b : Nat} {vs : List Value} (h : ∀ j u, vs[j]? = some u → w.cell? ⟨b, j, none⟩ = some u) (off s : Nat) : w.rangeAt b off ((vs.drop off).take s) := fun j u hu => by
  rw [List.getElem?_take] at hu
  split at hu
  · rw [List.getElem?_drop] at hu; exact h _ _ hu
  · cases hu

theorem load_ok {ρ : Names} {k : ABlk} {w : World} {b cp off : Nat} {t : TypeId} {kd : Option Nat} {x : AV} (h : BR ρ k cp w.heap[b]?) (hk : kindOf P t = some kd) (hx : readA k.cells off kd = some x) :
    ∃ v, (∀ w' : World, w'.heap[b]? = w.heap[b]? → (loadVar t ⟨b, off, none⟩).run P w' = .ok v w') ∧ VR ρ x v := by
  obtain ⟨vs, hv, hc⟩ := h.cell
  cases kd with
  | none =>
    obtain ⟨v, h1, h2⟩ := hv.get off x hx
    exact ⟨v, fun w' he => run_load_one w' t _ v hk (by rw [World.cell?_of_block (w := w) (w' := w') (a := ⟨b, off, none⟩) he]; exact hc off v h1), h2⟩
  | some s =>
    simp only [readA] at hx
    cases hb : Nat.beq ((k.cells.drop off).take s).length s with
    | false => rw [hb] at hx; cases hx
    | true =>
      rw [hb] at hx
      cases hx
      have hl := Nat.eq_of_beq_eq_true hb
      have hvv := (hv.drop off).take s
      have hlen : ((vs.drop off).take s).length = s := by rw [hvv.length]; exact hl
      refine ⟨.agg ((vs.drop off).take s).toArray, fun w' he => ?_, by rw [VR]; exact ⟨_, rfl, hvv⟩⟩
      refine run_load_many w' t b off _ (by rw [hlen]; exact hk) (fun j u hu => ?_)
      rw [World.cell?_of_block (w := w) (w' := w') (a := ⟨b, off + j, none⟩) he]
      exact rangeAt_of hc off s j u hu

theorem part_ok {ρ : Names} {l : List AV} {vs : List Value} {off : Nat} {t : TypeId} {kd : Option Nat} {x : AV} (hv : VRL ρ l vs) (hk : kindOf P t = some kd) (hx : readA l off kd = some x) :
    ∃ v, (∀ w : World, (part t vs.toArray off).run P w = .ok v w) ∧ VR ρ x v := by
  unfold kindOf at hk
  cases kd with
  | none =>
    obtain ⟨v, h1, h2⟩ := hv.get off x hx
    refine ⟨v, fun w => ?_, h2⟩
    split at hk
    · simp at hk
    · simp at hk
    · rename_i d i hns hna hu hi
      have hagg : (isAgg t).run P w = .ok false w := by
        unfold isAgg
        rw [Sem.run_bind, run_underlying hu w]
        cases d <;> simp_all
      simp [part, hagg, h1]
    · cases hk
  | some s =>
    simp only [readA] at hx
    cases hb : Nat.beq ((l.drop off).take s).length s with
    | false => rw [hb] at hx; cases hx
    | true =>
      rw [hb] at hx
      cases hx
      have hvv := (hv.drop off).take s
      refine ⟨.agg ((vs.drop off).take s).toArray, fun w => ?_, by rw [VR]; exact ⟨_, rfl, hvv⟩⟩
      have he : vs.toArray.extract off (off + s) = ((vs.drop off).take s).toArray := by
        apply Array.toList_inj.1
        simp [List.extract_eq_take_drop]
      split at hk
      · rename_i fs i hu hi
        simp only [Option.some.injEq] at hk
        have hagg : (isAgg t).run P w = .ok true w := by unfold isAgg; rw [Sem.run_bind, run_underlying hu w]; simp
        simp [part, hagg, sizeOf, typeInfo, hi, hk, he]
      · rename_i m e i hu hi
        simp only [Option.some.injEq] at hk
        have hagg : (isAgg t).run P w = .ok true w := by unfold isAgg; rw [Sem.run_bind, run_underlying hu w]; simp
        simp [part, hagg, sizeOf, typeInfo, hi, hk, he]
      · split at hk <;> simp at hk
      · cases hk
end
end Go.Ev
