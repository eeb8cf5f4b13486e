/- The evaluator, fourth part: built values; all operations that read at the most. No statement is proved here. -/
import Derived.Test.YtpdichhabjieeaaGreatDoorEw3
namespace Go.Ev
open Go.RowKit Go.Sx
set_option linter.unusedVariables false
set_option linter.unusedSimpArgs false

/-! ### Values that are built out of parts -/
def fillA (pl : Nat → Option (Nat × Nat)) : List AV → List (Nat × AV) → Option (List AV)
  | c, [] => some c
  | c, (i, x) :: r => (match pl i, cellsA x with
    | some (off, s), some l => bif Nat.beq l.length s && Nat.ble (off + s) c.length && l.all isOne then fillA pl (c.take off ++ (l ++ c.drop (off + s))) r else none
    | _, _ => none)

theorem foldl_set : ∀ (vs : List Value) (k off : Nat) (cs : Array Value), off + k + vs.length ≤ cs.size →
    ((vs.zipIdx k).foldl (fun (cs : Array Value) (p : Value × Nat) => cs.setIfInBounds (off + p.2) p.1) cs).toList = cs.toList.take (off + k) ++ (vs ++ cs.toList.drop (off + k + vs.length))
  | [], k, off, cs, h => by simp
  | v :: r, k, off, cs, h => by
    simp only [List.zipIdx_cons, List.foldl_cons]
    simp only [List.length_cons] at h
    rw [foldl_set r (k + 1) off _ (by simp; omega)]
    simp only [Array.toList_setIfInBounds, List.length_cons]
    have hlt : off + k < cs.toList.length := by simp; omega
    rw [show off + (k + 1) = off + k + 1 by omega, show off + k + 1 + r.length = off + k + (r.length + 1) by omega]
    rw [List.take_set, List.drop_set_of_lt (by omega), List.take_succ_eq_append_getElem hlt]
    rw [List.set_append_right _ _ (by simp; omega)]
    simp [Nat.min_eq_left (Nat.le_of_lt (by simpa using hlt))]

theorem fill_ok {ρ : Names} {pl : Nat → Option (Nat × Nat)} : ∀ {parts : List (Nat × AV)} {vp : List (Nat × Value)} {c c' : List AV} {cs : List Value}, fillA pl c parts = some c' → VRL ρ c cs →
    parts.map (·.1) = vp.map (·.1) → VRL ρ (parts.map (·.2)) (vp.map (·.2)) → ∃ cs', Instr.fill pl cs.toArray vp = some cs' ∧ VRL ρ c' cs'.toList
  | [], vp, c, c', cs, h, hc, h1, h2 => by
    cases vp with
    | nil => cases h; exact ⟨_, rfl, by simpa using hc⟩
    | cons p r => simp at h1
  | (i, x) :: r, vp, c, c', cs, h, hc, h1, h2 => by
    cases vp with
    | nil => simp at h1
    | cons p vr =>
      obtain ⟨j, v⟩ := p
      simp only [List.map_cons, List.cons.injEq] at h1
      obtain ⟨rfl, h1⟩ := h1
      obtain ⟨v', r', he, hv, hr⟩ := h2.cons
      simp only [List.map_cons, List.cons.injEq] at he
      obtain ⟨rfl, rfl⟩ := he
      simp only [fillA] at h
      split at h
      · rename_i off s l hp hl
        cases hq : (Nat.beq l.length s && Nat.ble (off + s) c.length && l.all isOne) with
        | false => rw [hq] at h; cases h
        | true =>
          rw [hq] at h
          simp only [Bool.and_eq_true, Nat.ble_eq] at hq
          obtain ⟨⟨e1, e2⟩, e3⟩ := hq
          have e1 := Nat.eq_of_beq_eq_true e1
          have hcl := VR.cells hv hl e3
          have hsz : v.cells.size = s := by rw [← Array.length_toList, hcl.length]; exact e1
          have hcs : cs.length = c.length := hc.length
          have hfold : (v.cells.zipIdx.foldl (fun (cs : Array Value) (x : Value × Nat) => match x with | (c, j) => cs.setIfInBounds (off + j) c) cs.toArray).toList = cs.take off ++ (v.cells.toList ++ cs.drop (off + s)) := by
            rw [← Array.foldl_toList, Array.toList_zipIdx]
            have := foldl_set v.cells.toList 0 off cs.toArray (by simp; omega)
            simp only [Nat.add_zero, Array.length_toList, hsz] at this
            simpa using this
          obtain ⟨cs', h3, h4⟩ := fill_ok (ρ := ρ) (pl := pl) (parts := r) (vp := vr) (cs := cs.take off ++ (v.cells.toList ++ cs.drop (off + s))) h ((hc.take off).app (hcl.app (hc.drop (off + s)))) h1 hr
          refine ⟨cs', ?_, h4⟩
          simp only [Instr.fill, hp]
          rw [if_neg (by simp [hsz]; omega), ← h3]
          congr 1
          apply Array.toList_inj.1
          simpa using hfold
      · cases h

def placesA (tb : Tab) : List (Nat × Nat) → Option (List (Nat × Nat))
  | [] => some []
  | (o, t) :: r => match sizeA tb t, placesA tb r with | some s, some l => some ((o, s) :: l) | _, _ => none

section
variable {P : Program} {tb : Tab} {w0 : World} {n : Nat} {ds : List Deferred}

def fsz (f : Field) : Sem (Nat × Nat) := do pure (f.offset, ← sizeOf f.type)
theorem places_ok (ok : TOk P tb) (w : World) : ∀ {fs : List Field} {l : List (Nat × Nat)}, placesA tb (fs.map fun f => (f.offset, f.type)) = some l →
    (fs.mapM fsz).run P w = .ok l w
  | [], l, h => by cases h; simp
  | f :: fs, l, h => by
    simp only [List.map_cons, placesA] at h
    split at h
    · rename_i s l' h1 h2
      cases h
      obtain ⟨inf, hi, hs⟩ := sizeA_ok ok h1
      have := places_ok ok w h2
      have hf : (fsz f).run P w = .ok (f.offset, s) w := by simp [fsz, sizeOf, typeInfo, hi, hs]
      rw [List.mapM_cons, Sem.run_bind, hf, Result.andThen_ok, Sem.run_bind, this, Result.andThen_ok, Sem.run_pure]
    · cases h

def partsA (E : T AV) : List (Nat × Operand) → Option (List (Nat × AV))
  | [] => some []
  | (i, x) :: r => match opnd E x, partsA E r with | some y, some l => some ((i, y) :: l) | _, _ => none
theorem parts_ok {ρ : Names} {E : T AV} {a : Act} (h : FR n ds ρ E a) : ∀ {ps : List (Nat × Operand)} {l : List (Nat × AV)}, partsA E ps = some l →
    l.map (·.1) = (ps.map fun x => (x.1, a.eval x.2)).map (·.1) ∧ VRL ρ (l.map (·.2)) ((ps.map fun x => (x.1, a.eval x.2)).map (·.2))
  | [], l, hl => by cases hl; exact ⟨rfl, VRL.mk0⟩
  | (i, x) :: r, l, hl => by
    simp only [partsA] at hl
    split at hl
    · rename_i y l' h1 h2
      cases hl
      obtain ⟨h3, h4⟩ := parts_ok h h2
      exact ⟨by simp only [List.map_cons, h3], VRL.mk (h.opnd h1) h4⟩
    · cases hl

def buildA (tb : Tab) (E : T AV) (t : TypeId) (ps : List (Nat × Operand)) : Option AV :=
  match tb.ty.get t, partsA E ps with
  | some i, some parts => (match i.k with
    | .st fs => (match placesA tb fs with
      | some pl => (match fillA (fun j => pl[j]?) (plMap i.zero) parts with | some c => some (.agg c) | none => none)
      | none => none)
    | .ar _ e => (match sizeA tb e with
      | some s => (match fillA (fun j => some (j * s, s)) (plMap i.zero) parts with | some c => some (.agg c) | none => none)
      | none => none)
    | _ => none)
  | _, _ => none
theorem buildA_ok (ok : TOk P tb) {ρ : Names} {E : T AV} {a : Act} (hF : FR n ds ρ E a) {t : TypeId} {ps : Array (Nat × Operand)} {x : AV} (h : buildA tb E t ps.toList = some x) :
    ∃ r, VR ρ x r ∧ ∀ w, (Instr.build t (ps.map fun (i, x) => (i, a.eval x))).run P w = .ok r w := by
  unfold buildA at h
  split at h
  · rename_i i parts hi hp
    obtain ⟨d, inf, z, hd, hinf, hz, hk, hs, _, hzero⟩ := ok.at_ hi
    obtain ⟨p1, p2⟩ := parts_ok hF hp
    have hlist : (ps.map fun (x : Nat × Operand) => match x with | (i, x) => (i, a.eval x)).toList = ps.toList.map fun x => (x.1, a.eval x.2) := by simp
    rw [hk] at h
    cases d <;> simp only [kindT] at h <;> try (cases h; done)
    · rename_i m e
      split at h
      · rename_i s hs'
        obtain ⟨inf', hi', hsz⟩ := sizeA_ok ok hs'
        split at h
        · rename_i c hc
          cases h
          rw [hzero] at hc
          obtain ⟨cs', h3, h4⟩ := fill_ok hc (VRL.plMap _) p1 p2
          refine ⟨.agg cs', by rw [VR]; exact ⟨cs'.toList, by simp, h4⟩, fun w => ?_⟩
          simp only [Array.toArray_toList] at h3
          simp only [Instr.build, Sem.run_bind, zeroValue, typeInfo, program, Sem.run, Result.andThen_ok, hinf, hz, Sem.run_pure, run_underlying hd, sizeOf, hi', hsz, hlist, h3]
        · cases h
      · cases h
    · rename_i fs
      split at h
      · rename_i pl hpl
        split at h
        · rename_i c hc
          cases h
          rw [hzero] at hc
          obtain ⟨cs', h3, h4⟩ := fill_ok hc (VRL.plMap _) p1 p2
          refine ⟨.agg cs', by rw [VR]; exact ⟨cs'.toList, by simp, h4⟩, fun w => ?_⟩
          simp only [Array.toArray_toList] at h3
          have hpr := places_ok ok w hpl
          have hmap : (fs.mapM (fun f => (do pure (f.offset, ← sizeOf f.type) : Sem (Nat × Nat)))).run P w = .ok pl.toArray w := by
            show (fs.mapM fsz).run P w = .ok pl.toArray w
            rw [Array.mapM_eq_mapM_toList, map_eq_pure_bind, Sem.run_bind, hpr, Result.andThen_ok, Sem.run_pure]
          have hzv : (zeroValue t).run P w = .ok z w := by simp [zeroValue, typeInfo, hinf, hz]
          simp only [Instr.build, Sem.run_bind, hzv, Result.andThen_ok, run_underlying hd, hlist, hmap, List.getElem?_toArray, h3, Sem.run_pure]
        · cases h
      · cases h
  · cases h
end
end Go.Ev
