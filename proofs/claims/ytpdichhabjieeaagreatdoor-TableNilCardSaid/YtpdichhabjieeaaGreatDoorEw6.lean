/- The evaluator, sixth part: operations that write or make memory. No statement is proved here. -/
import Derived.Test.YtpdichhabjieeaaGreatDoorEw5
namespace Go.Ev
open Go.RowKit Go.Sx
set_option linter.unusedVariables false
set_option linter.unusedSimpArgs false

/-! ### Cells written into a block -/
theorem setCells_blk {t : TypeId} {fr : Nat × Nat} {b : Nat} : ∀ (vs : List Value) (o : Nat) (w : World) (c : List Value), w.heap[b]? = some (.cells c.toArray t fr) → o + vs.length ≤ c.length →
    (w.setCells b o vs).heap[b]? = some (.cells (c.take o ++ (vs ++ c.drop (o + vs.length))).toArray t fr)
  | [], o, w, c, h, _ => by simp [World.setCells, h]
  | v :: r, o, w, c, h, hl => by
    simp only [List.length_cons] at hl
    have h1 : (w.setCell ⟨b, o, none⟩ v).heap[b]? = some (.cells (c.set o v).toArray t fr) := by
      have hlt := (Array.getElem?_eq_some_iff.1 h).1
      simp [World.setCell, Array.getElem?_modify, h]
    rw [World.setCells, setCells_blk r (o + 1) _ (c.set o v) h1 (by simp; omega)]
    congr 3
    have hlt : o < c.length := by omega
    rw [List.take_set, List.drop_set_of_lt (by omega), List.take_succ_eq_append_getElem hlt, List.set_append_right _ _ (by simp; omega)]
    simp [Nat.min_eq_left (Nat.le_of_lt hlt)]
    omega
theorem setCells_other {b j : Nat} (hj : j ≠ b) : ∀ (vs : List Value) (o : Nat) (w : World), (w.setCells b o vs).heap[j]? = w.heap[j]?
  | [], _, _ => rfl
  | v :: r, o, w => by
    rw [World.setCells, setCells_other hj r]
    simp [World.setCell, Array.getElem?_modify, Ne.symm hj]
theorem setCells_size {b : Nat} : ∀ (vs : List Value) (o : Nat) (w : World), (w.setCells b o vs).heap.size = w.heap.size
  | [], _, _ => rfl
  | v :: r, o, w => by rw [World.setCells, setCells_size r]; simp [World.setCell]

section
variable {P : Program} {tb : Tab} {w0 : World} {n : Nat} {ds : List Deferred}

/-- cells may be written from 'off' on -/
theorem BR.free {ρ : Names} {k : ABlk} {cp b : Nat} {w : World} (h : BR ρ k cp w.heap[b]?) {off m : Nat} (hf : k.frz ≤ off) (hm : off + m ≤ k.cells.length ∨ (k.more = true ∧ off + m ≤ cp * k.es)) :
    (∀ j, j < m → (w.cell? ⟨b, off + j, none⟩).isSome = true) ∧ ∀ j, j < m → w.frozen? ⟨b, off + j, none⟩ = false := by
  rcases h with ⟨_, vs, rest, fr, h1, h2, h3, h4, h5⟩ | ⟨h1, h2, _⟩
  rotate_left
  · have : m = 0 := by
      rcases hm with hm | ⟨hm, _⟩
      · rw [h1] at hm; simp at hm; omega
      · rw [h2] at hm; cases hm
    subst this
    exact ⟨fun j hj => by omega, fun j hj => by omega⟩
  have hl : off + m ≤ (vs ++ rest).length := by
    rcases hm with hm | ⟨hm, hm'⟩
    · have := h2.length; simp; omega
    · rw [h4 hm]; exact hm'
  refine ⟨fun j hj => ?_, fun j hj => ?_⟩
  · rw [cell_of_row w b _ _ _ fr h1]
    simp at hl ⊢; omega
  · have := unfrozen_of h5 (show k.frz ≤ off + j by omega)
    simpa [World.frozen?, h1, unfrozen] using this

theorem BR.write {ρ : Names} {k : ABlk} {cp b : Nat} {w : World} (h : BR ρ k cp w.heap[b]?) {off : Nat} {l : List AV} {us : List Value} (hu : VRL ρ l us) (hm : off ≤ k.cells.length) (hl : off + l.length ≤ k.cells.length ∨ (k.more = true ∧ off + l.length ≤ cp * k.es)) :
    BR ρ { k with cells := k.cells.take off ++ (l ++ k.cells.drop (off + l.length)) } cp (w.setCells b off us).heap[b]? := by
  rcases h with ⟨hkk, vs, rest, fr, h1, h2, h3, h4, h5⟩ | ⟨h1, h2, h3⟩
  rotate_left
  · have hl0 : off + l.length = 0 := by
      rcases hl with hl | ⟨hl, _⟩
      · rw [h1] at hl; simpa using hl
      · rw [h2] at hl; cases hl
    have hl1 : l = [] := List.eq_nil_of_length_eq_zero (by omega)
    subst hl1
    rw [hu.nil]
    exact .inr ⟨by simp [h1], h2, h3⟩
  have e1 := h2.length
  have e2 := hu.length
  have hlen : off + us.length ≤ (vs ++ rest).length := by
    rcases hl with hl | ⟨hl, hl'⟩
    · simp; omega
    · rw [h4 hl]; omega
  have hb := setCells_blk us off w (vs ++ rest) h1 hlen
  refine .inl ⟨hkk, vs.take off ++ (us ++ vs.drop (off + us.length)), rest.drop (off + us.length - vs.length), fr, ?_, (h2.take off).app (hu.app (by rw [← e2]; exact h2.drop _)), fun hq => by rw [h3 hq]; simp, fun hq => ?_, h5⟩
  · rw [hb]
    congr 3
    rw [List.take_append_of_le_length (by omega), List.drop_append]
    simp
  · have := h4 hq
    simp only [List.length_append, List.length_take, List.length_drop] at this hlen ⊢
    rw [← this]
    omega

theorem Post.write {ρ : Names} {H : AH} {w : World} (h : HR w0 ρ H w) {i off : Nat} {b : Nat × Nat} {k : ABlk} {l : List AV} {us : List Value} (hi : H.get i = some k) (hb : ρ[i]? = some b) (hu : VRL ρ l us) (hl : off + l.length ≤ k.cells.length) :
    Post w0 ρ H w ρ (H.put i { k with cells := k.cells.take off ++ (l ++ k.cells.drop (off + l.length)) }) (w.setCells b.1 off us) :=
  Post.put h hi hb (Lib.below_setCells_w (h.rng i b hb).1 us off w) (setCells_size us off w) (fun j hj => setCells_other hj us off w) ((h.at_ hi hb).write hu (by omega) (.inl hl))

/-! ### What an operation comes to -/
inductive AR where
  | val (x : AV)
  | skip
  | enter (f : FuncId) (args : List AV)
def RR (ρ : Names) : AR → Next → Prop
  | .val x, y => ∃ v, y = .value v ∧ VR ρ x v
  | .skip, y => y = .skip
  | .enter f args, y => ∃ vs : List Value, y = .enter f vs.toArray ∧ VRL ρ args vs
def EOk (P : Program) (w0 : World) (ρ : Names) (H : AH) (a : Act) (w : World) (o : Oper) (r : AR) (H' : AH) : Prop :=
  ∃ ρ' w' x, (execOp a.eval o).run P w = .ok x w' ∧ Post w0 ρ H w ρ' H' w' ∧ RR ρ' r x

/-! ### Stores, new variables -/
def storeA (tb : Tab) (E : T AV) (H : AH) (t : TypeId) (x y : Operand) : Option AH :=
  match opnd E x, opnd E y with
  | some (.ptr id off), some v => (match H.get id, cellsA v, sizeA tb t with
    | some k, some l, some s => bif l.all isOne && Nat.beq l.length s && Nat.ble (off + l.length) k.cells.length && Nat.ble k.frz off
      then some (H.put id { k with cells := k.cells.take off ++ (l ++ k.cells.drop (off + l.length)) }) else none
    | _, _, _ => none)
  | _, _ => none
theorem storeA_ok (ok : TOk P tb) {ρ : Names} {E : T AV} {a : Act} {H H' : AH} {w : World} (hF : FR n ds ρ E a) (hH : HR w0 ρ H w) {t : TypeId} {x y : Operand} (h : storeA tb E H t x y = some H') :
    ∃ w', (Instr.storeAt t (a.eval x) (a.eval y)).run P w = .ok () w' ∧ Post w0 ρ H w ρ H' w' := by
  unfold storeA at h
  split at h
  · rename_i id off v hx hy
    split at h
    · rename_i k l s hk hl hs
      cases hq : (l.all isOne && Nat.beq l.length s && Nat.ble (off + l.length) k.cells.length && Nat.ble k.frz off) with
      | false => rw [hq] at h; cases h
      | true =>
        rw [hq] at h
        cases h
        simp only [Bool.and_eq_true, Nat.ble_eq] at hq
        obtain ⟨⟨⟨q1, q2⟩, q3⟩, q4⟩ := hq
        have q2 := Nat.eq_of_beq_eq_true q2
        obtain ⟨inf, hi, hsz⟩ := sizeA_ok ok hs
        have hv := hF.opnd hx
        rw [VR] at hv
        obtain ⟨b, hb, he⟩ := hv
        have hc := VR.cells (hF.opnd hy) hl q1
        have hcl : (a.eval y).cells.size = s := by rw [← Array.length_toList, hc.length]; exact q2
        have hfr := (hH.at_ hk hb).free (m := l.length) q4 (.inl q3)
        refine ⟨_, ?_, Post.write hH hk hb hc q3⟩
        have hst := run_storeCells_cells (P := P) b.1 off (a.eval y).cells.toList 0 w (fun j hj => by rw [hc.length] at hj; simpa using hfr.1 j hj) (fun j hj => by rw [hc.length] at hj; simpa using hfr.2 j hj) (hc.one q1)
        simp only [Nat.add_zero] at hst
        simp [Instr.storeAt, he, Instr.sureAddr, storeVar, sizeOf, typeInfo, hi, hsz, hcl, hst]
    · cases h
  · cases h

def allocA (tb : Tab) (H : AH) (t : TypeId) : Option (AV × AH) :=
  match tb.ty.get t with
  | some i => some (.ptr H.next 0, H.new ⟨plMap i.zero, t, false, 0, 0, .c⟩)
  | none => none
theorem new_ok {ρ : Names} {H : AH} {w : World} (hH : HR w0 ρ H w) {l : List AV} {c : Array Value} (t : TypeId) (hl : VRL ρ l c.toList) :
    ∃ ρ', Post w0 ρ H w ρ' (H.new ⟨l, t, false, 0, 0, .c⟩) (w.alloc (.cells c t)) ∧ ρ'[H.next]? = some (w.heap.size, 0) := by
  have := Post.alloc hH ⟨l, t, false, 0, 0, .c⟩ 0 c.toList [] rfl hl (fun _ => rfl) (fun h => by cases h)
  simp only [List.append_nil, Array.toArray_toList] at this
  exact ⟨_, this⟩
theorem allocA_ok (ok : TOk P tb) {ρ : Names} {H H' : AH} {w : World} (hH : HR w0 ρ H w) {t : TypeId} {x : AV} (h : allocA tb H t = some (x, H')) :
    ∃ ρ' w' v, (Instr.alloc t true (.tuple #[])).run P w = .ok v w' ∧ Post w0 ρ H w ρ' H' w' ∧ VR ρ' x v := by
  unfold allocA at h
  split at h
  · rename_i i hi
    obtain ⟨d, inf, z, hd, hinf, hz, hk, hs, _, hzero⟩ := ok.at_ hi
    cases h
    obtain ⟨ρ', h1, h2⟩ := new_ok hH (c := z.cells) (l := plMap i.zero) t (by rw [hzero]; exact VRL.plMap _)
    refine ⟨ρ', _, .pointer (some ⟨w.heap.size, 0, none⟩), ?_, h1, by rw [VR]; exact ⟨_, h2, rfl⟩⟩
    simp [Instr.alloc, zeroValue, typeInfo, hinf, hz, newVar, newRow]
  · cases h
def boxA (E : T AV) (H : AH) (t : TypeId) (x : Operand) : Option (AV × AH) :=
  match opnd E x with
  | some v => (match cellsA v with
    | some l => bif l.all isOne then some (.ptr H.next 0, H.new ⟨l, t, false, 0, 0, .c⟩) else none
    | none => none)
  | none => none
theorem boxA_ok {ρ : Names} {E : T AV} {a : Act} {H H' : AH} {w : World} (hF : FR n ds ρ E a) (hH : HR w0 ρ H w) {t : TypeId} {x : Operand} {y : AV} (h : boxA E H t x = some (y, H')) :
    ∃ ρ' w' v, (Instr.box t (a.eval x)).run P w = .ok v w' ∧ Post w0 ρ H w ρ' H' w' ∧ VR ρ' y v := by
  unfold boxA at h
  split at h
  · rename_i v hv
    split at h
    · rename_i l hl
      cases hq : l.all isOne with
      | false => rw [hq] at h; cases h
      | true =>
        rw [hq] at h
        cases h
        obtain ⟨ρ', h1, h2⟩ := new_ok hH t (VR.cells (hF.opnd hv) hl hq)
        refine ⟨ρ', _, .pointer (some ⟨w.heap.size, 0, none⟩), ?_, h1, by rw [VR]; exact ⟨_, h2, rfl⟩⟩
        simp [Instr.box, newVar, newRow]
    · cases h
  · cases h

/-! ### New rows -/
def rep (z : List Value) : Nat → List Value
  | 0 => []
  | m + 1 => z ++ rep z m
theorem rep_length (z : List Value) : ∀ m, (rep z m).length = m * z.length
  | 0 => by simp [rep]
  | m + 1 => by simp only [rep, List.length_append, rep_length z m, Nat.add_mul]; omega
theorem rep_get (z : Array Value) : ∀ (m i : Nat), i < m * z.size → (rep z.toList m)[i]? = some (z[i % z.size]!)
  | 0, i, h => by simp at h
  | m + 1, i, h => by
    have hz : 0 < z.size := by
      rcases Nat.eq_zero_or_pos z.size with h0 | h0
      · rw [h0] at h; simp at h
      · exact h0
    rw [rep]
    by_cases hi : i < z.size
    · rw [List.getElem?_append_left (by simpa using hi), Nat.mod_eq_of_lt hi]
      simp [hi]
    · rw [List.getElem?_append_right (by simp; omega)]
      simp only [Array.length_toList]
      rw [rep_get z m (i - z.size) (by rw [Nat.add_mul] at h; omega)]
      rw [← Nat.mod_eq_sub_mod (by omega)]
theorem rep_ok (z : Array Value) (m : Nat) : (Array.range (m * z.size)).map (z[· % z.size]!) = (rep z.toList m).toArray := by
  apply Array.toList_inj.1
  apply List.ext_getElem?
  intro i
  by_cases hi : i < m * z.size
  · rw [rep_get z m i hi]
    simp [hi]
  · rw [List.getElem?_eq_none (by simp; omega), List.getElem?_eq_none (by simp [rep_length]; omega)]

def buildSliceA (tb : Tab) (E : T AV) (H : AH) (t : TypeId) (len : Nat) (ps : List (Nat × Operand)) : Option (AV × AH) :=
  match slA tb t, partsA E ps with
  | some (e, s), some parts => (match tb.ty.get e with
    | some i => bif Nat.beq i.zero.length s && Nat.blt 0 s && Nat.ble (len * s) 16777216 && Nat.ble len 4611686018427387904 then
      (match fillA (fun j => some (j * s, s)) (plMap (rep i.zero len)) parts with
       | some c => some (.sl H.next 0 len (.k len), H.new ⟨c, e, false, 0, 0, .c⟩)
       | none => none) else none
    | none => none)
  | _, _ => none
theorem buildSliceA_ok (ok : TOk P tb) {ρ : Names} {E : T AV} {a : Act} {H H' : AH} {w : World} (hF : FR n ds ρ E a) (hH : HR w0 ρ H w) {t : TypeId} {len : Nat} {ps : Array (Nat × Operand)} {y : AV} (h : buildSliceA tb E H t len ps.toList = some (y, H')) :
    ∃ ρ' w' v, (Instr.buildSlice t len (ps.map fun (i, x) => (i, a.eval x))).run P w = .ok v w' ∧ Post w0 ρ H w ρ' H' w' ∧ VR ρ' y v := by
  unfold buildSliceA at h
  split at h
  · rename_i e s parts hs hp
    obtain ⟨hT, inf', hinf', hsz⟩ := slA_ok ok hs
    obtain ⟨p1, p2⟩ := parts_ok hF hp
    have hlist : (ps.map fun (x : Nat × Operand) => match x with | (i, x) => (i, a.eval x)).toList = ps.toList.map fun x => (x.1, a.eval x.2) := by simp
    split at h
    · rename_i i hi
      obtain ⟨d, inf, z, hd, hinf, hz, hk, hs', _, hzero⟩ := ok.at_ hi
      rw [hinf] at hinf'; cases hinf'
      cases hq : (Nat.beq i.zero.length s && Nat.blt 0 s && Nat.ble (len * s) 16777216 && Nat.ble len 4611686018427387904) with
      | false => rw [hq] at h; cases h
      | true =>
        rw [hq] at h
        simp only [Bool.and_eq_true, Nat.ble_eq, Nat.blt_eq] at hq
        obtain ⟨⟨⟨q1, q2⟩, q3⟩, q4⟩ := hq
        have q1 := Nat.eq_of_beq_eq_true q1
        simp only [cond_true] at h
        split at h
        · rename_i c hc
          cases h
          have hzs : z.cells.size = s := by rw [← Array.length_toList, ← hzero]; exact q1
          rw [hzero] at hc
          obtain ⟨cs', h3, h4⟩ := fill_ok hc (VRL.plMap _) p1 p2
          obtain ⟨ρ', h5, h6⟩ := new_ok hH e h4
          refine ⟨ρ', _, .slice (some ⟨w.heap.size, 0, none⟩) len len, ?_, h5, by rw [VR]; exact ⟨_, len, h6, rfl, Nat.le_refl _, by simp only [maxLen]; omega, rfl⟩⟩
          have hzv : (zeroValue e).run P w = .ok z w := by simp [zeroValue, typeInfo, hinf, hz]
          have hso : (sizeOf e).run P w = .ok s w := by simp [sizeOf, typeInfo, hinf, hsz]
          have hrep := rep_ok z.cells len
          rw [hzs] at hrep
          have hrep' : (Array.range (len * s)).map (fun x => z.cells[x % s]!) = (rep z.cells.toList len).toArray := hrep
          by_cases hz0 : len * s = 0
          · have hl0 : len = 0 := by rcases Nat.mul_eq_zero.1 hz0 with h | h <;> omega
            subst hl0
            have hre : (rep z.cells.toList 0).toArray = #[] := rfl
            rw [hre] at h3
            simp only [Instr.buildSlice, Sem.run_bind, run_underlying hT, Result.andThen_ok, hso, Nat.zero_mul, gt_iff_lt, Nat.not_lt_zero, if_false, if_true, Sem.run_pure, hlist]
            rw [show Array.range 0 = #[] from rfl, Array.map_empty, h3]
            simp [newRow]
          · simp only [Instr.buildSlice, Sem.run_bind, run_underlying hT, Result.andThen_ok, hso, gt_iff_lt, show ¬ (2 ^ 24 < len * s) by omega, if_false, Sem.run_pure, hz0, hzv, hlist, hzs, hrep']
            simp [h3, newRow]
        · cases h
    · cases h
  · cases h

def makeSliceA (tb : Tab) (E : T AV) (H : AH) (t : TypeId) (l c : Operand) : Option (AV × AH) :=
  match slA tb t, pv E l, pv E c with
  | some (e, s), some vl, some vc => (match tb.ty.get e, natV vl, natV vc with
    | some i, some ln, some cp => bif Nat.beq i.zero.length s && Nat.ble ln cp && Nat.ble (cp * s) 16777216 && Nat.ble (i.bytes * cp) 281474976710656 && Nat.ble cp 4611686018427387904 then
        some (.sl H.next 0 ln (.k cp), H.new ⟨plMap (rep i.zero cp), e, false, 0, 0, .c⟩) else none
    | _, _, _ => none)
  | _, _, _ => none
theorem makeSliceA_ok (ok : TOk P tb) {ρ : Names} {E : T AV} {a : Act} {H H' : AH} {w : World} (hF : FR n ds ρ E a) (hH : HR w0 ρ H w) {t : TypeId} {l c : Operand} {y : AV} (h : makeSliceA tb E H t l c = some (y, H')) :
    ∃ ρ' w' v, (Instr.makeSlice t (a.eval l) (a.eval c)).run P w = .ok v w' ∧ Post w0 ρ H w ρ' H' w' ∧ VR ρ' y v := by
  unfold makeSliceA at h
  split at h
  · rename_i e s vl vc hs hvl hvc
    obtain ⟨hT, inf', hinf', hsz⟩ := slA_ok ok hs
    split at h
    · rename_i i ln cp hi hl hc
      obtain ⟨d, inf, z, hd, hinf, hz, hk, hs', hby, hzero⟩ := ok.at_ hi
      obtain rfl : inf = inf' := by rw [hinf] at hinf'; exact Option.some.inj hinf'
      obtain ⟨kl, rfl⟩ := natV_ok hl
      obtain ⟨kc, rfl⟩ := natV_ok hc
      cases hq : (Nat.beq i.zero.length s && Nat.ble ln cp && Nat.ble (cp * s) 16777216 && Nat.ble (i.bytes * cp) 281474976710656 && Nat.ble cp 4611686018427387904) with
      | false => rw [hq] at h; cases h
      | true =>
        rw [hq] at h
        simp only [Bool.and_eq_true, Nat.ble_eq] at hq
        obtain ⟨⟨⟨⟨q1, q2⟩, q3⟩, q4⟩, q5⟩ := hq
        have q1 := Nat.eq_of_beq_eq_true q1
        cases h
        have hzs : z.cells.size = inf.size := by rw [← Array.length_toList, ← hzero, hsz]; exact q1
        have hrun := run_makeSlice (P := P) w t e inf z hT hinf hz kl kc (ln : Int) (cp : Int) (by omega) (by omega) (by rw [hsz, Int.toNat_natCast]; exact q3) (by rw [← hby]; have q4' := Int.ofNat_le.2 q4; rw [Int.natCast_mul] at q4'; exact q4') (by omega)
        have hmc : madeCells z.cells ((cp : Int).toNat * inf.size) = (rep z.cells.toList cp).toArray := by
          rw [← hzs]; exact rep_ok z.cells cp
        rw [hmc] at hrun
        obtain ⟨ρ', h5, h6⟩ := new_ok hH (c := (rep z.cells.toList cp).toArray) (l := plMap (rep i.zero cp)) e (by rw [hzero]; exact VRL.plMap _)
        refine ⟨ρ', _, .slice (some ⟨w.heap.size, 0, none⟩) ln cp, ?_, h5, by rw [VR]; exact ⟨_, cp, h6, rfl, q2, by simp only [maxLen]; omega, rfl⟩⟩
        rw [hF.pv hvl, hF.pv hvc]
        simpa using hrun
    · cases h
  · cases h
end
end Go.Ev
