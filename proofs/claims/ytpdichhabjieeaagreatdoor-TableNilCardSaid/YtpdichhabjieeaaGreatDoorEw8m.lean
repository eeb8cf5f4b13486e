/- The evaluator, a part behind the eighth: maps that are written, copies, iterators, rounds. No statement is proved here. -/
import Derived.Test.YtpdichhabjieeaaGreatDoorEw8
import Derived.RangeFuncLeaves
import Derived.RangeFuncRecord
namespace Go.Ev
open Go.RowKit Go.Sx
set_option linter.unusedVariables false
set_option linter.unusedSimpArgs false

section
variable {P : Program} {tb : Tab} {w0 : World} {n : Nat} {ds : List Deferred}

def obj (k : BK) : ABlk := ⟨[], 0, false, 0, 0, k⟩
def setE : List (AV × AV × Nat) → Nat → Value → AV → List (AV × AV × Nat)
  | [], _, _, _ => []
  | (_, _, b) :: r, 0, k, v => (.pl k, v, b) :: r
  | e :: r, i + 1, k, v => e :: setE r i k v
def mapUpdA (tb : Tab) (H : AH) (mt : TypeId) (x : AV) (kv : Value) (v : AV) : Option AH :=
  match x with
  | .mp id => (match H.get id with
    | some k => (match k.k, tkA tb mt with
      | .m es cl, .mp kt _ => (match descA (tkA tb kt) with
        | some d => (match findA d kv es 0 with
          | some (some (i, _)) => some (H.put id (obj (.m (setE es i kv v) cl)))
          | some none => some (H.put id (obj (.m (es ++ [(.pl kv, v, cl)]) (cl + 1))))
          | none => none)
        | none => none)
      | _, _ => none)
    | none => none)
  | _ => none
def makeMapA (tb : Tab) (E : T AV) (H : AH) (t : TypeId) (r : Option Operand) : Option (AV × AH) :=
  match r with
  | none => some (.mp H.next, H.new (obj (.m [] 0)))
  | some x => (match tkA tb t, pv E x with
    | .mp _ _, some (.int _ _) => some (.mp H.next, H.new (obj (.m [] 0)))
    | _, _ => none)
def eraseE : List (AV × AV × Nat) → Nat → List (AV × AV × Nat)
  | [], _ => []
  | _ :: r, 0 => r
  | e :: r, i + 1 => e :: eraseE r i
def deleteA (tb : Tab) (H : AH) (mt : TypeId) (x : AV) (kv : Value) : Option AH :=
  match x with
  | .mp id => (match H.get id with
    | some k => (match k.k, tkA tb mt with
      | .m es cl, .mp kt _ => (match descA (tkA tb kt) with
        | some d => (match findA d kv es 0 with
          | some (some (i, _)) => some (H.put id (obj (.m (eraseE es i) cl)))
          | some none => some (H.put id (obj (.m es cl)))
          | none => none)
        | none => none)
      | _, _ => none)
    | none => none)
  | _ => none
/-- copy(dst, src) -/
def cutA : AV → Nat → AV
  | .sl id off m c, len => .sl id off (min m len) c
  | x, _ => x
def copyA (tb : Tab) (H : AH) (t ts : TypeId) (d x : AV) : Option (AV × AH) :=
  match slA tb t with
  | some (e, es) => (match d with
    | .sl id off len _ => (match srcA tb H es ts (cutA x len), H.get id with
      | some (q, c), some k => bif Nat.ble q len && Nat.ble (off + c.length) k.cells.length && Nat.ble k.frz off then
          some (.pl (.int .i64 (q : Int)), H.put id { k with cells := k.cells.take off ++ (c ++ k.cells.drop (off + c.length)) }) else none
      | _, _ => none)
    | _ => none)
  | none => none
def clearA (tb : Tab) (H : AH) (t : TypeId) (x : AV) : Option AH :=
  match x with
  | .sl id off len _ => (match slA tb t with
    | some (e, es) => (match len with
      | 0 => some H
      | len => (match tb.ty.get e, H.get id with
        | some i, some k => let c := plMap (rep i.zero len)
          bif c.all isOne && Nat.ble (off + c.length) k.cells.length && Nat.ble k.frz off then
            some (H.put id { k with cells := k.cells.take off ++ (c ++ k.cells.drop (off + c.length)) }) else none
        | _, _ => none))
    | none => none)
  | .pl (.slice none _ _) => (match slA tb t with | some _ => some H | none => none)
  | .mp id => (match H.get id, tkA tb t with
    | some k, .mp _ _ => (match k.k with
      | .m _ cl => some (H.put id (obj (.m [] cl)))
      | _ => none)
    | _, _ => none)
  | _ => none
def rangeA (tb : Tab) (H : AH) (t : TypeId) (x : AV) : Option (AV × AH) :=
  match x with
  | .pl (.string s) => bif isStr tb t then some (.ptr H.next 0, H.new (obj (.it s 0))) else none
  | _ => none
def nextA (H : AH) (x : AV) : Option (AV × AH) :=
  match x with
  | .ptr id 0 => (match H.get id with
    | some k => (match k.k with
      | .it s pos => bif Nat.blt pos s.size then
          (let c := Utf8.decode s pos
           some (.tup [.pl (.bool true), .pl (.int .i64 (pos : Int)), .pl (.int .i32 (c.1 : Int))], H.put id (obj (.it s (pos + c.2)))))
          else some (.tup [.pl (.bool false)], H)
      | _ => none)
    | none => none)
  | _ => none
/-- the round that a yield begins: its loop, the frame -/
def setArgs : T AV → List Nat → List AV → Option (T AV)
  | E, [], [] => some E
  | E, p :: ps, x :: xs => setArgs (E.set p (some x)) ps xs
  | _, _, _ => none
def yieldA (H : AH) (x : AV) (args : List AV) : Option (Nat × Nat × T AV × Code × Code) :=
  match x with
  | .yl id => (match H.get id with
    | some k => (match k.k with
      | .lp _ _ n E ps ag bd _ => bif ps.toList.all (fun p => Nat.blt p n) then (match setArgs E ps.toList args with
        | some E' => some (id, n, E', ag, bd)
        | none => none) else none
      | _ => none)
    | none => none)
  | _ => none
inductive AR2 where
  | val (x : AV)
  | skip
  | enter (f : FuncId) (args : List AV)
  | round (id n : Nat) (E : T AV) (ag bd : Code)
def execF (P : Program) (tb : Tab) (E : T AV) (H : AH) (o : Oper) : Option (AR2 × AH) :=
  match o.op with
  | .makeMap t r => (match makeMapA tb E H t r with | some (x, H') => some (.val x, H') | none => none)
  | .mapUpdate t m k x | .insert t m k x => (match opnd E m, pv E k, opnd E x with
    | some y, some kv, some v => (match mapUpdA tb H t y kv v with | some H' => some (.skip, H') | none => none)
    | _, _, _ => none)
  | .range t x => (match opnd E x with
    | some y => (match rangeA tb H t y with | some (z, H') => some (.val z, H') | none => none)
    | none => none)
  | .next x true => (match opnd E x with
    | some y => (match nextA H y with | some (z, H') => some (.val z, H') | none => none)
    | none => none)
  | .call c => (match c.callee, c.args.toList, c.argTypes.toList with
    | .builtin .copy, [d, x], [t, ts] => (match opnd E d, opnd E x with
      | some y, some z => (match copyA tb H t ts y z with | some (v, H') => some (.val v, H') | none => none)
      | _, _ => none)
    | .builtin .clear, [x], [t] => (match opnd E x with
      | some y => (match clearA tb H t y with | some H' => some (.val (.tup []), H') | none => none)
      | none => none)
    | .builtin .delete, [m, k], t :: _ => (match opnd E m, pv E k with
      | some y, some kv => (match deleteA tb H t y kv with | some H' => some (.val (.tup []), H') | none => none)
      | _, _ => none)
    | .value f, args, _ => (match opnd E f, opnds E args with
      | some x, some l => (match yieldA H x l with
        | some (id, n, E', ag, bd) => some (.round id n E' ag bd, H)
        | none => none)
      | _, _ => none)
    | _, _, _ => none)
  | _ => none
theorem Post.putObj {ρ : Names} {H : AH} {w : World} (h : HR w0 ρ H w) {i : Nat} {b : Nat × Nat} {k k' : ABlk} (o : Obj) (hi : H.get i = some k) (hb : ρ[i]? = some b) (hB : BR ρ k' b.2 (some o)) : Post w0 ρ H w ρ (H.put i k') (w.putObj b.1 o) := by
  have hr := h.rng i b hb
  refine Post.put h hi hb ⟨rfl, rfl, rfl, by simp, fun j hj => World.putObj_heap_other (by omega)⟩ (by simp) (fun j hj => World.putObj_heap_other hj) ?_
  rw [World.putObj_heap_same hr.2]; exact hB
theorem run_setMap {w : World} {r cl : Nat} {es : Array MapEntry} (h : w.heap[r]? = some (.map es cl)) (o : Obj) : (setObj r o).run P w = .ok () (w.putObj r o) := by
  simp [setObj, Sem.run, h, World.putObj]
theorem run_setIt {w : World} {r p : Nat} {s : ByteArray} (h : w.heap[r]? = some (.stringIter s p)) (o : Obj) : (setObj r o).run P w = .ok () (w.putObj r o) := by
  simp [setObj, Sem.run, h, World.putObj]
theorem run_newObj (o : Obj) (w : World) : (newObj o).run P w = .ok w.heap.size (w.alloc o) := by simp [newObj, Sem.run]
theorem BR.obj {ρ : Names} {k : BK} {cp : Nat} {o : Option Obj} (h : BO ρ k o) : BR ρ (obj k) cp o := .inr ⟨rfl, rfl, h⟩
theorem makeMapA_ok (ok : TOk P tb) {ρ : Names} {E : T AV} {a : Act} {H H' : AH} {w : World} (hF : FR n ds ρ E a) (hH : HR w0 ρ H w) {t : TypeId} {r : Option Operand} {x : AV} (h : makeMapA tb E H t r = some (x, H')) :
    ∃ ρ' w' v, (Instr.makeMap t (r.map a.eval)).run P w = .ok v w' ∧ Post w0 ρ H w ρ' H' w' ∧ VR ρ' x v := by
  have key := Post.allocG hH (obj (.m [] 0)) 0 (.map #[] 0) (BR.obj ⟨[], rfl, rfl⟩)
  have hx : x = .mp H.next ∧ H' = H.new (obj (.m [] 0)) ∧ (Instr.makeMap t (r.map a.eval)).run P w = .ok (.map (some w.heap.size)) (w.alloc (.map #[] 0)) := by
    unfold makeMapA at h
    cases r with
    | none => cases h; exact ⟨rfl, rfl, by simp [Instr.makeMap, run_newObj]⟩
    | some y =>
      simp only at h
      split at h <;> try (cases h; done)
      rename_i k i hT hv
      cases h
      have hu := mapT_ok ok hT
      have he := hF.pv hv
      exact ⟨rfl, rfl, by simp [Instr.makeMap, run_underlying hu, he, asInt, asIntOf, run_newObj]⟩
  obtain ⟨rfl, rfl, hr⟩ := hx
  exact ⟨_, _, _, hr, key.1, by rw [VR]; exact ⟨_, key.2, rfl⟩⟩

theorem ER.get {ρ : Names} : ∀ {l : List (AV × AV × Nat)} {en : List MapEntry} {i : Nat} {e : MapEntry}, ER ρ l en → en[i]? = some e → ∃ p : AV × AV × Nat, l[i]? = some p ∧ VR ρ p.1 e.key ∧ VR ρ p.2.1 e.val ∧ e.born = p.2.2
  | [], en, i, e, h, hi => by rw [show en = [] from h] at hi; simp at hi
  | (k, v, b) :: r, _, 0, e, h, hi => by
    obtain ⟨e', es, rfl, h1, h2, h3, h4⟩ := h
    simp at hi; subst hi
    exact ⟨_, rfl, h1, h2, h3⟩
  | (k, v, b) :: r, _, i + 1, e, h, hi => by
    obtain ⟨e', es, rfl, h1, h2, h3, h4⟩ := h
    simpa using ER.get h4 (by simpa using hi)
theorem ER.set {ρ : Names} {kv : Value} {v : AV} {u : Value} (hv : VR ρ v u) : ∀ {l : List (AV × AV × Nat)} {en : List MapEntry} (i : Nat), ER ρ l en → ER ρ (setE l i kv v) (en.modify i fun e => { e with key := kv, val := u })
  | [], en, i, h => by rw [show en = [] from h]; cases i <;> simp [setE] <;> rfl
  | (k, x, b) :: r, _, 0, h => by
    obtain ⟨e', es, rfl, h1, h2, h3, h4⟩ := h
    exact ⟨{ e' with key := kv, val := u }, es, by simp, VR.pl, hv, h3, h4⟩
  | (k, x, b) :: r, _, i + 1, h => by
    obtain ⟨e', es, rfl, h1, h2, h3, h4⟩ := h
    exact ⟨e', _, by simp only [List.modify_succ_cons], h1, h2, h3, ER.set hv i h4⟩
theorem ER.app {ρ : Names} : ∀ {l m : List (AV × AV × Nat)} {en fn : List MapEntry}, ER ρ l en → ER ρ m fn → ER ρ (l ++ m) (en ++ fn)
  | [], _, en, _, h, hm => by rw [show en = [] from h]; exact hm
  | (k, x, b) :: r, _, _, _, h, hm => by
    obtain ⟨e', es, rfl, h1, h2, h3, h4⟩ := h
    exact ⟨e', _, rfl, h1, h2, h3, ER.app h4 hm⟩
theorem ER.erase {ρ : Names} : ∀ {l : List (AV × AV × Nat)} {en : List MapEntry} (i : Nat), ER ρ l en → ER ρ (eraseE l i) (en.eraseIdx i)
  | [], en, i, h => by rw [show en = [] from h]; cases i <;> simp [eraseE] <;> rfl
  | (k, x, b) :: r, _, 0, h => by
    obtain ⟨e', es, rfl, h1, h2, h3, h4⟩ := h
    simpa [eraseE] using h4
  | (k, x, b) :: r, _, i + 1, h => by
    obtain ⟨e', es, rfl, h1, h2, h3, h4⟩ := h
    exact ⟨e', _, by simp only [List.eraseIdx_cons_succ], h1, h2, h3, ER.erase i h4⟩
theorem findNow_at {d : TypeDesc} {k : Value} : ∀ {en : List MapEntry} {i j : Nat} {v : Value}, Instr.findNow d k en i = some (some (j, v)) → ∃ e, i ≤ j ∧ en[j - i]? = some e ∧ Instr.sameNow d k e.key = some true
  | [], i, j, v, h => by simp [Instr.findNow] at h
  | e :: en, i, j, v, h => by
    simp only [Instr.findNow] at h
    split at h
    · rename_i hs
      cases h
      exact ⟨e, Nat.le_refl _, by simp, hs⟩
    · obtain ⟨e', h1, h2, h3⟩ := findNow_at h
      refine ⟨e', by omega, ?_, h3⟩
      rw [show j - i = (j - (i + 1)) + 1 by omega]
      simpa using h2
    · cases h
theorem bytes_of_beq {a b : ByteArray} (h : (a == b) = true) : a = b := by
  obtain ⟨x⟩ := a
  obtain ⟨y⟩ := b
  have : (x == y) = true := h
  rw [show x = y by simpa using this]
theorem bytes_beq_self (a : ByteArray) : (a == a) = true := by
  obtain ⟨x⟩ := a
  have : (x == x) = true := by simp
  exact this
theorem same_bits {d : TypeDesc} {k u : Value} (h : Instr.sameNow d k u = some true) : Instr.sameBits 10000 u k = true := by
  refine (show ∀ m, Instr.sameBits m u k = true from fun m => ?_) 10000
  unfold Instr.sameNow at h
  split at h
  · split at h
    · rename_i hk
      subst hk
      simp at h
      subst h
      cases m <;> simp [Instr.sameBits]
    · cases h
  · simp only [Option.some.injEq] at h
    rw [bytes_of_beq h]
    cases m <;> simp [Instr.sameBits, bytes_beq_self]
  · simp at h
    subst h
    cases m <;> simp [Instr.sameBits]
  · cases h
theorem mapUpdA_ok (ok : TOk P tb) {ρ : Names} {H H' : AH} {w : World} (hH : HR w0 ρ H w) {mt : TypeId} {x v : AV} {kv : Value} {m u : Value} (h : mapUpdA tb H mt x kv v = some H') (hx : VR ρ x m) (hv : VR ρ v u) :
    ∃ w', (Instr.mapUpdate mt m kv u).run P w = .ok () w' ∧ Post w0 ρ H w ρ H' w' := by
  unfold mapUpdA at h
  split at h <;> try (cases h; done)
  rename_i id
  split at h <;> try (cases h; done)
  rename_i k hk
  split at h <;> try (cases h; done)
  rename_i es cl kt et hkk hT
  split at h <;> try (cases h; done)
  rename_i d hd
  obtain ⟨hu, hkd⟩ := descA_ok ok hd
  have hM := mapT_ok ok hT
  rw [VR] at hx
  obtain ⟨b, hb, rfl⟩ := hx
  obtain ⟨_, _, hO⟩ := (hH.at_ hk hb).o (by rw [hkk]; simp)
  rw [hkk] at hO
  obtain ⟨en, h1, h2⟩ := hO
  have hlt := (hH.rng id b hb).2
  have hg : (getObj b.1).run P w = .ok (.map en.toArray cl) w := by simp [getObj, Sem.run, h1]
  have hck := checkKey_ok (b := false) hu hkd kv w
  split at h <;> try (cases h; done)
  · rename_i i y hf
    cases h
    obtain ⟨z, g1, _⟩ := findA_ok h2 hf
    obtain ⟨e, _, g3, g4⟩ := findNow_at g1
    simp only [Nat.sub_zero] at g3
    refine ⟨w.putObj b.1 (.map (en.modify i fun e => { e with key := kv, val := u }).toArray cl), ?_, Post.putObj hH _ hk hb (BR.obj ⟨_, rfl, h2.set hv i⟩)⟩
    have hfk : (Instr.findKey kt kv en).run P w = .ok (some (i, z)) w := by simp [Instr.findKey, run_underlying hu, g1]
    have hst : (Instr.keyThatStays e.key kv).run P w = .ok kv w := by simp [Instr.keyThatStays, same_bits g4]
    have hmod : en.toArray.modify i (fun e => { e with key := kv, val := u }) = (en.modify i fun e => { e with key := kv, val := u }).toArray := by simp
    simp [Instr.mapUpdate, run_underlying hM, hg, hck, hfk, g3, hst, run_setMap h1]
  · rename_i hf
    cases h
    have g1 : Instr.findNow d kv en 0 = some none := findA_ok h2 hf
    have hfk : (Instr.findKey kt kv en).run P w = .ok none w := by simp [Instr.findKey, run_underlying hu, g1]
    refine ⟨w.putObj b.1 (.map (en ++ [({ key := kv, val := u, born := cl } : MapEntry)]).toArray (cl + 1)), ?_, Post.putObj hH _ hk hb (BR.obj ⟨_, rfl, ER.app h2 (show ER ρ [(.pl kv, v, cl)] [({ key := kv, val := u, born := cl } : MapEntry)] from ⟨_, [], rfl, VR.pl, hv, rfl, rfl⟩)⟩)⟩
    simp [Instr.mapUpdate, run_underlying hM, hg, hck, hfk, run_setMap h1]
theorem deleteA_ok (ok : TOk P tb) {ρ : Names} {H H' : AH} {w : World} (hH : HR w0 ρ H w) {mt kt2 ty : TypeId} {ats : List TypeId} {x : AV} {kv : Value} {m : Value} (h : deleteA tb H mt x kv = some H') (hx : VR ρ x m) :
    ∃ w', (Builtin.delete_ (mt :: ats).toArray ty #[m, kv]).run P w = .ok (.tuple #[]) w' ∧ Post w0 ρ H w ρ H' w' := by
  unfold deleteA at h
  split at h <;> try (cases h; done)
  rename_i id
  split at h <;> try (cases h; done)
  rename_i k hk
  split at h <;> try (cases h; done)
  rename_i es cl kt et hkk hT
  split at h <;> try (cases h; done)
  rename_i d hd
  obtain ⟨hu, hkd⟩ := descA_ok ok hd
  have hM := mapT_ok ok hT
  rw [VR] at hx
  obtain ⟨b, hb, rfl⟩ := hx
  obtain ⟨_, _, hO⟩ := (hH.at_ hk hb).o (by rw [hkk]; simp)
  rw [hkk] at hO
  obtain ⟨en, h1, h2⟩ := hO
  have hlt := (hH.rng id b hb).2
  have hg : (getObj b.1).run P w = .ok (.map en.toArray cl) w := by simp [getObj, Sem.run, h1]
  have hck : ∀ bb, (Instr.checkKey bb 10000 kt kv).run P w = .ok () w := fun bb => checkKey_ok hu hkd kv w
  split at h <;> try (cases h; done)
  · rename_i i y hf
    cases h
    obtain ⟨z, g1, _⟩ := findA_ok h2 hf
    have hfk : (Instr.findKey kt kv en).run P w = .ok (some (i, z)) w := by simp [Instr.findKey, run_underlying hu, g1]
    refine ⟨w.putObj b.1 (.map (en.eraseIdx i).toArray cl), ?_, Post.putObj hH _ hk hb (BR.obj ⟨_, rfl, h2.erase i⟩)⟩
    simp [Builtin.delete_, run_underlying hM, hg, hck, hfk, run_setMap h1]
  · rename_i hf
    cases h
    have g1 : Instr.findNow d kv en 0 = some none := findA_ok h2 hf
    have hfk : (Instr.findKey kt kv en).run P w = .ok none w := by simp [Instr.findKey, run_underlying hu, g1]
    refine ⟨w.putObj b.1 (.map en.toArray cl), ?_, Post.putObj hH _ hk hb (BR.obj ⟨_, rfl, h2⟩)⟩
    simp [Builtin.delete_, run_underlying hM, hg, hck, hfk, run_setMap h1]

theorem copyA_ok (ok : TOk P tb) {ρ : Names} {H H' : AH} {w : World} (hH : HR w0 ρ H w) {t ts ty : TypeId} {d x y : AV} {vd vx : Value} (h : copyA tb H t ts d x = some (y, H')) (hd : VR ρ d vd) (hx : VR ρ x vx) :
    ∃ w' v, (Builtin.copy_ #[t, ts] ty #[vd, vx]).run P w = .ok v w' ∧ Post w0 ρ H w ρ H' w' ∧ VR ρ y v := by
  unfold copyA at h
  split at h <;> try (cases h; done)
  rename_i e es he
  obtain ⟨hT, inf, hinf, hsz⟩ := slA_ok ok he
  split at h <;> try (cases h; done)
  rename_i id off len cap
  split at h <;> try (cases h; done)
  rename_i q c k hsrc hk
  obtain ⟨hq, h⟩ := cond_some' h
  cases h
  simp only [Bool.and_eq_true, Nat.ble_eq] at hq
  obtain ⟨⟨q1, q2⟩, q3⟩ := hq
  rw [VR] at hd
  obtain ⟨b, cc, hb, rfl, _⟩ := hd
  have hmain : ∃ m news, (Builtin.lenOf vx).run P w = .ok m w ∧ Nat.min m len = q ∧ (Builtin.firstCells es q vx).run P w = .ok news.toArray w ∧ VRL ρ c news ∧ c.all isOne = true := by
    cases x with
    | sl id2 off2 m cap2 =>
      simp only [cutA] at hsrc
      rw [VR] at hx
      obtain ⟨b2, c2, hb2, rfl, hl2, hm2, hc2⟩ := hx
      have hx' : VR ρ (.sl id2 off2 (min m len) cap2) (.slice (some ⟨b2.1, off2, none⟩) (min m len) c2) := by rw [VR]; exact ⟨b2, c2, hb2, rfl, by omega, hm2, hc2⟩
      obtain ⟨news, hS, hl, hone⟩ := srcA_ok ok hH hsrc hx'
      have hlen := hS.len w
      simp only [Builtin.lenOf, Sem.run_pure, Result.ok.injEq, and_true] at hlen
      exact ⟨m, news, by simp [Builtin.lenOf], hlen, hS.cells, hl, hone⟩
    | _ =>
      simp only [cutA] at hsrc
      obtain ⟨news, hS, hl, hone⟩ := srcA_ok ok hH hsrc hx
      exact ⟨q, news, hS.len w, Nat.min_eq_left q1, hS.cells, hl, hone⟩
  obtain ⟨m, news, g1, g2, g3, g4, g5⟩ := hmain
  have hB := hH.at_ hk hb
  have hfr := hB.free (m := c.length) q3 (.inl q2)
  have hnl := g4.length
  have hst := run_storeCells_cells (P := P) b.1 off news 0 w (fun j hj => by rw [hnl] at hj; simpa using hfr.1 j hj) (fun j hj => by rw [hnl] at hj; simpa using hfr.2 j hj) (g4.one g5)
  simp only [Nat.add_zero] at hst
  refine ⟨_, .int .i64 (q : Int), ?_, Post.write hH hk hb g4 q2, VR.pl⟩
  simp [Builtin.copy_, run_underlying hT, g1, g2, sizeOf, typeInfo, hinf, hsz, g3, hst, goInt]

theorem clearA_ok (ok : TOk P tb) {ρ : Names} {H H' : AH} {w : World} (hH : HR w0 ρ H w) {t ty : TypeId} {x : AV} {vx : Value} (h : clearA tb H t x = some H') (hx : VR ρ x vx) :
    ∃ w', (Builtin.clear_ #[t] ty #[vx]).run P w = .ok (.tuple #[]) w' ∧ Post w0 ρ H w ρ H' w' := by
  unfold clearA at h
  split at h
  · rename_i id off len cap
    split at h <;> try (cases h; done)
    rename_i e es he
    obtain ⟨hT, inf', hinf', hsz⟩ := slA_ok ok he
    rw [VR] at hx
    obtain ⟨b, cc, hb, rfl, _⟩ := hx
    split at h
    · cases h
      exact ⟨w, by simp [Builtin.clear_, run_underlying hT], Post.refl hH⟩
    · rename_i len' hl0
      split at h <;> try (cases h; done)
      rename_i i k hi hk
      obtain ⟨d, inf, z, hd, hinf, hz, hkk, hs', _, hzero⟩ := ok.at_ hi
      dsimp only at h
      obtain ⟨hq, h⟩ := cond_some' h
      cases h
      simp only [Bool.and_eq_true, Nat.ble_eq] at hq
      obtain ⟨⟨q1, q2⟩, q3⟩ := hq
      have hB := hH.at_ hk hb
      have hfr := hB.free (m := (plMap (rep i.zero len)).length) q3 (.inl q2)
      have hv : VRL ρ (plMap (rep i.zero len)) (rep i.zero len) := VRL.plMap _
      have hnl := hv.length
      have hzc : (Builtin.zeroCells z.cells len).toList = rep i.zero len := by
        rw [hzero]
        have := rep_ok z.cells len
        unfold Builtin.zeroCells
        rw [this]
      have hone : ∀ u ∈ rep i.zero len, u.oneCell' = true := hv.one q1
      have hst := run_storeCells_cells (P := P) b.1 off (rep i.zero len) 0 w (fun j hj => by rw [hnl] at hj; simpa using hfr.1 j hj) (fun j hj => by rw [hnl] at hj; simpa using hfr.2 j hj) hone
      simp only [Nat.add_zero] at hst
      refine ⟨_, ?_, Post.write hH hk hb hv q2⟩
      have hzv : (zeroValue e).run P w = .ok z w := by simp [zeroValue, typeInfo, hinf, hz]
      have hl1 : len ≠ 0 := hl0
      obtain ⟨l9, rfl⟩ := Nat.exists_eq_succ_of_ne_zero hl1
      simp [Builtin.clear_, run_underlying hT, hzv, hzc, hst]
  · split at h <;> try (cases h; done)
    rename_i z hz
    obtain ⟨e, s⟩ := z
    obtain ⟨hT, _⟩ := slA_ok ok hz
    cases h
    rw [VR] at hx
    exact ⟨w, by rw [hx]; simp [Builtin.clear_, run_underlying hT], Post.refl hH⟩
  · rename_i id
    split at h <;> try (cases h; done)
    rename_i k kt et hk hT
    split at h <;> try (cases h; done)
    rename_i es cl hkk
    cases h
    have hM := mapT_ok ok hT
    rw [VR] at hx
    obtain ⟨b, hb, rfl⟩ := hx
    obtain ⟨_, _, hO⟩ := (hH.at_ hk hb).o (by rw [hkk]; simp)
    rw [hkk] at hO
    obtain ⟨en, h1, h2⟩ := hO
    have hlt := (hH.rng id b hb).2
    have hg : (getObj b.1).run P w = .ok (.map en.toArray cl) w := by simp [getObj, Sem.run, h1]
    refine ⟨w.putObj b.1 (.map #[] cl), ?_, Post.putObj hH _ hk hb (BR.obj ⟨[], rfl, rfl⟩)⟩
    simp [Builtin.clear_, run_underlying hM, hg, run_setMap h1]
  · cases h

theorem rangeA_ok (ok : TOk P tb) {ρ : Names} {H H' : AH} {w : World} (hH : HR w0 ρ H w) {t : TypeId} {x y : AV} {vx : Value} (h : rangeA tb H t x = some (y, H')) (hx : VR ρ x vx) :
    ∃ ρ' w' v, (Instr.range t vx).run P w = .ok v w' ∧ Post w0 ρ H w ρ' H' w' ∧ VR ρ' y v := by
  unfold rangeA at h
  split at h <;> try (cases h; done)
  rename_i s
  obtain ⟨hq, h⟩ := cond_some' h
  cases h
  rw [VR] at hx
  subst hx
  have key := Post.allocG hH (obj (.it s 0)) 0 (.stringIter s 0) (BR.obj rfl)
  exact ⟨_, _, .pointer (some ⟨w.heap.size, 0, none⟩), by simp [Instr.range, run_underlying (isStr_ok ok hq), run_newObj], key.1, by rw [VR]; exact ⟨_, key.2, rfl⟩⟩
theorem nextA_ok {ρ : Names} {H H' : AH} {w : World} (hH : HR w0 ρ H w) {ty : TypeId} {x y : AV} {vx : Value} (h : nextA H x = some (y, H')) (hx : VR ρ x vx) :
    ∃ w' v, (Instr.next vx true ty).run P w = .ok v w' ∧ Post w0 ρ H w ρ H' w' ∧ VR ρ y v := by
  unfold nextA at h
  split at h <;> try (cases h; done)
  rename_i id
  split at h <;> try (cases h; done)
  rename_i k hk
  split at h <;> try (cases h; done)
  rename_i s pos hkk
  rw [VR] at hx
  obtain ⟨b, hb, rfl⟩ := hx
  obtain ⟨_, _, hO⟩ := (hH.at_ hk hb).o (by rw [hkk]; simp)
  rw [hkk] at hO
  have h1 : w.heap[b.1]? = some (.stringIter s pos) := hO
  have hlt := (hH.rng id b hb).2
  have hg : (getObj b.1).run P w = .ok (.stringIter s pos) w := by simp [getObj, Sem.run, h1]
  cases hq : Nat.blt pos s.size with
  | true =>
    rw [hq] at h
    cases h
    have hq' : pos < s.size := by simpa [Nat.blt_eq] using hq
    refine ⟨w.putObj b.1 (.stringIter s (pos + (Utf8.decode s pos).2)), .tuple #[.bool true, .int .i64 (pos : Int), .int .i32 ((Utf8.decode s pos).1 : Int)], ?_, Post.putObj hH _ hk hb (BR.obj rfl), by rw [VR]; exact ⟨[_, _, _], rfl, VRL.mk VR.pl (VRL.mk VR.pl (VRL.mk VR.pl VRL.mk0))⟩⟩
    simp [Instr.next, hg, hq', run_setIt h1, goInt]
  | false =>
    rw [hq] at h
    cases h
    have hq' : ¬ pos < s.size := fun h9 => by rw [show Nat.blt pos s.size = true by simpa [Nat.blt_eq] using h9] at hq; cases hq
    refine ⟨w, .tuple #[.bool false], ?_, Post.refl hH, by rw [VR]; exact ⟨[_], rfl, VRL.mk VR.pl VRL.mk0⟩⟩
    simp [Instr.next, hg, hq']

/-! ### Rounds -/
theorem setArgs_ok {ρ : Names} {n : Nat} : ∀ {ps : List Nat} {xs : List AV} {vs : List Value} {E E' : T AV} {tmps : Array Value}, setArgs E ps xs = some E' → VRL ρ xs vs → (∀ p ∈ ps, p < n) → FR n [] ρ E ⟨tmps, []⟩ →
    ps.length = vs.length ∧ FR n [] ρ E' ⟨(ps.zip vs).foldl (fun tmps p => tmps.setIfInBounds p.1 p.2) tmps, []⟩
  | [], [], vs, E, E', tmps, h, hv, _, hF => by
    cases h
    obtain rfl := hv.nil
    exact ⟨rfl, hF⟩
  | p :: ps, x :: xs, _, E, E', tmps, h, hv, hp, hF => by
    obtain ⟨v, vs, rfl, h1, h2⟩ := hv.cons
    simp only [setArgs] at h
    have hF1 := hF.put p (hp p (List.mem_cons_self ..)) h1
    have := setArgs_ok h h2 (fun q hq => hp q (List.mem_cons_of_mem _ hq)) hF1
    exact ⟨by simp [this.1], this.2⟩
  | [], _ :: _, _, _, _, _, h, _, _, _ => by simp [setArgs] at h
  | _ :: _, [], _, _, _, _, h, _, _, _ => by simp [setArgs] at h
def RR2 (ρ : Names) : AR2 → Next → Prop
  | .val x, y => ∃ v, y = .value v ∧ VR ρ x v
  | .skip, y => y = .skip
  | .enter f args, y => ∃ vs : List Value, y = .enter f vs.toArray ∧ VRL ρ args vs
  | .round id n E ag bd, y => ∃ (b : Nat × Nat) (fn : FuncId) (tmps : Array Value), ρ[id]? = some b ∧ y = .round b.1 fn tmps ag bd ∧ FR n [] ρ E ⟨tmps, []⟩
theorem yieldA_ok {ρ : Names} {H : AH} {w : World} (hH : HR w0 ρ H w) {x : AV} {l : List AV} {vx : Value} {vs : List Value} {id m : Nat} {E' : T AV} {ag bd : Code} (h : yieldA H x l = some (id, m, E', ag, bd)) (hx : VR ρ x vx) (hl : VRL ρ l vs) :
    ∃ (b : Nat × Nat) (fn : FuncId) (tmps : Array Value), ρ[id]? = some b ∧ vx = .func (.yield b.1) #[] #[] ∧ (Instr.yield b.1 vs.toArray).run P w = .ok (.round b.1 fn tmps ag bd) w ∧ FR m [] ρ E' ⟨tmps, []⟩ := by
  unfold yieldA at h
  split at h <;> try (cases h; done)
  split at h <;> try (cases h; done)
  rename_i k hk
  split at h <;> try (cases h; done)
  rename_i st pd n' E ps ag' bd' df hkk
  obtain ⟨hq, h⟩ := cond_some' h
  split at h <;> try (cases h; done)
  rename_i E1 hs
  cases h
  rw [VR] at hx
  obtain ⟨b, hb, rfl⟩ := hx
  obtain ⟨_, _, hO⟩ := (hH.at_ hk hb).o (by rw [hkk]; simp)
  rw [hkk] at hO
  obtain ⟨fn, tmps, b2, h1, h2, h3, h4⟩ := hO
  have hF : FR m [] ρ E ⟨tmps, []⟩ := ⟨rfl, h3, h4⟩
  obtain ⟨g1, g2⟩ := setArgs_ok hs hl (fun p hp => by simpa [Nat.blt_eq] using List.all_eq_true.1 hq p hp) hF
  refine ⟨b, fn, _, hb, rfl, ?_, g2⟩
  have hsz : vs.toArray.size = ps.size := by simp at g1 ⊢; omega
  rw [run_yield h1 hsz]
  congr 2
  rw [← Array.foldl_toList, Array.toList_zip]
def E2Ok (P : Program) (w0 : World) (ρ : Names) (H : AH) (a : Act) (w : World) (o : Oper) (r : AR2) (H' : AH) : Prop :=
  ∃ ρ' w' x, (execOp a.eval o).run P w = .ok x w' ∧ Post w0 ρ H w ρ' H' w' ∧ RR2 ρ' r x
theorem execF_ok (ok : TOk P tb) {ρ : Names} {E : T AV} {a : Act} {H H' : AH} {w : World} (hF : FR n ds ρ E a) (hH : HR w0 ρ H w) {o : Oper} {r : AR2} (h : execF P tb E H o = some (r, H')) : E2Ok P w0 ρ H a w o r H' := by
  obtain ⟨dst, op, type, pos, after, guard⟩ := o
  cases op <;> simp only [execF] at h <;> try (cases h; done)
  case makeMap t r =>
    split at h <;> try (cases h; done)
    rename_i x H1 hs
    cases h
    obtain ⟨ρ', w', v, h1, h2, h3⟩ := makeMapA_ok ok hF hH hs
    exact ⟨ρ', w', .value v, by simp [execOp, h1], h2, ⟨v, rfl, h3⟩⟩
  case mapUpdate t m k x =>
    split at h <;> try (cases h; done)
    rename_i y kv v hy hk hv
    split at h <;> try (cases h; done)
    rename_i H1 hs
    cases h
    obtain ⟨w', h1, h2⟩ := mapUpdA_ok ok hH hs (hF.opnd hy) (hF.opnd hv)
    exact ⟨ρ, w', .skip, by simp [execOp, hF.pv hk, h1], h2, rfl⟩
  case insert t m k x =>
    split at h <;> try (cases h; done)
    rename_i y kv v hy hk hv
    split at h <;> try (cases h; done)
    rename_i H1 hs
    cases h
    obtain ⟨w', h1, h2⟩ := mapUpdA_ok ok hH hs (hF.opnd hy) (hF.opnd hv)
    exact ⟨ρ, w', .skip, by simp [execOp, hF.pv hk, h1], h2, rfl⟩
  case range t x =>
    split at h <;> try (cases h; done)
    rename_i y hy
    split at h <;> try (cases h; done)
    rename_i z H1 hs
    cases h
    obtain ⟨ρ', w', v, h1, h2, h3⟩ := rangeA_ok ok hH hs (hF.opnd hy)
    exact ⟨ρ', w', .value v, by simp [execOp, h1], h2, ⟨v, rfl, h3⟩⟩
  case next x isS =>
    cases isS <;> simp only at h <;> try (cases h; done)
    split at h <;> try (cases h; done)
    rename_i y hy
    split at h <;> try (cases h; done)
    rename_i z H1 hs
    cases h
    obtain ⟨w', v, h1, h2, h3⟩ := nextA_ok (P := P) (ty := type) hH hs (hF.opnd hy)
    exact ⟨ρ, w', .value v, by simp [execOp, h1], h2, ⟨v, rfl, h3⟩⟩
  case call c =>
    obtain ⟨callee, args, argTypes⟩ := c
    split at h
    · rename_i d x t ts hc hargs hts
      simp only at hc hargs hts
      subst hc
      have h1 : args = #[d, x] := by apply Array.toList_inj.1; simpa using hargs
      have h2 : argTypes = #[t, ts] := by apply Array.toList_inj.1; simpa using hts
      subst h1 h2
      split at h <;> try (cases h; done)
      rename_i y z hy hz
      split at h <;> try (cases h; done)
      rename_i v H1 hs
      cases h
      obtain ⟨w', u, g1, g2, g3⟩ := copyA_ok ok hH (ty := type) hs (hF.opnd hy) (hF.opnd hz)
      exact ⟨ρ, w', .value u, by simp [execOp, resolve, invoke, builtin, g1], g2, ⟨u, rfl, g3⟩⟩
    · rename_i x t hc hargs hts
      simp only at hc hargs hts
      subst hc
      have h1 : args = #[x] := by apply Array.toList_inj.1; simpa using hargs
      have h2 : argTypes = #[t] := by apply Array.toList_inj.1; simpa using hts
      subst h1 h2
      split at h <;> try (cases h; done)
      rename_i y hy
      split at h <;> try (cases h; done)
      rename_i H1 hs
      cases h
      obtain ⟨w', g1, g2⟩ := clearA_ok ok hH (ty := type) hs (hF.opnd hy)
      exact ⟨ρ, w', .value (.tuple #[]), by simp [execOp, resolve, invoke, builtin, g1], g2, ⟨_, rfl, by rw [VR]; exact ⟨[], rfl, VRL.mk0⟩⟩⟩
    · rename_i m k t ats hc hargs hts
      simp only at hc hargs hts
      subst hc
      have h1 : args = #[m, k] := by apply Array.toList_inj.1; simpa using hargs
      have h2 : argTypes = (t :: ats).toArray := by apply Array.toList_inj.1; simpa using hts
      subst h1 h2
      split at h <;> try (cases h; done)
      rename_i y kv hy hk
      split at h <;> try (cases h; done)
      rename_i H1 hs
      cases h
      obtain ⟨w', g1, g2⟩ := deleteA_ok ok hH (ty := type) (ats := ats) (kt2 := 0) hs (hF.opnd hy)
      exact ⟨ρ, w', .value (.tuple #[]), by simp only [execOp, resolve, invoke, builtin, Sem.run_bind, Sem.run_pure, Result.andThen_ok, List.map_toArray, List.map_cons, List.map_nil, hF.pv hk, g1], g2, ⟨_, rfl, by rw [VR]; exact ⟨[], rfl, VRL.mk0⟩⟩⟩
    · rename_i f hc
      simp only at hc
      subst hc
      split at h <;> try (cases h; done)
      rename_i x l hx hl
      split at h <;> try (cases h; done)
      rename_i id m E1 ag bd hy
      cases h
      obtain ⟨b, fn, tmps, g1, g2, g3, g4⟩ := yieldA_ok (P := P) hH hy (hF.opnd hx) (hF.opnds hl)
      have am : args.map a.eval = (args.toList.map a.eval).toArray := by apply Array.toList_inj.1; simp
      refine ⟨ρ, w, .round b.1 fn tmps ag bd, ?_, Post.refl hH, ⟨b, fn, tmps, g1, rfl, g4⟩⟩
      simp [execOp, resolve, Deferred.ofValue, g2, invoke, am, g3]
    · cases h
def AR.two : AR → AR2
  | .val x => .val x
  | .skip => .skip
  | .enter f l => .enter f l
def exec2 (P : Program) (tb : Tab) (E : T AV) (H : AH) (o : Oper) : Option (AR2 × AH) :=
  match exec1 P tb E H o with
  | some (r, H') => some (r.two, H')
  | none => execF P tb E H o
theorem exec2_ok (ok : TOk P tb) {ρ : Names} {E : T AV} {a : Act} {H H' : AH} {w : World} (hF : FR n ds ρ E a) (hH : HR w0 ρ H w) {o : Oper} {r : AR2} (h : exec2 P tb E H o = some (r, H')) : E2Ok P w0 ρ H a w o r H' := by
  unfold exec2 at h
  split at h
  · rename_i r' H1 hx
    cases h
    obtain ⟨ρ', w', x, h1, h2, h3⟩ := exec1_ok ok hF hH hx
    exact ⟨ρ', w', x, h1, h2, by cases r' <;> exact h3⟩
  · exact execF_ok ok hF hH h
theorem execF_wr {E : T AV} {H H' : AH} {o : Oper} {r : AR2} (h : execF P tb E H o = some (r, H')) : ∀ i ∈ H.wr, i ∈ H'.wr := by
  have hput : ∀ (j : Nat) (k : ABlk), ∀ i ∈ H.wr, i ∈ (H.put j k).wr := fun j k i hi => List.mem_cons_of_mem _ hi
  have hnew : ∀ (k : ABlk), ∀ i ∈ H.wr, i ∈ (H.new k).wr := fun k i hi => hi
  obtain ⟨dst, op, type, pos, after, guard⟩ := o
  have hupd : ∀ {t : TypeId} {x v : AV} {kv : Value} {H1 : AH}, mapUpdA tb H t x kv v = some H1 → ∀ i ∈ H.wr, i ∈ H1.wr := by
    intro t x v kv H1 hs
    unfold mapUpdA at hs
    repeat' (split at hs <;> try (cases hs; done))
    all_goals (cases hs; exact hput _ _)
  cases op <;> simp only [execF] at h <;> try (cases h; done)
  case makeMap t r =>
    split at h <;> try (cases h; done)
    rename_i x H1 hs
    cases h
    unfold makeMapA at hs
    repeat' (split at hs <;> try (cases hs; done))
    all_goals (cases hs; exact hnew _)
  case mapUpdate t m k x =>
    repeat' (split at h <;> try (cases h; done))
    rename_i hs
    cases h; exact hupd hs
  case insert t m k x =>
    repeat' (split at h <;> try (cases h; done))
    rename_i hs
    cases h; exact hupd hs
  case range t x =>
    repeat' (split at h <;> try (cases h; done))
    rename_i hs
    cases h
    unfold rangeA at hs
    split at hs <;> try (cases hs; done)
    have hs := cond_some hs
    cases hs; exact hnew _
  case next x isS =>
    cases isS <;> simp only at h <;> try (cases h; done)
    repeat' (split at h <;> try (cases h; done))
    rename_i hs
    cases h
    unfold nextA at hs
    repeat' (split at hs <;> try (cases hs; done))
    rcases cond_or hs with hs | hs
    · cases hs; exact hput _ _
    · cases hs; exact fun i hi => hi
  case call c =>
    split at h
    · repeat' (split at h <;> try (cases h; done))
      rename_i hs
      cases h
      unfold copyA at hs
      repeat' (split at hs <;> try (cases hs; done))
      have hs := cond_some hs
      cases hs; exact hput _ _
    · repeat' (split at h <;> try (cases h; done))
      rename_i hs
      cases h
      unfold clearA at hs
      split at hs
      · repeat' (split at hs <;> try (cases hs; done))
        · cases hs; exact fun i hi => hi
        · have hs := cond_some hs
          cases hs; exact hput _ _
      · repeat' (split at hs <;> try (cases hs; done))
        cases hs; exact fun i hi => hi
      · repeat' (split at hs <;> try (cases hs; done))
        cases hs; exact hput _ _
      · cases hs
    · repeat' (split at h <;> try (cases h; done))
      rename_i hs
      cases h
      unfold deleteA at hs
      repeat' (split at hs <;> try (cases hs; done))
      all_goals (cases hs; exact hput _ _)
    · repeat' (split at h <;> try (cases h; done))
      cases h; exact fun i hi => hi
    · cases h
theorem exec2_wr {E : T AV} {H H' : AH} {o : Oper} {r : AR2} (h : exec2 P tb E H o = some (r, H')) : ∀ i ∈ H.wr, i ∈ H'.wr := by
  unfold exec2 at h
  split at h
  · rename_i hx; cases h; exact exec1_wr hx
  · exact execF_wr h
end
end Go.Ev
