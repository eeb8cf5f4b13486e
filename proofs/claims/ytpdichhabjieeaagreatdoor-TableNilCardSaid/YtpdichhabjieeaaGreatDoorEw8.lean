/- The evaluator, eighth part: conversions, calls, one operation. No statement is proved here. -/
import Derived.Test.YtpdichhabjieeaaGreatDoorEw7
namespace Go.Ev
open Go.RowKit Go.Sx
set_option linter.unusedVariables false
set_option linter.unusedSimpArgs false

section
variable {P : Program} {tb : Tab} {w0 : World} {n : Nat} {ds : List Deferred}

theorem cond_some' {α : Type} {b : Bool} {x : Option α} {y : α} (h : (bif b then x else none) = some y) : b = true ∧ x = some y := by cases b <;> first | (cases h; done) | exact ⟨rfl, h⟩
/-! ### Bytes to a string -/
def bytesA : List AV → Option (List Int)
  | [] => some []
  | .pl (.int .u8 m) :: r => (match bytesA r with | some l => some (m :: l) | none => none)
  | _ => none
theorem bytesA_ok {ρ : Names} : ∀ {l : List AV} {ns : List Int} {vs : List Value}, bytesA l = some ns → VRL ρ l vs → vs = ns.map (Value.int .u8)
  | [], ns, vs, h, hv => by cases h; exact hv.nil
  | x :: r, ns, vs, h, hv => by
    obtain ⟨v, us, rfl, h1, h2⟩ := hv.cons
    unfold bytesA at h
    split at h
    · rename_i heq; cases heq
    · rename_i m r' heq
      cases heq
      split at h
      · rename_i l hl
        cases h
        rw [VR] at h1
        rw [h1, bytesA_ok hl h2]; rfl
      · cases h
    · cases h
theorem push_all : ∀ (ns : List Int) (s : ByteArray), ns.foldl (fun r m => r.push (UInt8.ofNat m.toNat)) s = ⟨s.data ++ (ns.map fun m => UInt8.ofNat m.toNat).toArray⟩
  | [], s => by simp
  | m :: ns, s => by
    rw [List.foldl_cons, push_all ns]
    congr 1
    apply Array.toList_inj.1
    simp [ByteArray.push]
def b2sA (tb : Tab) (H : AH) (src dst : TypeId) (x : AV) : Option AV :=
  match x, slA tb src with
  | .sl id off len _, some (e, 1) => (match H.get id with
    | some k => bif isU8 tb e && isStr tb dst then
      (let l := (k.cells.drop off).take len
       bif Nat.beq l.length len then (match bytesA l with | some ns => some (.pl (.string ⟨(ns.map fun m => UInt8.ofNat m.toNat).toArray⟩)) | none => none) else none) else none
    | none => none)
  | _, _ => none
theorem b2sA_ok (ok : TOk P tb) {ρ : Names} {H : AH} {w : World} (hH : HR w0 ρ H w) {src dst : TypeId} {x y : AV} {v : Value} (h : b2sA tb H src dst x = some y) (hv : VR ρ x v) : ∃ r, y = .pl r ∧ (convert src dst v).run P w = .ok r w := by
  unfold b2sA at h
  split at h
  · rename_i id off len cap e hsl
    obtain ⟨hT, inf, hinf, _⟩ := slA_ok ok hsl
    rw [VR] at hv
    obtain ⟨b, c, hb, rfl, _⟩ := hv
    split at h
    · rename_i k hk
      cases hq : (isU8 tb e && isStr tb dst) with
      | false => rw [hq] at h; cases h
      | true =>
        rw [hq] at h
        simp only [cond_true] at h
        simp only [Bool.and_eq_true] at hq
        cases hl : Nat.beq ((k.cells.drop off).take len).length len with
        | false => rw [hl] at h; cases h
        | true =>
          rw [hl] at h
          simp only [cond_true] at h
          split at h
          · rename_i ns hns
            cases h
            refine ⟨_, rfl, ?_⟩
            obtain ⟨us, hus, hcl⟩ := (hH.at_ hk hb).cell
            have hll := (hus.drop off).take len
            have he := bytesA_ok hns hll
            have hlen : ((us.drop off).take len).length = len := by rw [hll.length]; exact Nat.eq_of_beq_eq_true hl
            have hld : (loadCells ⟨b.1, off, none⟩ len).run P w = .ok (ns.map (Value.int .u8)).toArray w := by
              have := run_loadCells_list (P := P) w ⟨b.1, off, none⟩ ((us.drop off).take len) (fun j u hu => by rw [Addr.add_mid]; exact rangeAt_of hcl off len j u hu)
              rw [hlen, he] at this
              exact this
            have hr := run_bytesToString (P := P) w ⟨b.1, off, none⟩ len c ns hld
            rw [push_all] at hr
            have hcv : (convert src dst (.slice (some ⟨b.1, off, none⟩) len c)).run P w = (Conv.bytesToString (.slice (some ⟨b.1, off, none⟩) len c)).run P w := by
              simp only [convert, Sem.run_bind, run_underlying hT, run_underlying (isStr_ok ok hq.2), Result.andThen_ok, run_underlying (isU8_ok ok hq.1)]
            rw [hcv, hr]
            congr 3
            exact Array.empty_append
          · cases h
    · cases h
  · cases h

/-! ### A slice of an array -/
def sliceArrA (tb : Tab) (t : TypeId) (x : AV) (l h : Nat) : Option AV :=
  match x with
  | .ptr id off => (match arA tb t with
    | some (m, _, s) => bif Nat.ble l h && Nat.ble h m && Nat.ble m 4611686018427387904 then some (.sl id (bif Nat.beq m l then off else off + l * s) (h - l) (.k (m - l))) else none
    | none => none)
  | _ => none
theorem sliceArrA_ok (ok : TOk P tb) {E : T AV} {ρ : Names} {a : Act} (hF : FR n ds ρ E a) {t : TypeId} {x y : AV} {lo hi : Option Operand} {l h : Nat} {m e s : Nat} {v : Value} (hx : sliceArrA tb t x l h = some y) (hm : arA tb t = some (m, e, s)) (hv : VR ρ x v)
    (hl : bnd E 0 lo = some l) (hh : bnd E m hi = some h) : ∃ r, VR ρ y r ∧ ∀ w, (Instr.sliceAt t v (lo.map a.eval) (hi.map a.eval) none).run P w = .ok r w := by
  unfold sliceArrA at hx
  split at hx
  · rename_i id off
    rw [VR] at hv
    obtain ⟨b, hb, rfl⟩ := hv
    rw [hm] at hx
    obtain ⟨hT, inf, hi', hsz⟩ := arA_ok ok hm
    simp only at hx
    cases hq : (Nat.ble l h && Nat.ble h m && Nat.ble m 4611686018427387904) with
    | false => rw [hq] at hx; cases hx
    | true =>
      rw [hq] at hx
      simp only [Bool.and_eq_true, Nat.ble_eq] at hq
      cases hx
      refine ⟨.slice (some (if m = l then ⟨b.1, off, none⟩ else ⟨b.1, off + l * s, none⟩)) (h - l) (m - l), ?_, fun w => ?_⟩
      · rw [VR]
        refine ⟨b, m - l, hb, ?_, by omega, by simp only [maxLen]; omega, rfl⟩
        congr 2
        cases hcl : Nat.beq m l with
        | true => rw [if_pos (Nat.eq_of_beq_eq_true hcl)]; rfl
        | false => rw [if_neg (fun e => by rw [e] at hcl; simp at hcl)]; rfl
      · have hbd := bounds_ok hF (P := P) false hl hh hq.1.1 hq.1.2 w
        simp only [Instr.sliceAt, Sem.run_bind, run_underlying hT, Result.andThen_ok, Instr.sureAddr, hbd, sizeOf, typeInfo, Sem.run_pure, hi', hsz, program, Sem.run]
        by_cases hcl : m = l
        · simp [hcl]
        · simp [hcl, Addr.add_mid]
  · cases hx

/-! ### Calls -/
def calleeA (f : AV) (args : List AV) : Option (FuncId × List AV) :=
  match f with
  | .fn (.func g) p q => some (g, p ++ args ++ q)
  | .pl (.func (.func g) p q) => some (g, plMap p.toList ++ args ++ plMap q.toList)
  | _ => none
def callA (tb : Tab) (E : T AV) (f : Operand) (args : List Operand) : Option (FuncId × List AV) :=
  match opnd E f, opnds E args with
  | some x, some l => (match calleeA x l with
    | some (g, as') => (match tb.fn.get g with | some _ => some (g, as') | none => none)
    | none => none)
  | _, _ => none
theorem callA_ok (ok : TOk P tb) {E : T AV} {ρ : Names} {a : Act} (hF : FR n ds ρ E a) {f : Operand} {args : Array Operand} {argTypes : Array TypeId} {ty : TypeId} {g : FuncId} {l : List AV} (h : callA tb E f args.toList = some (g, l)) (w : World) :
    ∃ vs : List Value, (do let d ← resolve a.eval ⟨.value f, args, argTypes⟩ ty; invoke d.target d.args).run P w = .ok (.enter g vs.toArray) w ∧ VRL ρ l vs := by
  unfold callA at h
  split at h
  · rename_i x l' hx hl
    have hv := hF.opnd hx
    have hls := hF.opnds hl
    have am : args.map a.eval = (args.toList.map a.eval).toArray := by apply Array.toList_inj.1; simp
    split at h
    · rename_i g' as' hc
      split at h
      · rename_i u hfn
        cases h
        obtain ⟨fn, h1, h2, h3⟩ := ok.func hfn
        have hcf : ∀ xs : Array Value, (callFunc g xs).run P w = .ok (.enter g xs) w := fun xs => by
          have h2' : fn.name ≠ "runtime.NumGoroutine" := by simpa using h2
          have h3' : fn.body ≠ none := by intro e; rw [e] at h3; cases h3
          simp [callFunc, h1, h2', h3']
        unfold calleeA at hc
        split at hc
        · rename_i g2 p q
          cases hc
          rw [VR] at hv
          obtain ⟨vs, us, he, hp, hq⟩ := hv
          refine ⟨vs ++ args.toList.map a.eval ++ us, ?_, (hp.app hls).app hq⟩
          simp [resolve, Deferred.ofValue, he, invoke, hcf, am]
        · rename_i g2 p q
          cases hc
          rw [VR] at hv
          refine ⟨p.toList ++ args.toList.map a.eval ++ q.toList, ?_, ((VRL.plMap _).app hls).app (VRL.plMap _)⟩
          simp [resolve, Deferred.ofValue, hv, invoke, hcf, am]
        · cases hc
      · cases h
    · cases h
  · cases h

/-! ### Pointers that pass through unsafe.Pointer -/
def isC : BK → Bool
  | .c => true
  | _ => false
theorem isC_ok {k : BK} (h : isC k = true) : k = .c := by cases k <;> first | rfl | cases h
def upA (P : Program) (tb : Tab) (H : AH) (src dst : TypeId) (x : AV) : Option AV :=
  match x with
  | .ptr id off => (match H.get id with
    | some k => bif isC k.k then (match tkA tb src, tkA tb dst with
      | .ptr t, .uptr => (match sizeA tb t with
        | some (_ + 1) => bif Nat.blt off k.cells.length then some (.ptr id off) else none
        | _ => none)
      | .uptr, .ptr u => (match sizeA tb u with
        | some _ => bif !k.more && liesAt P P.depth k.ty (k.cells.length / P.cellsOf k.ty) off u 1 then some (.ptr id off) else none
        | none => none)
      | _, _ => none) else none
    | none => none)
  | _ => none
theorem BRc.shape {ρ : Names} {k : ABlk} {cp b : Nat} {w : World} (h : BRc ρ k cp w.heap[b]?) : ∃ m, w.shape? b = some (k.ty, m) ∧ k.cells.length ≤ m ∧ (k.more = false → m = k.cells.length) := by
  obtain ⟨vs, rest, fr, h1, h2, h3, _⟩ := h
  have hl := h2.length
  refine ⟨(vs ++ rest).length, by simp [World.shape?, h1], by simp; omega, fun hm => by rw [h3 hm]; simp; omega⟩
theorem upA_ok (ok : TOk P tb) {ρ : Names} {H : AH} {w : World} (hH : HR w0 ρ H w) {src dst : TypeId} {x y : AV} {v : Value} (h : upA P tb H src dst x = some y) (hv : VR ρ x v) : ∃ r, VR ρ y r ∧ (convert src dst v).run P w = .ok r w := by
  unfold upA at h
  split at h
  · rename_i id off
    have hv' := hv
    rw [VR] at hv
    obtain ⟨b, hb, rfl⟩ := hv
    split at h
    · rename_i k hk
      obtain ⟨hisc, h⟩ := cond_some' h
      obtain ⟨m, hsh, hle, hex⟩ := BRc.shape ((hH.at_ hk hb).c (isC_ok hisc))
      have hva : (viewAt b.1).run P w = .ok none w := by simp [viewAt, shape, Sem.run, hsh]
      have hseen : (Conv.seenAt ⟨b.1, off, none⟩).run P w = .ok ⟨b.1, off, none⟩ w := by simp [Conv.seenAt, hva]
      split at h
      · rename_i t hs hd
        obtain ⟨ds, hus, hks⟩ := tkA_ok ok hs (by simp)
        obtain ⟨dd, hud, hkd⟩ := tkA_ok ok hd (by simp)
        cases ds <;> simp only [kindT] at hks <;> try (cases hks; done)
        cases hks
        cases dd <;> simp only [kindT] at hkd <;> try (cases hkd; done)
        split at h
        · rename_i sz hsz
          obtain ⟨inf, hi, hsz'⟩ := sizeA_ok ok hsz
          cases hlt : Nat.blt off k.cells.length with
          | false => rw [hlt] at h; cases h
          | true =>
            rw [hlt] at h
            cases h
            refine ⟨_, hv', ?_⟩
            have hlt' : off < k.cells.length := by simpa [Nat.blt_eq] using hlt
            have hci : (cellsIn b.1).run P w = .ok (some m) w := by simp [cellsIn, shape, Sem.run, hsh]
            have hno : ¬ (m ≤ off) := by omega
            simp [convert, run_underlying hus, run_underlying hud, Conv.unsafePointer, hseen, hci, sizeOf, typeInfo, hi, hsz', hno]
        · cases h
      · rename_i u hs hd
        obtain ⟨ds, hus, hks⟩ := tkA_ok ok hs (by simp)
        obtain ⟨dd, hud, hkd⟩ := tkA_ok ok hd (by simp)
        cases ds <;> simp only [kindT] at hks <;> try (cases hks; done)
        cases dd <;> simp only [kindT] at hkd <;> try (cases hkd; done)
        cases hkd
        split at h
        · rename_i sz hsz
          obtain ⟨inf, hi, hsz'⟩ := sizeA_ok ok hsz
          obtain ⟨hq, h⟩ := cond_some' h
          cases h
          simp only [Bool.and_eq_true, Bool.not_eq_true'] at hq
          obtain ⟨q1, q2⟩ := hq
          have hm := hex q1
          refine ⟨_, hv', ?_⟩
          have hva2 : (variablesAt ⟨b.1, off, none⟩ u 1).run P w = .ok true w := by simp [variablesAt, shape, Sem.run, hsh, hm, q2]
          simp [convert, run_underlying hus, run_underlying hud, Conv.unsafePointer, hseen, sizeOf, typeInfo, hi, hva2]
        · cases h
      · cases h
    · cases h
  · cases h

/-! ### A call that hands back its argument -/
def idA (tb : Tab) (E : T AV) (f : Operand) (args : List Operand) : Option AV :=
  match opnd E f, args with
  | some (.pl (.func (.func g) p q)), [x] => (match tb.idf.get g, p.toList, q.toList with
    | some _, [], [] => opnd E x
    | _, _, _ => none)
  | _, _ => none
theorem idA_ok (ok : TOk P tb) {E : T AV} {ρ : Names} {a : Act} (hF : FR n ds ρ E a) {f : Operand} {args : Array Operand} {argTypes : Array TypeId} {ty : TypeId} {y : AV} (h : idA tb E f args.toList = some y) (w : World) :
    ∃ v, (do let d ← resolve a.eval ⟨.value f, args, argTypes⟩ ty; invoke d.target d.args).run P w = .ok (.value v) w ∧ VR ρ y v := by
  unfold idA at h
  split at h
  · rename_i g p q x hf hargs
    split at h
    · rename_i u hg hp hq
      have hv := hF.opnd hf
      rw [VR] at hv
      have h1 : args = #[x] := by apply Array.toList_inj.1; simpa using hargs
      have h2 : p = #[] := by apply Array.toList_inj.1; simpa using hp
      have h3 : q = #[] := by apply Array.toList_inj.1; simpa using hq
      subst h1 h2 h3
      refine ⟨_, ?_, hF.opnd h⟩
      have := ok.idf g u hg (a.eval x) w
      simp [resolve, Deferred.ofValue, hv, invoke, this]
    · cases h
  · cases h

/-! ### A string that shares a row of bytes -/
theorem run_loadBytes : ∀ (ns : List Int) (b off : Nat) (acc : ByteArray) (w : World), w.rangeAt b off (ns.map (Value.int .u8)) → (loadBytes ⟨b, off, none⟩ acc ns.length).run P w = .ok (ns.foldl (fun r m => r.push (UInt8.ofNat m.toNat)) acc) w
  | [], b, off, acc, w, _ => by simp [loadBytes]
  | m :: ns, b, off, acc, w, h => by
    have h0 := h 0 (.int .u8 m) rfl
    simp only [Nat.add_zero] at h0
    have ih := run_loadBytes ns b (off + 1) (acc.push (UInt8.ofNat m.toNat)) w (fun j u hu => by
      have := h (j + 1) u (by simpa using hu)
      rwa [show off + 1 + j = off + (j + 1) by omega])
    rw [List.length_cons, loadBytes]
    simp only [Sem.run_bind, load, Sem.run, h0, Result.andThen_ok, Addr.add_mid, List.foldl_cons]
    exact ih
def u8sA (tb : Tab) (H : AH) (pt : TypeId) (x : AV) (m : Nat) : Option (AV × AH) :=
  match x, tkA tb pt with
  | .ptr id off, .ptr u => (match H.get id, m with
    | some k, m' + 1 => (match sizeA tb k.ty with
      | some 1 => bif Nat.beq k.ty u && isC k.k then
        (let l := (k.cells.drop off).take (m' + 1)
         bif Nat.beq l.length (m' + 1) then (match bytesA l with
           | some ns => some (.pl (.string ⟨(ns.map fun m => UInt8.ofNat m.toNat).toArray⟩), H.put id { k with frz := max k.frz (off + (m' + 1)) })
           | none => none) else none) else none
      | _ => none)
    | _, _ => none)
  | _, _ => none
theorem depth_succ (P : Program) : P.depth = (2 * (P.types.size + Made.depth) + 1) + 1 := rfl
theorem lies_self {P : Program} {e count off m : Nat} (hc : P.cellsOf e = 1) (h : off + m ≤ count) : liesAt P P.depth e (count / P.cellsOf e) off e m = true := by
  rw [depth_succ, liesAt, depth_succ, rowAt]
  rw [← depth_succ, hc]
  have : sameLayout P P.depth e e = true := by rw [depth_succ, sameLayout]; simp
  simp [this, h, Nat.mod_one]
theorem freeze_blk {w : World} {b off m : Nat} {c : Array Value} {t : TypeId} {fr : Nat × Nat} (h : w.heap[b]? = some (.cells c t fr)) (hm : m ≠ 0) : ∃ fr', (w.freeze ⟨b, off, none⟩ m).heap[b]? = some (.cells c t fr') ∧ (∀ k, (fr.1 = fr.2 ∨ fr.2 ≤ k) → fr'.2 ≤ max k (off + m)) := by
  obtain ⟨lo, hi⟩ := fr
  refine ⟨if lo == hi then (off, off + m) else (min lo off, max hi (off + m)), by simp [World.freeze, hm, Array.getElem?_modify, h], fun k hk => ?_⟩
  by_cases he : lo = hi
  · simp [he]; omega
  · simp [he] at hk ⊢; omega
theorem freeze_other {w : World} {b off m j : Nat} (hj : j ≠ b) : (w.freeze ⟨b, off, none⟩ m).heap[j]? = w.heap[j]? := by
  unfold World.freeze
  split
  · rfl
  · simp [Array.getElem?_modify, Ne.symm hj]
theorem freeze_size {w : World} {a : Addr} {m : Nat} : (w.freeze a m).heap.size = w.heap.size := by
  unfold World.freeze
  split <;> simp
theorem freeze_below {B : Nat} {w : World} {b off m : Nat} (hb : B ≤ b) : Below B w (w.freeze ⟨b, off, none⟩ m) := by
  refine ⟨?_, ?_, ?_, by rw [freeze_size]; exact Nat.le_refl _, fun k hk => freeze_other (by omega)⟩ <;> (unfold World.freeze; split <;> rfl)
theorem u8sA_ok (ok : TOk P tb) {ρ : Names} {H H' : AH} {w : World} (hH : HR w0 ρ H w) {pt tl ty : TypeId} {x y : AV} {v : Value} {kd : IntKind} {m : Nat} (h : u8sA tb H pt x m = some (y, H')) (hv : VR ρ x v) (hm : m ≤ 4611686018427387904) :
    ∃ w' r, (Builtin.unsafeString_ #[pt, tl] ty #[v, .int kd (m : Int)]).run P w = .ok r w' ∧ Post w0 ρ H w ρ H' w' ∧ VR ρ y r := by
  unfold u8sA at h
  split at h
  · rename_i id off u hk
    obtain ⟨d, hud, hkd⟩ := tkA_ok ok hk (by simp)
    cases d <;> simp only [kindT] at hkd <;> try (cases hkd; done)
    cases hkd
    rw [VR] at hv
    obtain ⟨b, hb, rfl⟩ := hv
    split at h
    · rename_i k m' hkk
      split at h
      · rename_i hsz
        obtain ⟨inf, hi, hs⟩ := sizeA_ok ok hsz
        obtain ⟨e1, h1⟩ := cond_some' h
        rw [Bool.and_eq_true] at e1
        obtain ⟨e1, hisc⟩ := e1
        have hkc := isC_ok hisc
        obtain rfl := Nat.eq_of_beq_eq_true e1
        dsimp only at h1
        obtain ⟨e2, h2⟩ := cond_some' h1
        have e2 := Nat.eq_of_beq_eq_true e2
        clear h h1
        have h := h2
        clear h2
        split at h
        · rename_i ns hns
          cases h
          have hB := hH.at_ hkk hb
          obtain ⟨us, hus, hcl⟩ := hB.cell
          have hll := (hus.drop off).take (m' + 1)
          have hes := bytesA_ok hns hll
          have hlen : ns.length = m' + 1 := by
            have := congrArg List.length hes
            rw [hll.length, List.length_map] at this
            omega
          have hrg : w.rangeAt b.1 off (ns.map (Value.int .u8)) := by rw [← hes]; exact rangeAt_of hcl off (m' + 1)
          have hlb := run_loadBytes (P := P) ns b.1 off .empty w hrg
          rw [hlen, push_all] at hlb
          obtain ⟨mm, hsh, hle, _⟩ := BRc.shape (hB.c hkc)
          have hcl1 : P.cellsOf k.ty = 1 := by simp [Program.cellsOf, hi, hs]
          have hoff : off + (m' + 1) ≤ mm := by
            have : ((k.cells.drop off).take (m' + 1)).length = m' + 1 := e2
            rw [List.length_take, List.length_drop] at this
            omega
          have hva : (variablesAt ⟨b.1, off, none⟩ k.ty (m' + 1)).run P w = .ok true w := by
            simp only [variablesAt, shape, program, Sem.run, hsh, Sem.run_bind, Result.andThen_ok, Sem.run_pure]
            rw [lies_self hcl1 hoff]
          have hB' := hB.c hkc
          obtain ⟨vs, rest, fr, g1, g2, g3, g4, g5⟩ := hB'
          obtain ⟨fr', f1, f2⟩ := freeze_blk (off := off) (m := m' + 1) g1 (by omega)
          refine ⟨w.freeze ⟨b.1, off, none⟩ (m' + 1), .string ⟨(ns.map fun m => UInt8.ofNat m.toNat).toArray⟩, ?_, Post.put hH hkk hb (freeze_below (hH.rng id b hb).1) freeze_size (fun j hj => freeze_other hj) (.inl ⟨hkc, vs, rest, fr', f1, g2, g3, g4, .inr (f2 k.frz g5)⟩), VR.pl⟩
          have hn : ¬ ((((m' + 1 : Nat)) : Int) > IntKind.i64.max) := by
            have : IntKind.i64.max = 9223372036854775807 := by decide
            omega
          have hn0 : ¬ ((((m' + 1 : Nat)) : Int) < 0) := by omega
          have hn1 : ¬ ((((m' + 1 : Nat)) : Int) = 0) := by omega
          have he9 : ((ByteArray.empty.data ++ (ns.map fun m => UInt8.ofNat m.toNat).toArray)) = (ns.map fun m => UInt8.ofNat m.toNat).toArray := Array.empty_append
          rw [he9] at hlb
          have hpt : (elemOf pt).run P w = .ok k.ty w := by simp [elemOf, run_underlying hud]
          change Sem.run P (asInt (.int kd ((m' + 1 : Nat) : Int)) >>= _) w = _
          simp only [asInt, asIntOf, Sem.run_bind, Sem.run_pure, Result.andThen_ok, List.getElem?_toArray, List.getElem?_cons_zero, hn0, if_false, hn, hn1, hpt, Int.toNat_natCast, hva, if_true, hlb, freeze, Sem.run]
        · cases h
      · cases h
    · cases h
  · cases h

/-! ### One operation -/
def execE (P : Program) (tb : Tab) (E : T AV) (H : AH) (o : Oper) : Option (AR × AH) :=
  match o.op with
  | .store t x y => (match storeA tb E H t x y with | some H' => some (.skip, H') | none => none)
  | .alloc t => (match allocA tb H t with | some (x, H') => some (.val x, H') | none => none)
  | .box t x => (match boxA E H t x with | some (y, H') => some (.val y, H') | none => none)
  | .buildSlice t len ps => (match buildSliceA tb E H t len ps.toList with | some (y, H') => some (.val y, H') | none => none)
  | .makeSlice t l c => (match makeSliceA tb E H t l c with | some (y, H') => some (.val y, H') | none => none)
  | .convert s d x => (match opnd E x with
    | some y => (match b2sA tb H s d y with
      | some z => some (.val z, H)
      | none => (match upA P tb H s d y with | some z => some (.val z, H) | none => none))
    | none => none)
  | .slice t x lo hi none => (match opnd E x, arA tb t with
    | some y, some (m, _, _) => (match bnd E 0 lo, bnd E m hi with
      | some l, some h => (match sliceArrA tb t y l h with | some z => some (.val z, H) | none => none)
      | _, _ => none)
    | _, _ => none)
  | .call c => (match c.callee, c.args.toList, c.argTypes.toList with
    | .builtin .append, [s, x], [t, tx] => (match opnd E s, opnd E x with
      | some y, some z => (match appendA tb H t tx y z with | some (v, H') => some (.val v, H') | none => none)
      | _, _ => none)
    | .builtin .unsafeString, [p, l], [pt, _] => (match opnd E p, pv E l with
      | some y, some v => (match natV v with
        | some m => bif Nat.ble m 4611686018427387904 then (match u8sA tb H pt y m with | some (z, H') => some (.val z, H') | none => none) else none
        | none => none)
      | _, _ => none)
    | .value f, args, _ => (match callA tb E f args with
      | some (g, l) => some (.enter g l, H)
      | none => (match idA tb E f args with | some x => some (.val x, H) | none => none))
    | _, _, _ => none)
  | _ => none

theorem execE_ok (ok : TOk P tb) {ρ : Names} {E : T AV} {a : Act} {H H' : AH} {w : World} (hF : FR n ds ρ E a) (hH : HR w0 ρ H w) {o : Oper} {r : AR} (h : execE P tb E H o = some (r, H')) : EOk P w0 ρ H a w o r H' := by
  obtain ⟨dst, op, type, pos, after, guard⟩ := o
  have hval : ∀ {s : Sem Value} {x : AV}, (∃ ρ' w' v, s.run P w = .ok v w' ∧ Post w0 ρ H w ρ' H' w' ∧ VR ρ' x v) → r = .val x → execOp a.eval ⟨dst, op, type, pos, after, guard⟩ = (do pure (Next.value (← s))) → EOk P w0 ρ H a w ⟨dst, op, type, pos, after, guard⟩ r H' := by
    intro s x hs hr he
    obtain ⟨ρ', w', v, h1, h2, h3⟩ := hs
    exact ⟨ρ', w', .value v, by rw [he]; simp [h1], h2, by rw [hr]; exact ⟨v, rfl, h3⟩⟩
  cases op <;> simp only [execE] at h <;> try (cases h; done)
  case store t x y =>
    split at h
    · rename_i H1 hs
      cases h
      obtain ⟨w', h1, h2⟩ := storeA_ok ok hF hH hs
      exact ⟨ρ, w', .skip, by simp [execOp, h1], h2, rfl⟩
    · cases h
  case alloc t =>
    split at h
    · rename_i x H1 hs
      cases h
      exact hval (allocA_ok ok hH hs) rfl rfl
    · cases h
  case box t x =>
    split at h
    · rename_i y H1 hs
      cases h
      exact hval (boxA_ok hF hH hs) rfl rfl
    · cases h
  case buildSlice t len ps =>
    split at h
    · rename_i y H1 hs
      cases h
      exact hval (buildSliceA_ok ok hF hH hs) rfl rfl
    · cases h
  case makeSlice t l c =>
    split at h
    · rename_i y H1 hs
      cases h
      exact hval (makeSliceA_ok ok hF hH hs) rfl rfl
    · cases h
  case convert s d x =>
    split at h
    · rename_i y hy
      split at h
      · rename_i z hz
        cases h
        obtain ⟨q, rfl, hq⟩ := b2sA_ok ok hH hz (hF.opnd hy)
        exact hval ⟨ρ, w, q, hq, Post.refl hH, VR.pl⟩ rfl rfl
      · split at h
        · rename_i z hz
          cases h
          obtain ⟨q, hq, hr⟩ := upA_ok ok hH hz (hF.opnd hy)
          exact hval ⟨ρ, w, q, hr, Post.refl hH, hq⟩ rfl rfl
        · cases h
    · cases h
  case slice t x lo hi mx =>
    cases mx with
    | some _ => cases h
    | none =>
      simp only at h
      split at h
      · rename_i y m e s hy hm
        split at h
        · rename_i l q hl hq
          split at h
          · rename_i z hz
            cases h
            obtain ⟨v, hv, hr⟩ := sliceArrA_ok ok hF hz hm (hF.opnd hy) hl hq
            exact hval ⟨ρ, w, v, hr w, Post.refl hH, hv⟩ rfl rfl
          · cases h
        · cases h
      · cases h
  case call c =>
    obtain ⟨callee, args, argTypes⟩ := c
    split at h
    · rename_i s x t tx hc hargs hts
      simp only at hc hargs hts
      subst hc
      have h1 : args = #[s, x] := by apply Array.toList_inj.1; simpa using hargs
      have h2 : argTypes = #[t, tx] := by apply Array.toList_inj.1; simpa using hts
      subst h1 h2
      split at h
      · rename_i y z hy hz
        split at h
        · rename_i v H1 hap
          cases h
          obtain ⟨ρ', w', u, g1, g2, g3⟩ := appendA_ok ok hH (ty := type) hap (hF.opnd hy) (hF.opnd hz)
          exact ⟨ρ', w', .value u, by simp [execOp, resolve, invoke, builtin, g1], g2, ⟨u, rfl, g3⟩⟩
        · cases h
      · cases h
    · rename_i p l pt tl hc hargs hts
      simp only at hc hargs hts
      subst hc
      have h1 : args = #[p, l] := by apply Array.toList_inj.1; simpa using hargs
      have h2 : argTypes = #[pt, tl] := by apply Array.toList_inj.1; simpa using hts
      subst h1 h2
      split at h
      · rename_i y v hy hv
        split at h
        · rename_i m hm
          obtain ⟨hle, h⟩ := cond_some' h
          split at h
          · rename_i z H1 hz
            cases h
            obtain ⟨kd, rfl⟩ := natV_ok hm
            obtain ⟨w', r, g1, g2, g3⟩ := u8sA_ok ok hH (tl := tl) (ty := type) (kd := kd) hz (hF.opnd hy) (by simpa using hle)
            exact ⟨ρ, w', .value r, by simp [execOp, resolve, invoke, builtin, hF.pv hv, g1], g2, ⟨r, rfl, g3⟩⟩
          · cases h
        · cases h
      · cases h
    · rename_i f hc
      simp only at hc
      subst hc
      split at h
      · rename_i g l hg
        cases h
        obtain ⟨vs, h1, h2⟩ := callA_ok ok hF (argTypes := argTypes) (ty := type) hg w
        exact ⟨ρ, w, .enter g vs.toArray, h1, Post.refl hH, ⟨vs, rfl, h2⟩⟩
      · split at h
        · rename_i x hx
          cases h
          obtain ⟨v, h1, h2⟩ := idA_ok ok hF (argTypes := argTypes) (ty := type) hx w
          exact ⟨ρ, w, .value v, h1, Post.refl hH, ⟨v, rfl, h2⟩⟩
        · cases h
    · cases h

def exec1 (P : Program) (tb : Tab) (E : T AV) (H : AH) (o : Oper) : Option (AR × AH) :=
  match execQ P tb E H o with
  | some x => some (.val x, H)
  | none => execE P tb E H o
theorem exec1_ok (ok : TOk P tb) {ρ : Names} {E : T AV} {a : Act} {H H' : AH} {w : World} (hF : FR n ds ρ E a) (hH : HR w0 ρ H w) {o : Oper} {r : AR} (h : exec1 P tb E H o = some (r, H')) : EOk P w0 ρ H a w o r H' := by
  unfold exec1 at h
  split at h
  · rename_i x hx
    cases h
    obtain ⟨v, hv, hr⟩ := execQ_ok ok hF hH hx
    exact ⟨ρ, w, .value v, hr w (fun _ _ _ _ => rfl), Post.refl hH, ⟨v, rfl, hv⟩⟩
  · exact execE_ok ok hF hH h
theorem cond_some {α : Type} {b : Bool} {x : Option α} {y : α} (h : (bif b then x else none) = some y) : x = some y := by cases b <;> first | (cases h; done) | exact h
theorem cond_or {α : Type} {b : Bool} {x z : Option α} {y : α} (h : (bif b then x else z) = some y) : x = some y ∨ z = some y := by cases b <;> simp_all
/-- what was written stays noted -/
theorem execE_wr {E : T AV} {H H' : AH} {o : Oper} {r : AR} (h : execE P tb E H o = some (r, H')) : ∀ i ∈ H.wr, i ∈ H'.wr := by
  have hput : ∀ (j : Nat) (k : ABlk), ∀ i ∈ H.wr, i ∈ (H.put j k).wr := fun j k i hi => List.mem_cons_of_mem _ hi
  have hnew : ∀ (k : ABlk), ∀ i ∈ H.wr, i ∈ (H.new k).wr := fun k i hi => hi
  have hdel : ∀ (j : Nat) (k : ABlk), ∀ i ∈ H.wr, i ∈ ((H.del j).new k).wr := fun j k i hi => List.mem_cons_of_mem _ hi
  obtain ⟨dst, op, type, pos, after, guard⟩ := o
  cases op <;> simp only [execE] at h <;> try (cases h; done)
  case store t x y =>
    split at h
    · rename_i H1 hs
      cases h
      unfold storeA at hs
      split at hs <;> try (cases hs; done)
      split at hs <;> try (cases hs; done)
      have hs := cond_some hs
      cases hs; exact hput _ _
    · cases h
  case alloc t =>
    split at h
    · rename_i x H1 hs
      cases h
      unfold allocA at hs
      split at hs <;> try (cases hs; done)
      cases hs
      exact hnew _
    · cases h
  case box t x =>
    split at h
    · rename_i y H1 hs
      cases h
      unfold boxA at hs
      split at hs <;> try (cases hs; done)
      split at hs <;> try (cases hs; done)
      have hs := cond_some hs
      cases hs; exact hnew _
    · cases h
  case buildSlice t len ps =>
    split at h
    · rename_i y H1 hs
      cases h
      unfold buildSliceA at hs
      split at hs <;> try (cases hs; done)
      split at hs <;> try (cases hs; done)
      have hs := cond_some hs
      split at hs <;> try (cases hs; done)
      cases hs; exact hnew _
    · cases h
  case makeSlice t l c =>
    split at h
    · rename_i y H1 hs
      cases h
      unfold makeSliceA at hs
      split at hs <;> try (cases hs; done)
      split at hs <;> try (cases hs; done)
      have hs := cond_some hs
      cases hs; exact hnew _
    · cases h
  case convert s d x =>
    split at h <;> try (cases h; done)
    split at h
    · cases h; exact fun i hi => hi
    · split at h <;> try (cases h; done)
      cases h; exact fun i hi => hi
  case slice t x lo hi mx =>
    cases mx with
    | some _ => cases h
    | none =>
      simp only at h
      split at h <;> try (cases h; done)
      split at h <;> try (cases h; done)
      split at h <;> try (cases h; done)
      cases h; exact fun i hi => hi
  case call c =>
    split at h
    · split at h <;> try (cases h; done)
      split at h <;> try (cases h; done)
      rename_i v H1 hap
      cases h
      unfold appendA at hap
      split at hap <;> try (cases hap; done)
      split at hap <;> try (cases hap; done)
      have hap := cond_some hap
      split at hap <;> try (cases hap; done)
      · split at hap
        · cases hap; exact fun i hi => hi
        · have hap := cond_some hap
          cases hap; exact hnew _
      · split at hap
        · cases hap; exact fun i hi => hi
        · split at hap <;> try (cases hap; done)
          split at hap
          · rcases cond_or hap with hap | hap
            · have hap := cond_some hap
              cases hap; exact hput _ _
            · have hap := cond_some hap
              cases hap; exact hnew _
          · have hap := cond_some hap
            cases hap; exact hdel _ _
    · split at h <;> try (cases h; done)
      split at h <;> try (cases h; done)
      have h := cond_some h
      split at h <;> try (cases h; done)
      rename_i z H1 hz
      cases h
      unfold u8sA at hz
      split at hz <;> try (cases hz; done)
      split at hz <;> try (cases hz; done)
      split at hz <;> try (cases hz; done)
      have hz := cond_some hz
      have hz := cond_some hz
      split at hz <;> try (cases hz; done)
      cases hz; exact hput _ _
    · split at h
      · cases h; exact fun i hi => hi
      · split at h <;> try (cases h; done)
        cases h; exact fun i hi => hi
    · cases h
theorem exec1_wr {E : T AV} {H H' : AH} {o : Oper} {r : AR} (h : exec1 P tb E H o = some (r, H')) : ∀ i ∈ H.wr, i ∈ H'.wr := by
  unfold exec1 at h
  split at h
  · cases h; exact fun i hi => hi
  · exact execE_wr h
end
end Go.Ev
