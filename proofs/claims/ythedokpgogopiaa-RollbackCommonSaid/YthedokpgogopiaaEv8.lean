/- The evaluator, eighth part: conversions, calls, one operation. No statement is proved here. -/
import Derived.Test.YthedokpgogopiaaEv7
namespace Go.Ev
open Go.RowKit Go.Sx
set_option linter.unusedVariables false
set_option linter.unusedSimpArgs false

section
variable {P : Program} {tb : Tab} {w0 : World} {n : Nat}

/-! ### Bytes to a string -/
def bytesA : List AV → Option (List Int)
  | [] => some []
  | .pl (.int .u8 m) :: r => (match bytesA r with | some l => some (m :: l) | none => none)
  | _ => none
theorem bytesA_ok {ρ : Names} : ∀ {l : List AV} {ns : List Int} {vs : List Value}, bytesA l = some ns → VRL ρ l vs → vs = ns.map (Value.int .u8)
  | [], ns, vs, h, hv => by cases h; exact hv.nil
  | x :: r, ns, vs, h, hv => by
    obtain ⟨v, us, rfl, h1, h2⟩ := hv.cons
    unfold bytesA at h
    split at h
    · rename_i heq; cases heq
    · rename_i m r' heq
      cases heq
      split at h
      · rename_i l hl
        cases h
        rw [VR] at h1
        rw [h1, bytesA_ok hl h2]; rfl
      · cases h
    · cases h
theorem push_all : ∀ (ns : List Int) (s : ByteArray), ns.foldl (fun r m => r.push (UInt8.ofNat m.toNat)) s = ⟨s.data ++ (ns.map fun m => UInt8.ofNat m.toNat).toArray⟩
  | [], s => by simp
  | m :: ns, s => by
    rw [List.foldl_cons, push_all ns]
    congr 1
    apply Array.toList_inj.1
    simp [ByteArray.push]
def b2sA (tb : Tab) (H : AH) (src dst : TypeId) (x : AV) : Option AV :=
  match x, slA tb src with
  | .sl id off len _, some (e, 1) => (match H.get id with
    | some k => bif isU8 tb e && isStr tb dst then
      (let l := (k.cells.drop off).take len
       bif Nat.beq l.length len then (match bytesA l with | some ns => some (.pl (.string ⟨(ns.map fun m => UInt8.ofNat m.toNat).toArray⟩)) | none => none) else none) else none
    | none => none)
  | _, _ => none
theorem b2sA_ok (ok : TOk P tb) {ρ : Names} {H : AH} {w : World} (hH : HR w0 ρ H w) {src dst : TypeId} {x y : AV} {v : Value} (h : b2sA tb H src dst x = some y) (hv : VR ρ x v) : ∃ r, y = .pl r ∧ (convert src dst v).run P w = .ok r w := by
  unfold b2sA at h
  split at h
  · rename_i id off len cap e hsl
    obtain ⟨hT, inf, hinf, _⟩ := slA_ok ok hsl
    rw [VR] at hv
    obtain ⟨b, c, hb, rfl, _⟩ := hv
    split at h
    · rename_i k hk
      cases hq : (isU8 tb e && isStr tb dst) with
      | false => rw [hq] at h; cases h
      | true =>
        rw [hq] at h
        simp only [cond_true] at h
        simp only [Bool.and_eq_true] at hq
        cases hl : Nat.beq ((k.cells.drop off).take len).length len with
        | false => rw [hl] at h; cases h
        | true =>
          rw [hl] at h
          simp only [cond_true] at h
          split at h
          · rename_i ns hns
            cases h
            refine ⟨_, rfl, ?_⟩
            obtain ⟨us, hus, hcl⟩ := (hH.at_ hk hb).cell
            have hll := (hus.drop off).take len
            have he := bytesA_ok hns hll
            have hlen : ((us.drop off).take len).length = len := by rw [hll.length]; exact Nat.eq_of_beq_eq_true hl
            have hld : (loadCells ⟨b.1, off, none⟩ len).run P w = .ok (ns.map (Value.int .u8)).toArray w := by
              have := run_loadCells_list (P := P) w ⟨b.1, off, none⟩ ((us.drop off).take len) (fun j u hu => by rw [Addr.add_mid]; exact rangeAt_of hcl off len j u hu)
              rw [hlen, he] at this
              exact this
            have hr := run_bytesToString (P := P) w ⟨b.1, off, none⟩ len c ns hld
            rw [push_all] at hr
            have hcv : (convert src dst (.slice (some ⟨b.1, off, none⟩) len c)).run P w = (Conv.bytesToString (.slice (some ⟨b.1, off, none⟩) len c)).run P w := by
              simp only [convert, Sem.run_bind, run_underlying hT, run_underlying (isStr_ok ok hq.2), Result.andThen_ok, run_underlying (isU8_ok ok hq.1)]
            rw [hcv, hr]
            congr 3
            exact Array.empty_append
          · cases h
    · cases h
  · cases h

/-! ### A slice of an array -/
def sliceArrA (tb : Tab) (t : TypeId) (x : AV) (l h : Nat) : Option AV :=
  match x with
  | .ptr id off => (match arA tb t with
    | some (m, _, s) => bif Nat.ble l h && Nat.ble h m && Nat.ble m 4611686018427387904 then some (.sl id (bif Nat.beq m l then off else off + l * s) (h - l) (.k (m - l))) else none
    | none => none)
  | _ => none
theorem sliceArrA_ok (ok : TOk P tb) {E : T AV} {ρ : Names} {a : Act} (hF : FR n ρ E a) {t : TypeId} {x y : AV} {lo hi : Option Operand} {l h : Nat} {m e s : Nat} {v : Value} (hx : sliceArrA tb t x l h = some y) (hm : arA tb t = some (m, e, s)) (hv : VR ρ x v)
    (hl : bnd E 0 lo = some l) (hh : bnd E m hi = some h) : ∃ r, VR ρ y r ∧ ∀ w, (Instr.sliceAt t v (lo.map a.eval) (hi.map a.eval) none).run P w = .ok r w := by
  unfold sliceArrA at hx
  split at hx
  · rename_i id off
    rw [VR] at hv
    obtain ⟨b, hb, rfl⟩ := hv
    rw [hm] at hx
    obtain ⟨hT, inf, hi', hsz⟩ := arA_ok ok hm
    simp only at hx
    cases hq : (Nat.ble l h && Nat.ble h m && Nat.ble m 4611686018427387904) with
    | false => rw [hq] at hx; cases hx
    | true =>
      rw [hq] at hx
      simp only [Bool.and_eq_true, Nat.ble_eq] at hq
      cases hx
      refine ⟨.slice (some (if m = l then ⟨b.1, off, none⟩ else ⟨b.1, off + l * s, none⟩)) (h - l) (m - l), ?_, fun w => ?_⟩
      · rw [VR]
        refine ⟨b, m - l, hb, ?_, by omega, by simp only [maxLen]; omega, rfl⟩
        congr 2
        cases hcl : Nat.beq m l with
        | true => rw [if_pos (Nat.eq_of_beq_eq_true hcl)]; rfl
        | false => rw [if_neg (fun e => by rw [e] at hcl; simp at hcl)]; rfl
      · have hbd := bounds_ok hF (P := P) false hl hh hq.1.1 hq.1.2 w
        simp only [Instr.sliceAt, Sem.run_bind, run_underlying hT, Result.andThen_ok, Instr.sureAddr, hbd, sizeOf, typeInfo, Sem.run_pure, hi', hsz, program, Sem.run]
        by_cases hcl : m = l
        · simp [hcl]
        · simp [hcl, Addr.add_mid]
  · cases hx

/-! ### Calls -/
def calleeA (f : AV) (args : List AV) : Option (FuncId × List AV) :=
  match f with
  | .fn (.func g) p q => some (g, p ++ args ++ q)
  | .pl (.func (.func g) p q) => some (g, plMap p.toList ++ args ++ plMap q.toList)
  | _ => none
def callA (tb : Tab) (E : T AV) (f : Operand) (args : List Operand) : Option (FuncId × List AV) :=
  match opnd E f, opnds E args with
  | some x, some l => (match calleeA x l with
    | some (g, as') => (match tb.fn.get g with | some _ => some (g, as') | none => none)
    | none => none)
  | _, _ => none
theorem callA_ok (ok : TOk P tb) {E : T AV} {ρ : Names} {a : Act} (hF : FR n ρ E a) {f : Operand} {args : Array Operand} {argTypes : Array TypeId} {ty : TypeId} {g : FuncId} {l : List AV} (h : callA tb E f args.toList = some (g, l)) (w : World) :
    ∃ vs : List Value, (do let d ← resolve a.eval ⟨.value f, args, argTypes⟩ ty; invoke d.target d.args).run P w = .ok (.enter g vs.toArray) w ∧ VRL ρ l vs := by
  unfold callA at h
  split at h
  · rename_i x l' hx hl
    have hv := hF.opnd hx
    have hls := hF.opnds hl
    have am : args.map a.eval = (args.toList.map a.eval).toArray := by apply Array.toList_inj.1; simp
    split at h
    · rename_i g' as' hc
      split at h
      · rename_i u hfn
        cases h
        obtain ⟨fn, h1, h2, h3⟩ := ok.func hfn
        have hcf : ∀ xs : Array Value, (callFunc g xs).run P w = .ok (.enter g xs) w := fun xs => by
          have h2' : fn.name ≠ "runtime.NumGoroutine" := by simpa using h2
          have h3' : fn.body ≠ none := by intro e; rw [e] at h3; cases h3
          simp [callFunc, h1, h2', h3']
        unfold calleeA at hc
        split at hc
        · rename_i g2 p q
          cases hc
          rw [VR] at hv
          obtain ⟨vs, us, he, hp, hq⟩ := hv
          refine ⟨vs ++ args.toList.map a.eval ++ us, ?_, (hp.app hls).app hq⟩
          simp [resolve, Deferred.ofValue, he, invoke, hcf, am]
        · rename_i g2 p q
          cases hc
          rw [VR] at hv
          refine ⟨p.toList ++ args.toList.map a.eval ++ q.toList, ?_, ((VRL.plMap _).app hls).app (VRL.plMap _)⟩
          simp [resolve, Deferred.ofValue, hv, invoke, hcf, am]
        · cases hc
      · cases h
    · cases h
  · cases h

/-! ### One operation -/
def execE (P : Program) (tb : Tab) (E : T AV) (H : AH) (o : Oper) : Option (AR × AH) :=
  match o.op with
  | .store t x y => (match storeA tb E H t x y with | some H' => some (.skip, H') | none => none)
  | .alloc t => (match allocA tb H t with | some (x, H') => some (.val x, H') | none => none)
  | .box t x => (match boxA E H t x with | some (y, H') => some (.val y, H') | none => none)
  | .buildSlice t len ps => (match buildSliceA tb E H t len ps.toList with | some (y, H') => some (.val y, H') | none => none)
  | .makeSlice t l c => (match makeSliceA tb E H t l c with | some (y, H') => some (.val y, H') | none => none)
  | .convert s d x => (match opnd E x with
    | some y => (match b2sA tb H s d y with | some z => some (.val z, H) | none => none)
    | none => none)
  | .slice t x lo hi none => (match opnd E x, arA tb t with
    | some y, some (m, _, _) => (match bnd E 0 lo, bnd E m hi with
      | some l, some h => (match sliceArrA tb t y l h with | some z => some (.val z, H) | none => none)
      | _, _ => none)
    | _, _ => none)
  | .call c => (match c.callee, c.args.toList, c.argTypes.toList with
    | .builtin .append, [s, x], [t, tx] => (match opnd E s, opnd E x with
      | some y, some z => (match appendA tb H t tx y z with | some (v, H') => some (.val v, H') | none => none)
      | _, _ => none)
    | .value f, args, _ => (match callA tb E f args with | some (g, l) => some (.enter g l, H) | none => none)
    | _, _, _ => none)
  | _ => none

theorem execE_ok (ok : TOk P tb) {ρ : Names} {E : T AV} {a : Act} {H H' : AH} {w : World} (hF : FR n ρ E a) (hH : HR w0 ρ H w) {o : Oper} {r : AR} (h : execE P tb E H o = some (r, H')) : EOk P w0 ρ H a w o r H' := by
  obtain ⟨dst, op, type, pos, after, guard⟩ := o
  have hval : ∀ {s : Sem Value} {x : AV}, (∃ ρ' w' v, s.run P w = .ok v w' ∧ Post w0 ρ H w ρ' H' w' ∧ VR ρ' x v) → r = .val x → execOp a.eval ⟨dst, op, type, pos, after, guard⟩ = (do pure (Next.value (← s))) → EOk P w0 ρ H a w ⟨dst, op, type, pos, after, guard⟩ r H' := by
    intro s x hs hr he
    obtain ⟨ρ', w', v, h1, h2, h3⟩ := hs
    exact ⟨ρ', w', .value v, by rw [he]; simp [h1], h2, by rw [hr]; exact ⟨v, rfl, h3⟩⟩
  cases op <;> simp only [execE] at h <;> try (cases h; done)
  case store t x y =>
    split at h
    · rename_i H1 hs
      cases h
      obtain ⟨w', h1, h2⟩ := storeA_ok ok hF hH hs
      exact ⟨ρ, w', .skip, by simp [execOp, h1], h2, rfl⟩
    · cases h
  case alloc t =>
    split at h
    · rename_i x H1 hs
      cases h
      exact hval (allocA_ok ok hH hs) rfl rfl
    · cases h
  case box t x =>
    split at h
    · rename_i y H1 hs
      cases h
      exact hval (boxA_ok hF hH hs) rfl rfl
    · cases h
  case buildSlice t len ps =>
    split at h
    · rename_i y H1 hs
      cases h
      exact hval (buildSliceA_ok ok hF hH hs) rfl rfl
    · cases h
  case makeSlice t l c =>
    split at h
    · rename_i y H1 hs
      cases h
      exact hval (makeSliceA_ok ok hF hH hs) rfl rfl
    · cases h
  case convert s d x =>
    split at h
    · rename_i y hy
      split at h
      · rename_i z hz
        cases h
        obtain ⟨q, rfl, hq⟩ := b2sA_ok ok hH hz (hF.opnd hy)
        exact hval ⟨ρ, w, q, hq, Post.refl hH, VR.pl⟩ rfl rfl
      · cases h
    · cases h
  case slice t x lo hi mx =>
    cases mx with
    | some _ => cases h
    | none =>
      simp only at h
      split at h
      · rename_i y m e s hy hm
        split at h
        · rename_i l q hl hq
          split at h
          · rename_i z hz
            cases h
            obtain ⟨v, hv, hr⟩ := sliceArrA_ok ok hF hz hm (hF.opnd hy) hl hq
            exact hval ⟨ρ, w, v, hr w, Post.refl hH, hv⟩ rfl rfl
          · cases h
        · cases h
      · cases h
  case call c =>
    obtain ⟨callee, args, argTypes⟩ := c
    split at h
    · rename_i s x t tx hc hargs hts
      simp only at hc hargs hts
      subst hc
      have h1 : args = #[s, x] := by apply Array.toList_inj.1; simpa using hargs
      have h2 : argTypes = #[t, tx] := by apply Array.toList_inj.1; simpa using hts
      subst h1 h2
      split at h
      · rename_i y z hy hz
        split at h
        · rename_i v H1 hap
          cases h
          obtain ⟨ρ', w', u, g1, g2, g3⟩ := appendA_ok ok hH (ty := type) hap (hF.opnd hy) (hF.opnd hz)
          exact ⟨ρ', w', .value u, by simp [execOp, resolve, invoke, builtin, g1], g2, ⟨u, rfl, g3⟩⟩
        · cases h
      · cases h
    · rename_i f hc
      simp only at hc
      subst hc
      split at h
      · rename_i g l hg
        cases h
        obtain ⟨vs, h1, h2⟩ := callA_ok ok hF (argTypes := argTypes) (ty := type) hg w
        exact ⟨ρ, w, .enter g vs.toArray, h1, Post.refl hH, ⟨vs, rfl, h2⟩⟩
      · cases h
    · cases h

def exec1 (P : Program) (tb : Tab) (E : T AV) (H : AH) (o : Oper) : Option (AR × AH) :=
  match execQ P tb E H o with
  | some x => some (.val x, H)
  | none => execE P tb E H o
theorem exec1_ok (ok : TOk P tb) {ρ : Names} {E : T AV} {a : Act} {H H' : AH} {w : World} (hF : FR n ρ E a) (hH : HR w0 ρ H w) {o : Oper} {r : AR} (h : exec1 P tb E H o = some (r, H')) : EOk P w0 ρ H a w o r H' := by
  unfold exec1 at h
  split at h
  · rename_i x hx
    cases h
    obtain ⟨v, hv, hr⟩ := execQ_ok ok hF hH hx
    exact ⟨ρ, w, .value v, hr w (fun _ _ _ _ => rfl), Post.refl hH, ⟨v, rfl, hv⟩⟩
  · exact execE_ok ok hF hH h
theorem cond_some {α : Type} {b : Bool} {x : Option α} {y : α} (h : (bif b then x else none) = some y) : x = some y := by cases b <;> first | (cases h; done) | exact h
theorem cond_or {α : Type} {b : Bool} {x z : Option α} {y : α} (h : (bif b then x else z) = some y) : x = some y ∨ z = some y := by cases b <;> simp_all
/-- what was written stays noted -/
theorem execE_wr {E : T AV} {H H' : AH} {o : Oper} {r : AR} (h : execE P tb E H o = some (r, H')) : ∀ i ∈ H.wr, i ∈ H'.wr := by
  have hput : ∀ (j : Nat) (k : ABlk), ∀ i ∈ H.wr, i ∈ (H.put j k).wr := fun j k i hi => List.mem_cons_of_mem _ hi
  have hnew : ∀ (k : ABlk), ∀ i ∈ H.wr, i ∈ (H.new k).wr := fun k i hi => hi
  have hdel : ∀ (j : Nat) (k : ABlk), ∀ i ∈ H.wr, i ∈ ((H.del j).new k).wr := fun j k i hi => List.mem_cons_of_mem _ hi
  obtain ⟨dst, op, type, pos, after, guard⟩ := o
  cases op <;> simp only [execE] at h <;> try (cases h; done)
  case store t x y =>
    split at h
    · rename_i H1 hs
      cases h
      unfold storeA at hs
      split at hs <;> try (cases hs; done)
      split at hs <;> try (cases hs; done)
      have hs := cond_some hs
      cases hs; exact hput _ _
    · cases h
  case alloc t =>
    split at h
    · rename_i x H1 hs
      cases h
      unfold allocA at hs
      split at hs <;> try (cases hs; done)
      cases hs
      exact hnew _
    · cases h
  case box t x =>
    split at h
    · rename_i y H1 hs
      cases h
      unfold boxA at hs
      split at hs <;> try (cases hs; done)
      split at hs <;> try (cases hs; done)
      have hs := cond_some hs
      cases hs; exact hnew _
    · cases h
  case buildSlice t len ps =>
    split at h
    · rename_i y H1 hs
      cases h
      unfold buildSliceA at hs
      split at hs <;> try (cases hs; done)
      split at hs <;> try (cases hs; done)
      have hs := cond_some hs
      split at hs <;> try (cases hs; done)
      cases hs; exact hnew _
    · cases h
  case makeSlice t l c =>
    split at h
    · rename_i y H1 hs
      cases h
      unfold makeSliceA at hs
      split at hs <;> try (cases hs; done)
      split at hs <;> try (cases hs; done)
      have hs := cond_some hs
      cases hs; exact hnew _
    · cases h
  case convert s d x =>
    split at h <;> try (cases h; done)
    split at h <;> try (cases h; done)
    cases h; exact fun i hi => hi
  case slice t x lo hi mx =>
    cases mx with
    | some _ => cases h
    | none =>
      simp only at h
      split at h <;> try (cases h; done)
      split at h <;> try (cases h; done)
      split at h <;> try (cases h; done)
      cases h; exact fun i hi => hi
  case call c =>
    split at h
    · split at h <;> try (cases h; done)
      split at h <;> try (cases h; done)
      rename_i v H1 hap
      cases h
      unfold appendA at hap
      split at hap <;> try (cases hap; done)
      split at hap <;> try (cases hap; done)
      have hap := cond_some hap
      split at hap <;> try (cases hap; done)
      · split at hap
        · cases hap; exact fun i hi => hi
        · have hap := cond_some hap
          cases hap; exact hnew _
      · split at hap
        · cases hap; exact fun i hi => hi
        · split at hap <;> try (cases hap; done)
          split at hap
          · rcases cond_or hap with hap | hap
            · have hap := cond_some hap
              cases hap; exact hput _ _
            · have hap := cond_some hap
              cases hap; exact hnew _
          · have hap := cond_some hap
            cases hap; exact hdel _ _
    · split at h <;> try (cases h; done)
      cases h; exact fun i hi => hi
    · cases h
theorem exec1_wr {E : T AV} {H H' : AH} {o : Oper} {r : AR} (h : exec1 P tb E H o = some (r, H')) : ∀ i ∈ H.wr, i ∈ H'.wr := by
  unfold exec1 at h
  split at h
  · cases h; exact fun i hi => hi
  · exact execE_wr h
end
end Go.Ev
