/- The evaluator, third part: operations that read at the most. No statement is proved here. -/
import Derived.Test.YtpdichhabjieeaaGreatDoorEw2
namespace Go.Ev
open Go.RowKit Go.Sx
set_option linter.unusedVariables false
set_option linter.unusedSimpArgs false

section
variable {P : Program} {tb : Tab} {w0 : World} {n : Nat} {ds : List Deferred}

def fldA (tb : Tab) (s : TypeId) (f : Nat) : Option (Nat × Nat) :=
  match tb.ty.get s with
  | some i => (match i.k with | .st fs => fs[f]? | _ => none)
  | none => none
theorem fldA_ok (ok : TOk P tb) {s : TypeId} {f : Nat} {x : Nat × Nat} (h : fldA tb s f = some x) : ∃ fs fl, P.underlying s = some (.struct fs) ∧ fs[f]? = some fl ∧ fl.offset = x.1 ∧ fl.type = x.2 := by
  unfold fldA at h
  split at h
  · rename_i i hi
    obtain ⟨d, inf, z, hd, _, _, hk, _⟩ := ok.at_ hi
    rw [hk] at h
    cases d <;> simp only [kindT] at h <;> try (cases h; done)
    rename_i fs
    rw [List.getElem?_map] at h
    cases hf : fs.toList[f]? with
    | none => rw [hf] at h; cases h
    | some fl => rw [hf] at h; cases h; exact ⟨fs, fl, hd, by simpa using hf, rfl, rfl⟩
  · cases h
def sizeA (tb : Tab) (t : TypeId) : Option Nat := match tb.ty.get t with | some i => some i.size | none => none
theorem sizeA_ok (ok : TOk P tb) {t : TypeId} {s : Nat} (h : sizeA tb t = some s) : ∃ inf, P.info? t = some inf ∧ inf.size = s := by
  unfold sizeA at h
  split at h
  · rename_i i hi
    obtain ⟨d, inf, z, hd, hinf, _, hk, hs, _⟩ := ok.at_ hi
    cases h
    exact ⟨inf, hinf, hs.symm⟩
  · cases h
/-- the element's type and size of a slice type -/
def slA (tb : Tab) (t : TypeId) : Option (Nat × Nat) :=
  match tb.ty.get t with
  | some i => (match i.k with | .sl e => (match sizeA tb e with | some s => some (e, s) | none => none) | _ => none)
  | none => none
theorem slA_ok (ok : TOk P tb) {t e s : Nat} (h : slA tb t = some (e, s)) : P.underlying t = some (.slice e) ∧ ∃ inf, P.info? e = some inf ∧ inf.size = s := by
  unfold slA at h
  split at h
  · rename_i i hi
    obtain ⟨d, inf, z, hd, _, _, hk, _⟩ := ok.at_ hi
    rw [hk] at h
    cases d <;> simp only [kindT] at h <;> try (cases h; done)
    rename_i e'
    cases hs : sizeA tb e' with
    | none => rw [hs] at h; cases h
    | some s' => rw [hs] at h; cases h; exact ⟨hd, sizeA_ok ok hs⟩
  · cases h
def arA (tb : Tab) (t : TypeId) : Option (Nat × Nat × Nat) :=
  match tb.ty.get t with
  | some i => (match i.k with | .ar m e => (match sizeA tb e with | some s => some (m, e, s) | none => none) | _ => none)
  | none => none
theorem arA_ok (ok : TOk P tb) {t m e s : Nat} (h : arA tb t = some (m, e, s)) : P.underlying t = some (.array m e) ∧ ∃ inf, P.info? e = some inf ∧ inf.size = s := by
  unfold arA at h
  split at h
  · rename_i i hi
    obtain ⟨d, inf, z, hd, _, _, hk, _⟩ := ok.at_ hi
    rw [hk] at h
    cases d <;> simp only [kindT] at h <;> try (cases h; done)
    rename_i m' e'
    cases hs : sizeA tb e' with
    | none => rw [hs] at h; cases h
    | some s' => rw [hs] at h; cases h; exact ⟨hd, sizeA_ok ok hs⟩
  · cases h

/-- a number that is not negative -/
def natV : Value → Option Nat
  | .int _ (.ofNat m) => some m
  | _ => none
theorem natV_ok {v : Value} {m : Nat} (h : natV v = some m) : ∃ k, v = .int k (m : Int) := by
  cases v with
  | int k i => cases i with
    | ofNat x => cases h; exact ⟨k, rfl⟩
    | negSucc x => cases h
  | _ => cases h

/-! ### Addresses -/
def indexAddrA (tb : Tab) (t : TypeId) (x : AV) (i : Nat) : Option AV :=
  match x with
  | .sl id off len _ => (match slA tb t with
    | some (_, s) => bif Nat.blt i len then some (.ptr id (off + i * s)) else none
    | none => none)
  | .ptr id off => (match arA tb t with
    | some (m, _, s) => bif Nat.blt i m then some (.ptr id (off + i * s)) else none
    | none => none)
  | _ => none
theorem indexAddrA_ok (ok : TOk P tb) {ρ : Names} {t : TypeId} {x y : AV} {i : Nat} {v u : Value} (h : indexAddrA tb t x i = some y) (hv : VR ρ x v) (hu : natV u = some i) :
    ∃ r, VR ρ y r ∧ ∀ w, (Instr.indexAt t v u).run P w = .ok r w := by
  obtain ⟨k, rfl⟩ := natV_ok hu
  unfold indexAddrA at h
  split at h
  · rename_i id off len cap
    rw [VR] at hv
    obtain ⟨b, c, hb, rfl, _⟩ := hv
    split at h
    · rename_i e s hs
      obtain ⟨hT, inf, hi, hsz⟩ := slA_ok ok hs
      cases hlt : Nat.blt i len with
      | false => rw [hlt] at h; cases h
      | true =>
        rw [hlt] at h
        cases h
        have hlt' : i < len := by simpa [Nat.blt_eq] using hlt
        refine ⟨.pointer (some ⟨b.1, off + i * s, none⟩), by rw [VR]; exact ⟨b, hb, rfl⟩, fun w => ?_⟩
        simp [Instr.indexAt, asIntOf, run_underlying hT, hlt', sizeOf, typeInfo, hi, hsz, Addr.add_mid]
    · cases h
  · rename_i id off
    rw [VR] at hv
    obtain ⟨b, hb, rfl⟩ := hv
    split at h
    · rename_i m e s hs
      obtain ⟨hT, inf, hi, hsz⟩ := arA_ok ok hs
      cases hlt : Nat.blt i m with
      | false => rw [hlt] at h; cases h
      | true =>
        rw [hlt] at h
        cases h
        have hlt' : i < m := by simpa [Nat.blt_eq] using hlt
        refine ⟨.pointer (some ⟨b.1, off + i * s, none⟩), by rw [VR]; exact ⟨b, hb, rfl⟩, fun w => ?_⟩
        simp [Instr.indexAt, Instr.sureAddr, asIntOf, run_underlying hT, hlt', sizeOf, typeInfo, hi, hsz, Addr.add_mid]
    · cases h
  · cases h

def fieldAddrA (tb : Tab) (s : TypeId) (x : AV) (f : Nat) : Option AV :=
  match x, fldA tb s f with
  | .ptr id off, some (o, ft) => (match sizeA tb ft with | some (_ + 1) => some (.ptr id (off + o)) | _ => none)
  | _, _ => none
theorem fieldAddrA_ok (ok : TOk P tb) {ρ : Names} {s : TypeId} {x y : AV} {f : Nat} {v : Value} (h : fieldAddrA tb s x f = some y) (hv : VR ρ x v) :
    ∃ r, VR ρ y r ∧ ∀ w, (Instr.fieldAt s v f).run P w = .ok r w := by
  unfold fieldAddrA at h
  split at h
  · rename_i id off o ft hf
    obtain ⟨fs, fl, hu, hfl, h1, h2⟩ := fldA_ok ok hf
    simp only at h1 h2
    rw [VR] at hv
    obtain ⟨b, hb, rfl⟩ := hv
    split at h
    · rename_i sz hsz
      obtain ⟨inf, hi, hs⟩ := sizeA_ok ok hsz
      cases h
      refine ⟨.pointer (some ⟨b.1, off + o, none⟩), by rw [VR]; exact ⟨b, hb, rfl⟩, fun w => ?_⟩
      simp [Instr.fieldAt, Instr.sureAddr, run_underlying hu, hfl, fieldPlace, sizeOf, typeInfo, h2, hi, hs, h1, Addr.add_mid]
    · cases h
  · cases h

/-! ### Parts of values -/
def fieldA (tb : Tab) (s : TypeId) (x : AV) (f : Nat) : Option AV :=
  match x, fldA tb s f with
  | .agg l, some (o, ft) => (match kindA tb ft with | some kd => readA l o kd | none => none)
  | _, _ => none
theorem fieldA_ok (ok : TOk P tb) {ρ : Names} {s : TypeId} {x y : AV} {f : Nat} {v : Value} (h : fieldA tb s x f = some y) (hv : VR ρ x v) :
    ∃ r, VR ρ y r ∧ ∀ w, (Instr.field s v f).run P w = .ok r w := by
  unfold fieldA at h
  split at h
  · rename_i l o ft hf
    obtain ⟨fs, fl, hu, hfl, h1, h2⟩ := fldA_ok ok hf
    simp only at h1 h2
    rw [VR] at hv
    obtain ⟨vs, rfl, hl⟩ := hv
    split at h
    · rename_i kd hk
      obtain ⟨r, hr, hvr⟩ := part_ok hl (kindA_ok ok hk) h
      exact ⟨r, hvr, fun w => by simp [Instr.field, run_underlying hu, hfl, asAgg, h1, h2, hr]⟩
    · cases h
  · cases h
def indexA (tb : Tab) (t : TypeId) (x : AV) (i : Nat) : Option AV :=
  match x, arA tb t with
  | .agg l, some (m, e, s) => (match kindA tb e with | some kd => bif Nat.blt i m then readA l (i * s) kd else none | none => none)
  | _, _ => none
theorem indexA_ok (ok : TOk P tb) {ρ : Names} {t : TypeId} {x y : AV} {i : Nat} {v u : Value} (h : indexA tb t x i = some y) (hv : VR ρ x v) (hu : natV u = some i) :
    ∃ r, VR ρ y r ∧ ∀ w, (Instr.index t v u).run P w = .ok r w := by
  obtain ⟨k, rfl⟩ := natV_ok hu
  unfold indexA at h
  split at h
  · rename_i l m e s hs
    obtain ⟨hT, inf, hi, hsz⟩ := arA_ok ok hs
    rw [VR] at hv
    obtain ⟨vs, rfl, hl⟩ := hv
    split at h
    · rename_i kd hk
      cases hlt : Nat.blt i m with
      | false => rw [hlt] at h; cases h
      | true =>
        rw [hlt] at h
        have hlt' : i < m := by simpa [Nat.blt_eq] using hlt
        obtain ⟨r, hr, hvr⟩ := part_ok hl (kindA_ok ok hk) h
        exact ⟨r, hvr, fun w => by simp [Instr.index, asIntOf, run_underlying hT, hlt', sizeOf, typeInfo, hi, hsz, hr]⟩
    · cases h
  · cases h

def extractA (x : AV) (i : Nat) : Option AV := match x with | .tup l => l[i]? | _ => none
theorem extractA_ok {ρ : Names} {x y : AV} {i : Nat} {v : Value} (h : extractA x i = some y) (hv : VR ρ x v) : ∃ r, VR ρ y r ∧ ∀ w, (Instr.extract v i).run P w = .ok r w := by
  unfold extractA at h
  split at h
  · rename_i l
    rw [VR] at hv
    obtain ⟨vs, rfl, hl⟩ := hv
    obtain ⟨r, hr, hvr⟩ := hl.get i y h
    exact ⟨r, hvr, fun w => by simp [Instr.extract, hr]⟩
  · cases h

/-! ### Slices of slices -/
def bnd (E : T AV) (d : Nat) : Option Operand → Option Nat
  | none => some d
  | some x => (match pv E x with | some v => natV v | none => none)
def sliceA (tb : Tab) (t : TypeId) (x : AV) (l h : Nat) : Option AV :=
  match x with
  | .sl id off len cap => (match slA tb t with
    | some (_, s) => (match cap with
      | .k c => bif Nat.ble l h && Nat.ble h c then some (.sl id (bif Nat.beq c l then off else off + l * s) (h - l) (.k (c - l))) else none
      | .u d => bif Nat.ble l h && Nat.ble h len && (Nat.blt l len || Nat.beq l 0) then some (.sl id (off + l * s) (h - l) (.u (d + l))) else (bif Nat.beq l len && Nat.beq h len then some .em else none))
    | none => none)
  | .em => (match slA tb t with
    | some _ => bif Nat.beq l 0 && Nat.beq h 0 then some .em else none
    | none => none)
  | _ => none
def lenA : AV → Option Nat
  | .sl _ _ len _ => some len
  | .em => some 0
  | _ => none

theorem bounds_ok {E : T AV} {ρ : Names} {a : Act} (hF : FR n ds ρ E a) {lo hi : Option Operand} {l h len cap : Nat} (isS : Bool) (hl : bnd E 0 lo = some l) (hh : bnd E len hi = some h) (hlh : l ≤ h) (hhc : h ≤ cap) (w : World) :
    (Instr.sliceBounds isS len cap (lo.map a.eval) (hi.map a.eval) none).run P w = .ok (l, h, cap) w := by
  have hb : ∀ (x : Operand) (m : Nat) (y : Nat) (code : BoundsCode), (match pv E x with | some v => natV v | none => none) = some m → m ≤ y → (Instr.sliceBound (a.eval x) y code).run P w = .ok m w := fun x m y code hx hm => by
    split at hx
    · rename_i v hv
      obtain ⟨k, rfl⟩ := natV_ok hx
      rw [hF.pv hv]
      have : (m : Int) ≤ (y : Int) := by omega
      simp [Instr.sliceBound, asIntOf, hm]
    · cases hx
  cases lo with
  | none =>
    cases hl
    cases hi with
    | none => cases hh; simp [Instr.sliceBounds]
    | some y => simp [Instr.sliceBounds, hb y h cap _ hh hhc]
  | some x =>
    cases hi with
    | none => cases hh; simp [Instr.sliceBounds, hb x l h _ hl hlh]
    | some y => simp [Instr.sliceBounds, hb y h cap _ hh hhc, hb x l h _ hl hlh]

theorem sliceA_ok (ok : TOk P tb) {E : T AV} {ρ : Names} {a : Act} (hF : FR n ds ρ E a) {t : TypeId} {x y : AV} {lo hi : Option Operand} {l h len : Nat} {v : Value} (hx : sliceA tb t x l h = some y) (hlen : lenA x = some len) (hv : VR ρ x v)
    (hl : bnd E 0 lo = some l) (hh : bnd E len hi = some h) : ∃ r, VR ρ y r ∧ ∀ w, (Instr.sliceAt t v (lo.map a.eval) (hi.map a.eval) none).run P w = .ok r w := by
  unfold sliceA at hx
  split at hx
  · rename_i id off len' cap
    cases hlen
    rw [VR] at hv
    obtain ⟨b, c, hb, rfl, hlc, hcm, hcap⟩ := hv
    split at hx
    · rename_i e s hs
      obtain ⟨hT, inf, hi', hsz⟩ := slA_ok ok hs
      split at hx
      · rename_i c'
        have hc : c = c' := hcap
        subst hc
        cases hq : (Nat.ble l h && Nat.ble h c) with
        | false => rw [hq] at hx; cases hx
        | true =>
          rw [hq] at hx
          simp only [Bool.and_eq_true, Nat.ble_eq] at hq
          cases hx
          refine ⟨.slice (some (if c = l then ⟨b.1, off, none⟩ else ⟨b.1, off + l * s, none⟩)) (h - l) (c - l), ?_, fun w => ?_⟩
          · rw [VR]
            refine ⟨b, c - l, hb, ?_, by omega, by omega, rfl⟩
            congr 2
            cases hcl : Nat.beq c l with
            | true => rw [if_pos (Nat.eq_of_beq_eq_true hcl)]; rfl
            | false => rw [if_neg (fun e => by rw [e] at hcl; simp at hcl)]; rfl
          · have hbd := bounds_ok hF (P := P) true hl hh hq.1 hq.2 w
            simp only [Instr.sliceAt, Sem.run_bind, run_underlying hT, Result.andThen_ok, Instr.slice, hbd, sizeOf, typeInfo, Sem.run_pure, hi', hsz, program, Sem.run]
            by_cases hcl : c = l
            · simp [hcl]
            · simp [hcl, Addr.add_mid]
      · rename_i d
        cases hq : (Nat.ble l h && Nat.ble h len && (Nat.blt l len || Nat.beq l 0)) with
        | false =>
          rw [hq] at hx
          simp only [cond_false] at hx
          cases hq2 : (Nat.beq l len && Nat.beq h len) with
          | false => rw [hq2] at hx; cases hx
          | true =>
            rw [hq2] at hx
            cases hx
            simp only [Bool.and_eq_true] at hq2
            obtain ⟨e1, e2⟩ := hq2
            have e1 := Nat.eq_of_beq_eq_true e1
            have e2 := Nat.eq_of_beq_eq_true e2
            refine ⟨.slice (some (if c = l then ⟨b.1, off, none⟩ else ⟨b.1, off + l * s, none⟩)) 0 (c - l), by rw [VR]; exact ⟨_, _, rfl, by omega⟩, fun w => ?_⟩
            have hbd := bounds_ok hF (P := P) true hl hh (by omega) (show h ≤ c by omega) w
            simp only [Instr.sliceAt, Sem.run_bind, run_underlying hT, Result.andThen_ok, Instr.slice, hbd, sizeOf, typeInfo, Sem.run_pure, hi', hsz, program, Sem.run]
            rw [show h - l = 0 by omega]
            by_cases hcl : c = l
            · simp [hcl]
            · simp [hcl, Addr.add_mid]
        | true =>
          rw [hq] at hx
          simp only [Bool.and_eq_true, Nat.ble_eq, Bool.or_eq_true, Nat.blt_eq] at hq
          obtain ⟨⟨h1, h2⟩, h3⟩ := hq
          cases hx
          refine ⟨.slice (some ⟨b.1, off + l * s, none⟩) (h - l) (c - l), ?_, fun w => ?_⟩
          · rw [VR]
            exact ⟨b, c - l, hb, rfl, by omega, by omega, by have h9 : c + d = b.2 := hcap; show c - l + (d + l) = b.2; omega⟩
          · have hbd := bounds_ok hF (P := P) true hl hh h1 (show h ≤ c by omega) w
            simp only [Instr.sliceAt, Sem.run_bind, run_underlying hT, Result.andThen_ok, Instr.slice, hbd, sizeOf, typeInfo, Sem.run_pure, hi', hsz, program, Sem.run]
            by_cases hcl : c = l
            · have : l = 0 := by
                rcases h3 with h3 | h3
                · omega
                · exact Nat.eq_of_beq_eq_true h3
              simp [hcl, this]
            · simp [hcl, Addr.add_mid]
    · cases hx
  · cases hlen
    rw [VR] at hv
    obtain ⟨a9, c, rfl, hcm⟩ := hv
    split at hx
    · rename_i z hs
      obtain ⟨e, s⟩ := z
      obtain ⟨hT, inf, hi', hsz⟩ := slA_ok ok hs
      cases hq : (Nat.beq l 0 && Nat.beq h 0) with
      | false => rw [hq] at hx; cases hx
      | true =>
        rw [hq] at hx
        cases hx
        simp only [Bool.and_eq_true] at hq
        have e1 := Nat.eq_of_beq_eq_true hq.1
        have e2 := Nat.eq_of_beq_eq_true hq.2
        subst e1 e2
        refine ⟨.slice (if c = 0 then some a9 else (some a9).map (·.add (0 * inf.size))) 0 c, ?_, fun w => ?_⟩
        · rw [VR]
          by_cases h0 : c = 0
          · exact ⟨_, _, by rw [if_pos h0], hcm⟩
          · exact ⟨_, _, by rw [if_neg h0]; rfl, hcm⟩
        · have hbd := bounds_ok hF (P := P) true hl hh (Nat.le_refl _) (Nat.zero_le c) w
          simp only [Instr.sliceAt, Sem.run_bind, run_underlying hT, Result.andThen_ok, Instr.slice, hbd, sizeOf, typeInfo, Sem.run_pure, hi', program, Sem.run]
          simp
    · cases hx
  · cases hx

/-- a slice with three bounds -/
def slice3A (tb : Tab) (t : TypeId) (x : AV) (l h m : Nat) : Option AV :=
  match x with
  | .sl id off len _ => (match slA tb t with
    | some (_, s) => bif Nat.ble l h && Nat.ble h m && Nat.ble m len then some (.sl id (bif Nat.beq m l then off else off + l * s) (h - l) (.k (m - l))) else none
    | none => none)
  | _ => none
theorem bounds3_ok {E : T AV} {ρ : Names} {a : Act} (hF : FR n ds ρ E a) {lo : Option Operand} {hi mx : Operand} {l h m len cap : Nat} (isS : Bool) (hl : bnd E 0 lo = some l) (hh : bnd E 0 (some hi) = some h) (hm : bnd E 0 (some mx) = some m) (hlh : l ≤ h) (hhm : h ≤ m) (hmc : m ≤ cap) (w : World) :
    (Instr.sliceBounds isS len cap (lo.map a.eval) (some (a.eval hi)) (some (a.eval mx))).run P w = .ok (l, h, m) w := by
  have hb : ∀ (x : Operand) (m : Nat) (y : Nat) (code : BoundsCode), (match pv E x with | some v => natV v | none => none) = some m → m ≤ y → (Instr.sliceBound (a.eval x) y code).run P w = .ok m w := fun x m y code hx hm => by
    split at hx
    · rename_i v hv
      obtain ⟨k, rfl⟩ := natV_ok hx
      rw [hF.pv hv]
      have : (m : Int) ≤ (y : Int) := by omega
      simp [Instr.sliceBound, asIntOf, hm]
    · cases hx
  cases lo with
  | none =>
    cases hl
    simp [Instr.sliceBounds, hb mx m cap _ hm hmc, hb hi h m _ hh hhm]
  | some x => simp [Instr.sliceBounds, hb mx m cap _ hm hmc, hb hi h m _ hh hhm, hb x l h _ hl hlh]
theorem slice3A_ok (ok : TOk P tb) {E : T AV} {ρ : Names} {a : Act} (hF : FR n ds ρ E a) {t : TypeId} {x y : AV} {lo : Option Operand} {hi mx : Operand} {l h m : Nat} {v : Value} (hx : slice3A tb t x l h m = some y) (hv : VR ρ x v)
    (hl : bnd E 0 lo = some l) (hh : bnd E 0 (some hi) = some h) (hm : bnd E 0 (some mx) = some m) : ∃ r, VR ρ y r ∧ ∀ w, (Instr.sliceAt t v (lo.map a.eval) ((some hi).map a.eval) ((some mx).map a.eval)).run P w = .ok r w := by
  unfold slice3A at hx
  split at hx
  · rename_i id off len cap
    rw [VR] at hv
    obtain ⟨b, c, hb, rfl, hlc, hcm, hcap⟩ := hv
    split at hx
    · rename_i e s hs
      obtain ⟨hT, inf, hi', hsz⟩ := slA_ok ok hs
      cases hq : (Nat.ble l h && Nat.ble h m && Nat.ble m len) with
      | false => rw [hq] at hx; cases hx
      | true =>
        rw [hq] at hx
        simp only [Bool.and_eq_true, Nat.ble_eq] at hq
        obtain ⟨⟨q1, q2⟩, q3⟩ := hq
        cases hx
        refine ⟨.slice (some (if m = l then ⟨b.1, off, none⟩ else ⟨b.1, off + l * s, none⟩)) (h - l) (m - l), ?_, fun w => ?_⟩
        · rw [VR]
          refine ⟨b, m - l, hb, ?_, by omega, by omega, rfl⟩
          congr 2
          cases hcl : Nat.beq m l with
          | true => rw [if_pos (Nat.eq_of_beq_eq_true hcl)]; rfl
          | false => rw [if_neg (fun e => by rw [e] at hcl; simp at hcl)]; rfl
        · have hbd := bounds3_ok hF (P := P) (len := len) true hl hh hm q1 q2 (show m ≤ c by omega) w
          simp only [Option.map_some]
          simp only [Instr.sliceAt, Sem.run_bind, run_underlying hT, Result.andThen_ok, Instr.slice, hbd, sizeOf, typeInfo, Sem.run_pure, hi', hsz, program, Sem.run]
          by_cases hcl : m = l
          · simp [hcl]
          · simp [hcl, Addr.add_mid]
    · cases hx
  · cases hx

/-! ### Comparing with nil -/
def eqNil (k : TK) (a b : AV) : Bool :=
  match k, a, b with
  | .ptr _, .ptr _ _, .pl (.pointer none) | .ptr _, .pl (.pointer none), .ptr _ _ => true
  | .sl _, .sl _ _ _ _, .pl (.slice none _ _) | .sl _, .pl (.slice none _ _), .sl _ _ _ _ => true
  | .sl _, .em, .pl (.slice none _ _) | .sl _, .pl (.slice none _ _), .em => true
  | .fn, .fn _ _ _, .pl .nilFunc | .fn, .pl .nilFunc, .fn _ _ _ => true
  | .ifc, .ifc _ _, .pl .nilIface | .ifc, .pl .nilIface, .ifc _ _ => true
  | _, _, _ => false
/-- two pointers into one block -/
def eqPtr (tb : Tab) (H : AH) (k : TK) (a b : AV) : Option Bool :=
  match k, a, b with
  | .ptr e, .ptr i o, .ptr j q => (match sizeA tb e with
    | some (_ + 1) => bif Nat.beq i j then some (Nat.beq o q) else none
    | _ => none)
  | _, _, _ => none
/-- a number that is none of a list -/
def eqIk (k : TK) (a b : AV) : Bool :=
  match k, a, b with
  | .int .i64, .ik l, .pl (.int .i64 c) => l.contains c
  | .int .i64, .pl (.int .i64 c), .ik l => l.contains c
  | _, _, _ => false
def eqA (tb : Tab) (H : AH) (op : BinOp) (t : TypeId) (a b : AV) : Option AV :=
  match tb.ty.get t with
  | some i => (match eqPtr tb H i.k a b with
    | some r => (match op with
      | .eql => some (.pl (.bool r))
      | .neq => some (.pl (.bool (!r)))
      | _ => none)
    | none => (match op, (eqNil i.k a b || eqIk i.k a b) with
      | .eql, true => some (.pl (.bool false))
      | .neq, true => some (.pl (.bool true))
      | _, _ => none))
  | none => none
theorem eqNil_ok {ρ : Names} {t : TypeId} {d : TypeDesc} {a b : AV} {u v : Value} (hd : P.underlying t = some d) (h : eqNil (kindT d) a b = true) (hu : VR ρ a u) (hv : VR ρ b v) :
    (∀ w, (Op.equal t u v).run P w = .ok false w) ∧ (∀ op x y w, (eqGuard op t x y u v).run P w = .ok () w) ∧ (∀ op, binOp op t u v = match op with | .eql => (do pure (.bool (← Op.equal t u v))) | .neq => (do pure (.bool (!(← Op.equal t u v)))) | _ => binOp op t u v) := by
  unfold eqNil at h
  split at h
  all_goals first
    | (cases h; done)
    | skip
  all_goals
    rename_i hk
    cases d <;> simp only [kindT] at hk <;> first | (cases hk; done) | skip
    simp only [VR] at hu hv
  all_goals first
    | (obtain ⟨b1, c1, ⟨rfl, _⟩⟩ := hu; subst hv)
    | (obtain ⟨b1, c1, ⟨rfl, _⟩⟩ := hv; subst hu)
    | (obtain ⟨b1, _, rfl⟩ := hu; subst hv; skip)
    | (obtain ⟨b1, _, rfl⟩ := hv; subst hu; skip)
    | (obtain ⟨b1, c1, _, rfl, _⟩ := hu; subst hv)
    | (obtain ⟨b1, c1, _, rfl, _⟩ := hv; subst hu)
    | (obtain ⟨b1, c1, rfl, _⟩ := hu; subst hv)
    | (obtain ⟨b1, c1, rfl, _⟩ := hv; subst hu)

    | (obtain ⟨b1, rfl, _⟩ := hu; subst hv)
    | (obtain ⟨b1, rfl, _⟩ := hv; subst hu)
  all_goals refine ⟨fun w => ?_, fun op x y w => ?_, fun op => ?_⟩
  all_goals first
    | (refine (show ∀ d, (Op.equalIn (d + 1) t _ _).run P w = .ok false w from fun d => ?_) 9999; simp only [Op.equalIn, Sem.run_bind, run_underlying hd, Result.andThen_ok, Sem.run_pure, Option.isNone]; done)
    | (unfold eqGuard; cases op <;> simp; done)
    | (cases op <;> rfl)
theorem eqIk_ok {ρ : Names} {t : TypeId} {d : TypeDesc} {a b : AV} {u v : Value} (hd : P.underlying t = some d) (h : eqIk (kindT d) a b = true) (hu : VR ρ a u) (hv : VR ρ b v) :
    (∀ op x y w, (eqGuard op t x y u v).run P w = .ok () w) ∧ (∀ w, (binOp .eql t u v).run P w = .ok (.bool false) w) ∧ (∀ w, (binOp .neq t u v).run P w = .ok (.bool true) w) := by
  unfold eqIk at h
  split at h
  · rename_i l c hk
    cases d <;> simp only [kindT] at hk <;> try (cases hk; done)
    cases hk
    simp only [VR] at hu hv
    obtain ⟨k, rfl, hk⟩ := hu
    subst hv
    have hne : k ≠ c := fun e => by rw [e, h] at hk; cases hk
    refine ⟨fun op x y w => ?_, fun w => ?_, fun w => ?_⟩
    · unfold eqGuard; cases op <;> simp
    · simp [binOp, Op.intCmp, hne]
    · simp [binOp, Op.intCmp, hne]
  · rename_i c l hk
    cases d <;> simp only [kindT] at hk <;> try (cases hk; done)
    cases hk
    simp only [VR] at hu hv
    obtain ⟨k, rfl, hk⟩ := hv
    subst hu
    have hne : c ≠ k := fun e => by rw [← e, h] at hk; cases hk
    refine ⟨fun op x y w => ?_, fun w => ?_, fun w => ?_⟩
    · unfold eqGuard; cases op <;> simp
    · simp [binOp, Op.intCmp, hne]
    · simp [binOp, Op.intCmp, hne]
  · cases h
theorem eqPtr_ok (ok : TOk P tb) {ρ : Names} {H : AH} {w : World} (hH : HR w0 ρ H w) {t : TypeId} {d : TypeDesc} {a b : AV} {u v : Value} {r : Bool} (hd : P.underlying t = some d) (h : eqPtr tb H (kindT d) a b = some r) (hu : VR ρ a u) (hv : VR ρ b v) :
    (∀ w, (Op.equal t u v).run P w = .ok r w) ∧ (∀ op x y w, (eqGuard op t x y u v).run P w = .ok () w) ∧ (∀ op, binOp op t u v = match op with | .eql => (do pure (.bool (← Op.equal t u v))) | .neq => (do pure (.bool (!(← Op.equal t u v)))) | _ => binOp op t u v) := by
  unfold eqPtr at h
  split at h
  · rename_i e i o j q hk
    cases d <;> simp only [kindT] at hk <;> try (cases hk; done)
    cases hk
    split at h
    · rename_i sz hsz
      obtain ⟨inf, hi, hs⟩ := sizeA_ok ok hsz
      cases hij : Nat.beq i j with
      | false => rw [hij] at h; cases h
      | true =>
        rw [hij] at h
        cases h
        obtain rfl := Nat.eq_of_beq_eq_true hij
        rw [VR] at hu hv
        obtain ⟨b1, hb1, rfl⟩ := hu
        obtain ⟨b2, hb2, rfl⟩ := hv
        rw [hb1] at hb2
        cases hb2
        have hq : ((⟨b1.1, o, none⟩ : Addr) == ⟨b1.1, q, none⟩) = Nat.beq o q := by
          rw [Bool.eq_iff_iff]
          simp [Nat.beq_eq]
        refine ⟨fun w => ?_, fun op x y w => ?_, fun op => ?_⟩
        · refine (show ∀ d, (Op.equalIn (d + 1) t _ _).run P w = .ok (Nat.beq o q) w from fun d => ?_) 9999
          simp [Op.equalIn, run_underlying hd, sizeOf, typeInfo, hi, hs, sameAddr, hq]
        · unfold eqGuard; cases op <;> simp
        · cases op <;> rfl
    · cases h
  · cases h
theorem eqA_ok (ok : TOk P tb) {ρ : Names} {H : AH} {w : World} (hH : HR w0 ρ H w) {op : BinOp} {t : TypeId} {a b c : AV} {u v : Value} (h : eqA tb H op t a b = some c) (hu : VR ρ a u) (hv : VR ρ b v) (x y : Operand) :
    ∃ r, VR ρ c r ∧ ∀ w, (do eqGuard op t x y u v; binOp op t u v).run P w = .ok r w := by
  unfold eqA at h
  split at h
  · rename_i i hi
    obtain ⟨d, inf, z, hd, _, _, hk, _⟩ := ok.at_ hi
    rw [hk] at h
    split at h
    · rename_i r hr
      obtain ⟨h1, h2, h3⟩ := eqPtr_ok ok hH hd hr hu hv
      cases op <;> simp only at h <;> first | (cases h; done) | skip
      · cases h
        refine ⟨.bool r, VR.pl, fun w => ?_⟩
        rw [h3 .eql]
        simp [h2, h1]
      · cases h
        refine ⟨.bool (!r), VR.pl, fun w => ?_⟩
        rw [h3 .neq]
        simp [h2, h1]
    · cases he : (eqNil (kindT d) a b || eqIk (kindT d) a b) with
      | false => rw [he] at h; cases op <;> cases h
      | true =>
        rw [he] at h
        rcases Bool.or_eq_true_iff.1 he with he | he
        rotate_left
        · obtain ⟨h1, h2, h3⟩ := eqIk_ok hd he hu hv
          cases op <;> simp only at h <;> first | (cases h; done) | skip
          · cases h
            exact ⟨.bool false, VR.pl, fun w => by simp [h1, h2]⟩
          · cases h
            exact ⟨.bool true, VR.pl, fun w => by simp [h1, h3]⟩
        obtain ⟨h1, h2, h3⟩ := eqNil_ok hd he hu hv
        cases op <;> simp only at h <;> first | (cases h; done) | skip
        · cases h
          refine ⟨.bool false, VR.pl, fun w => ?_⟩
          rw [h3 .eql]
          simp [h2, h1]
        · cases h
          refine ⟨.bool true, VR.pl, fun w => ?_⟩
          rw [h3 .neq]
          simp [h2, h1]
  · cases h
end
end Go.Ev
