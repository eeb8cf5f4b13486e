/- The evaluator, ninth part: code and calls. No statement is proved here. -/
import Derived.Test.YthedokpgogopiaaEv8
import Derived.LoopN
namespace Go.Ev
open Go.RowKit Go.Sx
set_option linter.unusedVariables false
set_option linter.unusedSimpArgs false

inductive AX where
  | normal
  | exit (id : Nat)
  | ret
def AX.to : AX → Exit
  | .normal => .normal
  | .exit id => .exit id
  | .ret => .ret

def guardA (ops : Array Oper) (E : T AV) (o : Oper) : Option Bool :=
  match o.guard with
  | none => some true
  | some (j, want) => (match ops[j]? with
    | some q => (match q.dst with
      | some d => (match E.get d with
        | some (.pl (.bool b)) => some (b == want)
        | some (.pl (.tuple _)) => some false
        | _ => none)
      | none => none)
    | none => none)

def putA (n : Nat) (E : T AV) (dst : Option Nat) (x : AV) : Option (T AV) :=
  match dst with
  | some d => bif Nat.blt d n then some (E.set d (some x)) else none
  | none => some E

section
variable {P : Program} {tb : Tab} {w0 : World} {n : Nat}

theorem guardA_ok {ops : Array Oper} {ρ : Names} {E : T AV} {a : Act} (hF : FR n ρ E a) {o : Oper} {b : Bool} (h : guardA ops E o = some b) : Region.wanted o (yielded ops a.tmps) = b := by
  unfold guardA at h
  unfold Region.wanted
  split at h
  · rename_i hn; cases h; rw [hn]
  · rename_i j want hj
    rw [hj]
    simp only
    split at h
    · rename_i q hq
      split at h
      · rename_i d hd
        split at h
        · rename_i c hc
          obtain ⟨v, h1, h2⟩ := hF.at_ d _ hc
          rw [VR] at h2
          subst h2
          simp only [yielded, hq, Option.bind_some, hd, h1]
          cases h
          cases c <;> cases want <;> rfl
        · rename_i c hc
          obtain ⟨v, h1, h2⟩ := hF.at_ d _ hc
          rw [VR] at h2
          subst h2
          simp only [yielded, hq, Option.bind_some, hd, h1]
          cases h
          rfl
        · cases h
      · cases h
    · cases h
theorem putA_ok {ρ : Names} {E E' : T AV} {a : Act} (hF : FR n ρ E a) {dst : Option Nat} {x : AV} {v : Value} (h : putA n E dst x = some E') (hv : VR ρ x v) : FR n ρ E' (a.put dst v) := by
  unfold putA at h
  split at h
  · rename_i d
    cases hd : Nat.blt d n with
    | false => rw [hd] at h; cases h
    | true => rw [hd] at h; cases h; exact hF.put d (by simpa [Nat.blt_eq] using hd) hv
  · cases h; exact hF

abbrev CallF := FuncId → List AV → AH → Option (AV × AH)
def CallOk (P : Program) (w0 : World) (call : CallF) : Prop :=
  ∀ (f : FuncId) (args : List AV) (H : AH) (r : AV) (H' : AH), call f args H = some (r, H') → ∀ (ρ : Names) (w : World) (vs : List Value), VRL ρ args vs → HR w0 ρ H w →
    Calls P f vs.toArray w (fun e w' => ∃ ρ' v, e = .returned v ∧ VR ρ' r v ∧ Post w0 ρ H w ρ' H' w')

/-- one operation of a region, its guard, its slot -/
def stepA (P : Program) (tb : Tab) (n : Nat) (call : CallF) (ops : Array Oper) (o : Oper) (E : T AV) (H : AH) : Option (T AV × AH) :=
  match guardA ops E o with
  | some true => (match exec1 P tb E H o with
    | some (.val x, H') => (match putA n E o.dst x with | some E' => some (E', H') | none => none)
    | some (.skip, H') => (match putA n E o.dst (.pl undef) with | some E' => some (E', H') | none => none)
    | some (.enter f args, H') => (match call f args H' with
      | some (x, H2) => (match putA n E o.dst x with | some E' => some (E', H2) | none => none)
      | none => none)
    | none => none)
  | some false => (match putA n E o.dst (.pl undef) with | some E' => some (E', H) | none => none)
  | none => none

theorem stepA_ok (ok : TOk P tb) {call : CallF} (hc : CallOk P w0 call) {ops : Array Oper} {Q : Exit → Act → World → Prop} {o : Oper} {E E' : T AV} {H H' : AH} (h : stepA P tb n call ops o E H = some (E', H')) {ρ : Names} {a : Act} {w : World} (hF : FR n ρ E a) (hH : HR w0 ρ H w)
    {K : Act → World → Prop} (k : ∀ ρ' v w', FR n ρ' E' (a.put o.dst v) → Post w0 ρ H w ρ' H' w' → K (a.put o.dst v) w') :
    if Region.wanted o (yielded ops a.tmps) then o.wp P a w K Q ∨ (o.asks P a w ∧ LetsOut Q) else K (a.put o.dst undef) w := by
  unfold stepA at h
  split at h
  · rename_i hg
    rw [guardA_ok hF hg, if_pos rfl]
    refine .inl ?_
    unfold Oper.wp
    split at h
    · rename_i x H1 hx
      obtain ⟨ρ', w', y, h1, h2, h3⟩ := exec1_ok ok hF hH hx
      obtain ⟨v, rfl, hv⟩ := h3
      rw [h1]
      simp only [Oper.upon]
      split at h
      · rename_i E1 hp
        cases h
        exact k ρ' _ w' (putA_ok (hF.ext h2.ext) hp hv) h2
      · cases h
    · rename_i H1 hx
      obtain ⟨ρ', w', y, h1, h2, h3⟩ := exec1_ok ok hF hH hx
      cases h3
      rw [h1]
      simp only [Oper.upon]
      split at h
      · rename_i E1 hp
        cases h
        exact k ρ' _ w' (putA_ok (hF.ext h2.ext) hp VR.pl) h2
      · cases h
    · rename_i f args H1 hx
      obtain ⟨ρ', w', y, h1, h2, h3⟩ := exec1_ok ok hF hH hx
      obtain ⟨vs, rfl, hv⟩ := h3
      rw [h1]
      simp only [Oper.upon]
      split at h
      · rename_i x H2 hcall
        split at h
        · rename_i E1 hp
          cases h
          refine (hc f args H1 x H' hcall ρ' w' vs hv h2.hr).mono fun e w2 hR => ?_
          obtain ⟨ρ2, v, rfl, hv2, hp2⟩ := hR
          have h4 := h2.trans hp2
          exact k ρ2 _ w2 (putA_ok (hF.ext h4.ext) hp hv2) h4
        · cases h
      · cases h
    · cases h
  · rename_i hg
    rw [guardA_ok hF hg, if_neg (by simp)]
    split at h
    · rename_i E1 hp
      cases h
      exact k ρ _ w (putA_ok hF hp VR.pl) (Post.refl hH)
    · cases h
  · cases h

def evOps (P : Program) (tb : Tab) (n : Nat) (call : CallF) (ops : Array Oper) : List Oper → T AV → AH → Option (T AV × AH)
  | [], E, H => some (E, H)
  | o :: r, E, H => match stepA P tb n call ops o E H with
    | some (E', H') => evOps P tb n call ops r E' H'
    | none => none
theorem evOps_ok (ok : TOk P tb) {call : CallF} (hc : CallOk P w0 call) {ops : Array Oper} {Q : Exit → Act → World → Prop} : ∀ {l : List Oper} {E E' : T AV} {H H' : AH}, evOps P tb n call ops l E H = some (E', H') → ∀ {ρ : Names} {a : Act} {w : World}, FR n ρ E a → HR w0 ρ H w →
    (∀ ρ' a' w', FR n ρ' E' a' → Post w0 ρ H w ρ' H' w' → Q .normal a' w') → wpList P ops Q l a w
  | [], E, E', H, H', h, ρ, a, w, hF, hH, k => by
    cases h
    exact k ρ a w hF (Post.refl hH)
  | o :: r, E, E', H, H', h, ρ, a, w, hF, hH, k => by
    simp only [evOps] at h
    split at h
    · rename_i E1 H1 hs
      unfold wpList
      exact stepA_ok ok hc hs hF hH (fun ρ1 v1 w1 hF1 hP1 => evOps_ok ok hc h hF1 hP1.hr (fun ρ2 a2 w2 hF2 hP2 => k ρ2 a2 w2 hF2 (hP1.trans hP2)))
    · cases h

/-! ### What was written stays noted -/
def CallWr (call : CallF) : Prop := ∀ (f : FuncId) (args : List AV) (H : AH) (r : AV) (H' : AH), call f args H = some (r, H') → ∀ i ∈ H.wr, i ∈ H'.wr
theorem stepA_wr {call : CallF} (hc : CallWr call) {ops : Array Oper} {o : Oper} {E E' : T AV} {H H' : AH} (h : stepA P tb n call ops o E H = some (E', H')) : ∀ i ∈ H.wr, i ∈ H'.wr := by
  unfold stepA at h
  split at h
  · split at h
    · rename_i hx
      split at h <;> try (cases h; done)
      cases h; exact exec1_wr hx
    · rename_i hx
      split at h <;> try (cases h; done)
      cases h; exact exec1_wr hx
    · rename_i hx
      split at h <;> try (cases h; done)
      rename_i hcall
      split at h <;> try (cases h; done)
      cases h
      exact fun i hi => hc _ _ _ _ _ hcall i (exec1_wr hx i hi)
    · cases h
  · split at h <;> try (cases h; done)
    cases h; exact fun i hi => hi
  · cases h
theorem evOps_wr {call : CallF} (hc : CallWr call) {ops : Array Oper} : ∀ {l : List Oper} {E E' : T AV} {H H' : AH}, evOps P tb n call ops l E H = some (E', H') → ∀ i ∈ H.wr, i ∈ H'.wr
  | [], _, _, _, _, h => by cases h; exact fun i hi => hi
  | o :: r, _, _, _, _, h => by
    simp only [evOps] at h
    split at h
    · rename_i hs; exact fun i hi => evOps_wr hc h i (stepA_wr hc hs i hi)
    · cases h

/-! ### Results -/
def resA (tb : Tab) (E : T AV) (H : AH) : ResultVar → Option AV
  | .tmp t => E.get t
  | .cell p t => (match E.get p with
    | some (.ptr id off) => (match H.get id, kindA tb t with
      | some k, some kd => readA k.cells off kd
      | _, _ => none)
    | _ => none)
def resAs (tb : Tab) (E : T AV) (H : AH) : List ResultVar → Option (List AV)
  | [] => some []
  | r :: rs => match resA tb E H r, resAs tb E H rs with | some x, some l => some (x :: l) | _, _ => none
def resV (l : List AV) : AV := match l with | [x] => x | _ => .tup l
def rvar (tmps : Array Value) : ResultVar → Sem Value
  | .tmp t => pure (tmps.getD t undef)
  | .cell a t => do loadVar t (← asAddr (tmps.getD a undef))
theorem resA_ok (ok : TOk P tb) {ρ : Names} {E : T AV} {a : Act} {H : AH} {w : World} (hF : FR n ρ E a) (hH : HR w0 ρ H w) {r : ResultVar} {x : AV} (h : resA tb E H r = some x) : ∃ v, (rvar a.tmps r).run P w = .ok v w ∧ VR ρ x v := by
  cases r with
  | tmp t =>
    obtain ⟨v, h1, h2⟩ := hF.at_ t x h
    exact ⟨v, by simp [rvar, h1], h2⟩
  | cell p t =>
    simp only [resA] at h
    split at h
    · rename_i id off hp
      obtain ⟨u, h1, h2⟩ := hF.at_ p _ hp
      rw [VR] at h2
      obtain ⟨b, hb, rfl⟩ := h2
      split at h
      · rename_i k kd hk hkd
        obtain ⟨v, hr, hx⟩ := load_ok (hH.at_ hk hb) (kindA_ok ok hkd) h
        exact ⟨v, by simp [rvar, h1, asAddr, hr w rfl], hx⟩
      · cases h
    · cases h
theorem resAs_ok (ok : TOk P tb) {ρ : Names} {E : T AV} {a : Act} {H : AH} {w : World} (hF : FR n ρ E a) (hH : HR w0 ρ H w) : ∀ {rs : List ResultVar} {l : List AV}, resAs tb E H rs = some l → ∃ vs, (rs.mapM (rvar a.tmps)).run P w = .ok vs w ∧ VRL ρ l vs
  | [], l, h => by cases h; exact ⟨[], by simp, VRL.mk0⟩
  | r :: rs, l, h => by
    simp only [resAs] at h
    split at h
    · rename_i x l' h1 h2
      cases h
      obtain ⟨v, h3, h4⟩ := resA_ok ok hF hH h1
      obtain ⟨vs, h5, h6⟩ := resAs_ok ok hF hH h2
      refine ⟨v :: vs, ?_, VRL.mk h4 h6⟩
      rw [List.mapM_cons, Sem.run_bind, h3, Result.andThen_ok, Sem.run_bind, h5, Result.andThen_ok, Sem.run_pure]
    · cases h
theorem results_ok (ok : TOk P tb) {ρ : Names} {E : T AV} {a : Act} {H : AH} {w : World} (hF : FR n ρ E a) (hH : HR w0 ρ H w) {fn : Func} {l : List AV} (h : resAs tb E H fn.results.toList = some l) : ∃ v, (results fn a.tmps).run P w = .ok v w ∧ VR ρ (resV l) v := by
  obtain ⟨vs, h1, h2⟩ := resAs_ok ok hF hH h
  have hmap : (fn.results.mapM (rvar a.tmps)).run P w = .ok vs.toArray w := by
    rw [Array.mapM_eq_mapM_toList, map_eq_pure_bind, Sem.run_bind, h1, Result.andThen_ok, Sem.run_pure]
  have he : results fn a.tmps = (do let vs ← fn.results.mapM (rvar a.tmps); pure (if h : vs.size = 1 then vs[0] else .tuple vs)) := by
    unfold results
    congr 1
  rw [he, Sem.run_bind, hmap, Result.andThen_ok, Sem.run_pure]
  refine ⟨_, rfl, ?_⟩
  match l, vs, h2 with
  | [], _, h2 => obtain rfl := h2.nil; simp only [resV]; rw [VR]; exact ⟨[], rfl, VRL.mk0⟩
  | [x], _, h2 =>
    obtain ⟨v, r, rfl, h3, h4⟩ := h2.cons
    obtain rfl := h4.nil
    exact h3
  | x :: y :: l, _, h2 =>
    have hl := h2.length
    simp only [resV]
    rw [VR]
    exact ⟨_, by rw [dif_neg (by simp at hl ⊢; omega)], h2⟩

def envF : Nat → List AV → T AV → T AV
  | _, [], E => E
  | i, x :: r, E => envF (i + 1) r (E.set i (some x))
def envOf (args : List AV) : T AV := envF 0 args .l
theorem envF_get : ∀ (args : List AV) (i : Nat) (E : T AV) (k : Nat) (x : AV), (envF i args E).get k = some x → (i ≤ k ∧ args[k - i]? = some x) ∨ E.get k = some x
  | [], i, E, k, x, h => .inr h
  | y :: r, i, E, k, x, h => by
    rcases envF_get r (i + 1) _ k x h with ⟨h1, h2⟩ | h2
    · refine .inl ⟨by omega, ?_⟩
      rw [show k - i = (k - (i + 1)) + 1 by omega]
      simpa using h2
    · rcases T.get_set h2 with ⟨rfl, h3⟩ | ⟨_, h3⟩
      · cases h3; exact .inl ⟨Nat.le_refl _, by simp⟩
      · exact .inr h3
theorem T.get_l {α : Type} (k : Nat) : (T.l : T α).get k = none := by simp [T.get, T.getF]

abbrev EvF := Nat → Code → T AV → AH → Option (AX × T AV × AH)
def callF (P : Program) (tb : Tab) (ev : EvF) : CallF := fun f args H =>
  match P.funcs[f]? with
  | some fn => (match fn.body with
    | some c => bif Nat.ble args.length fn.ntmps then
      (match ev fn.ntmps c (envOf args) H with
       | some (.exit _, _, _) => none
       | some (_, E', H') => (match resAs tb E' H' fn.results.toList with | some l => some (resV l, H') | none => none)
       | none => none) else none
    | none => none)
  | none => none
def EvOk (P : Program) (w0 : World) (ev : EvF) : Prop :=
  ∀ (n : Nat) (c : Code) (E E' : T AV) (H H' : AH) (x : AX), ev n c E H = some (x, E', H') → ∀ (ρ : Names) (a : Act) (w : World) (Q : Exit → Act → World → Prop), FR n ρ E a → HR w0 ρ H w →
    (∀ ρ' a' w', FR n ρ' E' a' → Post w0 ρ H w ρ' H' w' → Q x.to a' w') → c.wp P Q a w
theorem callF_ok (ok : TOk P tb) {ev : EvF} (he : EvOk P w0 ev) : CallOk P w0 (callF P tb ev) := by
  intro f args H r H' h ρ w vs hv hH
  unfold callF at h
  split at h
  · rename_i fn h1
    split at h
    · rename_i c hc
      cases hq : Nat.ble args.length fn.ntmps with
      | false => rw [hq] at h; cases h
      | true =>
        rw [hq] at h
        simp only [cond_true] at h
        have hle : args.length ≤ fn.ntmps := by simpa using hq
        have hl := hv.length
        have hF : FR fn.ntmps ρ (envOf args) { tmps := vs.toArray ++ Array.replicate (fn.ntmps - vs.toArray.size) undef, defers := [] } := by
          refine ⟨rfl, by simp; omega, fun k x hk => ?_⟩
          rcases envF_get args 0 .l k x hk with ⟨_, h4⟩ | h4
          · obtain ⟨v, h5, h6⟩ := hv.get k x (by simpa using h4)
            refine ⟨v, ?_, h6⟩
            have hlt := (List.getElem?_eq_some_iff.1 h5).1
            rw [Array.getElem?_append_left (by simpa using hlt)]
            simpa using h5
          · rw [T.get_l] at h4; cases h4
        split at h
        · cases h
        · rename_i x E1 H1 hx hev
          split at h
          · rename_i l hres
            cases h
            refine calls_of_wp h1 hc (he _ _ _ _ _ _ _ hev ρ _ w _ hF hH (fun ρ' a' w' hF' hP' => ?_))
            obtain ⟨v, g1, g2⟩ := results_ok ok hF' hP'.hr hres
            cases x with
            | normal => exact ⟨hF'.defers, v, g1, ρ', v, rfl, g2, hP'⟩
            | ret => exact ⟨hF'.defers, v, g1, ρ', v, rfl, g2, hP'⟩
            | exit id => exact (hx id rfl).elim
          · cases h
        · cases h
    · cases h
  · cases h
def EvWr (ev : EvF) : Prop := ∀ (n : Nat) (c : Code) (E E' : T AV) (H H' : AH) (x : AX), ev n c E H = some (x, E', H') → ∀ i ∈ H.wr, i ∈ H'.wr
theorem callF_wr {ev : EvF} (he : EvWr ev) : CallWr (callF P tb ev) := by
  intro f args H r H' h
  unfold callF at h
  split at h <;> try (cases h; done)
  split at h <;> try (cases h; done)
  have h := cond_some h
  split at h <;> try (cases h; done)
  rename_i hev
  split at h <;> try (cases h; done)
  cases h
  exact he _ _ _ _ _ _ _ hev
end
end Go.Ev
