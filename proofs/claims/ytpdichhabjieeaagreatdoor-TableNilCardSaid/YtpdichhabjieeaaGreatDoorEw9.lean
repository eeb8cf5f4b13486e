/- The evaluator, ninth part: code and calls. No statement is proved here. -/
import Derived.Test.YtpdichhabjieeaaGreatDoorEw9h
namespace Go.Ev
open Go.RowKit Go.Sx
set_option linter.unusedVariables false
set_option linter.unusedSimpArgs false

section
variable {P : Program} {tb : Tab} {w0 : World} {n : Nat} {ds : List Deferred}

theorem guardA_ok {ops : Array Oper} {ρ : Names} {E : T AV} {a : Act} (hF : FR n ds ρ E a) {o : Oper} {b : Bool} (h : guardA ops E o = some b) : Region.wanted o (yielded ops a.tmps) = b := by
  unfold guardA at h
  unfold Region.wanted
  split at h
  · rename_i hn; cases h; rw [hn]
  · rename_i j want hj
    rw [hj]
    simp only
    split at h
    · rename_i q hq
      split at h
      · rename_i d hd
        split at h
        · rename_i c hc
          obtain ⟨v, h1, h2⟩ := hF.at_ d _ hc
          rw [VR] at h2
          subst h2
          simp only [yielded, hq, Option.bind_some, hd, h1]
          cases h
          cases c <;> cases want <;> rfl
        · rename_i c hc
          obtain ⟨v, h1, h2⟩ := hF.at_ d _ hc
          rw [VR] at h2
          subst h2
          simp only [yielded, hq, Option.bind_some, hd, h1]
          cases h
          rfl
        · cases h
      · cases h
    · cases h
theorem putA_ok {ρ : Names} {E E' : T AV} {a : Act} (hF : FR n ds ρ E a) {dst : Option Nat} {x : AV} {v : Value} (h : putA n E dst x = some E') (hv : VR ρ x v) : FR n ds ρ E' (a.put dst v) := by
  unfold putA at h
  split at h
  · rename_i d
    cases hd : Nat.blt d n with
    | false => rw [hd] at h; cases h
    | true => rw [hd] at h; cases h; exact hF.put d (by simpa [Nat.blt_eq] using hd) hv
  · cases h; exact hF

/-- calls, and rounds of ranges over functions -/
structure CF where
  fn : FuncId → List AV → AH → Option (AV × AH)
  rnd : Nat → Nat → T AV → Code → Code → AH → Option (AV × AH)
def Rets (w0 : World) (ρ : Names) (H : AH) (w : World) (r : AV) (H' : AH) : Ending → World → Prop := fun e w' => ∃ ρ' v, e = .returned v ∧ VR ρ' r v ∧ Post w0 ρ H w ρ' H' w'
/-- a call that is taken as given: it returns one cell and leaves all that was there alone -/
def OrcC (P : Program) (w0 : World) (f : FuncId) (args : List AV) : Prop := ∀ (ρ : Names) (w : World) (vs : List Value), VRL ρ args vs → Below w0.heap.size w0 w → CallsIn Fence.wide 0 P f vs.toArray w (fun e w' => ∃ v, e = .returned v ∧ v.oneCell' = true ∧ Below w.heap.size w w')
def LogOk (P : Program) (w0 : World) (l : List Wr) : Prop := ∀ (f : FuncId) (args : List AV), Wr.c f args ∈ l → OrcC P w0 f args
theorem LogOk.mono {l l' : List Wr} (h : LogOk P w0 l') (hm : ∀ x ∈ l, x ∈ l') : LogOk P w0 l := fun f args hf => h f args (hm _ hf)
structure CallOk (P : Program) (w0 : World) (c : CF) : Prop where
  fn : ∀ (f : FuncId) (args : List AV) (H : AH) (r : AV) (H' : AH), c.fn f args H = some (r, H') → ∀ (ρ : Names) (w : World) (vs : List Value), LogOk P w0 H'.wr → VRL ρ args vs → HR w0 ρ H w → CallsIn Fence.wide 0 P f vs.toArray w (Rets w0 ρ H w r H')
  rnd : ∀ (id m : Nat) (E : T AV) (ag bd : Code) (H : AH) (r : AV) (H' : AH), c.rnd id m E ag bd H = some (r, H') → ∀ (ρ : Names) (w : World) (b : Nat × Nat) (fn : FuncId) (tmps : Array Value), LogOk P w0 H'.wr → ρ[id]? = some b → FR m [] ρ E ⟨tmps, []⟩ → HR w0 ρ H w →
    RoundIn Fence.wide 0 P b.1 fn tmps ag bd w (Rets w0 ρ H w r H')

/-- one operation of a region, its guard, its slot -/
def stepA (P : Program) (tb : Tab) (n : Nat) (call : CF) (ops : Array Oper) (o : Oper) (E : T AV) (H : AH) : Option (T AV × AH) :=
  match guardA ops E o with
  | some true => (match exec2 P tb E H o with
    | some (.val x, H') => (match putA n E o.dst x with | some E' => some (E', H') | none => none)
    | some (.skip, H') => (match putA n E o.dst (.pl undef) with | some E' => some (E', H') | none => none)
    | some (.enter f args, H') => (match call.fn f args H' with
      | some (x, H2) => (match putA n E o.dst x with | some E' => some (E', H2) | none => none)
      | none => none)
    | some (.round id m E1 ag bd, H') => (match call.rnd id m E1 ag bd H' with
      | some (x, H2) => (match putA n E o.dst x with | some E' => some (E', H2) | none => none)
      | none => none)
    | none => none)
  | some false => (match putA n E o.dst (.pl undef) with | some E' => some (E', H) | none => none)
  | none => none
theorem exec2_nd (w : World) {E : T AV} {H : AH} {o : Oper} {x : AR2 × AH} (h : exec2 P tb E H o = some x) : ∀ c, o.op ≠ .defer c := fun c hc => by
  unfold exec2 exec1 at h
  have h1 : execQ P tb E H o = none := by
    unfold execQ plainOp
    rw [hc]
    simp only
    split
    · rename_i hq
      split
      · rename_i v hv
        exfalso
        have h9 := pureVal_run _ _ hv w
        rw [show ∀ f : Operand → Value, execOp f o = (do pure (Next.defer (← resolve f c o.type))) from fun f => by simp [execOp, hc], Sem.run_bind] at h9
        cases hr : (resolve (fun x => (pv E x).getD undef) c o.type).run P w with
        | ok d w' => rw [hr] at h9; simp at h9
        | halt d w' => rw [hr] at h9; simp [Result.andThen] at h9
      · rfl
    · rfl
  rw [h1] at h
  simp only [execE, hc, execF] at h
  cases h

theorem stepA_ok (ok : TOk P tb) {call : CF} (hc : CallOk P w0 call) {rc : Option Nat} {ops : Array Oper} {Q : Exit → Act → World → Prop} {o : Oper} {E E' : T AV} {H H' : AH} (h : stepA P tb n call ops o E H = some (E', H')) (hlog : LogOk P w0 H'.wr) {ρ : Names} {a : Act} {w : World} (hF : FR n ds ρ E a) (hH : HR w0 ρ H w)
    {K : Act → World → Prop} (k : ∀ ρ' v w', FR n ds ρ' E' (a.put o.dst v) → Post w0 ρ H w ρ' H' w' → K (a.put o.dst v) w') :
    if Region.wanted o (yielded ops a.tmps) then o.wpIn (FD rc) 0 P a w K Q else (∀ f, o.about P w a.eval = some f → (FD rc).fn f) ∧ K (a.put o.dst undef) w := by
  unfold stepA at h
  split at h
  · rename_i hg
    rw [guardA_ok hF hg, if_pos rfl]
    unfold Oper.wpIn
    refine ⟨fun _ _ => trivial, ?_⟩
    split at h
    · rename_i x H1 hx
      rw [Oper.semAt_eq _ _ _ (exec2_nd w hx)]
      obtain ⟨ρ', w', y, h1, h2, h3⟩ := exec2_ok ok hF hH hx
      obtain ⟨v, rfl, hv⟩ := h3
      rw [h1]
      simp only [Oper.uponIn]
      split at h
      · rename_i E1 hp
        cases h
        exact k ρ' _ w' (putA_ok (hF.ext h2.ext) hp hv) h2
      · cases h
    · rename_i H1 hx
      rw [Oper.semAt_eq _ _ _ (exec2_nd w hx)]
      obtain ⟨ρ', w', y, h1, h2, h3⟩ := exec2_ok ok hF hH hx
      cases h3
      rw [h1]
      simp only [Oper.uponIn]
      split at h
      · rename_i E1 hp
        cases h
        exact k ρ' _ w' (putA_ok (hF.ext h2.ext) hp VR.pl) h2
      · cases h
    · rename_i f args H1 hx
      rw [Oper.semAt_eq _ _ _ (exec2_nd w hx)]
      obtain ⟨ρ', w', y, h1, h2, h3⟩ := exec2_ok ok hF hH hx
      obtain ⟨vs, rfl, hv⟩ := h3
      rw [h1]
      simp only [Oper.uponIn]
      split at h
      · rename_i x H2 hcall
        split at h
        · rename_i E1 hp
          cases h
          refine ⟨fun h9 => by simp [FD, Fence.wide] at h9, ?_⟩
          have hC := hc.fn f args H1 x H' hcall ρ' w' vs hlog hv h2.hr
          refine CallsIn.mono (F := FD rc) (show CallsIn (FD rc) 0 P f vs.toArray w' (Rets w0 ρ' H1 w' x H') from hC) fun e w2 hR => ?_
          obtain ⟨ρ2, v, rfl, hv2, hp2⟩ := hR
          have h4 := h2.trans hp2
          exact k ρ2 _ w2 (putA_ok (hF.ext h4.ext) hp hv2) h4
        · cases h
      · cases h
    · rename_i id m E1 ag bd H1 hx
      rw [Oper.semAt_eq _ _ _ (exec2_nd w hx)]
      obtain ⟨ρ', w', y, h1, h2, h3⟩ := exec2_ok ok hF hH hx
      obtain ⟨b, fn, tmps, hb, rfl, hF1⟩ := h3
      rw [h1]
      simp only [Oper.uponIn]
      split at h
      · rename_i x H2 hcall
        split at h
        · rename_i E2 hp
          cases h
          refine ⟨fun h9 => by simp [FD, Fence.wide] at h9, ?_⟩
          have hC := hc.rnd id m E1 ag bd H1 x H' hcall ρ' w' b fn tmps hlog hb hF1 h2.hr
          refine RoundIn.mono (F := FD rc) (show RoundIn (FD rc) 0 P b.1 fn tmps ag bd w' (Rets w0 ρ' H1 w' x H') from hC) fun e w2 hR => ?_
          obtain ⟨ρ2, v, rfl, hv2, hp2⟩ := hR
          have h4 := h2.trans hp2
          exact k ρ2 _ w2 (putA_ok (hF.ext h4.ext) hp hv2) h4
        · cases h
      · cases h
    · cases h
  · rename_i hg
    rw [guardA_ok hF hg, if_neg (by simp)]
    refine ⟨fun _ _ => trivial, ?_⟩
    split at h
    · rename_i E1 hp
      cases h
      exact k ρ _ w (putA_ok hF hp VR.pl) (Post.refl hH)
    · cases h
  · cases h

def evOps (P : Program) (tb : Tab) (n : Nat) (call : CF) (ops : Array Oper) : List Oper → T AV → AH → Option (T AV × AH)
  | [], E, H => some (E, H)
  | o :: r, E, H => match stepA P tb n call ops o E H with
    | some (E', H') => evOps P tb n call ops r E' H'
    | none => none
/-! ### What was written stays noted -/
structure CallWr (call : CF) : Prop where
  fn : ∀ (f : FuncId) (args : List AV) (H : AH) (r : AV) (H' : AH), call.fn f args H = some (r, H') → ∀ i ∈ H.wr, i ∈ H'.wr
  rnd : ∀ (id m : Nat) (E : T AV) (ag bd : Code) (H : AH) (r : AV) (H' : AH), call.rnd id m E ag bd H = some (r, H') → ∀ i ∈ H.wr, i ∈ H'.wr
theorem stepA_wr {call : CF} (hc : CallWr call) {ops : Array Oper} {o : Oper} {E E' : T AV} {H H' : AH} (h : stepA P tb n call ops o E H = some (E', H')) : ∀ i ∈ H.wr, i ∈ H'.wr := by
  unfold stepA at h
  split at h
  · split at h
    · rename_i hx
      split at h <;> try (cases h; done)
      cases h; exact exec2_wr hx
    · rename_i hx
      split at h <;> try (cases h; done)
      cases h; exact exec2_wr hx
    · rename_i hx
      split at h <;> try (cases h; done)
      rename_i hcall
      split at h <;> try (cases h; done)
      cases h
      exact fun i hi => hc.fn _ _ _ _ _ hcall i (exec2_wr hx i hi)
    · rename_i hx
      split at h <;> try (cases h; done)
      rename_i hcall
      split at h <;> try (cases h; done)
      cases h
      exact fun i hi => hc.rnd _ _ _ _ _ _ _ _ hcall i (exec2_wr hx i hi)
    · cases h
  · split at h <;> try (cases h; done)
    cases h; exact fun i hi => hi
  · cases h
theorem evOps_wr {call : CF} (hc : CallWr call) {ops : Array Oper} : ∀ {l : List Oper} {E E' : T AV} {H H' : AH}, evOps P tb n call ops l E H = some (E', H') → ∀ i ∈ H.wr, i ∈ H'.wr
  | [], _, _, _, _, h => by cases h; exact fun i hi => hi
  | o :: r, _, _, _, _, h => by
    simp only [evOps] at h
    split at h
    · rename_i hs; exact fun i hi => evOps_wr hc h i (stepA_wr hc hs i hi)
    · cases h

theorem evOps_ok (ok : TOk P tb) {call : CF} (hc : CallOk P w0 call) (hcw : CallWr call) {rc : Option Nat} {ops : Array Oper} {Q : Exit → Act → World → Prop} : ∀ {l : List Oper} {E E' : T AV} {H H' : AH}, evOps P tb n call ops l E H = some (E', H') → LogOk P w0 H'.wr → ∀ {ρ : Names} {a : Act} {w : World}, FR n ds ρ E a → HR w0 ρ H w →
    (∀ ρ' a' w', FR n ds ρ' E' a' → Post w0 ρ H w ρ' H' w' → Q .normal a' w') → wpListIn (FD rc) 0 P ops Q l a w
  | [], E, E', H, H', h, hlog, ρ, a, w, hF, hH, k => by
    cases h
    exact k ρ a w hF (Post.refl hH)
  | o :: r, E, E', H, H', h, hlog, ρ, a, w, hF, hH, k => by
    simp only [evOps] at h
    split at h
    · rename_i E1 H1 hs
      unfold wpListIn
      exact stepA_ok ok hc hs (hlog.mono (evOps_wr hcw h)) hF hH (fun ρ1 v1 w1 hF1 hP1 => evOps_ok ok hc hcw h hlog hF1 hP1.hr (fun ρ2 a2 w2 hF2 hP2 => k ρ2 a2 w2 hF2 (hP1.trans hP2)))
    · cases h

/-! ### Results -/
theorem resA_ok (ok : TOk P tb) {ρ : Names} {E : T AV} {a : Act} {H : AH} {w : World} (hF : FR n ds ρ E a) (hH : HR w0 ρ H w) {r : ResultVar} {x : AV} (h : resA tb E H r = some x) : ∃ v, (rvar a.tmps r).run P w = .ok v w ∧ VR ρ x v := by
  cases r with
  | tmp t =>
    obtain ⟨v, h1, h2⟩ := hF.at_ t x h
    exact ⟨v, by simp [rvar, h1], h2⟩
  | cell p t =>
    simp only [resA] at h
    split at h
    · rename_i id off hp
      obtain ⟨u, h1, h2⟩ := hF.at_ p _ hp
      rw [VR] at h2
      obtain ⟨b, hb, rfl⟩ := h2
      split at h
      · rename_i k kd hk hkd
        obtain ⟨v, hr, hx⟩ := load_ok (hH.at_ hk hb) (kindA_ok ok hkd) h
        exact ⟨v, by simp [rvar, h1, asAddr, hr w rfl], hx⟩
      · cases h
    · cases h
theorem resAs_ok (ok : TOk P tb) {ρ : Names} {E : T AV} {a : Act} {H : AH} {w : World} (hF : FR n ds ρ E a) (hH : HR w0 ρ H w) : ∀ {rs : List ResultVar} {l : List AV}, resAs tb E H rs = some l → ∃ vs, (rs.mapM (rvar a.tmps)).run P w = .ok vs w ∧ VRL ρ l vs
  | [], l, h => by cases h; exact ⟨[], by simp, VRL.mk0⟩
  | r :: rs, l, h => by
    simp only [resAs] at h
    split at h
    · rename_i x l' h1 h2
      cases h
      obtain ⟨v, h3, h4⟩ := resA_ok ok hF hH h1
      obtain ⟨vs, h5, h6⟩ := resAs_ok ok hF hH h2
      refine ⟨v :: vs, ?_, VRL.mk h4 h6⟩
      rw [List.mapM_cons, Sem.run_bind, h3, Result.andThen_ok, Sem.run_bind, h5, Result.andThen_ok, Sem.run_pure]
    · cases h
theorem results_ok (ok : TOk P tb) {ρ : Names} {E : T AV} {a : Act} {H : AH} {w : World} (hF : FR n ds ρ E a) (hH : HR w0 ρ H w) {fn : Func} {l : List AV} (h : resAs tb E H fn.results.toList = some l) : ∃ v, (results fn a.tmps).run P w = .ok v w ∧ VR ρ (resV l) v := by
  obtain ⟨vs, h1, h2⟩ := resAs_ok ok hF hH h
  have hmap : (fn.results.mapM (rvar a.tmps)).run P w = .ok vs.toArray w := by
    rw [Array.mapM_eq_mapM_toList, map_eq_pure_bind, Sem.run_bind, h1, Result.andThen_ok, Sem.run_pure]
  have he : results fn a.tmps = (do let vs ← fn.results.mapM (rvar a.tmps); pure (if h : vs.size = 1 then vs[0] else .tuple vs)) := by
    unfold results
    congr 1
  rw [he, Sem.run_bind, hmap, Result.andThen_ok, Sem.run_pure]
  refine ⟨_, rfl, ?_⟩
  match l, vs, h2 with
  | [], _, h2 => obtain rfl := h2.nil; simp only [resV]; rw [VR]; exact ⟨[], rfl, VRL.mk0⟩
  | [x], _, h2 =>
    obtain ⟨v, r, rfl, h3, h4⟩ := h2.cons
    obtain rfl := h4.nil
    exact h3
  | x :: y :: l, _, h2 =>
    have hl := h2.length
    simp only [resV]
    rw [VR]
    exact ⟨_, by rw [dif_neg (by simp at hl ⊢; omega)], h2⟩

theorem envF_get : ∀ (args : List AV) (i : Nat) (E : T AV) (k : Nat) (x : AV), (envF i args E).get k = some x → (i ≤ k ∧ args[k - i]? = some x) ∨ E.get k = some x
  | [], i, E, k, x, h => .inr h
  | y :: r, i, E, k, x, h => by
    rcases envF_get r (i + 1) _ k x h with ⟨h1, h2⟩ | h2
    · refine .inl ⟨by omega, ?_⟩
      rw [show k - i = (k - (i + 1)) + 1 by omega]
      simpa using h2
    · rcases T.get_set h2 with ⟨rfl, h3⟩ | ⟨_, h3⟩
      · cases h3; exact .inl ⟨Nat.le_refl _, by simp⟩
      · exact .inr h3
theorem T.get_l {α : Type} (k : Nat) : (T.l : T α).get k = none := by simp [T.get, T.getF]


/-! ### Marks, rounds, calls -/
/-- the marks of ranges over functions among the deferred calls -/
def DR (ρ : Names) : List Nat → List Deferred → Prop
  | [], ds => ds = []
  | i :: r, ds => ∃ (b : Nat × Nat) (ds' : List Deferred), ds = { target := .collected b.1, args := #[] } :: ds' ∧ ρ[i]? = some b ∧ DR ρ r ds'
theorem DR.ext {ρ ρ' : Names} (h : Ext ρ ρ') : ∀ {D : List Nat} {ds : List Deferred}, DR ρ D ds → DR ρ' D ds
  | [], _, hd => hd
  | i :: r, _, hd => by obtain ⟨b, ds', h1, h2, h3⟩ := hd; exact ⟨b, ds', h1, h _ _ h2, DR.ext h h3⟩
def RdOk (ρ : Names) : Option Nat → Option Nat → Prop
  | none, none => True
  | some id, some l => ∃ b, ρ[id]? = some b ∧ b.1 = l
  | _, _ => False
theorem RdOk.ext {ρ ρ' : Names} (h : Ext ρ ρ') {r rc : Option Nat} (hr : RdOk ρ r rc) : RdOk ρ' r rc := by
  cases r <;> cases rc <;> first | exact hr | (obtain ⟨b, h1, h2⟩ := hr; exact ⟨b, h _ _ h1, h2⟩)

abbrev EvF := Option Nat → Nat → Code → List Nat → T AV → AH → Option (AX × List Nat × T AV × AH)
/-- the blocks of the marks are shut -/
def shutA : List Nat → AH → Option AH
  | [], H => some H
  | i :: r, H => (match H.get i with
    | some k => (match k.k with
      | .df true => shutA r (H.put i (obj (.df false)))
      | _ => none)
    | none => none)
def callF (P : Program) (tb : Tab) (ev : EvF) (f : FuncId) (args : List AV) (H : AH) : Option (AV × AH) :=
  match P.funcs[f]? with
  | some fn => (match fn.body with
    | some c => bif Nat.ble args.length fn.ntmps then
      (match ev none fn.ntmps c [] (envOf args) H with
       | some (.exit _, _, _, _) => none
       | some (_, D, E', H') => (match shutA D H' with
         | some H2 => (match resAs tb E' H2 fn.results.toList with | some l => some (resV l, H2) | none => none)
         | none => none)
       | none => none) else none
    | none => none)
  | none => none
def pdOf : Option (Option Code) → Option Code → Option Code
  | some q, _ => q
  | none, p => p
/-- a loop's record with another state -/
def lpSet (H : AH) (id : Nat) (st : LoopState) (pd : Option (Option Code)) : Option AH :=
  match H.get id with
  | some k => (match k.k with
    | .lp _ p n E ps ag bd df => some (H.put id (obj (.lp st (pdOf pd p) n E ps ag bd df)))
    | _ => none)
  | none => none
def lpReady (H : AH) (id : Nat) : Bool :=
  match H.get id with
  | some k => (match k.k with
    | .lp .ready _ _ _ _ _ _ _ => true
    | _ => false)
  | none => false
def jumpOf : AX → Option Code
  | .normal => none
  | .ret => some .ret
  | .exit i => some (.exit i)
def endSt : AX → LoopState
  | .normal => .ready
  | _ => .done
def endB : AX → Bool
  | .normal => true
  | _ => false
def rndF (ev : EvF) (id n : Nat) (E : T AV) (ag bd : Code) (H : AH) : Option (AV × AH) :=
  match ev (some id) n ag [] E H with
  | some (.normal, D, E1, H1) => bif lpReady H1 id then
    (match lpSet H1 id .busy none with
    | some H2 => (match ev (some id) n bd D E1 H2 with
      | some (x, _, _, H3) => (match lpSet H3 id (endSt x) (some (jumpOf x)) with
        | some H4 => some (.pl (.bool (endB x)), H4)
        | none => none)
      | none => none)
    | none => none) else none
  | _ => none
def EvOk (P : Program) (w0 : World) (ev : EvF) : Prop :=
  ∀ (r : Option Nat) (n : Nat) (c : Code) (D D' : List Nat) (E E' : T AV) (H H' : AH) (x : AX), ev r n c D E H = some (x, D', E', H') → LogOk P w0 H'.wr → ∀ (ρ : Names) (ds : List Deferred) (rc : Option Nat) (a : Act) (w : World) (Q : Exit → Act → World → Prop), RdOk ρ r rc → DR ρ D ds → FR n ds ρ E a → HR w0 ρ H w →
    (∀ ρ' ds' a' w', DR ρ' D' ds' → FR n ds' ρ' E' a' → Post w0 ρ H w ρ' H' w' → Q x.to a' w') → c.wpIn (FD rc) 0 P Q a w

def EvWr (ev : EvF) : Prop := ∀ (r : Option Nat) (n : Nat) (c : Code) (D D' : List Nat) (E E' : T AV) (H H' : AH) (x : AX), ev r n c D E H = some (x, D', E', H') → ∀ i ∈ H.wr, i ∈ H'.wr
theorem shutA_wr : ∀ {D : List Nat} {H H' : AH}, shutA D H = some H' → ∀ i ∈ H.wr, i ∈ H'.wr
  | [], _, _, h => by cases h; exact fun i hi => hi
  | j :: r, _, _, h => by
    simp only [shutA] at h
    split at h <;> try (cases h; done)
    split at h <;> try (cases h; done)
    exact fun i hi => shutA_wr h i (List.mem_cons_of_mem _ hi)
theorem lpSet_wr {H H' : AH} {id : Nat} {st : LoopState} {pd : Option (Option Code)} (h : lpSet H id st pd = some H') : ∀ i ∈ H.wr, i ∈ H'.wr := by
  unfold lpSet at h
  split at h <;> try (cases h; done)
  split at h <;> try (cases h; done)
  cases h; exact fun i hi => List.mem_cons_of_mem _ hi
theorem callF_wr {ev : EvF} (he : EvWr ev) {f : FuncId} {args : List AV} {H : AH} {r : AV} {H' : AH} (h : callF P tb ev f args H = some (r, H')) : ∀ i ∈ H.wr, i ∈ H'.wr := by
  unfold callF at h
  split at h <;> try (cases h; done)
  split at h <;> try (cases h; done)
  have h := cond_some h
  split at h <;> try (cases h; done)
  rename_i hev
  split at h <;> try (cases h; done)
  rename_i hsh
  split at h <;> try (cases h; done)
  cases h
  exact fun i hi => shutA_wr hsh i (he _ _ _ _ _ _ _ _ _ _ hev i hi)
theorem rndF_wr {ev : EvF} (he : EvWr ev) {id m : Nat} {E : T AV} {ag bd : Code} {H : AH} {r : AV} {H' : AH} (h : rndF ev id m E ag bd H = some (r, H')) : ∀ i ∈ H.wr, i ∈ H'.wr := by
  unfold rndF at h
  split at h <;> try (cases h; done)
  rename_i hev
  have h := cond_some h
  split at h <;> try (cases h; done)
  rename_i hs2
  split at h <;> try (cases h; done)
  rename_i hev3
  split at h <;> try (cases h; done)
  rename_i hs4
  cases h
  exact fun i hi => lpSet_wr hs4 i (he _ _ _ _ _ _ _ _ _ _ hev3 i (lpSet_wr hs2 i (he _ _ _ _ _ _ _ _ _ _ hev i hi)))
theorem shutA_ok (ok : TOk P tb) {fn : Func} {R : Ending → World → Prop} {tmps : Array Value} : ∀ {D : List Nat} {ds : List Deferred} {H H' : AH} {ρ : Names} {w : World}, shutA D H = some H' → DR ρ D ds → HR w0 ρ H w →
    (∀ w', Post w0 ρ H w ρ H' w' → ∃ v, (results fn tmps).run P w' = .ok v w' ∧ R (.returned v) w') → LeavesInM Fence.wide 0 P fn tmps R ds .returning w
  | [], ds, H, H', ρ, w, h, hD, hH, k => by
    cases h
    rw [show ds = [] from hD]
    exact k w (Post.refl hH)
  | i :: r, ds, H, H', ρ, w, h, hD, hH, k => by
    obtain ⟨b, ds', rfl, hb, hr⟩ := hD
    simp only [shutA] at h
    split at h <;> try (cases h; done)
    rename_i kk hk
    split at h <;> try (cases h; done)
    rename_i hkk
    obtain ⟨_, _, hO⟩ := (hH.at_ hk hb).o (by rw [hkk]; simp)
    rw [hkk] at hO
    have h1 : w.heap[b.1]? = some (.deferred (some [])) := hO
    have hP := Post.putObj hH (.deferred none) hk hb (k' := obj (.df false)) (BR.obj rfl)
    refine ⟨by simp, .inl ⟨b.1, _, rfl, run_takeDeferred h1, ?_⟩⟩
    exact shutA_ok ok h hr hP.hr (fun w' hP' => k w' (hP.trans hP'))
theorem callF_ok (ok : TOk P tb) {ev : EvF} (he : EvOk P w0 ev) {f : FuncId} {args : List AV} {H : AH} {r : AV} {H' : AH} (h : callF P tb ev f args H = some (r, H')) (hlog : LogOk P w0 H'.wr) {ρ : Names} {w : World} {vs : List Value} (hv : VRL ρ args vs) (hH : HR w0 ρ H w) : CallsIn Fence.wide 0 P f vs.toArray w (Rets w0 ρ H w r H') := by
  unfold callF at h
  split at h
  · rename_i fn h1
    split at h
    · rename_i c hc
      cases hq : Nat.ble args.length fn.ntmps with
      | false => rw [hq] at h; cases h
      | true =>
        rw [hq] at h
        simp only [cond_true] at h
        have hle : args.length ≤ fn.ntmps := by simpa using hq
        have hl := hv.length
        have hF : FR fn.ntmps [] ρ (envOf args) { tmps := vs.toArray ++ Array.replicate (fn.ntmps - vs.toArray.size) undef, defers := [] } := by
          refine ⟨rfl, by simp; omega, fun k x hk => ?_⟩
          rcases envF_get args 0 .l k x hk with ⟨_, h4⟩ | h4
          · obtain ⟨v, h5, h6⟩ := hv.get k x (by simpa using h4)
            refine ⟨v, ?_, h6⟩
            have hlt := (List.getElem?_eq_some_iff.1 h5).1
            rw [Array.getElem?_append_left (by simpa using hlt)]
            simpa using h5
          · rw [T.get_l] at h4; cases h4
        split at h
        · cases h
        · rename_i x D E1 H1 hx hev
          split at h <;> try (cases h; done)
          rename_i H2 hsh
          split at h <;> try (cases h; done)
          rename_i l hres
          cases h
          refine callsIn_of_wp_marks h1 hc trivial (he _ _ _ _ _ _ _ _ _ _ hev (hlog.mono (shutA_wr hsh)) ρ [] none _ w _ trivial rfl hF hH (fun ρ' ds' a' w' hD' hF' hP' => ?_))
          have key : LeavesInM Fence.wide 0 P fn a'.tmps (Rets w0 ρ H w (resV l) H') a'.defers .returning w' := by
            rw [hF'.defers]
            refine shutA_ok ok hsh hD' hP'.hr (fun w2 hP2 => ?_)
            obtain ⟨v, g1, g2⟩ := results_ok ok hF' hP2.hr hres
            exact ⟨v, g1, ρ', v, rfl, g2, hP'.trans hP2⟩
          cases x with
          | normal => exact key
          | ret => exact key
          | exit id => exact (hx id rfl).elim
        · cases h
    · cases h
  · cases h
theorem lpSet_ok {H H' : AH} {id : Nat} {st : LoopState} {pd : Option (Option Code)} (h : lpSet H id st pd = some H') {ρ : Names} {w : World} (hH : HR w0 ρ H w) {b : Nat × Nat} (hb : ρ[id]? = some b) :
    ∃ r : Loop, w.heap[b.1]? = some (.loop r) ∧ Post w0 ρ H w ρ H' (w.putObj b.1 (.loop { r with state := st, pending := pdOf pd r.pending })) ∧ (lpReady H id = true → r.state = .ready) := by
  unfold lpSet at h
  split at h <;> try (cases h; done)
  rename_i k hk
  split at h <;> try (cases h; done)
  rename_i st' p n' E' ps ag bd df hkk
  cases h
  obtain ⟨_, _, hO⟩ := (hH.at_ hk hb).o (by rw [hkk]; simp)
  rw [hkk] at hO
  obtain ⟨fn, tmps, b2, h1, h2, h3, h4⟩ := hO
  refine ⟨_, h1, Post.putObj hH _ hk hb (BR.obj ⟨fn, tmps, b2, rfl, h2, h3, h4⟩), fun hr => ?_⟩
  unfold lpReady at hr
  rw [hk] at hr
  simp only [hkk] at hr
  cases st' <;> first | rfl | cases hr
theorem rndF_ok {ev : EvF} (he : EvOk P w0 ev) (hew : EvWr ev) {id m : Nat} {E : T AV} {ag bd : Code} {H : AH} {r : AV} {H' : AH} (h : rndF ev id m E ag bd H = some (r, H')) (hlog : LogOk P w0 H'.wr) {ρ : Names} {w : World} {b : Nat × Nat} {fn : FuncId} {tmps : Array Value} (hb : ρ[id]? = some b) (hF : FR m [] ρ E ⟨tmps, []⟩) (hH : HR w0 ρ H w) :
    RoundIn Fence.wide 0 P b.1 fn tmps ag bd w (Rets w0 ρ H w r H') := by
  unfold rndF at h
  split at h <;> try (cases h; done)
  rename_i D E1 H1 hev
  have hrdy : lpReady H1 id = true := by
    cases hq : lpReady H1 id with
    | true => rfl
    | false => rw [hq] at h; cases h
  rw [hrdy] at h
  simp only [cond_true] at h
  split at h <;> try (cases h; done)
  rename_i H2 hs2
  split at h <;> try (cases h; done)
  rename_i x D3 E3 H3 hev3
  split at h <;> try (cases h; done)
  rename_i H4 hs4
  cases h
  have hl3 : LogOk P w0 H3.wr := hlog.mono (lpSet_wr hs4)
  have hl1 : LogOk P w0 H1.wr := hl3.mono (fun i hi => hew _ _ _ _ _ _ _ _ _ _ hev3 i (lpSet_wr hs2 i hi))
  refine roundIn_of_wpIn trivial ?_
  have hrd : RdOk ρ (some id) (some b.1) := ⟨b, hb, rfl⟩
  refine he _ _ _ _ _ _ _ _ _ _ hev hl1 ρ [] (some b.1) _ w _ hrd rfl hF hH (fun ρ1 ds1 a1 w1 hD1 hF1 hP1 => ?_)
  have hb1 := hP1.ext id b hb
  obtain ⟨l1, g1, g2, g3⟩ := lpSet_ok hs2 hP1.hr hb1
  refine ⟨_, run_beginRound g1 (g3 hrdy), ?_⟩
  have hP2 := hP1.trans g2
  refine he _ _ _ _ _ _ _ _ _ _ hev3 hl3 ρ1 ds1 (some b.1) a1 _ _ (hrd.ext hP1.ext) hD1 hF1 hP2.hr (fun ρ3 ds3 a3 w3 hD3 hF3 hP3 => ?_)
  have hb3 := hP3.ext id b hb1
  obtain ⟨l3, k1, k2, _⟩ := lpSet_ok hs4 hP3.hr hb3
  have hfin := (hP2.trans hP3).trans k2
  cases x with
  | normal => exact ⟨_, _, run_endRound none k1, ρ3, _, rfl, VR.pl, hfin⟩
  | ret => exact ⟨_, _, run_endRound (some .ret) k1, ρ3, _, rfl, VR.pl, hfin⟩
  | exit i => exact ⟨_, _, run_endRound (some (.exit i)) k1, ρ3, _, rfl, VR.pl, hfin⟩
end
end Go.Ev
