/- The evaluator, tenth part: regions that draw their order; the evaluator itself. No statement is proved here. -/
import Derived.Test.YthedokpgogopiaaEv9
namespace Go.Ev
open Go.RowKit Go.Sx
set_option linter.unusedVariables false
set_option linter.unusedSimpArgs false

/-! ### Plans -/
/-- may the operation write or make memory, or call? -/
def loudOp : Op → Bool
  | .alloc _ | .box _ _ | .buildSlice _ _ _ | .makeSlice _ _ _ | .store _ _ _ | .convert _ _ _ => true
  | .call c => (match c.callee with | .builtin .append | .builtin .copy | .builtin .unsafeString => true | .builtin _ => false | _ => true)
  | _ => false
def headLen : List Oper → Nat → Nat → Nat
  | [], _, m => m
  | o :: r, i, m => headLen r (i + 1) (match o.dst with | none => m | some _ => i + 1)
def pickQ (ops : Array Oper) : List Nat → Option Nat
  | [] => none
  | i :: r => match ops[i]? with
    | some o => bif loudOp o.op then pickQ ops r else some i
    | none => pickQ ops r
def mkPlan (ops : Array Oper) : Nat → Array Bool → List (Nat × Bool)
  | 0, _ => []
  | f + 1, listed => match Region.ready .any ops listed with
    | [] => []
    | r => match pickQ ops r with
      | some i => (i, true) :: mkPlan ops f (listed.setIfInBounds i true)
      | none => match r with
        | i :: _ => (i, false) :: mkPlan ops f (listed.setIfInBounds i true)
        | [] => []
def listIs : List Nat → Nat → Bool
  | [j], i => Nat.beq j i
  | _, _ => false
def planOk (ops : Array Oper) (m : Nat) : Array Bool → List (Nat × Bool) → Bool
  | listed, [] => Region.seqB .any ops (ops.size - m) m listed
  | listed, (i, true) :: r => takeOk ops m listed i && planOk ops m (listed.setIfInBounds i true) r
  | listed, (i, false) :: r => listIs (Region.ready .any ops listed) i && Nat.blt i m && planOk ops m (listed.setIfInBounds i true) r

theorem listIs_ok {l : List Nat} {i : Nat} (h : listIs l i = true) : l = [i] := by
  match l with
  | [] => cases h
  | [j] => rw [Nat.eq_of_beq_eq_true h]
  | _ :: _ :: _ => cases h

section
variable {P : Program} {tb : Tab} {w0 : World} {n : Nat}

def runHead (P : Program) (tb : Tab) (n : Nat) (call : CallF) (ops : Array Oper) : List (Nat × Bool) → T AV → AH → Option (T AV × AH)
  | [], E, H => some (E, H)
  | (i, true) :: r, E, H => (match ops[i]? with
    | some o => (match guardA ops E o with
      | some true => (match execQ P tb E H o with
        | some x => (match putA n E o.dst x with
          | some E1 => (match runHead P tb n call ops r E1 H with
            | some (E', H') => (match touch E o with
              | some id => bif H'.wr.elem id then none else some (E', H')
              | none => some (E', H'))
            | none => none)
          | none => none)
        | none => none)
      | some false => (match putA n E o.dst (.pl undef) with
        | some E1 => runHead P tb n call ops r E1 H
        | none => none)
      | none => none)
    | none => none)
  | (i, false) :: r, E, H => (match ops[i]? with
    | some o => (match stepA P tb n call ops o E H with
      | some (E1, H1) => runHead P tb n call ops r E1 H1
      | none => none)
    | none => none)

theorem wpHead_mono {ops : Array Oper} {Q : Exit → Act → World → Prop} {m : Nat} {S S' : World → Prop} {Z : Array Bool → Act → World → Prop} (h : ∀ w, S' w → S w) : ∀ (f : Nat) (listed : Array Bool) (a : Act) (w : World), wpHead P ops Q m S' Z f listed a w → wpHead P ops Q m S Z f listed a w
  | 0, _, _, _, hh => hh
  | f + 1, listed, a, w, hh => ⟨hh.1, fun i hi => ⟨(hh.2 i hi).1, wpOp_mono (fun a' w' h' => ⟨h w' h'.1, wpHead_mono h f _ a' w' h'.2⟩) (hh.2 i hi).2⟩⟩

theorem runHead_wr {call : CallF} (hc : CallWr call) {ops : Array Oper} : ∀ {plan : List (Nat × Bool)} {E E' : T AV} {H H' : AH}, runHead P tb n call ops plan E H = some (E', H') → ∀ i ∈ H.wr, i ∈ H'.wr
  | [], _, _, _, _, h => by cases h; exact fun i hi => hi
  | (i, true) :: r, E, E', H, H', h => by
    simp only [runHead] at h
    split at h <;> try (cases h; done)
    split at h
    · split at h <;> try (cases h; done)
      split at h <;> try (cases h; done)
      split at h <;> try (cases h; done)
      rename_i E2 H2 hrun
      have h2 := runHead_wr hc hrun
      split at h
      · rcases cond_or h with h | h
        · cases h
        · cases h; exact h2
      · cases h; exact h2
    · split at h <;> try (cases h; done)
      exact runHead_wr hc h
    · cases h
  | (i, false) :: r, E, E', H, H', h => by
    simp only [runHead] at h
    split at h <;> try (cases h; done)
    split at h <;> try (cases h; done)
    rename_i hs
    exact fun j hj => runHead_wr hc h j (stepA_wr hc hs j hj)

/-- what stands still from a world on -/
def Still (ρ : Names) (H : AH) (M : List Nat) (w : World) (w' : World) : Prop := ∀ (i : Nat) (b : Nat × Nat) (k : ABlk), H.get i = some k → i ∉ M → ρ[i]? = some b → w'.heap[b.1]? = w.heap[b.1]?

theorem touch_get {E : T AV} {H : AH} {o : Oper} {x : AV} {id : Nat} (hid : touch E o = some id) (hx : execQ P tb E H o = some x) : ∃ kk, H.get id = some kk := by
  unfold touch at hid
  split at hid
  · rename_i t y hop
    unfold execQ at hx
    rw [hop] at hx
    simp only at hx
    split at hid
    · rename_i id' off hy
      cases hid
      rw [hy] at hx
      simp only at hx
      split at hx
      · rename_i kk kd hkk _; exact ⟨kk, hkk⟩
      · cases hx
    · cases hid
  · cases hid

theorem runHead_ok (ok : TOk P tb) {call : CallF} (hc : CallOk P w0 call) (hcw : CallWr call) {ops : Array Oper} {Q : Exit → Act → World → Prop} {m : Nat} : ∀ {plan : List (Nat × Bool)} {listed : Array Bool} {E E' : T AV} {H H' : AH}, runHead P tb n call ops plan E H = some (E', H') → planOk ops m listed plan = true →
    HeadInv .any ops m listed → ∀ {ρ : Names} {a : Act} {w : World}, FR n ρ E a → HR w0 ρ H w →
    (∀ ρ' a' w', FR n ρ' E' a' → Post w0 ρ H w ρ' H' w' → wpList P ops (ON Q) (ops.toList.drop m) a' w') →
    wpHead P ops (ON Q) m (Still ρ H H'.wr w) (Zt P ops (ON Q) m) plan.length listed a w
  | [], listed, E, E', H, H', h, hp, inv, ρ, a, w, hF, hH, k => by
    cases h
    exact ⟨hp, k ρ a w hF (Post.refl hH)⟩
  | (i, true) :: r, listed, E, E', H, H', h, hp, inv, ρ, a, w, hF, hH, k => by
    simp only [planOk, Bool.and_eq_true] at hp
    obtain ⟨hk, hp⟩ := hp
    have hk' := hk
    simp only [takeOk, Bool.and_eq_true, decide_eq_true_eq] at hk'
    obtain ⟨⟨⟨⟨him, ht⟩, hsel⟩, hf⟩, hr⟩ := hk'
    have hr' : i ∈ Region.ready .any ops listed := by simpa using hr
    simp only [runHead] at h
    split at h
    · rename_i o ho
      split at h
      · rename_i hg
        split at h
        · rename_i x hx
          split at h
          · rename_i E1 hpu
            split at h
            · rename_i E2 H2 hrun
              have hfin : E2 = E' ∧ H2 = H' ∧ ∀ id, touch E o = some id → id ∉ H'.wr := by
                split at h
                · rename_i id hid
                  cases hel : H2.wr.elem id with
                  | true => rw [hel] at h; cases h
                  | false =>
                    rw [hel] at h
                    cases h
                    refine ⟨rfl, rfl, fun id' h' hmem => ?_⟩
                    rw [hid] at h'
                    cases h'
                    rw [List.elem_eq_mem] at hel
                    simp [hmem] at hel
                · rename_i hid
                  cases h
                  exact ⟨rfl, rfl, fun id' h' => by rw [hid] at h'; cases h'⟩
              obtain ⟨rfl, rfl, hnot⟩ := hfin
              obtain ⟨v, hv, hrd⟩ := execQ_ok ok hF hH hx
              have hF1 := putA_ok hF hpu hv
              have g2 := runHead_ok ok hc hcw hrun hp (inv.set hr' him) hF1 hH k
              refine head_first ho hsel ht him zt_done r.length listed a w inv (Region.free_spec ho hf) hr' (.inl ⟨guardA_ok hF hg, fun w' hw' => ?_⟩) (fun _ _ _ _ _ _ => rfl) g2
              refine hrd w' (fun id b hid hb => ?_)
              have hkk := touch_get hid hx
              obtain ⟨kk, hkk⟩ := hkk
              exact hw' id b kk hkk (hnot id hid) hb
            · cases h
          · cases h
        · cases h
      · rename_i hg
        split at h
        · rename_i E1 hpu
          have hF1 := putA_ok hF hpu VR.pl
          have g2 := runHead_ok ok hc hcw h hp (inv.set hr' him) hF1 hH k
          exact head_first ho hsel ht him zt_done r.length listed a w inv (Region.free_spec ho hf) hr' (.inr ⟨guardA_ok hF hg, rfl⟩) (fun _ _ _ _ _ _ => rfl) g2
        · cases h
      · cases h
    · cases h
  | (i, false) :: r, listed, E, E', H, H', h, hp, inv, ρ, a, w, hF, hH, k => by
    simp only [planOk, Bool.and_eq_true, Nat.blt_eq] at hp
    obtain ⟨⟨hl, him⟩, hp⟩ := hp
    have hrd := listIs_ok hl
    have him' : i ∈ Region.ready .any ops listed := by rw [hrd]; simp
    simp only [runHead] at h
    split at h
    · rename_i o ho
      split at h
      · rename_i E1 H1 hs
        have g1 := runHead_wr hcw h
        have key : ∀ ρ1 a1 w1, FR n ρ1 E1 a1 → Post w0 ρ H w ρ1 H1 w1 → Still ρ H H'.wr w w1 ∧ wpHead P ops (ON Q) m (Still ρ H H'.wr w) (Zt P ops (ON Q) m) r.length (listed.setIfInBounds i true) a1 w1 := by
          intro ρ1 a1 w1 hF1 hP1
          have g2 := runHead_ok ok hc hcw h hp (inv.set him' him) hF1 hP1.hr (fun ρ' a' w' hF' hP' => k ρ' a' w' hF' (hP1.trans hP'))
          have hst : Still ρ H H'.wr w w1 := fun j b kk hj hn hb => hP1.kept j b kk hj (fun hm => hn (g1 j hm)) hb
          refine ⟨hst, wpHead_mono (fun w' hw' => ?_) _ _ _ _ g2⟩
          intro j b kk hj hn hb
          rw [hw' j b kk (hP1.same j kk hj (fun hm => hn (g1 j hm))) hn (hP1.ext j b hb)]
          exact hst j b kk hj hn hb
        refine ⟨by rw [hrd]; simp, fun j hj => ?_⟩
        rw [hrd] at hj
        have : j = i := by simpa using hj
        subst this
        refine ⟨him, ?_⟩
        unfold wpOp
        simp only [ho]
        exact stepA_ok ok hc hs hF hH (fun ρ1 v1 w1 hF1 hP1 => key ρ1 _ w1 hF1 hP1)
      · cases h
    · cases h

/-! ### The region -/
theorem draw_wp {id : Nat} {ops : Array Oper} {Q : Exit → Act → World → Prop} {a : Act} {w : World} {m : Nat} {S : World → Prop} (hm : P.follows .mixedOrders = true) (hml : m ≤ ops.size)
    (h : HeadInv .any ops m (Array.replicate ops.size false) → wpHead P ops (ON Q) m S (Zt P ops (ON Q) m) m (Array.replicate ops.size false) a w.drew) : (Code.region id ops true).wp P Q a w := by
  refine wp_mono (Q := ON Q) ?_ (fun x a w h => by cases x <;> first | exact h | exact h.elim)
  refine wp_region_any hm ?_
  have inv0 : HeadInv .any ops m (Array.replicate ops.size false) :=
    ⟨by simp, fun j oj _ hl => (by rw [getD_replicate_false] at hl; cases hl), fun t _ ht => getD_in (by simpa using ht) (getD_replicate_false _ _)⟩
  have := wpAny_of_wpHead (g := ops.size - m) (fun listed a w hZ => by
    obtain ⟨hs, hl⟩ := hZ
    have hdl : (ops.toList.drop m).length = ops.size - m := by simp
    have := wpAny_of_seq (md := .any) (Q' := ON Q) (ops.toList.drop m) m listed a w (fun j => by simp [List.getElem?_drop]) (by rw [hdl]; exact hs) hl
    rwa [hdl] at this) _ _ _ _ (h inv0)
  rw [show m + (ops.size - m) = ops.size by omega] at this
  exact this

/-! ### A new variable whose making may come at any time -/
def lateOf (ops : Array Oper) : List Oper → Nat → Option (Nat × Nat × TypeId)
  | [], _ => none
  | o :: r, i => match o.op, o.dst, o.guard with
    | .alloc t, some d, none => some (i, d, t)
    | _, _, _ => lateOf ops r (i + 1)
def noDst (d : Nat) (i : Nat) : List Oper → Nat → Bool
  | [], _ => true
  | o :: r, j => (Nat.beq j i || (match o.dst with | some e => !(Nat.beq e d) | none => true)) && noDst d i r (j + 1)
def without (i : Nat) : List Nat → List Nat
  | [] => []
  | j :: r => bif Nat.beq j i then without i r else j :: without i r
def mkPlanL (ops : Array Oper) (i : Nat) : Nat → Array Bool → List (Nat × Bool)
  | 0, _ => []
  | f + 1, listed => match without i (Region.ready .any ops listed) with
    | [] => []
    | r => match pickQ ops r with
      | some q => (q, true) :: mkPlanL ops i f (listed.setIfInBounds q true)
      | none => match r with
        | q :: _ => (q, false) :: mkPlanL ops i f (listed.setIfInBounds q true)
        | [] => []
def planOkL (ops : Array Oper) (m i : Nat) : Array Bool → List (Nat × Bool) → Bool
  | listed, [] => listIs (Region.ready .any ops listed) i && Region.seqB .any ops (ops.size - m) m (listed.setIfInBounds i true)
  | listed, (q, true) :: r => !(Nat.beq q i) && takeOk ops m listed q && takeOk ops m (listed.setIfInBounds i true) q && planOkL ops m i (listed.setIfInBounds q true) r
  | listed, (q, false) :: r => !(Nat.beq q i) && listIs (without i (Region.ready .any ops listed)) q && listIs (Region.ready .any ops (listed.setIfInBounds i true)) q && Nat.blt q m && planOkL ops m i (listed.setIfInBounds q true) r

theorem without_mem {i : Nat} : ∀ {l : List Nat} {x : Nat}, x ∈ l → x = i ∨ x ∈ without i l
  | [], _, h => by cases h
  | j :: r, x, h => by
    simp only [without]
    cases hj : Nat.beq j i with
    | true =>
      rcases List.mem_cons.1 h with rfl | h
      · exact .inl (Nat.eq_of_beq_eq_true hj)
      · exact without_mem h
    | false =>
      rcases List.mem_cons.1 h with rfl | h
      · exact .inr (List.mem_cons_self ..)
      · rcases without_mem h with h | h
        · exact .inl h
        · exact .inr (List.mem_cons_of_mem _ h)
theorem without_sub {i : Nat} : ∀ {l : List Nat} {x : Nat}, x ∈ without i l → x ∈ l
  | [], _, h => by cases h
  | j :: r, x, h => by
    simp only [without] at h
    cases hj : Nat.beq j i with
    | true => rw [hj] at h; exact List.mem_cons_of_mem _ (without_sub h)
    | false =>
      rw [hj] at h
      rcases List.mem_cons.1 h with rfl | h
      · exact List.mem_cons_self ..
      · exact List.mem_cons_of_mem _ (without_sub h)
theorem noDst_ok {d i : Nat} : ∀ {l : List Oper} {j : Nat}, noDst d i l j = true → ∀ (q : Nat) (o : Oper), l[q]? = some o → j + q ≠ i → o.dst ≠ some d
  | [], _, _, q, o, h, _ => by simp at h
  | x :: r, j, hn, 0, o, h, hne => by
    simp only [noDst, Bool.and_eq_true, Bool.or_eq_true] at hn
    simp only [List.getElem?_cons_zero, Option.some.injEq] at h
    subst h
    rcases hn.1 with h1 | h1
    · exact absurd (Nat.eq_of_beq_eq_true h1) (by simpa using hne)
    · intro e
      rw [e] at h1
      simp at h1
  | x :: r, j, hn, q + 1, o, h, hne => by
    simp only [noDst, Bool.and_eq_true] at hn
    exact noDst_ok hn.2 q o (by simpa using h) (by omega)

theorem HR.extra {ρ : Names} {H : AH} {w : World} (h : HR w0 ρ H w) (o : Obj) : Post w0 ρ H w ρ H (w.alloc o) := by
  have hk : ∀ (i : Nat) (c : Nat × Nat), ρ[i]? = some c → (w.alloc o).heap[c.1]? = w.heap[c.1]? := fun i c hc => Below.heap_alloc w _ c.1 (h.rng i c hc).2
  refine ⟨Ext.refl _, ⟨h.bel.trans ((Below.refl _ _).alloc h.bel.size _), h.len, fun i b hb => ⟨(h.rng i b hb).1, by rw [World.size_alloc]; exact Nat.lt_succ_of_lt (h.rng i b hb).2⟩, h.inj, fun i k hi => ?_⟩, fun _ h => h, fun _ _ h _ => h, fun i b k _ _ hb => hk i b hb, by rw [World.size_alloc]; omega, fun b hb _ => Below.heap_alloc w _ b hb, fun i c k hi hc => .inr ⟨i, c, k, hi, hc, rfl⟩⟩
  obtain ⟨b, hb, hB⟩ := h.blk i k hi
  exact ⟨b, hb, by rw [hk i b hb]; exact hB⟩
theorem FR.other {ρ : Names} {E : T AV} {a : Act} (h : FR n ρ E a) {d : Nat} (hd : E.get d = none) (v : Value) : FR n ρ E (a.put (some d) v) := by
  refine ⟨by simp [Act.put, h.defers], by simp [Act.put, h.size], fun k x hk => ?_⟩
  obtain ⟨u, h1, h2⟩ := h.at_ k x hk
  have hne : d ≠ k := fun e => by rw [← e, hd] at hk; cases hk
  exact ⟨u, by simp only [Act.put]; rw [Array.getElem?_setIfInBounds_ne hne]; exact h1, h2⟩
theorem FR.erase {ρ : Names} {E : T AV} {a : Act} (h : FR n ρ E a) (d : Nat) : FR n ρ (E.set d none) a := ⟨h.defers, h.size, fun k x hk => by
  rcases T.get_set hk with ⟨_, h2⟩ | ⟨_, h2⟩
  · cases h2
  · exact h.at_ k x h2⟩
theorem T.get_erase {α : Type} (t : T α) (d : Nat) : (t.set d none).get d = none := by
  cases h : (t.set d none).get d with
  | none => rfl
  | some x =>
    rcases T.get_set h with ⟨_, h2⟩ | ⟨h1, _⟩
    · cases h2
    · exact absurd rfl h1
theorem putA_get {E E' : T AV} {dst : Option Nat} {x : AV} {d : Nat} (h : putA n E dst x = some E') (hne : dst ≠ some d) (hd : E.get d = none) : E'.get d = none := by
  unfold putA at h
  split at h
  · rename_i e
    have h := cond_some h
    cases h
    rw [T.get_set_ne _ _ (fun he => hne (by rw [he]))]; exact hd
  · cases h; exact hd
theorem stepA_get {call : CallF} {ops : Array Oper} {o : Oper} {E E' : T AV} {H H' : AH} {d : Nat} (h : stepA P tb n call ops o E H = some (E', H')) (hne : o.dst ≠ some d) (hd : E.get d = none) : E'.get d = none := by
  unfold stepA at h
  split at h
  · split at h
    · split at h <;> try (cases h; done)
      rename_i hp; cases h; exact putA_get hp hne hd
    · split at h <;> try (cases h; done)
      rename_i hp; cases h; exact putA_get hp hne hd
    · split at h <;> try (cases h; done)
      split at h <;> try (cases h; done)
      rename_i hp; cases h; exact putA_get hp hne hd
    · cases h
  · split at h <;> try (cases h; done)
    rename_i hp; cases h; exact putA_get hp hne hd
  · cases h
theorem put_other {a : Act} {dst : Option Nat} {v : Value} {d : Nat} (h : dst ≠ some d) : (a.put dst v).tmps[d]? = a.tmps[d]? := by
  cases dst with
  | none => rfl
  | some e => simp only [Act.put]; rw [Array.getElem?_setIfInBounds_ne (fun he => h (by rw [he]))]

/-- the variable has been made -/
structure Made (w0 : World) (Bs d : Nat) (z : Array Value) (t : TypeId) (ρ : Names) (H : AH) (a : Act) (w : World) (b : Nat) : Prop where
  slot : a.tmps[d]? = some (.pointer (some ⟨b, 0, none⟩))
  blk : w.heap[b]? = some (.cells z t (0, 0))
  big : w0.heap.size ≤ b
  late : Bs ≤ b
  un : ∀ (i : Nat) (c : Nat × Nat) (x : ABlk), H.get i = some x → ρ[i]? = some c → c.1 ≠ b
theorem Made.post {Bs d : Nat} {z : Array Value} {t : TypeId} {ρ ρ' : Names} {H H' : AH} {a a' : Act} {w w' : World} {b : Nat} (h : Made w0 Bs d z t ρ H a w b) (hP : Post w0 ρ H w ρ' H' w') (ha : a'.tmps[d]? = a.tmps[d]?) : Made w0 Bs d z t ρ' H' a' w' b := by
  have hlt := (Array.getElem?_eq_some_iff.1 h.blk).1
  refine ⟨by rw [ha]; exact h.slot, by rw [hP.frame b hlt h.un]; exact h.blk, h.big, h.late, fun i c x hi hc he => ?_⟩
  rcases hP.fresh i c x hi hc with h1 | ⟨j, e, y, h1, h2, h3⟩
  · omega
  · exact h.un j e y h1 h2 (h3.trans he)

theorem runLate_ok (ok : TOk P tb) {call : CallF} (hc : CallOk P w0 call) (hcw : CallWr call) {ops : Array Oper} {Q : Exit → Act → World → Prop} {m i d Bs : Nat} {t : TypeId} {oi : Oper} {z : Array Value} (hoi : ops[i]? = some oi) (hdst : oi.dst = some d) (hgd : oi.guard = none) (him : i < m) (hdn : d < n)
    (hrunA : ∀ (a : Act) (w : World), (execOp a.eval oi).run P w = .ok (.value (.pointer (some ⟨w.heap.size, 0, none⟩))) (w.alloc (.cells z t))) (hno : noDst d i ops.toList 0 = true) :
    ∀ {plan : List (Nat × Bool)} {listed : Array Bool} {E E' : T AV} {H H' : AH}, runHead P tb n call ops plan E H = some (E', H') → planOkL ops m i listed plan = true →
    HeadInv .any ops m listed → HeadInv .any ops m (listed.setIfInBounds i true) → E.get d = none → ∀ {ρ : Names} {a : Act} {w : World}, FR n ρ E a → HR w0 ρ H w → w0.heap.size ≤ Bs → Bs ≤ w.heap.size →
    (∀ ρ' a' w' b, FR n ρ' E' a' → Post w0 ρ H w ρ' H' w' → Made w0 Bs d z t ρ' H' a' w' b → wpList P ops (ON Q) (ops.toList.drop m) a' w') →
    (∀ b, Made w0 Bs d z t ρ H a w b → wpHead P ops (ON Q) m (Still ρ H H'.wr w) (Zt P ops (ON Q) m) plan.length (listed.setIfInBounds i true) a w) ∧
    (i ∈ Region.ready .any ops listed → wpHead P ops (ON Q) m (Still ρ H H'.wr w) (Zt P ops (ON Q) m) (plan.length + 1) listed a w) := by
  have hdo : ∀ (q : Nat) (o : Oper), ops[q]? = some o → q ≠ i → o.dst ≠ some d := fun q o ho hq => noDst_ok hno q o (by simpa using ho) (by simpa using hq)
  -- the variable is made now
  have make : ∀ {f : Nat} {listed : Array Bool} {E : T AV} {H : AH} {M : List Nat} {ρ : Names} {a : Act} {w : World}, E.get d = none → FR n ρ E a → HR w0 ρ H w → w0.heap.size ≤ Bs → Bs ≤ w.heap.size →
      (∀ a' w', FR n ρ E a' → Post w0 ρ H w ρ H w' → Made w0 Bs d z t ρ H a' w' w.heap.size → wpHead P ops (ON Q) m (Still ρ H M w') (Zt P ops (ON Q) m) f (listed.setIfInBounds i true) a' w') →
      wpOp P ops (ON Q) i (fun a' w' => Still ρ H M w w' ∧ wpHead P ops (ON Q) m (Still ρ H M w) (Zt P ops (ON Q) m) f (listed.setIfInBounds i true) a' w') a w := by
    intro f listed E H M ρ a w hE hF hH hB0 hB k
    unfold wpOp
    have hw : Region.wanted oi (yielded ops a.tmps) = true := by unfold Region.wanted; rw [hgd]
    simp only [hoi, hw, if_true]
    refine .inl ?_
    unfold Oper.wp
    rw [hrunA a w]
    simp only [Oper.upon, hdst]
    have hP := hH.extra (.cells z t)
    have hst : Still ρ H M w (w.alloc (.cells z t)) := fun j b kk hj _ hb => Below.heap_alloc w _ b.1 (hH.rng j b hb).2
    refine ⟨hst, wpHead_mono (fun w' hw' => ?_) _ _ _ _ (k _ _ (hF.other hE _) hP ⟨?_, heap_alloc_new w _, Nat.le_trans hB0 hB, hB, fun j c x hj hc he => ?_⟩)⟩
    · intro j b kk hj hn hb
      rw [hw' j b kk hj hn hb]; exact hst j b kk hj hn hb
    · simp [Act.put, hF.size, hdn]
    · have := (hH.rng j c hc).2
      omega
  intro plan
  induction plan with
  | nil =>
    intro listed E E' H H' h hp inv inv' hE ρ a w hF hH hB0 hB k
    cases h
    simp only [planOkL, Bool.and_eq_true] at hp
    have hrd := listIs_ok hp.1
    have v1 : ∀ b, Made w0 Bs d z t ρ H a w b → wpHead P ops (ON Q) m (Still ρ H H.wr w) (Zt P ops (ON Q) m) 0 (listed.setIfInBounds i true) a w := fun b hb => ⟨hp.2, k ρ a w b hF (Post.refl hH) hb⟩
    refine ⟨v1, fun _ => ⟨by rw [hrd]; simp, fun j hj => ?_⟩⟩
    rw [hrd] at hj
    have : j = i := by simpa using hj
    subst this
    exact ⟨him, make hE hF hH hB0 hB (fun a' w' hF' hP' hM' => ⟨hp.2, k ρ a' w' _ hF' hP' hM'⟩)⟩
  | cons p r ih =>
    obtain ⟨q, quiet⟩ := p
    intro listed E E' H H' h hp inv inv' hE ρ a w hF hH hB0 hB k
    cases quiet with
    | true =>
      simp only [planOkL, Bool.and_eq_true] at hp
      obtain ⟨⟨⟨hqi, hk0⟩, hk1⟩, hp⟩ := hp
      have hqi' : q ≠ i := fun e => by rw [e] at hqi; simp at hqi
      have spl : ∀ {l : Array Bool}, takeOk ops m l q = true → q < m ∧ tailOk ops m = true ∧ Region.noSelect ops = true ∧ Region.free .any ops l q = true ∧ q ∈ Region.ready .any ops l := fun {l} hk => by
        simp only [takeOk, Bool.and_eq_true, decide_eq_true_eq] at hk
        obtain ⟨⟨⟨⟨a1, a2⟩, a3⟩, a4⟩, a5⟩ := hk
        exact ⟨a1, a2, a3, a4, by simpa using a5⟩
      obtain ⟨hqm, ht, hsel, hf0, hr0⟩ := spl hk0
      obtain ⟨_, _, _, hf1, hr1⟩ := spl hk1
      have hcomm : (listed.setIfInBounds i true).setIfInBounds q true = (listed.setIfInBounds q true).setIfInBounds i true := Array.setIfInBounds_comm _ _ (Ne.symm hqi')
      simp only [runHead] at h
      split at h
      · rename_i o ho
        have hod := hdo q o ho hqi'
        have fin : ∀ {E1 : T AV} {x : AV} {v : Value}, runHead P tb n call ops r E1 H = some (E', H') → putA n E o.dst x = some E1 → VR ρ x v → YieldsIf P ops (Still ρ H H'.wr w) o v a →
            (∀ b, Made w0 Bs d z t ρ H a w b → wpHead P ops (ON Q) m (Still ρ H H'.wr w) (Zt P ops (ON Q) m) ((q, true) :: r).length (listed.setIfInBounds i true) a w) ∧
            (i ∈ Region.ready .any ops listed → wpHead P ops (ON Q) m (Still ρ H H'.wr w) (Zt P ops (ON Q) m) (((q, true) :: r).length + 1) listed a w) := by
          intro E1 x v hrun hpu hv hy
          have hF1 := putA_ok hF hpu hv
          have inv1 := inv.set hr0 hqm
          have inv1' : HeadInv .any ops m ((listed.setIfInBounds q true).setIfInBounds i true) := by rw [← hcomm]; exact inv'.set hr1 hqm
          obtain ⟨g1, g2⟩ := ih hrun hp inv1 inv1' (putA_get hpu hod hE) hF1 hH hB0 hB k
          refine ⟨fun b hb => ?_, fun hir => ?_⟩
          · refine head_first ho hsel ht hqm zt_done r.length (listed.setIfInBounds i true) a w inv' (Region.free_spec ho hf1) hr1 hy (fun _ _ _ _ _ _ => rfl) ?_
            rw [hcomm]
            exact g1 b (hb.post (Post.refl hH) (put_other hod))
          · refine head_first ho hsel ht hqm zt_done (r.length + 1) listed a w inv (Region.free_spec ho hf0) hr0 hy (fun _ _ _ _ _ _ => rfl) (g2 (ready_mono hir (Ne.symm hqi')))
        split at h
        · rename_i hg
          split at h
          · rename_i x hx
            split at h
            · rename_i E1 hpu
              split at h
              · rename_i E2 H2 hrun
                have hfin : E2 = E' ∧ H2 = H' ∧ ∀ id, touch E o = some id → id ∉ H'.wr := by
                  split at h
                  · rename_i id hid
                    cases hel : H2.wr.elem id with
                    | true => rw [hel] at h; cases h
                    | false =>
                      rw [hel] at h
                      cases h
                      refine ⟨rfl, rfl, fun id' h' hmem => ?_⟩
                      rw [hid] at h'
                      cases h'
                      rw [List.elem_eq_mem] at hel
                      simp [hmem] at hel
                  · rename_i hid
                    cases h
                    exact ⟨rfl, rfl, fun id' h' => by rw [hid] at h'; cases h'⟩
                obtain ⟨rfl, rfl, hnot⟩ := hfin
                obtain ⟨v, hv, hrd⟩ := execQ_ok ok hF hH hx
                refine fin hrun hpu hv (.inl ⟨guardA_ok hF hg, fun w' hw' => hrd w' (fun id b hid hb => ?_)⟩)
                obtain ⟨kk, hkk⟩ := touch_get hid hx
                exact hw' id b kk hkk (hnot id hid) hb
              · cases h
            · cases h
          · cases h
        · rename_i hg
          split at h
          · rename_i E1 hpu
            exact fin h hpu VR.pl (.inr ⟨guardA_ok hF hg, rfl⟩)
          · cases h
        · cases h
      · cases h
    | false =>
      simp only [planOkL, Bool.and_eq_true, Nat.blt_eq] at hp
      obtain ⟨⟨⟨⟨hqi, hl0⟩, hl1⟩, hqm⟩, hp⟩ := hp
      have hqi' : q ≠ i := fun e => by rw [e] at hqi; simp at hqi
      have hrd0 := listIs_ok hl0
      have hrd1 := listIs_ok hl1
      have hr1 : q ∈ Region.ready .any ops (listed.setIfInBounds i true) := by rw [hrd1]; simp
      have hr0 : q ∈ Region.ready .any ops listed := without_sub (i := i) (by rw [hrd0]; simp)
      have hcomm : (listed.setIfInBounds i true).setIfInBounds q true = (listed.setIfInBounds q true).setIfInBounds i true := Array.setIfInBounds_comm _ _ (Ne.symm hqi')
      simp only [runHead] at h
      split at h
      · rename_i o ho
        have hod := hdo q o ho hqi'
        split at h
        · rename_i E1 H1 hs
          have g1 := runHead_wr hcw h
          have inv1 := inv.set hr0 hqm
          have inv1' : HeadInv .any ops m ((listed.setIfInBounds q true).setIfInBounds i true) := by rw [← hcomm]; exact inv'.set hr1 hqm
          -- one step of the operation q from a state (a, w)
          have v1 : ∀ {a : Act} {w : World}, FR n ρ E a → HR w0 ρ H w → Bs ≤ w.heap.size → (∀ ρ' a' w' b, FR n ρ' E' a' → Post w0 ρ H w ρ' H' w' → Made w0 Bs d z t ρ' H' a' w' b → wpList P ops (ON Q) (ops.toList.drop m) a' w') → ∀ b, Made w0 Bs d z t ρ H a w b →
              wpHead P ops (ON Q) m (Still ρ H H'.wr w) (Zt P ops (ON Q) m) ((q, false) :: r).length (listed.setIfInBounds i true) a w := by
            intro a w hF hH hB k b hb
            refine ⟨by rw [hrd1]; simp, fun j hj => ?_⟩
            rw [hrd1] at hj
            have : j = q := by simpa using hj
            subst this
            refine ⟨hqm, ?_⟩
            unfold wpOp
            simp only [ho]
            refine stepA_ok ok hc hs hF hH (fun ρ1 v1 w1 hF1 hP1 => ?_)
            have hst : Still ρ H H'.wr w w1 := fun l bb kk hl hn hbb => hP1.kept l bb kk hl (fun hm => hn (g1 l hm)) hbb
            have g2 := (ih h hp inv1 inv1' (stepA_get hs hod hE) hF1 hP1.hr hB0 (Nat.le_trans hB hP1.size) (fun ρ' a' w' b' hF' hP' hM' => k ρ' a' w' b' hF' (hP1.trans hP') hM')).1 b (hb.post hP1 (put_other hod))
            rw [hcomm]
            refine ⟨hst, wpHead_mono (fun w' hw' => ?_) _ _ _ _ g2⟩
            intro l bb kk hl hn hbb
            rw [hw' l bb kk (hP1.same l kk hl (fun hm => hn (g1 l hm))) hn (hP1.ext l bb hbb)]
            exact hst l bb kk hl hn hbb
          refine ⟨v1 hF hH hB k, fun hir => ⟨(fun h0 => by rw [h0] at hir; cases hir), fun j hj => ?_⟩⟩
          rcases without_mem (i := i) hj with rfl | hj
          · exact ⟨him, make hE hF hH hB0 hB (fun a' w' hF' hP' hM' => v1 hF' hP'.hr (Nat.le_trans hB hP'.size) (fun ρ2 a2 w2 b2 hF2 hP2 hM2 => k ρ2 a2 w2 b2 hF2 (hP'.trans hP2) hM2) _ hM')⟩
          · rw [hrd0] at hj
            have : j = q := by simpa using hj
            subst this
            refine ⟨hqm, ?_⟩
            unfold wpOp
            simp only [ho]
            refine stepA_ok ok hc hs hF hH (fun ρ1 v1 w1 hF1 hP1 => ?_)
            have hst : Still ρ H H'.wr w w1 := fun l bb kk hl hn hbb => hP1.kept l bb kk hl (fun hm => hn (g1 l hm)) hbb
            have g2 := (ih h hp inv1 inv1' (stepA_get hs hod hE) hF1 hP1.hr hB0 (Nat.le_trans hB hP1.size) (fun ρ' a' w' b' hF' hP' hM' => k ρ' a' w' b' hF' (hP1.trans hP') hM')).2 (ready_mono hir (Ne.symm hqi'))
            refine ⟨hst, wpHead_mono (fun w' hw' => ?_) _ _ _ _ g2⟩
            intro l bb kk hl hn hbb
            rw [hw' l bb kk (hP1.same l kk hl (fun hm => hn (g1 l hm))) hn (hP1.ext l bb hbb)]
            exact hst l bb kk hl hn hbb
        · cases h
      · cases h

def evPlan (P : Program) (tb : Tab) (n : Nat) (call : CallF) (ops : Array Oper) (m : Nat) (E : T AV) (H : AH) : Option (T AV × AH) :=
  let plan := mkPlan ops m (Array.replicate ops.size false)
  bif planOk ops m (Array.replicate ops.size false) plan && Nat.beq plan.length m && Nat.ble m ops.size then
    (match runHead P tb n call ops plan E ⟨H.t, H.next, []⟩ with
     | some (E1, H1) => evOps P tb n call ops (ops.toList.drop m) E1 ⟨H1.t, H1.next, H1.wr ++ H.wr⟩
     | none => none) else none
def evLate (P : Program) (tb : Tab) (n : Nat) (call : CallF) (ops : Array Oper) (m : Nat) (E : T AV) (H : AH) : Option (T AV × AH) :=
  match lateOf ops ops.toList 0 with
  | some (i, d, t) =>
    let plan := mkPlanL ops i m (Array.replicate ops.size false)
    bif planOkL ops m i (Array.replicate ops.size false) plan && (Region.ready .any ops (Array.replicate ops.size false)).contains i && noDst d i ops.toList 0 && Nat.beq (plan.length + 1) m && Nat.ble m ops.size && Nat.blt i m && Nat.blt d n then
      (match tb.ty.get t, runHead P tb n call ops plan (E.set d none) ⟨H.t, H.next, []⟩ with
       | some ti, some (E1, H1) => evOps P tb n call ops (ops.toList.drop m) (E1.set d (some (.ptr H1.next 0))) ((⟨H1.t, H1.next, H1.wr ++ H.wr⟩ : AH).new ⟨plMap ti.zero, t, false, 0, 0⟩)
       | _, _ => none) else none
  | none => none
def evDraw (P : Program) (tb : Tab) (n : Nat) (call : CallF) (ops : Array Oper) (E : T AV) (H : AH) : Option (T AV × AH) :=
  match evPlan P tb n call ops (headLen ops.toList 0 0) E H with
  | some r => some r
  | none => match evPlan P tb n call ops ops.size E H with
    | some r => some r
    | none => match evLate P tb n call ops (headLen ops.toList 0 0) E H with
      | some r => some r
      | none => evLate P tb n call ops ops.size E H

theorem HR.setWr {ρ : Names} {H : AH} {w : World} (h : HR w0 ρ H w) (l : List Nat) : HR w0 ρ ⟨H.t, H.next, l⟩ w := ⟨h.bel, h.len, h.rng, h.inj, h.blk⟩
theorem Post.setWr {ρ ρ1 : Names} {H H1 : AH} {w w1 : World} (h : Post w0 ρ ⟨H.t, H.next, []⟩ w ρ1 H1 w1) : Post w0 ρ H w ρ1 ⟨H1.t, H1.next, H1.wr ++ H.wr⟩ w1 :=
  ⟨h.ext, h.hr.setWr _, fun i hi => List.mem_append_right _ hi, fun i k hi hn => h.same i k hi (fun hm => hn (List.mem_append_left _ hm)), fun i b k hi hn hb => h.kept i b k hi (fun hm => hn (List.mem_append_left _ hm)) hb, h.size, h.frame, h.fresh⟩
theorem Post.ofDrew {ρ ρ1 : Names} {H H1 : AH} {w w1 : World} (h : Post w0 ρ H w.drew ρ1 H1 w1) : Post w0 ρ H w ρ1 H1 w1 := ⟨h.ext, h.hr, h.wr, h.same, h.kept, h.size, h.frame, h.fresh⟩

theorem evPlan_ok (ok : TOk P tb) {call : CallF} (hc : CallOk P w0 call) (hcw : CallWr call) {id m : Nat} {ops : Array Oper} {Q : Exit → Act → World → Prop} {E E' : T AV} {H H' : AH} (h : evPlan P tb n call ops m E H = some (E', H')) {ρ : Names} {a : Act} {w : World} (hF : FR n ρ E a) (hH : HR w0 ρ H w)
    (k : ∀ ρ' a' w', FR n ρ' E' a' → Post w0 ρ H w ρ' H' w' → Q .normal a' w') : (Code.region id ops true).wp P Q a w := by
  unfold evPlan at h
  simp only at h
  cases hq : (planOk ops m (Array.replicate ops.size false) (mkPlan ops m (Array.replicate ops.size false)) && Nat.beq (mkPlan ops m (Array.replicate ops.size false)).length m && Nat.ble m ops.size) with
  | false => rw [hq] at h; cases h
  | true =>
    rw [hq] at h
    simp only [cond_true] at h
    simp only [Bool.and_eq_true, Nat.ble_eq] at hq
    obtain ⟨⟨q1, q2⟩, q3⟩ := hq
    have q2 := Nat.eq_of_beq_eq_true q2
    split at h
    · rename_i E1 H1 hrun
      refine draw_wp (S := Still ρ ⟨H.t, H.next, []⟩ H1.wr w.drew) ok.mix q3 (fun inv => ?_)
      have := runHead_ok ok hc hcw (Q := Q) hrun q1 inv (ρ := ρ) (a := a) (w := w.drew) hF (hH.drew.setWr _) (fun ρ1 a1 w1 hF1 hP1 => by
        have hP1' : Post w0 ρ H w ρ1 ⟨H1.t, H1.next, H1.wr ++ H.wr⟩ w1 := (Post.setWr hP1).ofDrew
        exact evOps_ok (Q := ON Q) ok hc h hF1 hP1'.hr (fun ρ2 a2 w2 hF2 hP2 => k ρ2 a2 w2 hF2 (hP1'.trans hP2)))
      rw [q2] at this
      exact this
    · cases h
theorem lateOf_ok {ops : Array Oper} : ∀ {l : List Oper} {j i d : Nat} {t : TypeId}, lateOf ops l j = some (i, d, t) → ∃ o, j ≤ i ∧ l[i - j]? = some o ∧ o.op = .alloc t ∧ o.dst = some d ∧ o.guard = none
  | [], _, _, _, _, h => by cases h
  | o :: r, j, i, d, t, h => by
    simp only [lateOf] at h
    split at h
    · rename_i t' d' h1 h2 h3
      cases h
      exact ⟨o, Nat.le_refl _, by simp, h1, h2, h3⟩
    · obtain ⟨o', h1, h2, h3⟩ := lateOf_ok h
      refine ⟨o', by omega, ?_, h3⟩
      rw [show i - j = (i - (j + 1)) + 1 by omega]
      simpa using h2
theorem evLate_ok (ok : TOk P tb) {call : CallF} (hc : CallOk P w0 call) (hcw : CallWr call) {id m : Nat} {ops : Array Oper} {Q : Exit → Act → World → Prop} {E E' : T AV} {H H' : AH} (h : evLate P tb n call ops m E H = some (E', H')) {ρ : Names} {a : Act} {w : World} (hF : FR n ρ E a) (hH : HR w0 ρ H w)
    (k : ∀ ρ' a' w', FR n ρ' E' a' → Post w0 ρ H w ρ' H' w' → Q .normal a' w') : (Code.region id ops true).wp P Q a w := by
  unfold evLate at h
  simp only at h
  split at h
  · rename_i i d t hlate
    obtain ⟨oi, _, hoi, hop, hdst, hgd⟩ := lateOf_ok hlate
    have hoi' : ops[i]? = some oi := by simpa using hoi
    generalize hpl : mkPlanL ops i m (Array.replicate ops.size false) = plan at h
    cases hq : (planOkL ops m i (Array.replicate ops.size false) plan && (Region.ready .any ops (Array.replicate ops.size false)).contains i && noDst d i ops.toList 0 && Nat.beq (plan.length + 1) m && Nat.ble m ops.size && Nat.blt i m && Nat.blt d n) with
    | false => rw [hq] at h; cases h
    | true =>
      rw [hq] at h
      simp only [cond_true] at h
      simp only [Bool.and_eq_true, Nat.ble_eq, Nat.blt_eq] at hq
      obtain ⟨⟨⟨⟨⟨⟨q1, q2⟩, q3⟩, q4⟩, q5⟩, q6⟩, q7⟩ := hq
      have q4 := Nat.eq_of_beq_eq_true q4
      have hir : i ∈ Region.ready .any ops (Array.replicate ops.size false) := by simpa using q2
      split at h
      · rename_i ti E1 H1 hti hrun
        obtain ⟨dd, inf, z, hd, hinf, hz, hk, hs, _, hzero⟩ := ok.at_ hti
        have hrunA : ∀ (a : Act) (w : World), (execOp a.eval oi).run P w = .ok (.value (.pointer (some ⟨w.heap.size, 0, none⟩))) (w.alloc (.cells z.cells t)) := fun a w => by
          obtain ⟨x1, x2, x3, x4, x5, x6⟩ := oi
          simp only at hop
          subst hop
          simp [execOp, Instr.alloc, zeroValue, typeInfo, hinf, hz, newVar, newRow]
        refine draw_wp (S := Still ρ ⟨H.t, H.next, []⟩ H1.wr w.drew) ok.mix q5 (fun inv => ?_)
        have := (runLate_ok ok hc hcw (Q := Q) (Bs := w.heap.size) hoi' hdst hgd q6 q7 hrunA q3 hrun q1 inv (inv.set hir q6) (T.get_erase E d) (ρ := ρ) (a := a) (w := w.drew) (hF.erase d) (hH.drew.setWr _) hH.bel.size (Nat.le_refl _) (fun ρ1 a1 w1 b hF1 hP1 hM => by
          have hP1' : Post w0 ρ H w ρ1 ⟨H1.t, H1.next, H1.wr ++ H.wr⟩ w1 := (Post.setWr hP1).ofDrew
          have hlt := (Array.getElem?_eq_some_iff.1 hM.blk).1
          have hN := HR.name hP1'.hr ⟨plMap ti.zero, t, false, 0, 0⟩ b 0 (w' := w1) hP1'.hr.bel (Nat.le_refl _) ⟨hM.big, hlt⟩ hM.un (fun _ _ _ _ _ => rfl)
            ⟨z.cells.toList, [], (0, 0), by simpa using hM.blk, by rw [hzero]; exact VRL.plMap _, fun _ => rfl, (fun h => by cases h), .inl rfl⟩
          have hP2 : Post w0 ρ H w (ρ1 ++ [(b, 0)]) ((⟨H1.t, H1.next, H1.wr ++ H.wr⟩ : AH).new ⟨plMap ti.zero, t, false, 0, 0⟩) w1 := by
            refine ⟨hP1'.ext.trans (Ext.snoc _ _), hN.1, hP1'.wr, fun j x hj hn => AH.new_same hP1'.hr _ (hP1'.same j x hj hn), hP1'.kept, hP1'.size, hP1'.frame, fun j c x hj hc => ?_⟩
            rcases name_fresh hP1'.hr hj hc with h1 | ⟨h1, h2⟩
            · exact .inl (by rw [h1]; exact hM.late)
            · exact hP1'.fresh j c x h1 h2
          have hF2 : FR n (ρ1 ++ [(b, 0)]) (E1.set d (some (.ptr H1.next 0))) a1 := by
            refine ⟨hF1.defers, hF1.size, fun kk x hkk => ?_⟩
            rcases T.get_set hkk with ⟨rfl, h2⟩ | ⟨_, h2⟩
            · cases h2
              exact ⟨_, hM.slot, by rw [VR]; exact ⟨(b, 0), hN.2, rfl⟩⟩
            · obtain ⟨u, h3, h4⟩ := hF1.at_ kk x h2
              exact ⟨u, h3, h4.ext (Ext.snoc _ _)⟩
          exact evOps_ok (Q := ON Q) ok hc h hF2 hP2.hr (fun ρ3 a3 w3 hF3 hP3 => k ρ3 a3 w3 hF3 (hP2.trans hP3)))).2 hir
        rw [q4] at this
        exact this
      · cases h
  · cases h
theorem evDraw_ok (ok : TOk P tb) {call : CallF} (hc : CallOk P w0 call) (hcw : CallWr call) {id : Nat} {ops : Array Oper} {Q : Exit → Act → World → Prop} {E E' : T AV} {H H' : AH} (h : evDraw P tb n call ops E H = some (E', H')) {ρ : Names} {a : Act} {w : World} (hF : FR n ρ E a) (hH : HR w0 ρ H w)
    (k : ∀ ρ' a' w', FR n ρ' E' a' → Post w0 ρ H w ρ' H' w' → Q .normal a' w') : (Code.region id ops true).wp P Q a w := by
  unfold evDraw at h
  split at h
  · rename_i r hr; cases h; exact evPlan_ok ok hc hcw hr hF hH k
  · split at h
    · rename_i r hr; cases h; exact evPlan_ok ok hc hcw hr hF hH k
    · split at h
      · rename_i r hr; cases h; exact evLate_ok ok hc hcw hr hF hH k
      · exact evLate_ok ok hc hcw h hF hH k
theorem evPlan_wr {call : CallF} (hcw : CallWr call) {ops : Array Oper} {m : Nat} {E E' : T AV} {H H' : AH} (hr : evPlan P tb n call ops m E H = some (E', H')) : ∀ i ∈ H.wr, i ∈ H'.wr := by
  unfold evPlan at hr
  simp only at hr
  have hr := cond_some hr
  split at hr <;> try (cases hr; done)
  exact fun i hi => evOps_wr hcw hr i (List.mem_append_right _ hi)
theorem evLate_wr {call : CallF} (hcw : CallWr call) {ops : Array Oper} {m : Nat} {E E' : T AV} {H H' : AH} (h : evLate P tb n call ops m E H = some (E', H')) : ∀ i ∈ H.wr, i ∈ H'.wr := by
  unfold evLate at h
  simp only at h
  split at h <;> try (cases h; done)
  have h := cond_some h
  split at h <;> try (cases h; done)
  exact fun i hi => evOps_wr hcw h i (List.mem_append_right _ hi)
theorem evDraw_wr {call : CallF} (hcw : CallWr call) {ops : Array Oper} {E E' : T AV} {H H' : AH} (h : evDraw P tb n call ops E H = some (E', H')) : ∀ i ∈ H.wr, i ∈ H'.wr := by
  unfold evDraw at h
  split at h
  · rename_i r hr; cases h; exact evPlan_wr hcw hr
  · split at h
    · rename_i r hr; cases h; exact evPlan_wr hcw hr
    · split at h
      · rename_i r hr; cases h; exact evLate_wr hcw hr
      · exact evLate_wr hcw h

/-! ### The evaluator -/
def evC (P : Program) (tb : Tab) : Nat → EvF
  | 0, _, _, _, _ => none
  | f + 1, n, c, E, H => match c with
    | .skip => some (.normal, E, H)
    | .ret => some (.ret, E, H)
    | .exit id => some (.exit id, E, H)
    | .region _ ops d => (match d with
      | false => (match evOps P tb n (callF P tb (evC P tb f)) ops ops.toList E H with | some (E', H') => some (.normal, E', H') | none => none)
      | true => (match evDraw P tb n (callF P tb (evC P tb f)) ops E H with | some (E', H') => some (.normal, E', H') | none => none))
    | .seq x y => (match evC P tb f n x E H with
      | some (.normal, E', H') => evC P tb f n y E' H'
      | r => r)
    | .cond q x y => (match pv E q with
      | some (.bool true) => evC P tb f n x E H
      | some (.bool false) => evC P tb f n y E H
      | _ => none)
    | .block id x => (match evC P tb f n x E H with
      | some (.exit i, E', H') => bif Nat.beq i id then some (.normal, E', H') else some (.exit i, E', H')
      | r => r)
    | .loop x => (match evC P tb f n x E H with
      | some (.normal, E', H') => evC P tb f n (.loop x) E' H'
      | r => r)
    | _ => none

theorem evC_wr : ∀ (f : Nat), EvWr (evC P tb f)
  | 0 => fun n c E E' H H' x h => by simp [evC] at h
  | f + 1 => fun n c E E' H H' x h => by
    have ih : EvWr (evC P tb f) := evC_wr f
    cases c <;> simp only [evC] at h <;> try (cases h; done)
    case skip => cases h; exact fun i hi => hi
    case region id ops d =>
      cases d <;> simp only at h
      · split at h <;> try (cases h; done)
        rename_i hh
        cases h; exact evOps_wr (callF_wr ih) hh
      · split at h <;> try (cases h; done)
        rename_i hh
        cases h; exact evDraw_wr (callF_wr ih) hh
    case seq p q =>
      split at h
      · rename_i hh; exact fun i hi => ih _ _ _ _ _ _ _ h i (ih _ _ _ _ _ _ _ hh i hi)
      · exact ih _ _ _ _ _ _ _ h
    case cond c p q =>
      split at h
      · exact ih _ _ _ _ _ _ _ h
      · exact ih _ _ _ _ _ _ _ h
      · cases h
    case block id p =>
      split at h
      · rename_i hh
        rcases cond_or h with h | h <;> (cases h; exact ih _ _ _ _ _ _ _ hh)
      · exact ih _ _ _ _ _ _ _ h
    case loop p =>
      split at h
      · rename_i hh; exact fun i hi => ih _ _ _ _ _ _ _ h i (ih _ _ _ _ _ _ _ hh i hi)
      · exact ih _ _ _ _ _ _ _ h
    case exit id => cases h; exact fun i hi => hi
    case ret => cases h; exact fun i hi => hi

def LoopOk (P : Program) (tb : Tab) (w0 : World) (f : Nat) : Prop := ∀ (n : Nat) (p : Code) (E E' : T AV) (H H' : AH) (x : AX), evC P tb f n (.loop p) E H = some (x, E', H') → ∀ (ρ : Names) (a : Act) (w : World) (Q : Exit → Act → World → Prop), FR n ρ E a → HR w0 ρ H w →
    (∀ ρ' a' w', FR n ρ' E' a' → Post w0 ρ H w ρ' H' w' → Q x.to a' w') → Code.rounds P p Q f a w
theorem evC_both (ok : TOk P tb) : ∀ (f : Nat), EvOk P w0 (evC P tb f) ∧ LoopOk P tb w0 f
  | 0 => ⟨fun n c E E' H H' x h => by simp [evC] at h, fun n c E E' H H' x h => by simp [evC] at h⟩
  | f + 1 => by
    obtain ⟨ih, il⟩ := evC_both ok f
    have hloop : LoopOk P tb w0 (f + 1) := fun n p E E' H H' x h ρ a w Q hF hH k => by
      simp only [evC] at h
      show p.wp P (Exit.then (Code.rounds P p Q f) Q) a w
      split at h
      · rename_i E1 H1 hh
        exact ih _ _ _ _ _ _ _ hh ρ a w _ hF hH (fun ρ1 a1 w1 hF1 hP1 => il _ _ _ _ _ _ _ h ρ1 a1 w1 Q hF1 hP1.hr (fun ρ2 a2 w2 hF2 hP2 => k ρ2 a2 w2 hF2 (hP1.trans hP2)))
      · rename_i hno
        refine ih _ _ _ _ _ _ _ h ρ a w _ hF hH (fun ρ1 a1 w1 hF1 hP1 => ?_)
        have := k ρ1 a1 w1 hF1 hP1
        cases x with
        | normal => exact (hno _ _ h).elim
        | ret => exact this
        | exit id => exact this
    refine ⟨fun n c E E' H H' x h ρ a w Q hF hH k => ?_, hloop⟩
    have hc := callF_ok ok ih
    have hcw : CallWr (callF P tb (evC P tb f)) := callF_wr (evC_wr f)
    by_cases hlp : ∃ p, c = .loop p
    · obtain ⟨p, rfl⟩ := hlp
      exact wp_loop_rounds (f + 1) (hloop n p E E' H H' x h ρ a w Q hF hH k)
    · cases c <;> try (simp only [evC] at h) <;> try (cases h; done)
      case skip => cases h; exact wp_skip (k ρ a w hF (Post.refl hH))
      case ret => cases h; exact wp_ret (k ρ a w hF (Post.refl hH))
      case exit id => cases h; exact wp_exit (k ρ a w hF (Post.refl hH))
      case region id ops d =>
        cases d <;> simp only at h
        · split at h <;> try (cases h; done)
          rename_i hh
          cases h
          have hl : ops = ops.toList.toArray := by simp
          rw [hl]
          refine wp_region_lit ?_
          have := evOps_ok ok hc (Q := Q) hh hF hH k
          simpa using this
        · split at h <;> try (cases h; done)
          rename_i hh
          cases h
          exact evDraw_ok ok hc hcw hh hF hH k
      case seq p q =>
        refine wp_seq ?_
        split at h
        · rename_i E1 H1 hh
          exact ih _ _ _ _ _ _ _ hh ρ a w _ hF hH (fun ρ1 a1 w1 hF1 hP1 => ih _ _ _ _ _ _ _ h ρ1 a1 w1 Q hF1 hP1.hr (fun ρ2 a2 w2 hF2 hP2 => k ρ2 a2 w2 hF2 (hP1.trans hP2)))
        · rename_i hno
          refine ih _ _ _ _ _ _ _ h ρ a w _ hF hH (fun ρ1 a1 w1 hF1 hP1 => ?_)
          have := k ρ1 a1 w1 hF1 hP1
          cases x with
          | normal => exact (hno _ _ h).elim
          | ret => exact this
          | exit id => exact this
      case cond c p q =>
        split at h
        · rename_i hv; exact wp_cond_true (hF.pv hv) (ih _ _ _ _ _ _ _ h ρ a w Q hF hH k)
        · rename_i hv; exact wp_cond_false (hF.pv hv) (ih _ _ _ _ _ _ _ h ρ a w Q hF hH k)
        · cases h
      case block id p =>
        refine wp_block ?_
        split at h
        · rename_i i E1 H1 hh
          refine ih _ _ _ _ _ _ _ hh ρ a w _ hF hH (fun ρ1 a1 w1 hF1 hP1 => ?_)
          cases hi : Nat.beq i id with
          | true =>
            rw [hi] at h
            cases h
            have hid := Nat.eq_of_beq_eq_true hi
            simp only [AX.to, Exit.inBlock, hid, if_true]
            exact k ρ1 a1 w1 hF1 hP1
          | false =>
            rw [hi] at h
            cases h
            have hid : i ≠ id := fun e => by rw [e] at hi; simp at hi
            simp only [AX.to, Exit.inBlock, hid, if_false]
            exact k ρ1 a1 w1 hF1 hP1
        · rename_i hno
          refine ih _ _ _ _ _ _ _ h ρ a w _ hF hH (fun ρ1 a1 w1 hF1 hP1 => ?_)
          have := k ρ1 a1 w1 hF1 hP1
          cases x with
          | normal => exact this
          | ret => exact this
          | exit i => exact (hno _ _ _ h).elim
      case loop p => exact (hlp ⟨p, rfl⟩).elim

/-- a call of a function that is handed known data -/
theorem call_ev (ok : TOk P tb) (fuel : Nat) {f : FuncId} {args : List AV} {r : AV} {H H' : AH} (h : callF P tb (evC P tb fuel) f args H = some (r, H')) {ρ : Names} {w : World} {vs : List Value} (hv : VRL ρ args vs) (hH : HR w0 ρ H w) :
    Calls P f vs.toArray w (fun e w' => ∃ ρ' v, e = .returned v ∧ VR ρ' r v ∧ Post w0 ρ H w ρ' H' w') := callF_ok ok (evC_both ok fuel).1 f args H r H' h ρ w vs hv hH

def isTrue (x : Option (AV × AH)) : Bool := match x with | some (.pl (.bool true), _) => true | _ => false
/-- a call without arguments that returns true -/
theorem call_true (ok : TOk P tb) (fuel : Nat) {f : FuncId} (h : isTrue (callF P tb (evC P tb fuel) f [] ⟨.l, 0, []⟩) = true) (w : World) :
    Calls P f #[] w (fun e w' => e = .returned (.bool true) ∧ Below w.heap.size w w') := by
  unfold isTrue at h
  split at h
  · rename_i H' hh
    have hH : HR w [] ⟨.l, 0, []⟩ w := ⟨Below.refl _ _, rfl, fun i b hb => by simp at hb, fun i j b c x y hi => by simp [AH.get, T.get_l] at hi, fun i k hi => by simp [AH.get, T.get_l] at hi⟩
    refine (call_ev ok fuel hh VRL.mk0 hH).mono fun e w' hR => ?_
    obtain ⟨ρ', v, rfl, hv, hP⟩ := hR
    rw [VR] at hv
    exact ⟨by rw [hv], hP.hr.bel⟩
  · cases h
end
end Go.Ev
