/- The evaluator, tenth part: regions that draw their order; the evaluator itself. No statement is proved here. -/
import Derived.Test.YtpdichhabjieeaaGreatDoorEw9
namespace Go.Ev
open Go.RowKit Go.Sx
set_option linter.unusedVariables false
set_option linter.unusedSimpArgs false

/-! ### Plans -/
section
variable {P : Program} {tb : Tab} {w0 : World} {n : Nat} {ds : List Deferred}

/-- is the block noted? -/
def hasB : List Wr → Nat → Bool
  | [], _ => false
  | .b j :: r, i => Nat.beq j i || hasB r i
  | .c _ _ :: r, i => hasB r i
theorem hasB_no : ∀ {l : List Wr} {i : Nat}, hasB l i = false → Wr.b i ∉ l
  | [], _, _ => by simp
  | .b j :: r, i, h => by
    simp only [hasB, Bool.or_eq_false_iff] at h
    intro hm
    rcases List.mem_cons.1 hm with e | hm
    · cases e; simp at h
    · exact hasB_no h.2 hm
  | .c _ _ :: r, i, h => by
    simp only [hasB] at h
    intro hm
    rcases List.mem_cons.1 hm with e | hm
    · cases e
    · exact hasB_no h hm
def runHead (P : Program) (tb : Tab) (n : Nat) (call : CF) (ops : Array Oper) : List (Nat × Bool) → T AV → AH → Option (T AV × AH)
  | [], E, H => some (E, H)
  | (i, true) :: r, E, H => (match ops[i]? with
    | some o => (match guardA ops E o with
      | some true => (match execQ P tb E H o with
        | some x => (match putA n E o.dst x with
          | some E1 => (match runHead P tb n call ops r E1 H with
            | some (E', H') => (match touch E o with
              | some id => bif hasB H'.wr id then none else some (E', H')
              | none => some (E', H'))
            | none => none)
          | none => none)
        | none => none)
      | some false => (match putA n E o.dst (.pl undef) with
        | some E1 => runHead P tb n call ops r E1 H
        | none => none)
      | none => none)
    | none => none)
  | (i, false) :: r, E, H => (match ops[i]? with
    | some o => (match stepA P tb n call ops o E H with
      | some (E1, H1) => runHead P tb n call ops r E1 H1
      | none => none)
    | none => none)

theorem runHead_wr {call : CF} (hc : CallWr call) {ops : Array Oper} : ∀ {plan : List (Nat × Bool)} {E E' : T AV} {H H' : AH}, runHead P tb n call ops plan E H = some (E', H') → ∀ i ∈ H.wr, i ∈ H'.wr
  | [], _, _, _, _, h => by cases h; exact fun i hi => hi
  | (i, true) :: r, E, E', H, H', h => by
    simp only [runHead] at h
    split at h <;> try (cases h; done)
    split at h
    · split at h <;> try (cases h; done)
      split at h <;> try (cases h; done)
      split at h <;> try (cases h; done)
      rename_i E2 H2 hrun
      have h2 := runHead_wr hc hrun
      split at h
      · rcases cond_or h with h | h
        · cases h
        · cases h; exact h2
      · cases h; exact h2
    · split at h <;> try (cases h; done)
      exact runHead_wr hc h
    · cases h
  | (i, false) :: r, E, E', H, H', h => by
    simp only [runHead] at h
    split at h <;> try (cases h; done)
    split at h <;> try (cases h; done)
    rename_i hs
    exact fun j hj => runHead_wr hc h j (stepA_wr hc hs j hj)

/-- what stands still from a world on -/
def Still (ρ : Names) (H : AH) (M : List Wr) (w : World) (w' : World) : Prop := ∀ (i : Nat) (b : Nat × Nat) (k : ABlk), H.get i = some k → Wr.b i ∉ M → ρ[i]? = some b → w'.heap[b.1]? = w.heap[b.1]?

theorem touch_get {E : T AV} {H : AH} {o : Oper} {x : AV} {id : Nat} (hid : touch E o = some id) (hx : execQ P tb E H o = some x) : ∃ kk, H.get id = some kk := by
  have hent : ∀ {es : List (AV × AV × Nat)}, entA H (.mp id) = some es → ∃ kk, H.get id = some kk := fun {es} h => by
    unfold entA at h
    simp only at h
    split at h <;> try (cases h; done)
    rename_i k hk
    exact ⟨k, hk⟩
  unfold touch at hid
  split at hid
  · rename_i t y hop
    unfold execQ at hx
    rw [hop] at hx
    simp only at hx
    split at hid
    · rename_i id' off hy
      cases hid
      rw [hy] at hx
      simp only at hx
      split at hx
      · rename_i kk kd hkk _; exact ⟨kk, hkk⟩
      · cases hx
    · cases hid
  · rename_i t y ix co hop
    split at hid <;> try (cases hid; done)
    rename_i id' hy
    cases hid
    unfold execQ at hx
    rw [hop] at hx
    simp only [hy] at hx
    split at hx <;> try (cases hx; done)
    rename_i z kv hz hk
    cases hz
    split at hx
    · rename_i es hes; exact hent hes
    · exfalso
      have : pv E y = none := by simp [pv, hy, plain]
      unfold plainOp at hx
      rw [hop] at hx
      simp [Op.operands, this] at hx
  · rename_i c hop
    split at hid <;> try (cases hid; done)
    rename_i y hc ha
    split at hid <;> try (cases hid; done)
    rename_i id' hy
    cases hid
    have hno : pv E y = none := by simp [pv, hy, plain]
    have hpl : plainOp P E o = none := by
      unfold plainOp
      have : (noSel o.op && o.op.operands.toList.all fun x => (pv E x).isSome) = false := by
        rw [hop]
        have h2 : c.args = #[y] := by apply Array.toList_inj.1; simpa using ha
        simp [Op.operands, Call.operands, hc, h2, hno]
      rw [this]
    unfold execQ at hx
    rw [hop] at hx
    simp only [hc, ha] at hx
    split at hx
    · rename_i y2 t2 _ e1 _
      cases e1
      rw [hy] at hx
      simp only at hx
      split at hx <;> try (cases hx; done)
      rename_i es _ _ hes _
      exact hent hes
    all_goals first
      | (rename_i h1 h2 h3; cases h1; done)
      | (rename_i h1 h2; cases h1; done)
      | (rename_i h1; cases h1; done)
      | (rw [hpl] at hx; cases hx; done)
      | (cases hx; done)
      | skip
  · cases hid
theorem runHead_ok (ok : TOk P tb) {call : CF} (hc : CallOk P w0 call) (hcw : CallWr call) {rc : Option Nat} {ops : Array Oper} (hnd : noDefer ops = true) {Q : Exit → Act → World → Prop} {m : Nat} : ∀ {plan : List (Nat × Bool)} {listed : Array Bool} {E E' : T AV} {H H' : AH}, runHead P tb n call ops plan E H = some (E', H') → LogOk P w0 H'.wr → planOk ops m listed plan = true →
    HeadInv .any ops m listed → ∀ {ρ : Names} {a : Act} {w : World}, FR n ds ρ E a → HR w0 ρ H w →
    (∀ ρ' a' w', FR n ds ρ' E' a' → Post w0 ρ H w ρ' H' w' → wpListIn (FD rc) 0 P ops (ON Q) (ops.toList.drop m) a' w') →
    wpHeadR P rc ops (ON Q) m (Still ρ H H'.wr w) (ZtR P rc ops (ON Q) m) plan.length listed a w
  | [], listed, E, E', H, H', h, hlog, hp, inv, ρ, a, w, hF, hH, k => by
    cases h
    exact ⟨hp, k ρ a w hF (Post.refl hH)⟩
  | (i, true) :: r, listed, E, E', H, H', h, hlog, hp, inv, ρ, a, w, hF, hH, k => by
    simp only [planOk, Bool.and_eq_true] at hp
    obtain ⟨hk, hp⟩ := hp
    have hk' := hk
    simp only [takeOk, Bool.and_eq_true, decide_eq_true_eq] at hk'
    obtain ⟨⟨⟨⟨him, ht⟩, hsel⟩, hf⟩, hr⟩ := hk'
    have hr' : i ∈ Region.ready .any ops listed := by simpa using hr
    simp only [runHead] at h
    split at h
    · rename_i o ho
      split at h
      · rename_i hg
        split at h
        · rename_i x hx
          split at h
          · rename_i E1 hpu
            split at h
            · rename_i E2 H2 hrun
              have hfin : E2 = E' ∧ H2 = H' ∧ ∀ id, touch E o = some id → Wr.b id ∉ H'.wr := by
                split at h
                · rename_i id hid
                  cases hel : hasB H2.wr id with
                  | true => rw [hel] at h; cases h
                  | false =>
                    rw [hel] at h
                    cases h
                    refine ⟨rfl, rfl, fun id' h' hmem => ?_⟩
                    rw [hid] at h'
                    cases h'
                    exact hasB_no hel hmem
                · rename_i hid
                  cases h
                  exact ⟨rfl, rfl, fun id' h' => by rw [hid] at h'; cases h'⟩
              obtain ⟨rfl, rfl, hnot⟩ := hfin
              obtain ⟨v, hv, hrd⟩ := execQ_ok ok hF hH hx
              have hF1 := putA_ok hF hpu hv
              have g2 := runHead_ok ok hc hcw hnd hrun hlog hp (inv.set hr' him) hF1 hH k
              refine head_firstR hnd ho hsel ht him ztR_done r.length listed a w inv (Region.free_spec ho hf) hr' (.inl ⟨guardA_ok hF hg, fun w' hw' => ?_⟩) (fun _ _ _ _ _ _ => rfl) g2
              refine hrd w' (fun id b hid hb => ?_)
              have hkk := touch_get hid hx
              obtain ⟨kk, hkk⟩ := hkk
              exact hw' id b kk hkk (hnot id hid) hb
            · cases h
          · cases h
        · cases h
      · rename_i hg
        split at h
        · rename_i E1 hpu
          have hF1 := putA_ok hF hpu VR.pl
          have g2 := runHead_ok ok hc hcw hnd h hlog hp (inv.set hr' him) hF1 hH k
          exact head_firstR hnd ho hsel ht him ztR_done r.length listed a w inv (Region.free_spec ho hf) hr' (.inr ⟨guardA_ok hF hg, rfl⟩) (fun _ _ _ _ _ _ => rfl) g2
        · cases h
      · cases h
    · cases h
  | (i, false) :: r, listed, E, E', H, H', h, hlog, hp, inv, ρ, a, w, hF, hH, k => by
    simp only [planOk, Bool.and_eq_true, Nat.blt_eq] at hp
    obtain ⟨⟨hl, him⟩, hp⟩ := hp
    have hrd := listIs_ok hl
    have him' : i ∈ Region.ready .any ops listed := by rw [hrd]; simp
    simp only [runHead] at h
    split at h
    · rename_i o ho
      split at h
      · rename_i E1 H1 hs
        have g1 := runHead_wr hcw h
        have key : ∀ ρ1 a1 w1, FR n ds ρ1 E1 a1 → Post w0 ρ H w ρ1 H1 w1 → Still ρ H H'.wr w w1 ∧ wpHeadR P rc ops (ON Q) m (Still ρ H H'.wr w) (ZtR P rc ops (ON Q) m) r.length (listed.setIfInBounds i true) a1 w1 := by
          intro ρ1 a1 w1 hF1 hP1
          have g2 := runHead_ok ok hc hcw hnd h hlog hp (inv.set him' him) hF1 hP1.hr (fun ρ' a' w' hF' hP' => k ρ' a' w' hF' (hP1.trans hP'))
          have hst : Still ρ H H'.wr w w1 := fun j b kk hj hn hb => hP1.kept j b kk hj (fun hm => hn (g1 _ hm)) hb
          refine ⟨hst, wpHeadR_mono (fun w' hw' => ?_) _ _ _ _ g2⟩
          intro j b kk hj hn hb
          rw [hw' j b kk (hP1.same j kk hj (fun hm => hn (g1 _ hm))) hn (hP1.ext j b hb)]
          exact hst j b kk hj hn hb
        refine ⟨by rw [hrd]; simp, fun j hj => ?_⟩
        rw [hrd] at hj
        have : j = i := by simpa using hj
        subst this
        refine ⟨him, ?_⟩
        unfold wpOpIn
        simp only [ho]
        exact stepA_ok ok hc hs (hlog.mono g1) hF hH (fun ρ1 v1 w1 hF1 hP1 => key ρ1 _ w1 hF1 hP1)
      · cases h
    · cases h

theorem without_mem {i : Nat} : ∀ {l : List Nat} {x : Nat}, x ∈ l → x = i ∨ x ∈ without i l
  | [], _, h => by cases h
  | j :: r, x, h => by
    simp only [without]
    cases hj : Nat.beq j i with
    | true =>
      rcases List.mem_cons.1 h with rfl | h
      · exact .inl (Nat.eq_of_beq_eq_true hj)
      · exact without_mem h
    | false =>
      rcases List.mem_cons.1 h with rfl | h
      · exact .inr (List.mem_cons_self ..)
      · rcases without_mem h with h | h
        · exact .inl h
        · exact .inr (List.mem_cons_of_mem _ h)
theorem without_sub {i : Nat} : ∀ {l : List Nat} {x : Nat}, x ∈ without i l → x ∈ l
  | [], _, h => by cases h
  | j :: r, x, h => by
    simp only [without] at h
    cases hj : Nat.beq j i with
    | true => rw [hj] at h; exact List.mem_cons_of_mem _ (without_sub h)
    | false =>
      rw [hj] at h
      rcases List.mem_cons.1 h with rfl | h
      · exact List.mem_cons_self ..
      · exact List.mem_cons_of_mem _ (without_sub h)
theorem noDst_ok {d i : Nat} : ∀ {l : List Oper} {j : Nat}, noDst d i l j = true → ∀ (q : Nat) (o : Oper), l[q]? = some o → j + q ≠ i → o.dst ≠ some d
  | [], _, _, q, o, h, _ => by simp at h
  | x :: r, j, hn, 0, o, h, hne => by
    simp only [noDst, Bool.and_eq_true, Bool.or_eq_true] at hn
    simp only [List.getElem?_cons_zero, Option.some.injEq] at h
    subst h
    rcases hn.1 with h1 | h1
    · exact absurd (Nat.eq_of_beq_eq_true h1) (by simpa using hne)
    · intro e
      rw [e] at h1
      simp at h1
  | x :: r, j, hn, q + 1, o, h, hne => by
    simp only [noDst, Bool.and_eq_true] at hn
    exact noDst_ok hn.2 q o (by simpa using h) (by omega)

theorem HR.extra {ρ : Names} {H : AH} {w : World} (h : HR w0 ρ H w) (o : Obj) : Post w0 ρ H w ρ H (w.alloc o) := by
  have hk : ∀ (i : Nat) (c : Nat × Nat), ρ[i]? = some c → (w.alloc o).heap[c.1]? = w.heap[c.1]? := fun i c hc => Below.heap_alloc w _ c.1 (h.rng i c hc).2
  refine ⟨Ext.refl _, ⟨h.bel.trans ((Below.refl _ _).alloc h.bel.size _), h.len, fun i b hb => ⟨(h.rng i b hb).1, by rw [World.size_alloc]; exact Nat.lt_succ_of_lt (h.rng i b hb).2⟩, h.inj, fun i k hi => ?_⟩, fun _ h => h, fun _ _ h _ => h, fun i b k _ _ hb => hk i b hb, by rw [World.size_alloc]; omega, fun b hb _ => Below.heap_alloc w _ b hb, fun i c k hi hc => .inr ⟨i, c, k, hi, hc, rfl⟩⟩
  obtain ⟨b, hb, hB⟩ := h.blk i k hi
  exact ⟨b, hb, by rw [hk i b hb]; exact hB⟩
theorem FR.other {ρ : Names} {E : T AV} {a : Act} (h : FR n ds ρ E a) {d : Nat} (hd : E.get d = none) (v : Value) : FR n ds ρ E (a.put (some d) v) := by
  refine ⟨by simp [Act.put, h.defers], by simp [Act.put, h.size], fun k x hk => ?_⟩
  obtain ⟨u, h1, h2⟩ := h.at_ k x hk
  have hne : d ≠ k := fun e => by rw [← e, hd] at hk; cases hk
  exact ⟨u, by simp only [Act.put]; rw [Array.getElem?_setIfInBounds_ne hne]; exact h1, h2⟩
theorem FR.erase {ρ : Names} {E : T AV} {a : Act} (h : FR n ds ρ E a) (d : Nat) : FR n ds ρ (E.set d none) a := ⟨h.defers, h.size, fun k x hk => by
  rcases T.get_set hk with ⟨_, h2⟩ | ⟨_, h2⟩
  · cases h2
  · exact h.at_ k x h2⟩
theorem T.get_erase {α : Type} (t : T α) (d : Nat) : (t.set d none).get d = none := by
  cases h : (t.set d none).get d with
  | none => rfl
  | some x =>
    rcases T.get_set h with ⟨_, h2⟩ | ⟨h1, _⟩
    · cases h2
    · exact absurd rfl h1
theorem putA_get {E E' : T AV} {dst : Option Nat} {x : AV} {d : Nat} (h : putA n E dst x = some E') (hne : dst ≠ some d) (hd : E.get d = none) : E'.get d = none := by
  unfold putA at h
  split at h
  · rename_i e
    have h := cond_some h
    cases h
    rw [T.get_set_ne _ _ (fun he => hne (by rw [he]))]; exact hd
  · cases h; exact hd
theorem stepA_get {call : CF} {ops : Array Oper} {o : Oper} {E E' : T AV} {H H' : AH} {d : Nat} (h : stepA P tb n call ops o E H = some (E', H')) (hne : o.dst ≠ some d) (hd : E.get d = none) : E'.get d = none := by
  unfold stepA at h
  split at h
  · split at h
    · split at h <;> try (cases h; done)
      rename_i hp; cases h; exact putA_get hp hne hd
    · split at h <;> try (cases h; done)
      rename_i hp; cases h; exact putA_get hp hne hd
    · split at h <;> try (cases h; done)
      split at h <;> try (cases h; done)
      rename_i hp; cases h; exact putA_get hp hne hd
    · split at h <;> try (cases h; done)
      split at h <;> try (cases h; done)
      rename_i hp; cases h; exact putA_get hp hne hd
    · cases h
  · split at h <;> try (cases h; done)
    rename_i hp; cases h; exact putA_get hp hne hd
  · cases h
theorem put_other {a : Act} {dst : Option Nat} {v : Value} {d : Nat} (h : dst ≠ some d) : (a.put dst v).tmps[d]? = a.tmps[d]? := by
  cases dst with
  | none => rfl
  | some e => simp only [Act.put]; rw [Array.getElem?_setIfInBounds_ne (fun he => h (by rw [he]))]

/-- the variable has been made -/
structure Made (w0 : World) (Bs d : Nat) (z : Array Value) (t : TypeId) (ρ : Names) (H : AH) (a : Act) (w : World) (b : Nat) : Prop where
  slot : a.tmps[d]? = some (.pointer (some ⟨b, 0, none⟩))
  blk : w.heap[b]? = some (.cells z t (0, 0))
  big : w0.heap.size ≤ b
  late : Bs ≤ b
  un : ∀ (i : Nat) (c : Nat × Nat) (x : ABlk), H.get i = some x → ρ[i]? = some c → c.1 ≠ b
theorem Made.post {Bs d : Nat} {z : Array Value} {t : TypeId} {ρ ρ' : Names} {H H' : AH} {a a' : Act} {w w' : World} {b : Nat} (h : Made w0 Bs d z t ρ H a w b) (hP : Post w0 ρ H w ρ' H' w') (ha : a'.tmps[d]? = a.tmps[d]?) : Made w0 Bs d z t ρ' H' a' w' b := by
  have hlt := (Array.getElem?_eq_some_iff.1 h.blk).1
  refine ⟨by rw [ha]; exact h.slot, by rw [hP.frame b hlt h.un]; exact h.blk, h.big, h.late, fun i c x hi hc he => ?_⟩
  rcases hP.fresh i c x hi hc with h1 | ⟨j, e, y, h1, h2, h3⟩
  · omega
  · exact h.un j e y h1 h2 (h3.trans he)

theorem runLate_ok (ok : TOk P tb) {call : CF} (hc : CallOk P w0 call) (hcw : CallWr call) {rc : Option Nat} {ops : Array Oper} (hnd : noDefer ops = true) {Q : Exit → Act → World → Prop} {m i d Bs : Nat} {t : TypeId} {oi : Oper} {z : Array Value} (hoi : ops[i]? = some oi) (hdst : oi.dst = some d) (hgd : oi.guard = none) (him : i < m) (hdn : d < n)
    (hrunA : ∀ (a : Act) (w : World), (execOp a.eval oi).run P w = .ok (.value (.pointer (some ⟨w.heap.size, 0, none⟩))) (w.alloc (.cells z t))) (hno : noDst d i ops.toList 0 = true) :
    ∀ {plan : List (Nat × Bool)} {listed : Array Bool} {E E' : T AV} {H H' : AH}, runHead P tb n call ops plan E H = some (E', H') → LogOk P w0 H'.wr → planOkL ops m i listed plan = true →
    HeadInv .any ops m listed → HeadInv .any ops m (listed.setIfInBounds i true) → E.get d = none → ∀ {ρ : Names} {a : Act} {w : World}, FR n ds ρ E a → HR w0 ρ H w → w0.heap.size ≤ Bs → Bs ≤ w.heap.size →
    (∀ ρ' a' w' b, FR n ds ρ' E' a' → Post w0 ρ H w ρ' H' w' → Made w0 Bs d z t ρ' H' a' w' b → wpListIn (FD rc) 0 P ops (ON Q) (ops.toList.drop m) a' w') →
    (∀ b, Made w0 Bs d z t ρ H a w b → wpHeadR P rc ops (ON Q) m (Still ρ H H'.wr w) (ZtR P rc ops (ON Q) m) plan.length (listed.setIfInBounds i true) a w) ∧
    (i ∈ Region.ready .any ops listed → wpHeadR P rc ops (ON Q) m (Still ρ H H'.wr w) (ZtR P rc ops (ON Q) m) (plan.length + 1) listed a w) := by
  have hdo : ∀ (q : Nat) (o : Oper), ops[q]? = some o → q ≠ i → o.dst ≠ some d := fun q o ho hq => noDst_ok hno q o (by simpa using ho) (by simpa using hq)
  -- the variable is made now
  have make : ∀ {f : Nat} {listed : Array Bool} {E : T AV} {H : AH} {M : List Wr} {ρ : Names} {a : Act} {w : World}, E.get d = none → FR n ds ρ E a → HR w0 ρ H w → w0.heap.size ≤ Bs → Bs ≤ w.heap.size →
      (∀ a' w', FR n ds ρ E a' → Post w0 ρ H w ρ H w' → Made w0 Bs d z t ρ H a' w' w.heap.size → wpHeadR P rc ops (ON Q) m (Still ρ H M w') (ZtR P rc ops (ON Q) m) f (listed.setIfInBounds i true) a' w') →
      wpOpIn (FD rc) 0 P ops (ON Q) i (fun a' w' => Still ρ H M w w' ∧ wpHeadR P rc ops (ON Q) m (Still ρ H M w) (ZtR P rc ops (ON Q) m) f (listed.setIfInBounds i true) a' w') a w := by
    intro f listed E H M ρ a w hE hF hH hB0 hB k
    unfold wpOpIn
    have hw : Region.wanted oi (yielded ops a.tmps) = true := by unfold Region.wanted; rw [hgd]
    simp only [hoi, hw, if_true]
    unfold Oper.wpIn
    refine ⟨fun _ _ => trivial, ?_⟩
    rw [Oper.semAt_eq _ _ _ (noDefer_ok hnd hoi), hrunA a w]
    simp only [Oper.uponIn, hdst]
    have hP := hH.extra (.cells z t)
    have hst : Still ρ H M w (w.alloc (.cells z t)) := fun j b kk hj _ hb => Below.heap_alloc w _ b.1 (hH.rng j b hb).2
    refine ⟨hst, wpHeadR_mono (fun w' hw' => ?_) _ _ _ _ (k _ _ (hF.other hE _) hP ⟨?_, heap_alloc_new w _, Nat.le_trans hB0 hB, hB, fun j c x hj hc he => ?_⟩)⟩
    · intro j b kk hj hn hb
      rw [hw' j b kk hj hn hb]; exact hst j b kk hj hn hb
    · simp [Act.put, hF.size, hdn]
    · have := (hH.rng j c hc).2
      omega
  intro plan
  induction plan with
  | nil =>
    intro listed E E' H H' h hlog hp inv inv' hE ρ a w hF hH hB0 hB k
    cases h
    simp only [planOkL, Bool.and_eq_true] at hp
    have hrd := listIs_ok hp.1
    have v1 : ∀ b, Made w0 Bs d z t ρ H a w b → wpHeadR P rc ops (ON Q) m (Still ρ H H.wr w) (ZtR P rc ops (ON Q) m) 0 (listed.setIfInBounds i true) a w := fun b hb => ⟨hp.2, k ρ a w b hF (Post.refl hH) hb⟩
    refine ⟨v1, fun _ => ⟨by rw [hrd]; simp, fun j hj => ?_⟩⟩
    rw [hrd] at hj
    have : j = i := by simpa using hj
    subst this
    exact ⟨him, make hE hF hH hB0 hB (fun a' w' hF' hP' hM' => ⟨hp.2, k ρ a' w' _ hF' hP' hM'⟩)⟩
  | cons p r ih =>
    obtain ⟨q, quiet⟩ := p
    intro listed E E' H H' h hlog hp inv inv' hE ρ a w hF hH hB0 hB k
    cases quiet with
    | true =>
      simp only [planOkL, Bool.and_eq_true] at hp
      obtain ⟨⟨⟨hqi, hk0⟩, hk1⟩, hp⟩ := hp
      have hqi' : q ≠ i := fun e => by rw [e] at hqi; simp at hqi
      have spl : ∀ {l : Array Bool}, takeOk ops m l q = true → q < m ∧ tailOk ops m = true ∧ Region.noSelect ops = true ∧ Region.free .any ops l q = true ∧ q ∈ Region.ready .any ops l := fun {l} hk => by
        simp only [takeOk, Bool.and_eq_true, decide_eq_true_eq] at hk
        obtain ⟨⟨⟨⟨a1, a2⟩, a3⟩, a4⟩, a5⟩ := hk
        exact ⟨a1, a2, a3, a4, by simpa using a5⟩
      obtain ⟨hqm, ht, hsel, hf0, hr0⟩ := spl hk0
      obtain ⟨_, _, _, hf1, hr1⟩ := spl hk1
      have hcomm : (listed.setIfInBounds i true).setIfInBounds q true = (listed.setIfInBounds q true).setIfInBounds i true := Array.setIfInBounds_comm _ _ (Ne.symm hqi')
      simp only [runHead] at h
      split at h
      · rename_i o ho
        have hod := hdo q o ho hqi'
        have fin : ∀ {E1 : T AV} {x : AV} {v : Value}, runHead P tb n call ops r E1 H = some (E', H') → putA n E o.dst x = some E1 → VR ρ x v → YieldsIf P ops (Still ρ H H'.wr w) o v a →
            (∀ b, Made w0 Bs d z t ρ H a w b → wpHeadR P rc ops (ON Q) m (Still ρ H H'.wr w) (ZtR P rc ops (ON Q) m) ((q, true) :: r).length (listed.setIfInBounds i true) a w) ∧
            (i ∈ Region.ready .any ops listed → wpHeadR P rc ops (ON Q) m (Still ρ H H'.wr w) (ZtR P rc ops (ON Q) m) (((q, true) :: r).length + 1) listed a w) := by
          intro E1 x v hrun hpu hv hy
          have hF1 := putA_ok hF hpu hv
          have inv1 := inv.set hr0 hqm
          have inv1' : HeadInv .any ops m ((listed.setIfInBounds q true).setIfInBounds i true) := by rw [← hcomm]; exact inv'.set hr1 hqm
          obtain ⟨g1, g2⟩ := ih hrun hlog hp inv1 inv1' (putA_get hpu hod hE) hF1 hH hB0 hB k
          refine ⟨fun b hb => ?_, fun hir => ?_⟩
          · refine head_firstR hnd ho hsel ht hqm ztR_done r.length (listed.setIfInBounds i true) a w inv' (Region.free_spec ho hf1) hr1 hy (fun _ _ _ _ _ _ => rfl) ?_
            rw [hcomm]
            exact g1 b (hb.post (Post.refl hH) (put_other hod))
          · refine head_firstR hnd ho hsel ht hqm ztR_done (r.length + 1) listed a w inv (Region.free_spec ho hf0) hr0 hy (fun _ _ _ _ _ _ => rfl) (g2 (ready_mono hir (Ne.symm hqi')))
        split at h
        · rename_i hg
          split at h
          · rename_i x hx
            split at h
            · rename_i E1 hpu
              split at h
              · rename_i E2 H2 hrun
                have hfin : E2 = E' ∧ H2 = H' ∧ ∀ id, touch E o = some id → Wr.b id ∉ H'.wr := by
                  split at h
                  · rename_i id hid
                    cases hel : hasB H2.wr id with
                    | true => rw [hel] at h; cases h
                    | false =>
                      rw [hel] at h
                      cases h
                      refine ⟨rfl, rfl, fun id' h' hmem => ?_⟩
                      rw [hid] at h'
                      cases h'
                      exact hasB_no hel hmem
                  · rename_i hid
                    cases h
                    exact ⟨rfl, rfl, fun id' h' => by rw [hid] at h'; cases h'⟩
                obtain ⟨rfl, rfl, hnot⟩ := hfin
                obtain ⟨v, hv, hrd⟩ := execQ_ok ok hF hH hx
                refine fin hrun hpu hv (.inl ⟨guardA_ok hF hg, fun w' hw' => hrd w' (fun id b hid hb => ?_)⟩)
                obtain ⟨kk, hkk⟩ := touch_get hid hx
                exact hw' id b kk hkk (hnot id hid) hb
              · cases h
            · cases h
          · cases h
        · rename_i hg
          split at h
          · rename_i E1 hpu
            exact fin h hpu VR.pl (.inr ⟨guardA_ok hF hg, rfl⟩)
          · cases h
        · cases h
      · cases h
    | false =>
      simp only [planOkL, Bool.and_eq_true, Nat.blt_eq] at hp
      obtain ⟨⟨⟨⟨hqi, hl0⟩, hl1⟩, hqm⟩, hp⟩ := hp
      have hqi' : q ≠ i := fun e => by rw [e] at hqi; simp at hqi
      have hrd0 := listIs_ok hl0
      have hrd1 := listIs_ok hl1
      have hr1 : q ∈ Region.ready .any ops (listed.setIfInBounds i true) := by rw [hrd1]; simp
      have hr0 : q ∈ Region.ready .any ops listed := without_sub (i := i) (by rw [hrd0]; simp)
      have hcomm : (listed.setIfInBounds i true).setIfInBounds q true = (listed.setIfInBounds q true).setIfInBounds i true := Array.setIfInBounds_comm _ _ (Ne.symm hqi')
      simp only [runHead] at h
      split at h
      · rename_i o ho
        have hod := hdo q o ho hqi'
        split at h
        · rename_i E1 H1 hs
          have g1 := runHead_wr hcw h
          have inv1 := inv.set hr0 hqm
          have inv1' : HeadInv .any ops m ((listed.setIfInBounds q true).setIfInBounds i true) := by rw [← hcomm]; exact inv'.set hr1 hqm
          -- one step of the operation q from a state (a, w)
          have v1 : ∀ {a : Act} {w : World}, FR n ds ρ E a → HR w0 ρ H w → Bs ≤ w.heap.size → (∀ ρ' a' w' b, FR n ds ρ' E' a' → Post w0 ρ H w ρ' H' w' → Made w0 Bs d z t ρ' H' a' w' b → wpListIn (FD rc) 0 P ops (ON Q) (ops.toList.drop m) a' w') → ∀ b, Made w0 Bs d z t ρ H a w b →
              wpHeadR P rc ops (ON Q) m (Still ρ H H'.wr w) (ZtR P rc ops (ON Q) m) ((q, false) :: r).length (listed.setIfInBounds i true) a w := by
            intro a w hF hH hB k b hb
            refine ⟨by rw [hrd1]; simp, fun j hj => ?_⟩
            rw [hrd1] at hj
            have : j = q := by simpa using hj
            subst this
            refine ⟨hqm, ?_⟩
            unfold wpOpIn
            simp only [ho]
            refine stepA_ok ok hc hs (hlog.mono g1) hF hH (fun ρ1 v1 w1 hF1 hP1 => ?_)
            have hst : Still ρ H H'.wr w w1 := fun l bb kk hl hn hbb => hP1.kept l bb kk hl (fun hm => hn (g1 _ hm)) hbb
            have g2 := (ih h hlog hp inv1 inv1' (stepA_get hs hod hE) hF1 hP1.hr hB0 (Nat.le_trans hB hP1.size) (fun ρ' a' w' b' hF' hP' hM' => k ρ' a' w' b' hF' (hP1.trans hP') hM')).1 b (hb.post hP1 (put_other hod))
            rw [hcomm]
            refine ⟨hst, wpHeadR_mono (fun w' hw' => ?_) _ _ _ _ g2⟩
            intro l bb kk hl hn hbb
            rw [hw' l bb kk (hP1.same l kk hl (fun hm => hn (g1 _ hm))) hn (hP1.ext l bb hbb)]
            exact hst l bb kk hl hn hbb
          refine ⟨v1 hF hH hB k, fun hir => ⟨(fun h0 => by rw [h0] at hir; cases hir), fun j hj => ?_⟩⟩
          rcases without_mem (i := i) hj with rfl | hj
          · exact ⟨him, make hE hF hH hB0 hB (fun a' w' hF' hP' hM' => v1 hF' hP'.hr (Nat.le_trans hB hP'.size) (fun ρ2 a2 w2 b2 hF2 hP2 hM2 => k ρ2 a2 w2 b2 hF2 (hP'.trans hP2) hM2) _ hM')⟩
          · rw [hrd0] at hj
            have : j = q := by simpa using hj
            subst this
            refine ⟨hqm, ?_⟩
            unfold wpOpIn
            simp only [ho]
            refine stepA_ok ok hc hs (hlog.mono g1) hF hH (fun ρ1 v1 w1 hF1 hP1 => ?_)
            have hst : Still ρ H H'.wr w w1 := fun l bb kk hl hn hbb => hP1.kept l bb kk hl (fun hm => hn (g1 _ hm)) hbb
            have g2 := (ih h hlog hp inv1 inv1' (stepA_get hs hod hE) hF1 hP1.hr hB0 (Nat.le_trans hB hP1.size) (fun ρ' a' w' b' hF' hP' hM' => k ρ' a' w' b' hF' (hP1.trans hP') hM')).2 (ready_mono hir (Ne.symm hqi'))
            refine ⟨hst, wpHeadR_mono (fun w' hw' => ?_) _ _ _ _ g2⟩
            intro l bb kk hl hn hbb
            rw [hw' l bb kk (hP1.same l kk hl (fun hm => hn (g1 _ hm))) hn (hP1.ext l bb hbb)]
            exact hst l bb kk hl hn hbb
        · cases h
      · cases h

def evPlan (P : Program) (tb : Tab) (n : Nat) (call : CF) (ops : Array Oper) (m : Nat) (E : T AV) (H : AH) : Option (T AV × AH) :=
  let plan := mkPlan tb ops m (Array.replicate ops.size false)
  bif planOk ops m (Array.replicate ops.size false) plan && Nat.beq plan.length m && Nat.ble m ops.size && noDefer ops then
    (match runHead P tb n call ops plan E ⟨H.t, H.next, []⟩ with
     | some (E1, H1) => evOps P tb n call ops (ops.toList.drop m) E1 ⟨H1.t, H1.next, H1.wr ++ H.wr⟩
     | none => none) else none
def evLate (P : Program) (tb : Tab) (n : Nat) (call : CF) (ops : Array Oper) (m : Nat) (E : T AV) (H : AH) : Option (T AV × AH) :=
  match lateOf ops ops.toList 0 with
  | some (i, d, t) =>
    let plan := mkPlanL tb ops i m (Array.replicate ops.size false)
    bif planOkL ops m i (Array.replicate ops.size false) plan && (Region.ready .any ops (Array.replicate ops.size false)).contains i && noDst d i ops.toList 0 && Nat.beq (plan.length + 1) m && Nat.ble m ops.size && Nat.blt i m && Nat.blt d n && noDefer ops then
      (match tb.ty.get t, runHead P tb n call ops plan (E.set d none) ⟨H.t, H.next, []⟩ with
       | some ti, some (E1, H1) => evOps P tb n call ops (ops.toList.drop m) (E1.set d (some (.ptr H1.next 0))) ((⟨H1.t, H1.next, H1.wr ++ H.wr⟩ : AH).new ⟨plMap ti.zero, t, false, 0, 0, .c⟩)
       | _, _ => none) else none
  | none => none
def evDraw (P : Program) (tb : Tab) (n : Nat) (call : CF) (ops : Array Oper) (E : T AV) (H : AH) : Option (T AV × AH) :=
  match evPlan P tb n call ops (headLen ops.toList 0 0) E H with
  | some r => some r
  | none => match evPlan P tb n call ops ops.size E H with
    | some r => some r
    | none => match evLate P tb n call ops (headLen ops.toList 0 0) E H with
      | some r => some r
      | none => evLate P tb n call ops ops.size E H

theorem HR.setWr {ρ : Names} {H : AH} {w : World} (h : HR w0 ρ H w) (l : List Wr) : HR w0 ρ ⟨H.t, H.next, l⟩ w := ⟨h.bel, h.len, h.rng, h.inj, h.blk⟩
theorem Post.setWr {ρ ρ1 : Names} {H H1 : AH} {w w1 : World} (h : Post w0 ρ ⟨H.t, H.next, []⟩ w ρ1 H1 w1) : Post w0 ρ H w ρ1 ⟨H1.t, H1.next, H1.wr ++ H.wr⟩ w1 :=
  ⟨h.ext, h.hr.setWr _, fun i hi => List.mem_append_right _ hi, fun i k hi hn => h.same i k hi (fun hm => hn (List.mem_append_left _ hm)), fun i b k hi hn hb => h.kept i b k hi (fun hm => hn (List.mem_append_left _ hm)) hb, h.size, h.frame, h.fresh⟩
theorem Post.ofDrew {ρ ρ1 : Names} {H H1 : AH} {w w1 : World} (h : Post w0 ρ H w.drew ρ1 H1 w1) : Post w0 ρ H w ρ1 H1 w1 := ⟨h.ext, h.hr, h.wr, h.same, h.kept, h.size, h.frame, h.fresh⟩

theorem evPlan_ok (ok : TOk P tb) {call : CF} (hc : CallOk P w0 call) (hcw : CallWr call) {rc : Option Nat} {id m : Nat} {ops : Array Oper} {Q : Exit → Act → World → Prop} {E E' : T AV} {H H' : AH} (h : evPlan P tb n call ops m E H = some (E', H')) (hlog : LogOk P w0 H'.wr) {ρ : Names} {a : Act} {w : World} (hF : FR n ds ρ E a) (hH : HR w0 ρ H w)
    (k : ∀ ρ' a' w', FR n ds ρ' E' a' → Post w0 ρ H w ρ' H' w' → Q .normal a' w') : (Code.region id ops true).wpIn (FD rc) 0 P Q a w := by
  unfold evPlan at h
  simp only at h
  cases hq : (planOk ops m (Array.replicate ops.size false) (mkPlan tb ops m (Array.replicate ops.size false)) && Nat.beq (mkPlan tb ops m (Array.replicate ops.size false)).length m && Nat.ble m ops.size && noDefer ops) with
  | false => rw [hq] at h; cases h
  | true =>
    rw [hq] at h
    simp only [cond_true] at h
    simp only [Bool.and_eq_true, Nat.ble_eq] at hq
    obtain ⟨⟨⟨q1, q2⟩, q3⟩, hnd⟩ := hq
    have q2 := Nat.eq_of_beq_eq_true q2
    split at h
    · rename_i E1 H1 hrun
      have hl1 : LogOk P w0 H1.wr := hlog.mono (fun i hi => evOps_wr hcw h i (List.mem_append_left _ hi))
      refine drawR_wp (S := Still ρ ⟨H.t, H.next, []⟩ H1.wr w.drew) ok.mix q3 (fun inv => ?_)
      have := runHead_ok ok hc hcw (rc := rc) hnd (Q := Q) hrun hl1 q1 inv (ρ := ρ) (a := a) (w := w.drew) hF (hH.drew.setWr _) (fun ρ1 a1 w1 hF1 hP1 => by
        have hP1' : Post w0 ρ H w ρ1 ⟨H1.t, H1.next, H1.wr ++ H.wr⟩ w1 := (Post.setWr hP1).ofDrew
        exact evOps_ok (Q := ON Q) ok hc hcw h hlog hF1 hP1'.hr (fun ρ2 a2 w2 hF2 hP2 => k ρ2 a2 w2 hF2 (hP1'.trans hP2)))
      rw [q2] at this
      exact this
    · cases h
theorem lateOf_ok {ops : Array Oper} : ∀ {l : List Oper} {j i d : Nat} {t : TypeId}, lateOf ops l j = some (i, d, t) → ∃ o, j ≤ i ∧ l[i - j]? = some o ∧ o.op = .alloc t ∧ o.dst = some d ∧ o.guard = none
  | [], _, _, _, _, h => by cases h
  | o :: r, j, i, d, t, h => by
    simp only [lateOf] at h
    split at h
    · rename_i t' d' h1 h2 h3
      cases h
      exact ⟨o, Nat.le_refl _, by simp, h1, h2, h3⟩
    · obtain ⟨o', h1, h2, h3⟩ := lateOf_ok h
      refine ⟨o', by omega, ?_, h3⟩
      rw [show i - j = (i - (j + 1)) + 1 by omega]
      simpa using h2
theorem evLate_ok (ok : TOk P tb) {call : CF} (hc : CallOk P w0 call) (hcw : CallWr call) {rc : Option Nat} {id m : Nat} {ops : Array Oper} {Q : Exit → Act → World → Prop} {E E' : T AV} {H H' : AH} (h : evLate P tb n call ops m E H = some (E', H')) (hlog : LogOk P w0 H'.wr) {ρ : Names} {a : Act} {w : World} (hF : FR n ds ρ E a) (hH : HR w0 ρ H w)
    (k : ∀ ρ' a' w', FR n ds ρ' E' a' → Post w0 ρ H w ρ' H' w' → Q .normal a' w') : (Code.region id ops true).wpIn (FD rc) 0 P Q a w := by
  unfold evLate at h
  simp only at h
  split at h
  · rename_i i d t hlate
    obtain ⟨oi, _, hoi, hop, hdst, hgd⟩ := lateOf_ok hlate
    have hoi' : ops[i]? = some oi := by simpa using hoi
    generalize hpl : mkPlanL tb ops i m (Array.replicate ops.size false) = plan at h
    cases hq : (planOkL ops m i (Array.replicate ops.size false) plan && (Region.ready .any ops (Array.replicate ops.size false)).contains i && noDst d i ops.toList 0 && Nat.beq (plan.length + 1) m && Nat.ble m ops.size && Nat.blt i m && Nat.blt d n && noDefer ops) with
    | false => rw [hq] at h; cases h
    | true =>
      rw [hq] at h
      simp only [cond_true] at h
      simp only [Bool.and_eq_true, Nat.ble_eq, Nat.blt_eq] at hq
      obtain ⟨⟨⟨⟨⟨⟨⟨q1, q2⟩, q3⟩, q4⟩, q5⟩, q6⟩, q7⟩, hnd⟩ := hq
      have q4 := Nat.eq_of_beq_eq_true q4
      have hir : i ∈ Region.ready .any ops (Array.replicate ops.size false) := by simpa using q2
      split at h
      · rename_i ti E1 H1 hti hrun
        have hl1 : LogOk P w0 H1.wr := hlog.mono (fun i hi => evOps_wr hcw h i (List.mem_append_left _ hi))
        obtain ⟨dd, inf, z, hd, hinf, hz, hk, hs, _, hzero⟩ := ok.at_ hti
        have hrunA : ∀ (a : Act) (w : World), (execOp a.eval oi).run P w = .ok (.value (.pointer (some ⟨w.heap.size, 0, none⟩))) (w.alloc (.cells z.cells t)) := fun a w => by
          obtain ⟨x1, x2, x3, x4, x5, x6⟩ := oi
          simp only at hop
          subst hop
          simp [execOp, Instr.alloc, zeroValue, typeInfo, hinf, hz, newVar, newRow]
        refine drawR_wp (S := Still ρ ⟨H.t, H.next, []⟩ H1.wr w.drew) ok.mix q5 (fun inv => ?_)
        have := (runLate_ok ok hc hcw (rc := rc) hnd (Q := Q) (Bs := w.heap.size) hoi' hdst hgd q6 q7 hrunA q3 hrun hl1 q1 inv (inv.set hir q6) (T.get_erase E d) (ρ := ρ) (a := a) (w := w.drew) (hF.erase d) (hH.drew.setWr _) hH.bel.size (Nat.le_refl _) (fun ρ1 a1 w1 b hF1 hP1 hM => by
          have hP1' : Post w0 ρ H w ρ1 ⟨H1.t, H1.next, H1.wr ++ H.wr⟩ w1 := (Post.setWr hP1).ofDrew
          have hlt := (Array.getElem?_eq_some_iff.1 hM.blk).1
          have hN := HR.name hP1'.hr ⟨plMap ti.zero, t, false, 0, 0, .c⟩ b 0 (w' := w1) hP1'.hr.bel (Nat.le_refl _) ⟨hM.big, hlt⟩ hM.un (fun _ _ _ _ _ => rfl)
            (.inl ⟨rfl, z.cells.toList, [], (0, 0), by simpa using hM.blk, by rw [hzero]; exact VRL.plMap _, fun _ => rfl, (fun h => by cases h), .inl rfl⟩)
          have hP2 : Post w0 ρ H w (ρ1 ++ [(b, 0)]) ((⟨H1.t, H1.next, H1.wr ++ H.wr⟩ : AH).new ⟨plMap ti.zero, t, false, 0, 0, .c⟩) w1 := by
            refine ⟨hP1'.ext.trans (Ext.snoc _ _), hN.1, hP1'.wr, fun j x hj hn => AH.new_same hP1'.hr _ (hP1'.same j x hj hn), hP1'.kept, hP1'.size, hP1'.frame, fun j c x hj hc => ?_⟩
            rcases name_fresh hP1'.hr hj hc with h1 | ⟨h1, h2⟩
            · exact .inl (by rw [h1]; exact hM.late)
            · exact hP1'.fresh j c x h1 h2
          have hF2 : FR n ds (ρ1 ++ [(b, 0)]) (E1.set d (some (.ptr H1.next 0))) a1 := by
            refine ⟨hF1.defers, hF1.size, fun kk x hkk => ?_⟩
            rcases T.get_set hkk with ⟨rfl, h2⟩ | ⟨_, h2⟩
            · cases h2
              exact ⟨_, hM.slot, by rw [VR]; exact ⟨(b, 0), hN.2, rfl⟩⟩
            · obtain ⟨u, h3, h4⟩ := hF1.at_ kk x h2
              exact ⟨u, h3, h4.ext (Ext.snoc _ _)⟩
          exact evOps_ok (Q := ON Q) ok hc hcw h hlog hF2 hP2.hr (fun ρ3 a3 w3 hF3 hP3 => k ρ3 a3 w3 hF3 (hP2.trans hP3)))).2 hir
        rw [q4] at this
        exact this
      · cases h
  · cases h
theorem evDraw_ok (ok : TOk P tb) {call : CF} (hc : CallOk P w0 call) (hcw : CallWr call) {rc : Option Nat} {id : Nat} {ops : Array Oper} {Q : Exit → Act → World → Prop} {E E' : T AV} {H H' : AH} (h : evDraw P tb n call ops E H = some (E', H')) (hlog : LogOk P w0 H'.wr) {ρ : Names} {a : Act} {w : World} (hF : FR n ds ρ E a) (hH : HR w0 ρ H w)
    (k : ∀ ρ' a' w', FR n ds ρ' E' a' → Post w0 ρ H w ρ' H' w' → Q .normal a' w') : (Code.region id ops true).wpIn (FD rc) 0 P Q a w := by
  unfold evDraw at h
  split at h
  · rename_i r hr; cases h; exact evPlan_ok ok hc hcw hr hlog hF hH k
  · split at h
    · rename_i r hr; cases h; exact evPlan_ok ok hc hcw hr hlog hF hH k
    · split at h
      · rename_i r hr; cases h; exact evLate_ok ok hc hcw hr hlog hF hH k
      · exact evLate_ok ok hc hcw h hlog hF hH k
theorem evPlan_wr {call : CF} (hcw : CallWr call) {ops : Array Oper} {m : Nat} {E E' : T AV} {H H' : AH} (hr : evPlan P tb n call ops m E H = some (E', H')) : ∀ i ∈ H.wr, i ∈ H'.wr := by
  unfold evPlan at hr
  simp only at hr
  have hr := cond_some hr
  split at hr <;> try (cases hr; done)
  exact fun i hi => evOps_wr hcw hr i (List.mem_append_right _ hi)
theorem evLate_wr {call : CF} (hcw : CallWr call) {ops : Array Oper} {m : Nat} {E E' : T AV} {H H' : AH} (h : evLate P tb n call ops m E H = some (E', H')) : ∀ i ∈ H.wr, i ∈ H'.wr := by
  unfold evLate at h
  simp only at h
  split at h <;> try (cases h; done)
  have h := cond_some h
  split at h <;> try (cases h; done)
  exact fun i hi => evOps_wr hcw h i (List.mem_append_right _ hi)
theorem evDraw_wr {call : CF} (hcw : CallWr call) {ops : Array Oper} {E E' : T AV} {H H' : AH} (h : evDraw P tb n call ops E H = some (E', H')) : ∀ i ∈ H.wr, i ∈ H'.wr := by
  unfold evDraw at h
  split at h
  · rename_i r hr; cases h; exact evPlan_wr hcw hr
  · split at h
    · rename_i r hr; cases h; exact evPlan_wr hcw hr
    · split at h
      · rename_i r hr; cases h; exact evLate_wr hcw hr
      · exact evLate_wr hcw h

/-! ### The evaluator -/
def isVv : List AV → Bool
  | [.vv _] => true
  | _ => false
def orcF (P : Program) (tb : Tab) (ev : EvF) (f : FuncId) (args : List AV) (H : AH) : Option (AV × AH) :=
  match tb.orc.get f, isVv args with
  | some _, true => some (.o1, ⟨H.t, H.next, .c f args :: H.wr⟩)
  | _, _ => callF P tb ev f args H
def cfOf (P : Program) (tb : Tab) (ev : EvF) : CF := ⟨orcF P tb ev, rndF ev⟩
/-- the block for what the rounds defer; the marks; memory -/
def dfOf (H : AH) : Option Nat → List Nat → Option (Nat × List Nat × AH)
  | none, D => some (H.next, H.next :: D, H.new (obj (.df true)))
  | some id, D => (match H.get id with
    | some k => (match k.k with | .lp _ _ _ _ _ _ _ df => some (df, D, H) | _ => none)
    | none => none)
def notBusy (H : AH) (id : Nat) : Option (Option Code) :=
  match H.get id with
  | some k => (match k.k with
    | .lp .busy _ _ _ _ _ _ _ => none
    | .lp _ pd _ _ _ _ _ _ => some pd
    | _ => none)
  | none => none
def evC (P : Program) (tb : Tab) : Nat → EvF
  | 0, _, _, _, _, _, _ => none
  | f + 1, r, n, c, D, E, H => match c with
    | .skip => some (.normal, D, E, H)
    | .ret => some (.ret, D, E, H)
    | .exit id => some (.exit id, D, E, H)
    | .region _ ops d => (match d with
      | false => (match evOps P tb n (cfOf P tb (evC P tb f)) ops ops.toList E H with | some (E', H') => some (.normal, D, E', H') | none => none)
      | true => (match evDraw P tb n (cfOf P tb (evC P tb f)) ops E H with | some (E', H') => some (.normal, D, E', H') | none => none))
    | .seq x y => (match evC P tb f r n x D E H with
      | some (.normal, D', E', H') => evC P tb f r n y D' E' H'
      | z => z)
    | .cond q x y => (match pv E q with
      | some (.bool true) => evC P tb f r n x D E H
      | some (.bool false) => evC P tb f r n y D E H
      | _ => none)
    | .block id x => (match evC P tb f r n x D E H with
      | some (.exit i, D', E', H') => bif Nat.beq i id then some (.normal, D', E', H') else some (.exit i, D', E', H')
      | z => z)
    | .loop x => (match evC P tb f r n x D E H with
      | some (.normal, D', E', H') => evC P tb f r n (.loop x) D' E' H'
      | z => z)
    | .rangeFunc g ps ag bd => (match dfOf H r D with
      | some (df, D1, H1) => (match opnd E g with
        | some x => (match calleeA x [.yl H1.next] with
          | some (fid, args) => (match tb.fn.get fid with
            | some _ => (match callF P tb (evC P tb f) fid args (H1.new (obj (.lp .ready none n E ps ag bd df))) with
              | some (_, H3) => (match notBusy H3 H1.next, lpSet H3 H1.next .exhausted none with
                | some pd, some H4 => (match pd with
                  | none => some (.normal, D1, E, H4)
                  | some c => evC P tb f r n c D1 E H4)
                | _, _ => none)
              | none => none)
            | none => none)
          | none => none)
        | none => none)
      | none => none)
    | _ => none

theorem orcF_wr {ev : EvF} (he : EvWr ev) {f : FuncId} {args : List AV} {H : AH} {r : AV} {H' : AH} (h : orcF P tb ev f args H = some (r, H')) : ∀ i ∈ H.wr, i ∈ H'.wr := by
  unfold orcF at h
  split at h
  · cases h; exact fun i hi => List.mem_cons_of_mem _ hi
  · exact callF_wr he h
theorem HR.toPost {ρ : Names} {H : AH} {w w' : World} (h : HR w0 ρ H w) (hb : Below w.heap.size w w') (l : List Wr) (hl : ∀ x ∈ H.wr, x ∈ l) : Post w0 ρ H w ρ ⟨H.t, H.next, l⟩ w' := by
  have hsame : ∀ b, b < w.heap.size → w'.heap[b]? = w.heap[b]? := fun b hlt => hb.block b hlt
  refine ⟨Ext.refl _, ⟨h.bel.trans ⟨hb.os, hb.tape, hb.output, hb.size, fun b hlt => hsame b (Nat.lt_of_lt_of_le hlt h.bel.size)⟩, h.len, fun i b hi => ⟨(h.rng i b hi).1, Nat.lt_of_lt_of_le (h.rng i b hi).2 hb.size⟩, h.inj, fun i k hi => ?_⟩, hl, fun _ _ h _ => h, fun i b k _ _ hi => hsame b.1 (h.rng i b hi).2, hb.size, fun b hlt _ => hsame b hlt, fun i c k hi hc => .inr ⟨i, c, k, hi, hc, rfl⟩⟩
  obtain ⟨b, hb1, hb2⟩ := h.blk i k hi
  exact ⟨b, hb1, by rw [hsame b.1 (h.rng i b hb1).2]; exact hb2⟩
theorem orcF_ok (ok : TOk P tb) {ev : EvF} (he : EvOk P w0 ev) {f : FuncId} {args : List AV} {H : AH} {r : AV} {H' : AH} (h : orcF P tb ev f args H = some (r, H')) (hlog : LogOk P w0 H'.wr) {ρ : Names} {w : World} {vs : List Value} (hv : VRL ρ args vs) (hH : HR w0 ρ H w) : CallsIn Fence.wide 0 P f vs.toArray w (Rets w0 ρ H w r H') := by
  unfold orcF at h
  split at h
  · cases h
    refine CallsIn.mono (hlog f args (List.mem_cons_self ..) ρ w vs hv hH.bel) fun e w' hR => ?_
    obtain ⟨v, rfl, h1, h2⟩ := hR
    exact ⟨ρ, v, rfl, by rw [VR]; exact h1, hH.toPost h2 _ (fun x hx => List.mem_cons_of_mem _ hx)⟩
  · exact callF_ok ok he h hlog hv hH
theorem cfOf_wr {ev : EvF} (he : EvWr ev) : CallWr (cfOf P tb ev) := ⟨fun _ _ _ _ _ h => orcF_wr he h, fun _ _ _ _ _ _ _ _ h => rndF_wr he h⟩
theorem cfOf_ok (ok : TOk P tb) {ev : EvF} (he : EvOk P w0 ev) (hew : EvWr ev) : CallOk P w0 (cfOf P tb ev) := ⟨fun _ _ _ _ _ h _ _ _ hlog hv hH => orcF_ok ok he h hlog hv hH, fun _ _ _ _ _ _ _ _ h _ _ _ _ _ hlog hb hF hH => rndF_ok he hew h hlog hb hF hH⟩
theorem dfOf_wr {H H1 : AH} {r : Option Nat} {D D1 : List Nat} {df : Nat} (h : dfOf H r D = some (df, D1, H1)) : ∀ i ∈ H.wr, i ∈ H1.wr := by
  unfold dfOf at h
  split at h
  · cases h; exact fun i hi => hi
  · split at h <;> try (cases h; done)
    split at h <;> try (cases h; done)
    cases h; exact fun i hi => hi
theorem evC_wr : ∀ (f : Nat), EvWr (evC P tb f)
  | 0 => fun r n c D D' E E' H H' x h => by simp [evC] at h
  | f + 1 => fun r n c D D' E E' H H' x h => by
    have ih : EvWr (evC P tb f) := evC_wr f
    cases c <;> simp only [evC] at h <;> try (cases h; done)
    case skip => cases h; exact fun i hi => hi
    case region id ops d =>
      cases d <;> simp only at h
      · split at h <;> try (cases h; done)
        rename_i hh
        cases h; exact evOps_wr (cfOf_wr ih) hh
      · split at h <;> try (cases h; done)
        rename_i hh
        cases h; exact evDraw_wr (cfOf_wr ih) hh
    case seq p q =>
      split at h
      · rename_i hh; exact fun i hi => ih _ _ _ _ _ _ _ _ _ _ h i (ih _ _ _ _ _ _ _ _ _ _ hh i hi)
      · exact ih _ _ _ _ _ _ _ _ _ _ h
    case cond c p q =>
      split at h
      · exact ih _ _ _ _ _ _ _ _ _ _ h
      · exact ih _ _ _ _ _ _ _ _ _ _ h
      · cases h
    case block id p =>
      split at h
      · rename_i hh
        rcases cond_or h with h | h <;> (cases h; exact ih _ _ _ _ _ _ _ _ _ _ hh)
      · exact ih _ _ _ _ _ _ _ _ _ _ h
    case loop p =>
      split at h
      · rename_i hh; exact fun i hi => ih _ _ _ _ _ _ _ _ _ _ h i (ih _ _ _ _ _ _ _ _ _ _ hh i hi)
      · exact ih _ _ _ _ _ _ _ _ _ _ h
    case rangeFunc g ps ag bd =>
      split at h <;> try (cases h; done)
      rename_i df D1 H1 hdf
      split at h <;> try (cases h; done)
      split at h <;> try (cases h; done)
      split at h <;> try (cases h; done)
      split at h <;> try (cases h; done)
      rename_i y H3 hcall
      split at h <;> try (cases h; done)
      rename_i pd H4 hnb hset
      have h4 : ∀ i ∈ H.wr, i ∈ H4.wr := fun i hi => lpSet_wr hset i (callF_wr ih hcall i (dfOf_wr hdf i hi))
      split at h
      · cases h; exact h4
      · exact fun i hi => ih _ _ _ _ _ _ _ _ _ _ h i (h4 i hi)
    case exit id => cases h; exact fun i hi => hi
    case ret => cases h; exact fun i hi => hi

def LoopOk (P : Program) (tb : Tab) (w0 : World) (f : Nat) : Prop := ∀ (r : Option Nat) (n : Nat) (p : Code) (D D' : List Nat) (E E' : T AV) (H H' : AH) (x : AX), evC P tb f r n (.loop p) D E H = some (x, D', E', H') → LogOk P w0 H'.wr → ∀ (ρ : Names) (ds : List Deferred) (rc : Option Nat) (a : Act) (w : World) (Q : Exit → Act → World → Prop), RdOk ρ r rc → DR ρ D ds → FR n ds ρ E a → HR w0 ρ H w →
    (∀ ρ' ds' a' w', DR ρ' D' ds' → FR n ds' ρ' E' a' → Post w0 ρ H w ρ' H' w' → Q x.to a' w') → Code.roundsIn (FD rc) 0 P p Q f a w
theorem notBusy_ok {H : AH} {id : Nat} {pd : Option Code} (h : notBusy H id = some pd) {ρ : Names} {w : World} (hH : HR w0 ρ H w) {b : Nat × Nat} (hb : ρ[id]? = some b) {r : Loop} (hr : w.heap[b.1]? = some (.loop r)) : r.state ≠ .busy ∧ r.pending = pd := by
  unfold notBusy at h
  split at h <;> try (cases h; done)
  rename_i k hk
  split at h <;> try (cases h; done)
  rename_i st pd' n' E' ps ag bd df hnb hkk
  cases h
  obtain ⟨_, _, hO⟩ := (hH.at_ hk hb).o (by rw [hkk]; simp)
  rw [hkk] at hO
  obtain ⟨fn, tmps, b2, h1, _⟩ := hO
  rw [hr] at h1
  cases h1
  refine ⟨fun hs => ?_, rfl⟩
  simp only at hs
  subst hs
  first | exact hnb hkk | exact hnb rfl | simp_all
theorem calleeA_ok (ok : TOk P tb) {ρ : Names} {x : AV} {v : Value} {l : List AV} {us : List Value} {g : FuncId} {as' : List AV} {u : Unit} (h : calleeA x l = some (g, as')) (hfn : tb.fn.get g = some u) (hv : VR ρ x v) (hl : VRL ρ l us) (w : World) :
    ∃ (d : Deferred) (vs : List Value), (Deferred.ofValue v us.toArray).run P w = .ok d w ∧ (invoke d.target d.args).run P w = .ok (.enter g vs.toArray) w ∧ VRL ρ as' vs := by
  obtain ⟨fn, h1, h2, h3⟩ := ok.func hfn
  have hcf : ∀ xs : Array Value, (callFunc g xs).run P w = .ok (.enter g xs) w := fun xs => by
    have h2' : fn.name ≠ "runtime.NumGoroutine" := by simpa using h2
    have h3' : fn.body ≠ none := by intro e; rw [e] at h3; cases h3
    simp [callFunc, h1, h2', h3']
  unfold calleeA at h
  split at h
  · cases h
    rw [VR] at hv
    obtain ⟨vs, ws, rfl, hp, hq⟩ := hv
    refine ⟨_, vs ++ us ++ ws, by simp [Deferred.ofValue]; rfl, ?_, (hp.app hl).app hq⟩
    simp [invoke, hcf]
  · rename_i g2 p q
    cases h
    rw [VR] at hv
    subst hv
    refine ⟨_, p.toList ++ us ++ q.toList, by simp [Deferred.ofValue]; rfl, ?_, ((VRL.plMap _).app hl).app (VRL.plMap _)⟩
    simp [invoke, hcf]
  · cases h
theorem evRange_ok (ok : TOk P tb) {ev : EvF} (ih : EvOk P w0 ev) (hew : EvWr ev) {r : Option Nat} {g : Operand} {ps : Array Tmp} {ag bd : Code} {D D' D1 : List Nat} {E E' : T AV} {H H' H1 H3 H4 : AH} {x : AX} {df : Nat} {y : AV} {fid : FuncId} {args : List AV} {u : Unit} {z : AV} {pd : Option Code}
    (hdf : dfOf H r D = some (df, D1, H1)) (hy : opnd E g = some y) (hcal : calleeA y [.yl H1.next] = some (fid, args)) (hfn : tb.fn.get fid = some u) (hcall : callF P tb ev fid args (H1.new (obj (.lp .ready none n E ps ag bd df))) = some (z, H3))
    (hnb : notBusy H3 H1.next = some pd) (hset : lpSet H3 H1.next .exhausted none = some H4) (hend : (pd = none ∧ x = .normal ∧ D' = D1 ∧ E' = E ∧ H' = H4) ∨ ∃ c, pd = some c ∧ ev r n c D1 E H4 = some (x, D', E', H')) (hlog : LogOk P w0 H'.wr)
    {ρ : Names} {rc : Option Nat} {a : Act} {w : World} {Q : Exit → Act → World → Prop} (hr : RdOk ρ r rc) (hD : DR ρ D ds) (hF : FR n ds ρ E a) (hH : HR w0 ρ H w)
    (k : ∀ ρ' ds' a' w', DR ρ' D' ds' → FR n ds' ρ' E' a' → Post w0 ρ H w ρ' H' w' → Q x.to a' w') : (Code.rangeFunc g ps ag bd).wpIn (FD rc) 0 P Q a w := by
  refine wpIn_rangeFunc fun fn _ => ?_
  -- the record
  have hent : ∃ (l : Nat) (mark : List Deferred) (w1 : World) (ρ1 : Names) (b : Nat × Nat), (Instr.enterLoop fn a.tmps ps ag bd (FD rc).round).run P w = .ok (l, mark) w1 ∧ Post w0 ρ H w ρ1 (H1.new (obj (.lp .ready none n E ps ag bd df))) w1 ∧ ρ1[H1.next]? = some b ∧ b.1 = l ∧ DR ρ1 D1 (mark ++ ds) := by
    cases r with
    | none =>
      cases rc with
      | some _ => exact hr.elim
      | none =>
        cases hdf
        have p1 := Post.allocG hH (obj (.df true)) 0 (.deferred (some [])) (BR.obj rfl)
        have p2 := Post.allocG p1.1.hr (obj (.lp .ready none n E ps ag bd H.next)) 0 (.loop { state := .ready, pending := none, fn := fn, tmps := a.tmps, params := ps, assign := ag, body := bd, defers := w.heap.size }) (BR.obj ⟨fn, a.tmps, _, rfl, p1.2, hF.size, fun kk xx hk => by
          obtain ⟨v, h1, h2⟩ := hF.at_ kk xx hk
          exact ⟨v, h1, h2.ext p1.1.ext⟩⟩)
        refine ⟨_, _, _, _, _, run_enterLoop_outer fn a.tmps ps ag bd, p1.1.trans p2.1, p2.2, by simp, ?_⟩
        exact ⟨_, ds, rfl, p2.1.ext _ _ p1.2, hD.ext (p1.1.ext.trans p2.1.ext)⟩
    | some id =>
      cases rc with
      | none => exact hr.elim
      | some l0 =>
        simp only [dfOf] at hdf
        split at hdf <;> try (cases hdf; done)
        rename_i kk hk
        split at hdf <;> try (cases hdf; done)
        rename_i st pd' n' E'' ps' ag' bd' df' hkk
        cases hdf
        obtain ⟨b0, hb0, rfl⟩ := hr
        obtain ⟨_, _, hO⟩ := (hH.at_ hk hb0).o (by rw [hkk]; simp)
        rw [hkk] at hO
        obtain ⟨fn0, tmps0, b2, h1, h2, h3, h4⟩ := hO
        have p2 := Post.allocG hH (obj (.lp .ready none n E ps ag bd df)) 0 (.loop { state := .ready, pending := none, fn := fn, tmps := a.tmps, params := ps, assign := ag, body := bd, defers := b2.1 }) (BR.obj ⟨fn, a.tmps, b2, rfl, h2, hF.size, hF.at_⟩)
        refine ⟨w.heap.size, [], _, _, _, ?_, p2.1, p2.2, rfl, hD.ext p2.1.ext⟩
        show (Instr.enterLoop fn a.tmps ps ag bd (some b0.1)).run P w = _
        unfold Instr.enterLoop
        simp only [Sem.run_bind, run_getLoop h1, run_newObj, Result.andThen, Sem.run_pure]
  obtain ⟨l, mark, w1, ρ1, b, g1, g2, g3, g4, g5⟩ := hent
  subst g4
  have hF1 := hF.ext g2.ext
  have hyl : VRL ρ1 [.yl H1.next] [.func (.yield b.1) #[] #[]] := VRL.mk (by rw [VR]; exact ⟨b, g3, rfl⟩) VRL.mk0
  obtain ⟨d, vs, e1, e2, e3⟩ := calleeA_ok ok hcal hfn (hF1.opnd hy) hyl w1
  refine ⟨b.1, mark, w1, d, w1, fid, vs.toArray, w1, g1, ?_, fun _ _ => trivial, e2, fun h9 => by simp [FD, Fence.wide] at h9, ?_⟩
  · simp only [resolve, rangeCall, List.map_toArray, List.map_cons, List.map_nil, Act.eval]
    exact e1
  have hl4 : LogOk P w0 H4.wr := by
    rcases hend with ⟨_, _, _, _, rfl⟩ | ⟨c, _, hev⟩
    · exact hlog
    · exact hlog.mono (hew _ _ _ _ _ _ _ _ _ _ hev)
  have hC := callF_ok ok ih hcall (hl4.mono (lpSet_wr hset)) e3 g2.hr
  refine CallsIn.mono (F := FD rc) (show CallsIn (FD rc) 0 P fid vs.toArray w1 _ from hC) fun e w3 hR => ?_
  obtain ⟨ρ3, v, rfl, _, hP3⟩ := hR
  have hb3 := hP3.ext _ _ g3
  obtain ⟨l3, k1, k2, _⟩ := lpSet_ok hset hP3.hr hb3
  obtain ⟨n1, n2⟩ := notBusy_ok hnb hP3.hr hb3 k1
  have key : ∀ (jump : Option Code) (w4 : World), jump = pd → Post w0 ρ H w ρ3 H4 w4 → (match jump with | none => Q .normal { a with defers := mark ++ a.defers } w4 | some c => c.wpIn (FD rc) 0 P Q { a with defers := mark ++ a.defers } w4) := by
    intro jump w4 hj hP4
    subst hj
    have hF4 : FR n (mark ++ ds) ρ3 E { a with defers := mark ++ a.defers } := ⟨by simp [hF.defers], hF.size, fun kk xx hk => by
      obtain ⟨v9, h1, h2⟩ := hF.at_ kk xx hk
      exact ⟨v9, h1, h2.ext hP4.ext⟩⟩
    have hD4 : DR ρ3 D1 (mark ++ ds) := g5.ext hP3.ext
    rcases hend with ⟨rfl, rfl, rfl, rfl, rfl⟩ | ⟨c, rfl, hev⟩
    · exact k ρ3 _ _ _ hD4 hF4 hP4
    · exact ih _ _ _ _ _ _ _ _ _ _ hev hlog ρ3 _ rc _ _ Q (hr.ext hP4.ext) hD4 hF4 hP4.hr (fun ρ5 ds5 a5 w5 hD5 hF5 hP5 => k ρ5 ds5 a5 w5 hD5 hF5 (hP4.trans hP5))
  exact ⟨_, _, run_endLoop k1 n1, key _ _ n2 ((g2.trans hP3).trans k2)⟩
theorem evC_both (ok : TOk P tb) : ∀ (f : Nat), EvOk P w0 (evC P tb f) ∧ LoopOk P tb w0 f
  | 0 => ⟨fun r n c D D' E E' H H' x h => by simp [evC] at h, fun r n c D D' E E' H H' x h => by simp [evC] at h⟩
  | f + 1 => by
    obtain ⟨ih, il⟩ := evC_both ok f
    have hloop : LoopOk P tb w0 (f + 1) := fun r n p D D' E E' H H' x h hlog ρ ds rc a w Q hr hD hF hH k => by
      simp only [evC] at h
      show p.wpIn (FD rc) 0 P (Exit.then (Code.roundsIn (FD rc) 0 P p Q f) Q) a w
      split at h
      · rename_i D1 E1 H1 hh
        exact ih _ _ _ _ _ _ _ _ _ _ hh (hlog.mono (evC_wr f _ _ _ _ _ _ _ _ _ _ h)) ρ ds rc a w _ hr hD hF hH (fun ρ1 ds1 a1 w1 hD1 hF1 hP1 => il _ _ _ _ _ _ _ _ _ _ h hlog ρ1 ds1 rc a1 w1 Q (hr.ext hP1.ext) hD1 hF1 hP1.hr (fun ρ2 ds2 a2 w2 hD2 hF2 hP2 => k ρ2 ds2 a2 w2 hD2 hF2 (hP1.trans hP2)))
      · rename_i hno
        refine ih _ _ _ _ _ _ _ _ _ _ h hlog ρ ds rc a w _ hr hD hF hH (fun ρ1 ds1 a1 w1 hD1 hF1 hP1 => ?_)
        have := k ρ1 ds1 a1 w1 hD1 hF1 hP1
        cases x with
        | normal => exact (hno _ _ _ h).elim
        | ret => exact this
        | exit id => exact this
    refine ⟨fun r n c D D' E E' H H' x h hlog ρ ds rc a w Q hr hD hF hH k => ?_, hloop⟩
    have hew : EvWr (evC P tb f) := evC_wr f
    have hc := cfOf_ok ok ih hew
    have hcw : CallWr (cfOf P tb (evC P tb f)) := cfOf_wr (evC_wr f)
    by_cases hlp : ∃ p, c = .loop p
    · obtain ⟨p, rfl⟩ := hlp
      exact wpIn_loop_rounds (f + 1) (hloop r n p D D' E E' H H' x h hlog ρ ds rc a w Q hr hD hF hH k)
    · cases c <;> try (simp only [evC] at h) <;> try (cases h; done)
      case skip => cases h; exact wpIn_skip (k ρ ds a w hD hF (Post.refl hH))
      case ret => cases h; exact wpIn_ret (k ρ ds a w hD hF (Post.refl hH))
      case exit id => cases h; exact wpIn_exit (k ρ ds a w hD hF (Post.refl hH))
      case region id ops d =>
        cases d <;> simp only at h
        · split at h <;> try (cases h; done)
          rename_i hh
          cases h
          exact wpIn_region_list (evOps_ok ok hc hcw (Q := Q) hh hlog hF hH (fun ρ' a' w' hF' hP' => k ρ' ds a' w' (hD.ext hP'.ext) hF' hP'))
        · split at h <;> try (cases h; done)
          rename_i hh
          cases h
          exact evDraw_ok ok hc hcw hh hlog hF hH (fun ρ' a' w' hF' hP' => k ρ' ds a' w' (hD.ext hP'.ext) hF' hP')
      case seq p q =>
        refine wpIn_seq ?_
        split at h
        · rename_i D1 E1 H1 hh
          exact ih _ _ _ _ _ _ _ _ _ _ hh (hlog.mono (evC_wr f _ _ _ _ _ _ _ _ _ _ h)) ρ ds rc a w _ hr hD hF hH (fun ρ1 ds1 a1 w1 hD1 hF1 hP1 => ih _ _ _ _ _ _ _ _ _ _ h hlog ρ1 ds1 rc a1 w1 Q (hr.ext hP1.ext) hD1 hF1 hP1.hr (fun ρ2 ds2 a2 w2 hD2 hF2 hP2 => k ρ2 ds2 a2 w2 hD2 hF2 (hP1.trans hP2)))
        · rename_i hno
          refine ih _ _ _ _ _ _ _ _ _ _ h hlog ρ ds rc a w _ hr hD hF hH (fun ρ1 ds1 a1 w1 hD1 hF1 hP1 => ?_)
          have := k ρ1 ds1 a1 w1 hD1 hF1 hP1
          cases x with
          | normal => exact (hno _ _ _ h).elim
          | ret => exact this
          | exit id => exact this
      case cond c p q =>
        split at h
        · rename_i hv; exact wpIn_cond_true (hF.pv hv) (ih _ _ _ _ _ _ _ _ _ _ h hlog ρ ds rc a w Q hr hD hF hH k)
        · rename_i hv; exact wpIn_cond_false (hF.pv hv) (ih _ _ _ _ _ _ _ _ _ _ h hlog ρ ds rc a w Q hr hD hF hH k)
        · cases h
      case block id p =>
        refine wpIn_block ?_
        split at h
        · rename_i i D1 E1 H1 hh
          refine ih _ _ _ _ _ _ _ _ _ _ hh (by rcases cond_or h with h9 | h9 <;> (cases h9; exact hlog)) ρ ds rc a w _ hr hD hF hH (fun ρ1 ds1 a1 w1 hD1 hF1 hP1 => ?_)
          cases hi : Nat.beq i id with
          | true =>
            rw [hi] at h
            cases h
            have hid := Nat.eq_of_beq_eq_true hi
            simp only [AX.to, Exit.inBlock, hid, if_true]
            exact k ρ1 ds1 a1 w1 hD1 hF1 hP1
          | false =>
            rw [hi] at h
            cases h
            have hid : i ≠ id := fun e => by rw [e] at hi; simp at hi
            simp only [AX.to, Exit.inBlock, hid, if_false]
            exact k ρ1 ds1 a1 w1 hD1 hF1 hP1
        · rename_i hno
          refine ih _ _ _ _ _ _ _ _ _ _ h hlog ρ ds rc a w _ hr hD hF hH (fun ρ1 ds1 a1 w1 hD1 hF1 hP1 => ?_)
          have := k ρ1 ds1 a1 w1 hD1 hF1 hP1
          cases x with
          | normal => exact this
          | ret => exact this
          | exit i => exact (hno _ _ _ _ h).elim
      case loop p => exact (hlp ⟨p, rfl⟩).elim
      case rangeFunc g ps ag bd =>
        split at h <;> try (cases h; done)
        rename_i df D1 H1 hdf
        split at h <;> try (cases h; done)
        rename_i y hy
        split at h <;> try (cases h; done)
        rename_i fid args hcal
        split at h <;> try (cases h; done)
        rename_i u hfn
        split at h <;> try (cases h; done)
        rename_i z H3 hcall
        split at h <;> try (cases h; done)
        rename_i pd H4 hnb hset
        refine evRange_ok ok ih hew hdf hy hcal hfn hcall hnb hset ?_ hlog hr hD hF hH k
        split at h
        · cases h; exact .inl ⟨rfl, rfl, rfl, rfl, rfl⟩
        · rename_i c; exact .inr ⟨c, rfl, h⟩

/-- a call of a function that is handed known data -/
theorem call_ev (ok : TOk P tb) (fuel : Nat) {f : FuncId} {args : List AV} {r : AV} {H H' : AH} (h : callF P tb (evC P tb fuel) f args H = some (r, H')) (hlog : LogOk P w0 H'.wr) {ρ : Names} {w : World} {vs : List Value} (hv : VRL ρ args vs) (hH : HR w0 ρ H w) :
    Calls P f vs.toArray w (fun e w' => ∃ ρ' v, e = .returned v ∧ VR ρ' r v ∧ Post w0 ρ H w ρ' H' w') := callsIn_wide.1 (callF_ok ok (evC_both ok fuel).1 h hlog hv hH)

/-- the calls that are taken as given -/
def logOf : List Wr → List (FuncId × List AV)
  | [] => []
  | .b _ :: r => logOf r
  | .c f l :: r => (f, l) :: logOf r
theorem logOf_mem : ∀ {l : List Wr} {f : FuncId} {args : List AV}, Wr.c f args ∈ l → (f, args) ∈ logOf l
  | [], _, _, h => by cases h
  | .b _ :: r, _, _, h => by
    rcases List.mem_cons.1 h with e | h
    · cases e
    · exact logOf_mem (l := r) h
  | .c f l :: r, _, _, h => by
    rcases List.mem_cons.1 h with e | h
    · cases e; exact List.mem_cons_self ..
    · exact List.mem_cons_of_mem _ (logOf_mem (l := r) h)
/-- it returns true; the calls that it takes as given -/
def trueLog (x : Option (AV × AH)) : Option (List (FuncId × List AV)) := match x with | some (.pl (.bool true), H) => some (logOf H.wr) | _ => none
theorem call_log (ok : TOk P tb) (fuel : Nat) {f : FuncId} {args : List AV} {l : List (FuncId × List AV)} (h : trueLog (callF P tb (evC P tb fuel) f args ⟨.l, 0, []⟩) = some l) (w : World) (hl : ∀ e ∈ l, OrcC P w e.1 e.2) {vs : List Value} (hv : VRL [] args vs) :
    Calls P f vs.toArray w (fun e w' => e = .returned (.bool true) ∧ Below w.heap.size w w') := by
  unfold trueLog at h
  split at h
  · rename_i H' hh
    cases h
    have hH : HR w [] ⟨.l, 0, []⟩ w := ⟨Below.refl _ _, rfl, fun i b hb => by simp at hb, fun i j b c x y hi => by simp [AH.get, T.get_l] at hi, fun i k hi => by simp [AH.get, T.get_l] at hi⟩
    refine (call_ev ok fuel hh (fun g as' hg => hl _ (logOf_mem hg)) hv hH).mono fun e w' hR => ?_
    obtain ⟨ρ', v, rfl, hv, hP⟩ := hR
    rw [VR] at hv
    exact ⟨by rw [hv], hP.hr.bel⟩
  · cases h
/-- a call without arguments that returns true -/
theorem call_true (ok : TOk P tb) (fuel : Nat) {f : FuncId} (h : trueLog (callF P tb (evC P tb fuel) f [] ⟨.l, 0, []⟩) = some []) (w : World) :
    Calls P f #[] w (fun e w' => e = .returned (.bool true) ∧ Below w.heap.size w w') := call_log ok fuel h w (fun e he => by cases he) VRL.mk0
end
end Go.Ev
