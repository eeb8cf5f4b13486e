/- Lemmas of this repository (Ew9p Ew9h Ew9 Ew10), several texts in one. No statement is proved here. -/
import Derived.Test.YtgoipafikbpioaaGreatDoorEvl
import Derived.OrdersIn
import Derived.TacticsIn
import Derived.LoopNIn
namespace Go.Ev
open Go.RowKit Go.Sx
set_option linter.unusedVariables false
set_option linter.unusedSimpArgs false
inductive AX where
  | normal
  | exit (id : Nat)
  | ret
def AX.to : AX → Exit
  | .normal => .normal
  | .exit id => .exit id
  | .ret => .ret
def guardA (ops : Array Oper) (E : T AV) (o : Oper) : Option Bool :=
  match o.guard with
  | none => some true
  | some (j, want) => (match ops[j]? with
    | some q => (match q.dst with
      | some d => (match E.get d with
        | some (.pl (.bool b)) => some (b == want)
        | some (.pl (.tuple _)) => some false
        | _ => none)
      | none => none)
    | none => none)
def putA (n : Nat) (E : T AV) (dst : Option Nat) (x : AV) : Option (T AV) :=
  match dst with
  | some d => bif Nat.blt d n then some (E.set d (some x)) else none
  | none => some E
def loudOp (tb : Tab) : Op → Bool
  | .alloc _ | .box _ _ | .buildSlice _ _ _ | .makeSlice _ _ _ | .store _ _ _ | .makeMap _ _ | .mapUpdate _ _ _ _ | .insert _ _ _ _ | .range _ _ | .next _ _ => true
  | .convert s d _ => (match tkA tb s, tkA tb d with | .int _, .int _ => false | _, _ => true)
  | .call c => (match c.callee with | .builtin .append | .builtin .copy | .builtin .unsafeString | .builtin .clear | .builtin .delete => true | .builtin _ => false | _ => true)
  | _ => false
def headLen : List Oper → Nat → Nat → Nat
  | [], _, m => m
  | o :: r, i, m => headLen r (i + 1) (match o.dst with | none => m | some _ => i + 1)
def pickQ (tb : Tab) (ops : Array Oper) : List Nat → Option Nat
  | [] => none
  | i :: r => match ops[i]? with
    | some o => bif loudOp tb o.op then pickQ tb ops r else some i
    | none => pickQ tb ops r
def mkPlan (tb : Tab) (ops : Array Oper) : Nat → Array Bool → List (Nat × Bool)
  | 0, _ => []
  | f + 1, listed => match Region.ready .any ops listed with
    | [] => []
    | r => match pickQ tb ops r with
      | some i => (i, true) :: mkPlan tb ops f (listed.setIfInBounds i true)
      | none => match r with
        | i :: _ => (i, false) :: mkPlan tb ops f (listed.setIfInBounds i true)
        | [] => []
def listIs : List Nat → Nat → Bool
  | [j], i => Nat.beq j i
  | _, _ => false
def planOk (ops : Array Oper) (m : Nat) : Array Bool → List (Nat × Bool) → Bool
  | listed, [] => Region.seqB .any ops (ops.size - m) m listed
  | listed, (i, true) :: r => takeOk ops m listed i && planOk ops m (listed.setIfInBounds i true) r
  | listed, (i, false) :: r => listIs (Region.ready .any ops listed) i && Nat.blt i m && planOk ops m (listed.setIfInBounds i true) r
theorem listIs_ok {l : List Nat} {i : Nat} (h : listIs l i = true) : l = [i] := by
  match l with
  | [] => cases h
  | [j] => rw [Nat.eq_of_beq_eq_true h]
  | _ :: _ :: _ => cases h
inductive LateK where
  | al (t : TypeId)
  | bs (t : TypeId) (s : Nat)
def lateOf (ops : Array Oper) : List Oper → Nat → Option (Nat × Nat × LateK)
  | [], _ => none
  | o :: r, i => match o.op, o.dst, o.guard with
    | .alloc t, some d, none => some (i, d, .al t)
    | .buildSlice t 1 ps, some d, none => (match ps.toList with
      | [(0, .tmp s)] => some (i, d, .bs t s)
      | _ => lateOf ops r (i + 1))
    | _, _, _ => lateOf ops r (i + 1)
def noSlot (ops : Array Oper) (s : Nat) : List (Nat × Bool) → Bool
  | [] => true
  | (q, _) :: r => (match ops[q]? with | some o => (match o.dst with | some e => !(Nat.beq e s) | none => true) | none => true) && noSlot ops s r
def LateK.quiet (ops : Array Oper) : LateK → List (Nat × Bool) → Bool
  | .al _, _ => true
  | .bs _ s, plan => noSlot ops s plan
def LateK.has : LateK → T AV → T AV → Prop
  | .al _, _, _ => True
  | .bs _ s, E, E' => E.get s = E'.get s
def noDst (d : Nat) (i : Nat) : List Oper → Nat → Bool
  | [], _ => true
  | o :: r, j => (Nat.beq j i || (match o.dst with | some e => !(Nat.beq e d) | none => true)) && noDst d i r (j + 1)
def without (i : Nat) : List Nat → List Nat
  | [] => []
  | j :: r => bif Nat.beq j i then without i r else j :: without i r
def mkPlanL (tb : Tab) (ops : Array Oper) (i : Nat) : Nat → Array Bool → List (Nat × Bool)
  | 0, _ => []
  | f + 1, listed => match without i (Region.ready .any ops listed) with
    | [] => []
    | r => match pickQ tb ops r with
      | some q => (q, true) :: mkPlanL tb ops i f (listed.setIfInBounds q true)
      | none => match r with
        | q :: _ => (q, false) :: mkPlanL tb ops i f (listed.setIfInBounds q true)
        | [] => []
def planOkL (ops : Array Oper) (m i : Nat) (kd : LateK) (p2 : List (Nat × Bool)) : Array Bool → List (Nat × Bool) → Bool
  | listed, [] => listIs (Region.ready .any ops listed) i && planOk ops m (listed.setIfInBounds i true) p2
  | listed, (q, true) :: r => !(Nat.beq q i) && takeOk ops m listed q && (!((Region.ready .any ops listed).contains i) || (takeOk ops m (listed.setIfInBounds i true) q && kd.quiet ops ((q, true) :: r))) && planOkL ops m i kd p2 (listed.setIfInBounds q true) r
  | listed, (q, false) :: r => !(Nat.beq q i) && listIs (without i (Region.ready .any ops listed)) q && (!((Region.ready .any ops listed).contains i) || (listIs (Region.ready .any ops (listed.setIfInBounds i true)) q && kd.quiet ops ((q, false) :: r))) && Nat.blt q m && planOkL ops m i kd p2 (listed.setIfInBounds q true) r
def listedBy : Array Bool → List (Nat × Bool) → Array Bool
  | l, [] => l
  | l, (q, _) :: r => listedBy (l.setIfInBounds q true) r
def resA (tb : Tab) (E : T AV) (H : AH) : ResultVar → Option AV
  | .tmp t => E.get t
  | .cell p t => (match E.get p with
    | some (.ptr id off) => (match H.get id, kindA tb t with
      | some k, some kd => readA k.cells off kd
      | _, _ => none)
    | _ => none)
def resAs (tb : Tab) (E : T AV) (H : AH) : List ResultVar → Option (List AV)
  | [] => some []
  | r :: rs => match resA tb E H r, resAs tb E H rs with | some x, some l => some (x :: l) | _, _ => none
def resV (l : List AV) : AV := match l with | [x] => x | _ => .tup l
def rvar (tmps : Array Value) : ResultVar → Sem Value
  | .tmp t => pure (tmps.getD t undef)
  | .cell a t => do loadVar t (← asAddr (tmps.getD a undef))
def envF : Nat → List AV → T AV → T AV
  | _, [], E => E
  | i, x :: r, E => envF (i + 1) r (E.set i (some x))
def envOf (args : List AV) : T AV := envF 0 args .l
end Go.Ev

namespace Go.Ev
open Go.RowKit Go.Sx
set_option linter.unusedVariables false
set_option linter.unusedSimpArgs false
def FD (r : Option Nat) : Fence := { Fence.wide with round := r }
def noDefer (ops : Array Oper) : Bool := ops.toList.all (fun o => match o.op with | .defer _ => false | _ => true)
theorem noDefer_ok {ops : Array Oper} (h : noDefer ops = true) {j : Nat} {o : Oper} (hj : ops[j]? = some o) : ∀ c, o.op ≠ .defer c := fun c hc => by
  have hm : o ∈ ops.toList := by
    rw [← Array.getElem?_toList] at hj
    exact List.mem_of_getElem? hj
  have := List.all_eq_true.1 h o hm
  rw [hc] at this
  cases this
section
variable {P : Program} {ops : Array Oper} {Q : Exit → Act → World → Prop} {S : World → Prop} {r : Option Nat}
theorem yieldsR {i : Nat} {o : Oper} {v : Value} {a : Act} (hd : ∀ c, o.op ≠ .defer c) (hi : ops[i]? = some o) (hy : YieldsIf P ops S o v a)
    {K : Act → World → Prop} {w : World} (hS : S w) (h : K (a.put o.dst v) w) : wpOpIn (FD r) 0 P ops Q i K a w := by
  unfold Go.wpOpIn
  simp only [hi]
  rcases hy with ⟨hw, hv⟩ | ⟨hw, rfl⟩
  · simp only [hw, if_true, Oper.wpIn, Oper.semAt_eq _ _ _ hd, hv w hS, Oper.uponIn]; exact ⟨fun _ _ => trivial, h⟩
  · simp only [hw, Bool.false_eq_true, if_false]; exact ⟨fun _ _ => trivial, h⟩
theorem wpOpR_putIf {j : Nat} {oi oj : Oper} {v : Value} (hdj : ∀ c, oj.op ≠ .defer c) (hj : ops[j]? = some oj) (hap : oi.apart ops oj = true)
    (hsi : ∀ cs b, oi.op ≠ .select cs b) (hsj : ∀ cs b, oj.op ≠ .select cs b)
    (hQ : ∀ c a w, Q (.panic c) (a.put oi.dst v) w → Q (.panic c) a w) {K : Act → World → Prop} {a : Act} {w : World}
    (hy : YieldsIf P ops S oi v a) (h : wpOpIn (FD r) 0 P ops Q j K (a.put oi.dst v) w) :
    wpOpIn (FD r) 0 P ops Q j (fun a' w' => YieldsIf P ops S oi v a' ∧ K (a'.put oi.dst v) w') a w := by
  obtain ⟨h1, h2, h3⟩ := Oper.apart_spec hap
  have keep : ∀ (a : Act), YieldsIf P ops S oi v a → ∀ u, YieldsIf P ops S oi v (a.put oj.dst u) := fun a hy u =>
    hy.of_same (execOp_put oi hsi a oj.dst u h3) (wanted_put oi a oj.dst u h3)
  have keepD : ∀ d, YieldsIf P ops S oi v { a with defers := d :: a.defers } := fun d => hy.of_same rfl rfl
  unfold wpOpIn at *
  simp only [hj] at *
  rw [wanted_put oj a oi.dst v h1] at h
  split
  · rename_i hw
    simp only [hw, if_true] at h
    unfold Oper.wpIn at *
    refine ⟨fun _ _ => trivial, ?_⟩
    have h := h.2
    rw [Oper.semAt_eq _ _ _ hdj, execOp_put oj hsj a oi.dst v h1] at h
    rw [Oper.semAt_eq _ _ _ hdj]
    generalize (execOp a.eval oj).run P w = r at *
    cases r with
    | ok x w' =>
      cases x <;> simp only [Oper.uponIn] at h ⊢
      case value u => exact ⟨keep a hy u, by rw [← Act.put_comm a v u h2]; exact h⟩
      case skip => exact ⟨keep a hy _, by rw [← Act.put_comm a v undef h2]; exact h⟩
      case defer d =>
        refine ⟨keep _ (keepD d) _, ?_⟩
        rw [← Act.put_comm _ v undef h2, ← Act.put_defers]
        exact h
      case enter f args =>
        refine ⟨h.1, CallsIn.mono h.2 fun e w'' he => ?_⟩
        cases e with
        | returned u => exact ⟨keep a hy u, by rw [← Act.put_comm a v u h2]; exact he⟩
        | panicked c => exact hQ _ _ _ he
        | outgrown => exact he
      case row row args => exact ⟨h.1, RowsIn.mono h.2 fun u w'' he => ⟨keep a hy u, by rw [← Act.put_comm a v u h2]; exact he⟩⟩
      case round l f tmps assign body =>
        refine ⟨h.1, RoundIn.mono h.2 fun e w'' he => ?_⟩
        cases e with
        | returned u => exact ⟨keep a hy u, by rw [← Act.put_comm a v u h2]; exact he⟩
        | panicked c => exact hQ _ _ _ he
        | outgrown => exact he
    | halt x w' =>
      cases x <;> simp only [Oper.uponIn] at h ⊢
      case panic u => exact hQ _ _ _ h
  · rename_i hw
    simp only [hw] at h
    exact ⟨fun _ _ => trivial, keep a hy _, by rw [← Act.put_comm a v undef h2]; exact h.2⟩
def wpHeadR (P : Program) (r : Option Nat) (ops : Array Oper) (Q : Exit → Act → World → Prop) (m : Nat) (S : World → Prop) (Z : Array Bool → Act → World → Prop) : Nat → Array Bool → Act → World → Prop
  | 0, listed, a, w => Z listed a w
  | f + 1, listed, a, w =>
    Region.ready .any ops listed ≠ [] ∧ ∀ i ∈ Region.ready .any ops listed, i < m ∧ wpOpIn (FD r) 0 P ops Q i (fun a' w' => S w' ∧ wpHeadR P r ops Q m S Z f (listed.setIfInBounds i true) a' w') a w
theorem head_firstR {m i : Nat} {oi : Oper} {v : Value} {Z : Array Bool → Act → World → Prop} (hnd : noDefer ops = true) (hi : ops[i]? = some oi) (hsel : Region.noSelect ops = true)
    (ht : tailOk ops m = true) (him : i < m) (hdone : ∀ listed a w, Z listed a w → ∀ j ∈ Region.ready .any ops listed, m ≤ j) :
    ∀ (f : Nat) (listed : Array Bool) (a : Act) (w : World), HeadInv .any ops m listed →
      (∀ j oj, ops[j]? = some oj → j ≠ i → listed.getD j true = false → (∀ e ∈ oj.after, Region.binds .any e = true → e.on ≠ i) → oi.apart ops oj = true) →
      i ∈ Region.ready .any ops listed → YieldsIf P ops S oi v a → S w →
      wpHeadR P r ops (ON Q) m S Z f (listed.setIfInBounds i true) (a.put oi.dst v) w → wpHeadR P r ops (ON Q) m S Z (f + 1) listed a w := by
  intro f
  induction f with
  | zero =>
    intro listed a w inv _ hr hy hS H
    have hun := (mem_ready.1 hr).1
    refine ⟨fun h => (by rw [h] at hr; cases hr), fun j hj => ?_⟩
    have hjm := head_lt ht inv him hun hj
    refine ⟨hjm, ?_⟩
    by_cases hji : j = i
    · subst hji; exact yieldsR (noDefer_ok hnd hi) hi hy hS ⟨hS, H⟩
    · have := hdone _ _ _ H j (ready_mono hj hji)
      omega
  | succ f ih =>
    intro listed a w inv hfree hr hy hS H
    have hun := (mem_ready.1 hr).1
    refine ⟨fun h => (by rw [h] at hr; cases hr), fun j hj => ?_⟩
    have hjm := head_lt ht inv him hun hj
    refine ⟨hjm, ?_⟩
    by_cases hji : j = i
    · subst hji; exact yieldsR (noDefer_ok hnd hi) hi hy hS ⟨hS, H⟩
    · have h1 := (H.2 j (ready_mono hj hji)).2
      obtain ⟨hjun, oj, hoj, hall⟩ := mem_ready.1 hj
      have hnot : ∀ e ∈ oj.after, Region.binds .any e = true → e.on ≠ i := fun e he hb heq => by
        have h1 := hall e he hb
        rw [heq, getD_both hun] at h1
        cases h1
      have h2 := wpOpR_putIf (noDefer_ok hnd hoj) hoj (hfree j oj hoj hji hjun hnot) (fun cs b => Region.noSelect_spec hsel i oi cs b hi) (fun cs b => Region.noSelect_spec hsel j oj cs b hoj) (fun _ _ _ h => h) hy h1
      have hfree' : ∀ k ok, ops[k]? = some ok → k ≠ i → (listed.setIfInBounds j true).getD k true = false →
          (∀ e ∈ ok.after, Region.binds .any e = true → e.on ≠ i) → oi.apart ops ok = true := fun k ok hk hki hun hno => by
        refine hfree k ok hk hki ?_ hno
        by_cases hjk : j = k
        · subst hjk; exact hjun
        · rw [getD_set_ne true hjk] at hun; exact hun
      refine wpOpIn_mono (fun a' w' h3 => ⟨h3.2.1, ih (listed.setIfInBounds j true) a' w' (inv.set hj hjm) hfree' (ready_mono hr (Ne.symm hji)) h3.1 h3.2.1 ?_⟩) h2
      rw [Array.setIfInBounds_comm _ _ hji]
      exact h3.2.2
theorem wpAnyR_of_head {m g : Nat} {Z : Array Bool → Act → World → Prop} (hZ : ∀ listed a w, Z listed a w → wpAnyIn (FD r) 0 P .any ops Q g listed a w) :
    ∀ (f : Nat) (listed : Array Bool) (a : Act) (w : World), wpHeadR P r ops Q m S Z f listed a w → wpAnyIn (FD r) 0 P .any ops Q (f + g) listed a w
  | 0, listed, a, w, h => by rw [Nat.zero_add]; exact hZ _ _ _ h
  | f + 1, listed, a, w, h => by
    rw [show f + 1 + g = (f + g) + 1 by omega]
    exact ⟨fun h0 => absurd h0 h.1, fun i hi => wpOpIn_mono (fun a' w' h' => wpAnyR_of_head hZ f _ a' w' h'.2) (h.2 i hi).2⟩
theorem wpAnyR_of_seq {Q' : Exit → Act → World → Prop} : ∀ (l : List Oper) (k : Nat) (listed : Array Bool) (a : Act) (w : World), (∀ j, l[j]? = ops[k + j]?) →
    Region.seqB .any ops l.length k listed = true → wpListIn (FD r) 0 P ops Q' l a w → wpAnyIn (FD r) 0 P .any ops Q' l.length listed a w
  | [], _, _, _, _, _, hB, h => ⟨by simpa [Region.seqB] using hB, h⟩
  | o :: l, k, listed, a, w, hl, hB, h => by
    have h0 : ops[k]? = some o := by simpa using (hl 0).symm
    simp only [List.length_cons, Region.seqB, Bool.and_eq_true, decide_eq_true_eq] at hB
    refine ⟨fun h1 => (by rw [hB.1] at h1; cases h1), fun i hi => ?_⟩
    rw [hB.1] at hi
    have hik : i = k := by simpa using hi
    subst hik
    have hw : wpOpIn (FD r) 0 P ops Q' i (wpListIn (FD r) 0 P ops Q' l) a w := by unfold wpOpIn; simp only [h0]; exact h
    exact wpOpIn_mono (fun a' w' h' => wpAnyR_of_seq l (i + 1) _ a' w' (fun j => by have := hl (j + 1); simpa [Nat.add_assoc, Nat.add_comm 1 j] using this) hB.2 h') hw
def ZtR (P : Program) (r : Option Nat) (ops : Array Oper) (Q : Exit → Act → World → Prop) (m : Nat) (listed : Array Bool) (a : Act) (w : World) : Prop :=
  Region.seqB .any ops (ops.size - m) m listed = true ∧ wpListIn (FD r) 0 P ops Q (ops.toList.drop m) a w
theorem ztR_done {m : Nat} (listed : Array Bool) (a : Act) (w : World) (h : ZtR P r ops (ON Q) m listed a w) : ∀ j ∈ Region.ready .any ops listed, m ≤ j := seqB_ready h.1
theorem wpHeadR_mono {m : Nat} {S' : World → Prop} {Z : Array Bool → Act → World → Prop} (h : ∀ w, S' w → S w) : ∀ (f : Nat) (listed : Array Bool) (a : Act) (w : World), wpHeadR P r ops Q m S' Z f listed a w → wpHeadR P r ops Q m S Z f listed a w
  | 0, _, _, _, hh => hh
  | f + 1, listed, a, w, hh => ⟨hh.1, fun i hi => ⟨(hh.2 i hi).1, wpOpIn_mono (fun a' w' h' => ⟨h w' h'.1, wpHeadR_mono h f _ a' w' h'.2⟩) (hh.2 i hi).2⟩⟩
theorem drawR_wp {id : Nat} {a : Act} {w : World} {m : Nat} (hm : P.follows .mixedOrders = true) (hml : m ≤ ops.size)
    (h : HeadInv .any ops m (Array.replicate ops.size false) → wpHeadR P r ops (ON Q) m S (ZtR P r ops (ON Q) m) m (Array.replicate ops.size false) a w.drew) : (Code.region id ops true).wpIn (FD r) 0 P Q a w := by
  refine wpIn_mono (Q := ON Q) ?_ (fun x a w h => by cases x <;> first | exact h | exact h.elim)
  refine wpIn_region_any hm ?_
  have inv0 : HeadInv .any ops m (Array.replicate ops.size false) :=
    ⟨by simp, fun j oj _ hl => (by rw [getD_replicate_false] at hl; cases hl), fun t _ ht => getD_in (by simpa using ht) (getD_replicate_false _ _)⟩
  have := wpAnyR_of_head (g := ops.size - m) (fun listed a w hZ => by
    obtain ⟨hs, hl⟩ := hZ
    have hdl : (ops.toList.drop m).length = ops.size - m := by simp
    have := wpAnyR_of_seq (Q' := ON Q) (ops.toList.drop m) m listed a w (fun j => by simp [List.getElem?_drop]) (by rw [hdl]; exact hs) hl
    rwa [hdl] at this) _ _ _ _ (h inv0)
  rw [show m + (ops.size - m) = ops.size by omega] at this
  exact this
end
end Go.Ev

namespace Go.Ev
open Go.RowKit Go.Sx
set_option linter.unusedVariables false
set_option linter.unusedSimpArgs false
section
variable {P : Program} {tb : Tab} {w0 : World} {n : Nat} {ds : List Deferred}
theorem guardA_ok {ops : Array Oper} {ρ : Names} {E : T AV} {a : Act} (hF : FR n ds ρ E a) {o : Oper} {b : Bool} (h : guardA ops E o = some b) : Region.wanted o (yielded ops a.tmps) = b := by
  unfold guardA at h
  unfold Region.wanted
  split at h
  · rename_i hn; cases h; rw [hn]
  · rename_i j want hj
    rw [hj]
    simp only
    split at h
    · rename_i q hq
      split at h
      · rename_i d hd
        split at h
        · rename_i c hc
          obtain ⟨v, h1, h2⟩ := hF.at_ d _ hc
          rw [VR] at h2
          subst h2
          simp only [yielded, hq, Option.bind_some, hd, h1]
          cases h
          cases c <;> cases want <;> rfl
        · rename_i c hc
          obtain ⟨v, h1, h2⟩ := hF.at_ d _ hc
          rw [VR] at h2
          subst h2
          simp only [yielded, hq, Option.bind_some, hd, h1]
          cases h
          rfl
        · cases h
      · cases h
    · cases h
theorem putA_ok {ρ : Names} {E E' : T AV} {a : Act} (hF : FR n ds ρ E a) {dst : Option Nat} {x : AV} {v : Value} (h : putA n E dst x = some E') (hv : VR ρ x v) : FR n ds ρ E' (a.put dst v) := by
  unfold putA at h
  split at h
  · rename_i d
    cases hd : Nat.blt d n with
    | false => rw [hd] at h; cases h
    | true => rw [hd] at h; cases h; exact hF.put d (by simpa [Nat.blt_eq] using hd) hv
  · cases h; exact hF
structure CF where
  fn : FuncId → List AV → AH → Option (AV × AH)
  rnd : Nat → Nat → T AV → Code → Code → AH → Option (AV × AH)
def Rets (w0 : World) (ρ : Names) (H : AH) (w : World) (r : AV) (H' : AH) : Ending → World → Prop := fun e w' => ∃ ρ' v, e = .returned v ∧ VR ρ' r v ∧ Post w0 ρ H w ρ' H' w'
def OrcC (P : Program) (w0 : World) (f : FuncId) (args : List AV) : Prop := ∀ (ρ : Names) (w : World) (vs : List Value), VRL ρ args vs → Below w0.heap.size w0 w → CallsIn Fence.wide 0 P f vs.toArray w (fun e w' => ∃ v, e = .returned v ∧ v.oneCell' = true ∧ Below w.heap.size w w')
def LogOk (P : Program) (w0 : World) (l : List Wr) : Prop := ∀ (f : FuncId) (args : List AV), Wr.c f args ∈ l → OrcC P w0 f args
theorem LogOk.mono {l l' : List Wr} (h : LogOk P w0 l') (hm : ∀ x ∈ l, x ∈ l') : LogOk P w0 l := fun f args hf => h f args (hm _ hf)
structure CallOk (P : Program) (w0 : World) (c : CF) : Prop where
  fn : ∀ (f : FuncId) (args : List AV) (H : AH) (r : AV) (H' : AH), c.fn f args H = some (r, H') → ∀ (ρ : Names) (w : World) (vs : List Value), LogOk P w0 H'.wr → VRL ρ args vs → HR w0 ρ H w → CallsIn Fence.wide 0 P f vs.toArray w (Rets w0 ρ H w r H')
  rnd : ∀ (id m : Nat) (E : T AV) (ag bd : Code) (H : AH) (r : AV) (H' : AH), c.rnd id m E ag bd H = some (r, H') → ∀ (ρ : Names) (w : World) (b : Nat × Nat) (fn : FuncId) (tmps : Array Value), LogOk P w0 H'.wr → ρ[id]? = some b → FR m [] ρ E ⟨tmps, []⟩ → HR w0 ρ H w →
    RoundIn Fence.wide 0 P b.1 fn tmps ag bd w (Rets w0 ρ H w r H')
def stepA (P : Program) (tb : Tab) (n : Nat) (call : CF) (ops : Array Oper) (o : Oper) (E : T AV) (H : AH) : Option (T AV × AH) :=
  match guardA ops E o with
  | some true => (match exec2 P tb E H o with
    | some (.val x, H') => (match putA n E o.dst x with | some E' => some (E', H') | none => none)
    | some (.skip, H') => (match putA n E o.dst (.pl undef) with | some E' => some (E', H') | none => none)
    | some (.enter f args, H') => (match call.fn f args H' with
      | some (x, H2) => (match putA n E o.dst x with | some E' => some (E', H2) | none => none)
      | none => none)
    | some (.round id m E1 ag bd, H') => (match call.rnd id m E1 ag bd H' with
      | some (x, H2) => (match putA n E o.dst x with | some E' => some (E', H2) | none => none)
      | none => none)
    | none => none)
  | some false => (match putA n E o.dst (.pl undef) with | some E' => some (E', H) | none => none)
  | none => none
theorem exec2_nd (w : World) {E : T AV} {H : AH} {o : Oper} {x : AR2 × AH} (h : exec2 P tb E H o = some x) : ∀ c, o.op ≠ .defer c := fun c hc => by
  unfold exec2 exec1 at h
  have h1 : execQ P tb E H o = none := by
    unfold execQ plainOp
    rw [hc]
    simp only
    split
    · rename_i hq
      split
      · rename_i v hv
        exfalso
        have h9 := pureVal_run _ _ hv w
        rw [show ∀ f : Operand → Value, execOp f o = (do pure (Next.defer (← resolve f c o.type))) from fun f => by simp [execOp, hc], Sem.run_bind] at h9
        cases hr : (resolve (fun x => (pv E x).getD undef) c o.type).run P w with
        | ok d w' => rw [hr] at h9; simp at h9
        | halt d w' => rw [hr] at h9; simp [Result.andThen] at h9
      · rfl
    · rfl
  rw [h1] at h
  simp only [execE, hc, execF] at h
  cases h
theorem stepA_ok (ok : TOk P tb w0) {call : CF} (hc : CallOk P w0 call) {rc : Option Nat} {ops : Array Oper} {Q : Exit → Act → World → Prop} {o : Oper} {E E' : T AV} {H H' : AH} (h : stepA P tb n call ops o E H = some (E', H')) (hlog : LogOk P w0 H'.wr) {ρ : Names} {a : Act} {w : World} (hF : FR n ds ρ E a) (hH : HR w0 ρ H w)
    {K : Act → World → Prop} (k : ∀ ρ' v w', FR n ds ρ' E' (a.put o.dst v) → Post w0 ρ H w ρ' H' w' → K (a.put o.dst v) w') :
    if Region.wanted o (yielded ops a.tmps) then o.wpIn (FD rc) 0 P a w K Q else (∀ f, o.about P w a.eval = some f → (FD rc).fn f) ∧ K (a.put o.dst undef) w := by
  unfold stepA at h
  split at h
  · rename_i hg
    rw [guardA_ok hF hg, if_pos rfl]
    unfold Oper.wpIn
    refine ⟨fun _ _ => trivial, ?_⟩
    split at h
    · rename_i x H1 hx
      rw [Oper.semAt_eq _ _ _ (exec2_nd w hx)]
      obtain ⟨ρ', w', y, h1, h2, h3⟩ := exec2_ok ok hF hH hx
      obtain ⟨v, rfl, hv⟩ := h3
      rw [h1]
      simp only [Oper.uponIn]
      split at h
      · rename_i E1 hp
        cases h
        exact k ρ' _ w' (putA_ok (hF.ext h2.ext) hp hv) h2
      · cases h
    · rename_i H1 hx
      rw [Oper.semAt_eq _ _ _ (exec2_nd w hx)]
      obtain ⟨ρ', w', y, h1, h2, h3⟩ := exec2_ok ok hF hH hx
      cases h3
      rw [h1]
      simp only [Oper.uponIn]
      split at h
      · rename_i E1 hp
        cases h
        exact k ρ' _ w' (putA_ok (hF.ext h2.ext) hp VR.pl) h2
      · cases h
    · rename_i f args H1 hx
      rw [Oper.semAt_eq _ _ _ (exec2_nd w hx)]
      obtain ⟨ρ', w', y, h1, h2, h3⟩ := exec2_ok ok hF hH hx
      obtain ⟨vs, rfl, hv⟩ := h3
      rw [h1]
      simp only [Oper.uponIn]
      split at h
      · rename_i x H2 hcall
        split at h
        · rename_i E1 hp
          cases h
          refine ⟨fun h9 => by simp [FD, Fence.wide] at h9, ?_⟩
          have hC := hc.fn f args H1 x H' hcall ρ' w' vs hlog hv h2.hr
          refine CallsIn.mono (F := FD rc) (show CallsIn (FD rc) 0 P f vs.toArray w' (Rets w0 ρ' H1 w' x H') from hC) fun e w2 hR => ?_
          obtain ⟨ρ2, v, rfl, hv2, hp2⟩ := hR
          have h4 := h2.trans hp2
          exact k ρ2 _ w2 (putA_ok (hF.ext h4.ext) hp hv2) h4
        · cases h
      · cases h
    · rename_i id m E1 ag bd H1 hx
      rw [Oper.semAt_eq _ _ _ (exec2_nd w hx)]
      obtain ⟨ρ', w', y, h1, h2, h3⟩ := exec2_ok ok hF hH hx
      obtain ⟨b, fn, tmps, hb, rfl, hF1⟩ := h3
      rw [h1]
      simp only [Oper.uponIn]
      split at h
      · rename_i x H2 hcall
        split at h
        · rename_i E2 hp
          cases h
          refine ⟨fun h9 => by simp [FD, Fence.wide] at h9, ?_⟩
          have hC := hc.rnd id m E1 ag bd H1 x H' hcall ρ' w' b fn tmps hlog hb hF1 h2.hr
          refine RoundIn.mono (F := FD rc) (show RoundIn (FD rc) 0 P b.1 fn tmps ag bd w' (Rets w0 ρ' H1 w' x H') from hC) fun e w2 hR => ?_
          obtain ⟨ρ2, v, rfl, hv2, hp2⟩ := hR
          have h4 := h2.trans hp2
          exact k ρ2 _ w2 (putA_ok (hF.ext h4.ext) hp hv2) h4
        · cases h
      · cases h
    · cases h
  · rename_i hg
    rw [guardA_ok hF hg, if_neg (by simp)]
    refine ⟨fun _ _ => trivial, ?_⟩
    split at h
    · rename_i E1 hp
      cases h
      exact k ρ _ w (putA_ok hF hp VR.pl) (Post.refl hH)
    · cases h
  · cases h
def evOps (P : Program) (tb : Tab) (n : Nat) (call : CF) (ops : Array Oper) : List Oper → T AV → AH → Option (T AV × AH)
  | [], E, H => some (E, H)
  | o :: r, E, H => match stepA P tb n call ops o E H with
    | some (E', H') => evOps P tb n call ops r E' H'
    | none => none
structure CallWr (call : CF) : Prop where
  fn : ∀ (f : FuncId) (args : List AV) (H : AH) (r : AV) (H' : AH), call.fn f args H = some (r, H') → ∀ i ∈ H.wr, i ∈ H'.wr
  rnd : ∀ (id m : Nat) (E : T AV) (ag bd : Code) (H : AH) (r : AV) (H' : AH), call.rnd id m E ag bd H = some (r, H') → ∀ i ∈ H.wr, i ∈ H'.wr
theorem stepA_wr {call : CF} (hc : CallWr call) {ops : Array Oper} {o : Oper} {E E' : T AV} {H H' : AH} (h : stepA P tb n call ops o E H = some (E', H')) : ∀ i ∈ H.wr, i ∈ H'.wr := by
  unfold stepA at h
  split at h
  · split at h
    · rename_i hx
      split at h <;> try (cases h; done)
      cases h; exact exec2_wr hx
    · rename_i hx
      split at h <;> try (cases h; done)
      cases h; exact exec2_wr hx
    · rename_i hx
      split at h <;> try (cases h; done)
      rename_i hcall
      split at h <;> try (cases h; done)
      cases h
      exact fun i hi => hc.fn _ _ _ _ _ hcall i (exec2_wr hx i hi)
    · rename_i hx
      split at h <;> try (cases h; done)
      rename_i hcall
      split at h <;> try (cases h; done)
      cases h
      exact fun i hi => hc.rnd _ _ _ _ _ _ _ _ hcall i (exec2_wr hx i hi)
    · cases h
  · split at h <;> try (cases h; done)
    cases h; exact fun i hi => hi
  · cases h
theorem evOps_wr {call : CF} (hc : CallWr call) {ops : Array Oper} : ∀ {l : List Oper} {E E' : T AV} {H H' : AH}, evOps P tb n call ops l E H = some (E', H') → ∀ i ∈ H.wr, i ∈ H'.wr
  | [], _, _, _, _, h => by cases h; exact fun i hi => hi
  | o :: r, _, _, _, _, h => by
    simp only [evOps] at h
    split at h
    · rename_i hs; exact fun i hi => evOps_wr hc h i (stepA_wr hc hs i hi)
    · cases h
theorem evOps_ok (ok : TOk P tb w0) {call : CF} (hc : CallOk P w0 call) (hcw : CallWr call) {rc : Option Nat} {ops : Array Oper} {Q : Exit → Act → World → Prop} : ∀ {l : List Oper} {E E' : T AV} {H H' : AH}, evOps P tb n call ops l E H = some (E', H') → LogOk P w0 H'.wr → ∀ {ρ : Names} {a : Act} {w : World}, FR n ds ρ E a → HR w0 ρ H w →
    (∀ ρ' a' w', FR n ds ρ' E' a' → Post w0 ρ H w ρ' H' w' → Q .normal a' w') → wpListIn (FD rc) 0 P ops Q l a w
  | [], E, E', H, H', h, hlog, ρ, a, w, hF, hH, k => by
    cases h
    exact k ρ a w hF (Post.refl hH)
  | o :: r, E, E', H, H', h, hlog, ρ, a, w, hF, hH, k => by
    simp only [evOps] at h
    split at h
    · rename_i E1 H1 hs
      unfold wpListIn
      exact stepA_ok ok hc hs (hlog.mono (evOps_wr hcw h)) hF hH (fun ρ1 v1 w1 hF1 hP1 => evOps_ok ok hc hcw h hlog hF1 hP1.hr (fun ρ2 a2 w2 hF2 hP2 => k ρ2 a2 w2 hF2 (hP1.trans hP2)))
    · cases h
theorem resA_ok (ok : TOk P tb w0) {ρ : Names} {E : T AV} {a : Act} {H : AH} {w : World} (hF : FR n ds ρ E a) (hH : HR w0 ρ H w) {r : ResultVar} {x : AV} (h : resA tb E H r = some x) : ∃ v, (rvar a.tmps r).run P w = .ok v w ∧ VR ρ x v := by
  cases r with
  | tmp t =>
    obtain ⟨v, h1, h2⟩ := hF.at_ t x h
    exact ⟨v, by simp [rvar, h1], h2⟩
  | cell p t =>
    simp only [resA] at h
    split at h
    · rename_i id off hp
      obtain ⟨u, h1, h2⟩ := hF.at_ p _ hp
      rw [VR] at h2
      obtain ⟨b, hb, rfl⟩ := h2
      split at h
      · rename_i k kd hk hkd
        obtain ⟨v, hr, hx⟩ := load_ok (hH.at_ hk hb) (kindA_ok ok hkd) h
        exact ⟨v, by simp [rvar, h1, asAddr, hr w rfl], hx⟩
      · cases h
    · cases h
theorem resAs_ok (ok : TOk P tb w0) {ρ : Names} {E : T AV} {a : Act} {H : AH} {w : World} (hF : FR n ds ρ E a) (hH : HR w0 ρ H w) : ∀ {rs : List ResultVar} {l : List AV}, resAs tb E H rs = some l → ∃ vs, (rs.mapM (rvar a.tmps)).run P w = .ok vs w ∧ VRL ρ l vs
  | [], l, h => by cases h; exact ⟨[], by simp, VRL.mk0⟩
  | r :: rs, l, h => by
    simp only [resAs] at h
    split at h
    · rename_i x l' h1 h2
      cases h
      obtain ⟨v, h3, h4⟩ := resA_ok ok hF hH h1
      obtain ⟨vs, h5, h6⟩ := resAs_ok ok hF hH h2
      refine ⟨v :: vs, ?_, VRL.mk h4 h6⟩
      rw [List.mapM_cons, Sem.run_bind, h3, Result.andThen_ok, Sem.run_bind, h5, Result.andThen_ok, Sem.run_pure]
    · cases h
theorem results_ok (ok : TOk P tb w0) {ρ : Names} {E : T AV} {a : Act} {H : AH} {w : World} (hF : FR n ds ρ E a) (hH : HR w0 ρ H w) {fn : Func} {l : List AV} (h : resAs tb E H fn.results.toList = some l) : ∃ v, (results fn a.tmps).run P w = .ok v w ∧ VR ρ (resV l) v := by
  obtain ⟨vs, h1, h2⟩ := resAs_ok ok hF hH h
  have hmap : (fn.results.mapM (rvar a.tmps)).run P w = .ok vs.toArray w := by
    rw [Array.mapM_eq_mapM_toList, map_eq_pure_bind, Sem.run_bind, h1, Result.andThen_ok, Sem.run_pure]
  have he : results fn a.tmps = (do let vs ← fn.results.mapM (rvar a.tmps); pure (if h : vs.size = 1 then vs[0] else .tuple vs)) := by
    unfold results
    congr 1
  rw [he, Sem.run_bind, hmap, Result.andThen_ok, Sem.run_pure]
  refine ⟨_, rfl, ?_⟩
  match l, vs, h2 with
  | [], _, h2 => obtain rfl := h2.nil; simp only [resV]; rw [VR]; exact ⟨[], rfl, VRL.mk0⟩
  | [x], _, h2 =>
    obtain ⟨v, r, rfl, h3, h4⟩ := h2.cons
    obtain rfl := h4.nil
    exact h3
  | x :: y :: l, _, h2 =>
    have hl := h2.length
    simp only [resV]
    rw [VR]
    exact ⟨_, by rw [dif_neg (by simp at hl ⊢; omega)], h2⟩
theorem envF_get : ∀ (args : List AV) (i : Nat) (E : T AV) (k : Nat) (x : AV), (envF i args E).get k = some x → (i ≤ k ∧ args[k - i]? = some x) ∨ E.get k = some x
  | [], i, E, k, x, h => .inr h
  | y :: r, i, E, k, x, h => by
    rcases envF_get r (i + 1) _ k x h with ⟨h1, h2⟩ | h2
    · refine .inl ⟨by omega, ?_⟩
      rw [show k - i = (k - (i + 1)) + 1 by omega]
      simpa using h2
    · rcases T.get_set h2 with ⟨rfl, h3⟩ | ⟨_, h3⟩
      · cases h3; exact .inl ⟨Nat.le_refl _, by simp⟩
      · exact .inr h3
theorem T.get_l {α : Type} (k : Nat) : (T.l : T α).get k = none := by simp [T.get, T.getF]
def DR (ρ : Names) : List Nat → List Deferred → Prop
  | [], ds => ds = []
  | i :: r, ds => ∃ (b : Nat × Nat) (ds' : List Deferred), ds = { target := .collected b.1, args := #[] } :: ds' ∧ ρ[i]? = some b ∧ DR ρ r ds'
theorem DR.ext {ρ ρ' : Names} (h : Ext ρ ρ') : ∀ {D : List Nat} {ds : List Deferred}, DR ρ D ds → DR ρ' D ds
  | [], _, hd => hd
  | i :: r, _, hd => by obtain ⟨b, ds', h1, h2, h3⟩ := hd; exact ⟨b, ds', h1, h _ _ h2, DR.ext h h3⟩
def RdOk (ρ : Names) : Option Nat → Option Nat → Prop
  | none, none => True
  | some id, some l => ∃ b, ρ[id]? = some b ∧ b.1 = l
  | _, _ => False
theorem RdOk.ext {ρ ρ' : Names} (h : Ext ρ ρ') {r rc : Option Nat} (hr : RdOk ρ r rc) : RdOk ρ' r rc := by
  cases r <;> cases rc <;> first | exact hr | (obtain ⟨b, h1, h2⟩ := hr; exact ⟨b, h _ _ h1, h2⟩)
abbrev EvF := Option Nat → Nat → Code → List Nat → T AV → AH → Option (AX × List Nat × T AV × AH)
def shutA : List Nat → AH → Option AH
  | [], H => some H
  | i :: r, H => (match H.get i with
    | some k => (match k.k with
      | .df true => shutA r (H.put i (obj (.df false)))
      | _ => none)
    | none => none)
def callF (P : Program) (tb : Tab) (ev : EvF) (f : FuncId) (args : List AV) (H : AH) : Option (AV × AH) :=
  match P.funcs[f]? with
  | some fn => (match fn.body with
    | some c => bif Nat.ble args.length fn.ntmps then
      (match ev none fn.ntmps c [] (envOf args) H with
       | some (.exit _, _, _, _) => none
       | some (_, D, E', H') => (match shutA D H' with
         | some H2 => (match resAs tb E' H2 fn.results.toList with | some l => some (resV l, H2) | none => none)
         | none => none)
       | none => none) else none
    | none => none)
  | none => none
def pdOf : Option (Option Code) → Option Code → Option Code
  | some q, _ => q
  | none, p => p
def lpSet (H : AH) (id : Nat) (st : LoopState) (pd : Option (Option Code)) : Option AH :=
  match H.get id with
  | some k => (match k.k with
    | .lp _ p n E ps ag bd df => some (H.put id (obj (.lp st (pdOf pd p) n E ps ag bd df)))
    | _ => none)
  | none => none
def lpReady (H : AH) (id : Nat) : Bool :=
  match H.get id with
  | some k => (match k.k with
    | .lp .ready _ _ _ _ _ _ _ => true
    | _ => false)
  | none => false
def jumpOf : AX → Option Code
  | .normal => none
  | .ret => some .ret
  | .exit i => some (.exit i)
def endSt : AX → LoopState
  | .normal => .ready
  | _ => .done
def endB : AX → Bool
  | .normal => true
  | _ => false
def rndF (ev : EvF) (id n : Nat) (E : T AV) (ag bd : Code) (H : AH) : Option (AV × AH) :=
  match ev (some id) n ag [] E H with
  | some (.normal, D, E1, H1) => bif lpReady H1 id then
    (match lpSet H1 id .busy none with
    | some H2 => (match ev (some id) n bd D E1 H2 with
      | some (x, _, _, H3) => (match lpSet H3 id (endSt x) (some (jumpOf x)) with
        | some H4 => some (.pl (.bool (endB x)), H4)
        | none => none)
      | none => none)
    | none => none) else none
  | _ => none
def EvOk (P : Program) (w0 : World) (ev : EvF) : Prop :=
  ∀ (r : Option Nat) (n : Nat) (c : Code) (D D' : List Nat) (E E' : T AV) (H H' : AH) (x : AX), ev r n c D E H = some (x, D', E', H') → LogOk P w0 H'.wr → ∀ (ρ : Names) (ds : List Deferred) (rc : Option Nat) (a : Act) (w : World) (Q : Exit → Act → World → Prop), RdOk ρ r rc → DR ρ D ds → FR n ds ρ E a → HR w0 ρ H w →
    (∀ ρ' ds' a' w', DR ρ' D' ds' → FR n ds' ρ' E' a' → Post w0 ρ H w ρ' H' w' → Q x.to a' w') → c.wpIn (FD rc) 0 P Q a w
def EvWr (ev : EvF) : Prop := ∀ (r : Option Nat) (n : Nat) (c : Code) (D D' : List Nat) (E E' : T AV) (H H' : AH) (x : AX), ev r n c D E H = some (x, D', E', H') → ∀ i ∈ H.wr, i ∈ H'.wr
theorem shutA_wr : ∀ {D : List Nat} {H H' : AH}, shutA D H = some H' → ∀ i ∈ H.wr, i ∈ H'.wr
  | [], _, _, h => by cases h; exact fun i hi => hi
  | j :: r, _, _, h => by
    simp only [shutA] at h
    split at h <;> try (cases h; done)
    split at h <;> try (cases h; done)
    exact fun i hi => shutA_wr h i (List.mem_cons_of_mem _ hi)
theorem lpSet_wr {H H' : AH} {id : Nat} {st : LoopState} {pd : Option (Option Code)} (h : lpSet H id st pd = some H') : ∀ i ∈ H.wr, i ∈ H'.wr := by
  unfold lpSet at h
  split at h <;> try (cases h; done)
  split at h <;> try (cases h; done)
  cases h; exact fun i hi => List.mem_cons_of_mem _ hi
theorem callF_wr {ev : EvF} (he : EvWr ev) {f : FuncId} {args : List AV} {H : AH} {r : AV} {H' : AH} (h : callF P tb ev f args H = some (r, H')) : ∀ i ∈ H.wr, i ∈ H'.wr := by
  unfold callF at h
  split at h <;> try (cases h; done)
  split at h <;> try (cases h; done)
  have h := cond_some h
  split at h <;> try (cases h; done)
  rename_i hev
  split at h <;> try (cases h; done)
  rename_i hsh
  split at h <;> try (cases h; done)
  cases h
  exact fun i hi => shutA_wr hsh i (he _ _ _ _ _ _ _ _ _ _ hev i hi)
theorem rndF_wr {ev : EvF} (he : EvWr ev) {id m : Nat} {E : T AV} {ag bd : Code} {H : AH} {r : AV} {H' : AH} (h : rndF ev id m E ag bd H = some (r, H')) : ∀ i ∈ H.wr, i ∈ H'.wr := by
  unfold rndF at h
  split at h <;> try (cases h; done)
  rename_i hev
  have h := cond_some h
  split at h <;> try (cases h; done)
  rename_i hs2
  split at h <;> try (cases h; done)
  rename_i hev3
  split at h <;> try (cases h; done)
  rename_i hs4
  cases h
  exact fun i hi => lpSet_wr hs4 i (he _ _ _ _ _ _ _ _ _ _ hev3 i (lpSet_wr hs2 i (he _ _ _ _ _ _ _ _ _ _ hev i hi)))
theorem shutA_ok (ok : TOk P tb w0) {fn : Func} {R : Ending → World → Prop} {tmps : Array Value} : ∀ {D : List Nat} {ds : List Deferred} {H H' : AH} {ρ : Names} {w : World}, shutA D H = some H' → DR ρ D ds → HR w0 ρ H w →
    (∀ w', Post w0 ρ H w ρ H' w' → ∃ v, (results fn tmps).run P w' = .ok v w' ∧ R (.returned v) w') → LeavesInM Fence.wide 0 P fn tmps R ds .returning w
  | [], ds, H, H', ρ, w, h, hD, hH, k => by
    cases h
    rw [show ds = [] from hD]
    exact k w (Post.refl hH)
  | i :: r, ds, H, H', ρ, w, h, hD, hH, k => by
    obtain ⟨b, ds', rfl, hb, hr⟩ := hD
    simp only [shutA] at h
    split at h <;> try (cases h; done)
    rename_i kk hk
    split at h <;> try (cases h; done)
    rename_i hkk
    obtain ⟨_, _, hO⟩ := (hH.at_ hk hb).o (by rw [hkk]; simp)
    rw [hkk] at hO
    have h1 : w.heap[b.1]? = some (.deferred (some [])) := hO
    have hP := Post.putObj hH (.deferred none) hk hb (k' := obj (.df false)) (BR.obj rfl)
    refine ⟨by simp, .inl ⟨b.1, _, rfl, run_takeDeferred h1, ?_⟩⟩
    exact shutA_ok ok h hr hP.hr (fun w' hP' => k w' (hP.trans hP'))
theorem callF_ok (ok : TOk P tb w0) {ev : EvF} (he : EvOk P w0 ev) {f : FuncId} {args : List AV} {H : AH} {r : AV} {H' : AH} (h : callF P tb ev f args H = some (r, H')) (hlog : LogOk P w0 H'.wr) {ρ : Names} {w : World} {vs : List Value} (hv : VRL ρ args vs) (hH : HR w0 ρ H w) : CallsIn Fence.wide 0 P f vs.toArray w (Rets w0 ρ H w r H') := by
  unfold callF at h
  split at h
  · rename_i fn h1
    split at h
    · rename_i c hc
      cases hq : Nat.ble args.length fn.ntmps with
      | false => rw [hq] at h; cases h
      | true =>
        rw [hq] at h
        simp only [cond_true] at h
        have hle : args.length ≤ fn.ntmps := by simpa using hq
        have hl := hv.length
        have hF : FR fn.ntmps [] ρ (envOf args) { tmps := vs.toArray ++ Array.replicate (fn.ntmps - vs.toArray.size) undef, defers := [] } := by
          refine ⟨rfl, by simp; omega, fun k x hk => ?_⟩
          rcases envF_get args 0 .l k x hk with ⟨_, h4⟩ | h4
          · obtain ⟨v, h5, h6⟩ := hv.get k x (by simpa using h4)
            refine ⟨v, ?_, h6⟩
            have hlt := (List.getElem?_eq_some_iff.1 h5).1
            rw [Array.getElem?_append_left (by simpa using hlt)]
            simpa using h5
          · rw [T.get_l] at h4; cases h4
        split at h
        · cases h
        · rename_i x D E1 H1 hx hev
          split at h <;> try (cases h; done)
          rename_i H2 hsh
          split at h <;> try (cases h; done)
          rename_i l hres
          cases h
          refine callsIn_of_wp_marks h1 hc trivial (he _ _ _ _ _ _ _ _ _ _ hev (hlog.mono (shutA_wr hsh)) ρ [] none _ w _ trivial rfl hF hH (fun ρ' ds' a' w' hD' hF' hP' => ?_))
          have key : LeavesInM Fence.wide 0 P fn a'.tmps (Rets w0 ρ H w (resV l) H') a'.defers .returning w' := by
            rw [hF'.defers]
            refine shutA_ok ok hsh hD' hP'.hr (fun w2 hP2 => ?_)
            obtain ⟨v, g1, g2⟩ := results_ok ok hF' hP2.hr hres
            exact ⟨v, g1, ρ', v, rfl, g2, hP'.trans hP2⟩
          cases x with
          | normal => exact key
          | ret => exact key
          | exit id => exact (hx id rfl).elim
        · cases h
    · cases h
  · cases h
theorem lpSet_ok {H H' : AH} {id : Nat} {st : LoopState} {pd : Option (Option Code)} (h : lpSet H id st pd = some H') {ρ : Names} {w : World} (hH : HR w0 ρ H w) {b : Nat × Nat} (hb : ρ[id]? = some b) :
    ∃ r : Loop, w.heap[b.1]? = some (.loop r) ∧ Post w0 ρ H w ρ H' (w.putObj b.1 (.loop { r with state := st, pending := pdOf pd r.pending })) ∧ (lpReady H id = true → r.state = .ready) := by
  unfold lpSet at h
  split at h <;> try (cases h; done)
  rename_i k hk
  split at h <;> try (cases h; done)
  rename_i st' p n' E' ps ag bd df hkk
  cases h
  obtain ⟨_, _, hO⟩ := (hH.at_ hk hb).o (by rw [hkk]; simp)
  rw [hkk] at hO
  obtain ⟨fn, tmps, b2, h1, h2, h3, h4⟩ := hO
  refine ⟨_, h1, Post.putObj hH _ hk hb (BR.obj ⟨fn, tmps, b2, rfl, h2, h3, h4⟩), fun hr => ?_⟩
  unfold lpReady at hr
  rw [hk] at hr
  simp only [hkk] at hr
  cases st' <;> first | rfl | cases hr
theorem rndF_ok {ev : EvF} (he : EvOk P w0 ev) (hew : EvWr ev) {id m : Nat} {E : T AV} {ag bd : Code} {H : AH} {r : AV} {H' : AH} (h : rndF ev id m E ag bd H = some (r, H')) (hlog : LogOk P w0 H'.wr) {ρ : Names} {w : World} {b : Nat × Nat} {fn : FuncId} {tmps : Array Value} (hb : ρ[id]? = some b) (hF : FR m [] ρ E ⟨tmps, []⟩) (hH : HR w0 ρ H w) :
    RoundIn Fence.wide 0 P b.1 fn tmps ag bd w (Rets w0 ρ H w r H') := by
  unfold rndF at h
  split at h <;> try (cases h; done)
  rename_i D E1 H1 hev
  have hrdy : lpReady H1 id = true := by
    cases hq : lpReady H1 id with
    | true => rfl
    | false => rw [hq] at h; cases h
  rw [hrdy] at h
  simp only [cond_true] at h
  split at h <;> try (cases h; done)
  rename_i H2 hs2
  split at h <;> try (cases h; done)
  rename_i x D3 E3 H3 hev3
  split at h <;> try (cases h; done)
  rename_i H4 hs4
  cases h
  have hl3 : LogOk P w0 H3.wr := hlog.mono (lpSet_wr hs4)
  have hl1 : LogOk P w0 H1.wr := hl3.mono (fun i hi => hew _ _ _ _ _ _ _ _ _ _ hev3 i (lpSet_wr hs2 i hi))
  refine roundIn_of_wpIn trivial ?_
  have hrd : RdOk ρ (some id) (some b.1) := ⟨b, hb, rfl⟩
  refine he _ _ _ _ _ _ _ _ _ _ hev hl1 ρ [] (some b.1) _ w _ hrd rfl hF hH (fun ρ1 ds1 a1 w1 hD1 hF1 hP1 => ?_)
  have hb1 := hP1.ext id b hb
  obtain ⟨l1, g1, g2, g3⟩ := lpSet_ok hs2 hP1.hr hb1
  refine ⟨_, run_beginRound g1 (g3 hrdy), ?_⟩
  have hP2 := hP1.trans g2
  refine he _ _ _ _ _ _ _ _ _ _ hev3 hl3 ρ1 ds1 (some b.1) a1 _ _ (hrd.ext hP1.ext) hD1 hF1 hP2.hr (fun ρ3 ds3 a3 w3 hD3 hF3 hP3 => ?_)
  have hb3 := hP3.ext id b hb1
  obtain ⟨l3, k1, k2, _⟩ := lpSet_ok hs4 hP3.hr hb3
  have hfin := (hP2.trans hP3).trans k2
  cases x with
  | normal => exact ⟨_, _, run_endRound none k1, ρ3, _, rfl, VR.pl, hfin⟩
  | ret => exact ⟨_, _, run_endRound (some .ret) k1, ρ3, _, rfl, VR.pl, hfin⟩
  | exit i => exact ⟨_, _, run_endRound (some (.exit i)) k1, ρ3, _, rfl, VR.pl, hfin⟩
end
end Go.Ev

namespace Go.Ev
open Go.RowKit Go.Sx
set_option linter.unusedVariables false
set_option linter.unusedSimpArgs false
section
variable {P : Program} {tb : Tab} {w0 : World} {n : Nat} {ds : List Deferred}
def hasB : List Wr → Nat → Bool
  | [], _ => false
  | .b j :: r, i => Nat.beq j i || hasB r i
  | .c _ _ :: r, i => hasB r i
theorem hasB_no : ∀ {l : List Wr} {i : Nat}, hasB l i = false → Wr.b i ∉ l
  | [], _, _ => by simp
  | .b j :: r, i, h => by
    simp only [hasB, Bool.or_eq_false_iff] at h
    intro hm
    rcases List.mem_cons.1 hm with e | hm
    · cases e; simp at h
    · exact hasB_no h.2 hm
  | .c _ _ :: r, i, h => by
    simp only [hasB] at h
    intro hm
    rcases List.mem_cons.1 hm with e | hm
    · cases e
    · exact hasB_no h hm
theorem hasB_yes : ∀ {l : List Wr} {i : Nat}, hasB l i = true → Wr.b i ∈ l
  | .b j :: r, i, h => by
    simp only [hasB, Bool.or_eq_true] at h
    rcases h with h | h
    · rw [Nat.eq_of_beq_eq_true h]; exact List.mem_cons_self ..
    · exact List.mem_cons_of_mem _ (hasB_yes h)
  | .c _ _ :: r, i, h => by
    simp only [hasB] at h
    exact List.mem_cons_of_mem _ (hasB_yes h)
def oldWr (id : Nat) : List Wr → List Wr
  | [] => []
  | .b i :: r => bif Nat.blt i id then .b i :: oldWr id r else oldWr id r
  | .c _ _ :: r => oldWr id r
def onlyWr (id : Nat) (X : List Wr) : List Wr → Bool
  | [] => true
  | .b i :: r => (Nat.ble id i || hasB X i) && onlyWr id X r
  | .c _ _ :: r => onlyWr id X r
theorem onlyWr_ok {id : Nat} {X : List Wr} : ∀ {l : List Wr}, onlyWr id X l = true → ∀ i, Wr.b i ∈ l → i < id → Wr.b i ∈ X
  | .b j :: r, h, i, hi, hlt => by
    simp only [onlyWr, Bool.and_eq_true, Bool.or_eq_true, Nat.ble_eq] at h
    rcases List.mem_cons.1 hi with h1 | h1
    · cases h1
      rcases h.1 with h2 | h2
      · omega
      · exact hasB_yes h2
    · exact onlyWr_ok h.2 i h1 hlt
  | .c _ _ :: r, h, i, hi, hlt => by
    simp only [onlyWr] at h
    rcases List.mem_cons.1 hi with h1 | h1
    · cases h1
    · exact onlyWr_ok h i h1 hlt
def runHead (P : Program) (tb : Tab) (n : Nat) (call : CF) (ops : Array Oper) : List (Nat × Bool) → T AV → AH → Option (T AV × AH)
  | [], E, H => some (E, H)
  | (i, true) :: r, E, H => (match ops[i]? with
    | some o => (match guardA ops E o with
      | some true => (match execQ P tb E H o with
        | some x => (match putA n E o.dst x with
          | some E1 => (match runHead P tb n call ops r E1 H with
            | some (E', H') => (match touch E o with
              | some id => bif hasB H'.wr id then none else some (E', H')
              | none => some (E', H'))
            | none => none)
          | none => none)
        | none => none)
      | some false => (match putA n E o.dst (.pl undef) with
        | some E1 => runHead P tb n call ops r E1 H
        | none => none)
      | none => none)
    | none => none)
  | (i, false) :: r, E, H => (match ops[i]? with
    | some o => (match stepA P tb n call ops o E H with
      | some (E1, H1) => runHead P tb n call ops r E1 H1
      | none => none)
    | none => none)
theorem runHead_wr {call : CF} (hc : CallWr call) {ops : Array Oper} : ∀ {plan : List (Nat × Bool)} {E E' : T AV} {H H' : AH}, runHead P tb n call ops plan E H = some (E', H') → ∀ i ∈ H.wr, i ∈ H'.wr
  | [], _, _, _, _, h => by cases h; exact fun i hi => hi
  | (i, true) :: r, E, E', H, H', h => by
    simp only [runHead] at h
    split at h <;> try (cases h; done)
    split at h
    · split at h <;> try (cases h; done)
      split at h <;> try (cases h; done)
      split at h <;> try (cases h; done)
      rename_i E2 H2 hrun
      have h2 := runHead_wr hc hrun
      split at h
      · rcases cond_or h with h | h
        · cases h
        · cases h; exact h2
      · cases h; exact h2
    · split at h <;> try (cases h; done)
      exact runHead_wr hc h
    · cases h
  | (i, false) :: r, E, E', H, H', h => by
    simp only [runHead] at h
    split at h <;> try (cases h; done)
    split at h <;> try (cases h; done)
    rename_i hs
    exact fun j hj => runHead_wr hc h j (stepA_wr hc hs j hj)
def Still (w0 : World) (ρ : Names) (H : AH) (M : List Wr) (w : World) (w' : World) : Prop := Below w0.heap.size w0 w' ∧ ∀ (i : Nat) (b : Nat × Nat) (k : ABlk), H.get i = some k → Wr.b i ∉ M → ρ[i]? = some b → w'.heap[b.1]? = w.heap[b.1]?
theorem touch_get {E : T AV} {H : AH} {o : Oper} {x : AV} {id : Nat} (hid : touch E o = some id) (hx : execQ P tb E H o = some x) : ∃ kk, H.get id = some kk := by
  have hent : ∀ {es : List (AV × AV × Nat)}, entA H (.mp id) = some es → ∃ kk, H.get id = some kk := fun {es} h => by
    unfold entA at h
    simp only at h
    split at h <;> try (cases h; done)
    rename_i k hk
    exact ⟨k, hk⟩
  unfold touch at hid
  split at hid
  · rename_i t y hop
    unfold execQ at hx
    rw [hop] at hx
    simp only at hx
    split at hid
    · rename_i id' off hy
      cases hid
      rw [hy] at hx
      simp only at hx
      split at hx
      · rename_i kk kd hkk _; exact ⟨kk, hkk⟩
      · cases hx
    · cases hid
  · rename_i t y ix co hop
    split at hid <;> try (cases hid; done)
    rename_i id' hy
    cases hid
    unfold execQ at hx
    rw [hop] at hx
    simp only [hy] at hx
    split at hx <;> try (cases hx; done)
    rename_i z kv hz hk
    cases hz
    split at hx
    · rename_i es hes; exact hent hes
    · exfalso
      have : pv E y = none := by simp [pv, hy, plain]
      unfold plainOp at hx
      rw [hop] at hx
      simp [Op.operands, this] at hx
  · rename_i c hop
    split at hid <;> try (cases hid; done)
    rename_i y hc ha
    split at hid <;> try (cases hid; done)
    rename_i id' hy
    cases hid
    have hno : pv E y = none := by simp [pv, hy, plain]
    have hpl : plainOp P E o = none := by
      unfold plainOp
      have : (noSel o.op && o.op.operands.toList.all fun x => (pv E x).isSome) = false := by
        rw [hop]
        have h2 : c.args = #[y] := by apply Array.toList_inj.1; simpa using ha
        simp [Op.operands, Call.operands, hc, h2, hno]
      rw [this]
    unfold execQ at hx
    rw [hop] at hx
    simp only [hc, ha] at hx
    split at hx
    · rename_i y2 t2 _ e1 _
      cases e1
      rw [hy] at hx
      simp only at hx
      split at hx <;> try (cases hx; done)
      rename_i es _ _ hes _
      exact hent hes
    all_goals first
      | (rename_i h1 h2 h3; cases h1; done)
      | (rename_i h1 h2; cases h1; done)
      | (rename_i h1; cases h1; done)
      | (rw [hpl] at hx; cases hx; done)
      | (cases hx; done)
      | skip
  · cases hid
theorem runHead_ok (ok : TOk P tb w0) {call : CF} (hc : CallOk P w0 call) (hcw : CallWr call) {rc : Option Nat} {ops : Array Oper} (hnd : noDefer ops = true) {Q : Exit → Act → World → Prop} {m : Nat} : ∀ {plan : List (Nat × Bool)} {listed : Array Bool} {E E' : T AV} {H H' : AH}, runHead P tb n call ops plan E H = some (E', H') → LogOk P w0 H'.wr → planOk ops m listed plan = true →
    HeadInv .any ops m listed → ∀ {ρ : Names} {a : Act} {w : World}, FR n ds ρ E a → HR w0 ρ H w →
    (∀ ρ' a' w', FR n ds ρ' E' a' → Post w0 ρ H w ρ' H' w' → wpListIn (FD rc) 0 P ops (ON Q) (ops.toList.drop m) a' w') →
    wpHeadR P rc ops (ON Q) m (Still w0 ρ H H'.wr w) (ZtR P rc ops (ON Q) m) plan.length listed a w
  | [], listed, E, E', H, H', h, hlog, hp, inv, ρ, a, w, hF, hH, k => by
    cases h
    exact ⟨hp, k ρ a w hF (Post.refl hH)⟩
  | (i, true) :: r, listed, E, E', H, H', h, hlog, hp, inv, ρ, a, w, hF, hH, k => by
    simp only [planOk, Bool.and_eq_true] at hp
    obtain ⟨hk, hp⟩ := hp
    have hk' := hk
    simp only [takeOk, Bool.and_eq_true, decide_eq_true_eq] at hk'
    obtain ⟨⟨⟨⟨him, ht⟩, hsel⟩, hf⟩, hr⟩ := hk'
    have hr' : i ∈ Region.ready .any ops listed := by simpa using hr
    simp only [runHead] at h
    split at h
    · rename_i o ho
      split at h
      · rename_i hg
        split at h
        · rename_i x hx
          split at h
          · rename_i E1 hpu
            split at h
            · rename_i E2 H2 hrun
              have hfin : E2 = E' ∧ H2 = H' ∧ ∀ id, touch E o = some id → Wr.b id ∉ H'.wr := by
                split at h
                · rename_i id hid
                  cases hel : hasB H2.wr id with
                  | true => rw [hel] at h; cases h
                  | false =>
                    rw [hel] at h
                    cases h
                    refine ⟨rfl, rfl, fun id' h' hmem => ?_⟩
                    rw [hid] at h'
                    cases h'
                    exact hasB_no hel hmem
                · rename_i hid
                  cases h
                  exact ⟨rfl, rfl, fun id' h' => by rw [hid] at h'; cases h'⟩
              obtain ⟨rfl, rfl, hnot⟩ := hfin
              obtain ⟨v, hv, hrd⟩ := execQ_ok ok hF hH hx
              have hF1 := putA_ok hF hpu hv
              have g2 := runHead_ok ok hc hcw hnd hrun hlog hp (inv.set hr' him) hF1 hH k
              refine head_firstR hnd ho hsel ht him ztR_done r.length listed a w inv (Region.free_spec ho hf) hr' (.inl ⟨guardA_ok hF hg, fun w' hw' => ?_⟩) ⟨hH.bel, fun _ _ _ _ _ _ => rfl⟩ g2
              refine hrd w' ⟨hw'.1, fun id b hid hb => ?_⟩
              have hkk := touch_get hid hx
              obtain ⟨kk, hkk⟩ := hkk
              exact hw'.2 id b kk hkk (hnot id hid) hb
            · cases h
          · cases h
        · cases h
      · rename_i hg
        split at h
        · rename_i E1 hpu
          have hF1 := putA_ok hF hpu VR.pl
          have g2 := runHead_ok ok hc hcw hnd h hlog hp (inv.set hr' him) hF1 hH k
          exact head_firstR hnd ho hsel ht him ztR_done r.length listed a w inv (Region.free_spec ho hf) hr' (.inr ⟨guardA_ok hF hg, rfl⟩) ⟨hH.bel, fun _ _ _ _ _ _ => rfl⟩ g2
        · cases h
      · cases h
    · cases h
  | (i, false) :: r, listed, E, E', H, H', h, hlog, hp, inv, ρ, a, w, hF, hH, k => by
    simp only [planOk, Bool.and_eq_true, Nat.blt_eq] at hp
    obtain ⟨⟨hl, him⟩, hp⟩ := hp
    have hrd := listIs_ok hl
    have him' : i ∈ Region.ready .any ops listed := by rw [hrd]; simp
    simp only [runHead] at h
    split at h
    · rename_i o ho
      split at h
      · rename_i E1 H1 hs
        have g1 := runHead_wr hcw h
        have key : ∀ ρ1 a1 w1, FR n ds ρ1 E1 a1 → Post w0 ρ H w ρ1 H1 w1 → Still w0 ρ H H'.wr w w1 ∧ wpHeadR P rc ops (ON Q) m (Still w0 ρ H H'.wr w) (ZtR P rc ops (ON Q) m) r.length (listed.setIfInBounds i true) a1 w1 := by
          intro ρ1 a1 w1 hF1 hP1
          have g2 := runHead_ok ok hc hcw hnd h hlog hp (inv.set him' him) hF1 hP1.hr (fun ρ' a' w' hF' hP' => k ρ' a' w' hF' (hP1.trans hP'))
          have hst : Still w0 ρ H H'.wr w w1 := ⟨hP1.hr.bel, fun j b kk hj hn hb => hP1.kept j b kk hj (fun hm => hn (g1 _ hm)) hb⟩
          refine ⟨hst, wpHeadR_mono (fun w' hw' => ?_) _ _ _ _ g2⟩
          refine ⟨hw'.1, ?_⟩
          intro j b kk hj hn hb
          rw [hw'.2 j b kk (hP1.same j kk hj (fun hm => hn (g1 _ hm))) hn (hP1.ext j b hb)]
          exact hst.2 j b kk hj hn hb
        refine ⟨by rw [hrd]; simp, fun j hj => ?_⟩
        rw [hrd] at hj
        have : j = i := by simpa using hj
        subst this
        refine ⟨him, ?_⟩
        unfold wpOpIn
        simp only [ho]
        exact stepA_ok ok hc hs (hlog.mono g1) hF hH (fun ρ1 v1 w1 hF1 hP1 => key ρ1 _ w1 hF1 hP1)
      · cases h
    · cases h
theorem without_mem {i : Nat} : ∀ {l : List Nat} {x : Nat}, x ∈ l → x = i ∨ x ∈ without i l
  | [], _, h => by cases h
  | j :: r, x, h => by
    simp only [without]
    cases hj : Nat.beq j i with
    | true =>
      rcases List.mem_cons.1 h with rfl | h
      · exact .inl (Nat.eq_of_beq_eq_true hj)
      · exact without_mem h
    | false =>
      rcases List.mem_cons.1 h with rfl | h
      · exact .inr (List.mem_cons_self ..)
      · rcases without_mem h with h | h
        · exact .inl h
        · exact .inr (List.mem_cons_of_mem _ h)
theorem without_sub {i : Nat} : ∀ {l : List Nat} {x : Nat}, x ∈ without i l → x ∈ l
  | [], _, h => by cases h
  | j :: r, x, h => by
    simp only [without] at h
    cases hj : Nat.beq j i with
    | true => rw [hj] at h; exact List.mem_cons_of_mem _ (without_sub h)
    | false =>
      rw [hj] at h
      rcases List.mem_cons.1 h with rfl | h
      · exact List.mem_cons_self ..
      · exact List.mem_cons_of_mem _ (without_sub h)
theorem noDst_ok {d i : Nat} : ∀ {l : List Oper} {j : Nat}, noDst d i l j = true → ∀ (q : Nat) (o : Oper), l[q]? = some o → j + q ≠ i → o.dst ≠ some d
  | [], _, _, q, o, h, _ => by simp at h
  | x :: r, j, hn, 0, o, h, hne => by
    simp only [noDst, Bool.and_eq_true, Bool.or_eq_true] at hn
    simp only [List.getElem?_cons_zero, Option.some.injEq] at h
    subst h
    rcases hn.1 with h1 | h1
    · exact absurd (Nat.eq_of_beq_eq_true h1) (by simpa using hne)
    · intro e
      rw [e] at h1
      simp at h1
  | x :: r, j, hn, q + 1, o, h, hne => by
    simp only [noDst, Bool.and_eq_true] at hn
    exact noDst_ok hn.2 q o (by simpa using h) (by omega)
theorem HR.extra {ρ : Names} {H : AH} {w : World} (h : HR w0 ρ H w) (o : Obj) : Post w0 ρ H w ρ H (w.alloc o) := by
  have hk : ∀ (i : Nat) (c : Nat × Nat), ρ[i]? = some c → (w.alloc o).heap[c.1]? = w.heap[c.1]? := fun i c hc => Below.heap_alloc w _ c.1 (h.rng i c hc).2
  refine ⟨Ext.refl _, ⟨h.bel.trans ((Below.refl _ _).alloc h.bel.size _), h.len, fun i b hb => ⟨(h.rng i b hb).1, by rw [World.size_alloc]; exact Nat.lt_succ_of_lt (h.rng i b hb).2⟩, h.inj, fun i k hi => ?_⟩, fun _ h => h, fun _ _ h _ => h, fun i b k _ _ hb => hk i b hb, by rw [World.size_alloc]; omega, fun b hb _ => Below.heap_alloc w _ b hb, fun i c k hi hc => .inr ⟨i, c, k, hi, hc, rfl⟩⟩
  obtain ⟨b, hb, hB⟩ := h.blk i k hi
  exact ⟨b, hb, by rw [hk i b hb]; exact hB⟩
theorem FR.other {ρ : Names} {E : T AV} {a : Act} (h : FR n ds ρ E a) {d : Nat} (hd : E.get d = none) (v : Value) : FR n ds ρ E (a.put (some d) v) := by
  refine ⟨by simp [Act.put, h.defers], by simp [Act.put, h.size], fun k x hk => ?_⟩
  obtain ⟨u, h1, h2⟩ := h.at_ k x hk
  have hne : d ≠ k := fun e => by rw [← e, hd] at hk; cases hk
  exact ⟨u, by simp only [Act.put]; rw [Array.getElem?_setIfInBounds_ne hne]; exact h1, h2⟩
theorem FR.erase {ρ : Names} {E : T AV} {a : Act} (h : FR n ds ρ E a) (d : Nat) : FR n ds ρ (E.set d none) a := ⟨h.defers, h.size, fun k x hk => by
  rcases T.get_set hk with ⟨_, h2⟩ | ⟨_, h2⟩
  · cases h2
  · exact h.at_ k x h2⟩
theorem T.get_erase {α : Type} (t : T α) (d : Nat) : (t.set d none).get d = none := by
  cases h : (t.set d none).get d with
  | none => rfl
  | some x =>
    rcases T.get_set h with ⟨_, h2⟩ | ⟨h1, _⟩
    · cases h2
    · exact absurd rfl h1
theorem putA_get {E E' : T AV} {dst : Option Nat} {x : AV} {d : Nat} (h : putA n E dst x = some E') (hne : dst ≠ some d) (hd : E.get d = none) : E'.get d = none := by
  unfold putA at h
  split at h
  · rename_i e
    have h := cond_some h
    cases h
    rw [T.get_set_ne _ _ (fun he => hne (by rw [he]))]; exact hd
  · cases h; exact hd
theorem stepA_get {call : CF} {ops : Array Oper} {o : Oper} {E E' : T AV} {H H' : AH} {d : Nat} (h : stepA P tb n call ops o E H = some (E', H')) (hne : o.dst ≠ some d) (hd : E.get d = none) : E'.get d = none := by
  unfold stepA at h
  split at h
  · split at h
    · split at h <;> try (cases h; done)
      rename_i hp; cases h; exact putA_get hp hne hd
    · split at h <;> try (cases h; done)
      rename_i hp; cases h; exact putA_get hp hne hd
    · split at h <;> try (cases h; done)
      split at h <;> try (cases h; done)
      rename_i hp; cases h; exact putA_get hp hne hd
    · split at h <;> try (cases h; done)
      split at h <;> try (cases h; done)
      rename_i hp; cases h; exact putA_get hp hne hd
    · cases h
  · split at h <;> try (cases h; done)
    rename_i hp; cases h; exact putA_get hp hne hd
  · cases h
theorem putA_same {E E' : T AV} {dst : Option Nat} {x : AV} {d : Nat} (h : putA n E dst x = some E') (hne : dst ≠ some d) : E'.get d = E.get d := by
  unfold putA at h
  split at h
  · rename_i e
    have h := cond_some h
    cases h
    rw [T.get_set_ne _ _ (fun he => hne (by rw [he]))]
  · cases h; rfl
theorem stepA_same {call : CF} {ops : Array Oper} {o : Oper} {E E' : T AV} {H H' : AH} {d : Nat} (h : stepA P tb n call ops o E H = some (E', H')) (hne : o.dst ≠ some d) : E'.get d = E.get d := by
  unfold stepA at h
  split at h
  · split at h
    · split at h <;> try (cases h; done)
      rename_i hp; cases h; exact putA_same hp hne
    · split at h <;> try (cases h; done)
      rename_i hp; cases h; exact putA_same hp hne
    · split at h <;> try (cases h; done)
      split at h <;> try (cases h; done)
      rename_i hp; cases h; exact putA_same hp hne
    · split at h <;> try (cases h; done)
      split at h <;> try (cases h; done)
      rename_i hp; cases h; exact putA_same hp hne
    · cases h
  · split at h <;> try (cases h; done)
    rename_i hp; cases h; exact putA_same hp hne
  · cases h
theorem put_other {a : Act} {dst : Option Nat} {v : Value} {d : Nat} (h : dst ≠ some d) : (a.put dst v).tmps[d]? = a.tmps[d]? := by
  cases dst with
  | none => rfl
  | some e => simp only [Act.put]; rw [Array.getElem?_setIfInBounds_ne (fun he => h (by rw [he]))]
theorem runHead_has {call : CF} {ops : Array Oper} {kd : LateK} : ∀ {plan : List (Nat × Bool)} {E E' : T AV} {H H' : AH}, runHead P tb n call ops plan E H = some (E', H') → kd.quiet ops plan = true → kd.has E E' := by
  cases kd with
  | al t => intros; trivial
  | bs t s =>
    intro plan
    induction plan with
    | nil => intro E E' H H' h _; cases h; rfl
    | cons p r ih =>
      obtain ⟨q, b⟩ := p
      intro E E' H H' h hq
      simp only [LateK.quiet, noSlot, Bool.and_eq_true] at hq
      have hne : ∀ o, ops[q]? = some o → o.dst ≠ some s := fun o ho he => by
        have h1 := hq.1
        rw [ho] at h1
        simp only [he] at h1
        simp at h1
      have key : ∀ {E1 : T AV} {H1 H2 : AH} {E2 : T AV}, E1.get s = E.get s → runHead P tb n call ops r E1 H1 = some (E2, H2) → E.get s = E2.get s := fun e1 h2 => e1.symm.trans (ih h2 hq.2)
      cases b with
      | true =>
        simp only [runHead] at h
        split at h
        · rename_i o ho
          split at h
          · split at h
            · split at h
              · rename_i E1 hpu
                split at h
                · rename_i E2 H2 hrun
                  have : E2 = E' := by
                    split at h
                    · cases hel : hasB H2.wr _ with
                      | true => rw [hel] at h; cases h
                      | false => rw [hel] at h; cases h; rfl
                    · cases h; rfl
                  subst this
                  exact key (putA_same hpu (hne o ho)) hrun
                · cases h
              · cases h
            · cases h
          · split at h
            · rename_i E1 hpu
              exact key (putA_same hpu (hne o ho)) h
            · cases h
          · cases h
        · cases h
      | false =>
        simp only [runHead] at h
        split at h
        · rename_i o ho
          split at h
          · rename_i E1 H1 hs
            exact key (stepA_same hs (hne o ho)) h
          · cases h
        · cases h
structure Made (w0 : World) (Bs d : Nat) (V : Nat → Value) (cells : List AV) (t : TypeId) (ρ : Names) (H : AH) (a : Act) (w : World) (b : Nat) : Prop where
  slot : a.tmps[d]? = some (V b)
  blk : ∃ z : Array Value, w.heap[b]? = some (.cells z t (0, 0)) ∧ VRL ρ cells z.toList
  big : w0.heap.size ≤ b
  late : Bs ≤ b
  un : ∀ (i : Nat) (c : Nat × Nat) (x : ABlk), H.get i = some x → ρ[i]? = some c → c.1 ≠ b
theorem Made.post {Bs d : Nat} {V : Nat → Value} {cells : List AV} {t : TypeId} {ρ ρ' : Names} {H H' : AH} {a a' : Act} {w w' : World} {b : Nat} (h : Made w0 Bs d V cells t ρ H a w b) (hP : Post w0 ρ H w ρ' H' w') (ha : a'.tmps[d]? = a.tmps[d]?) : Made w0 Bs d V cells t ρ' H' a' w' b := by
  obtain ⟨z, hz, hv⟩ := h.blk
  have hlt := (Array.getElem?_eq_some_iff.1 hz).1
  refine ⟨by rw [ha]; exact h.slot, ⟨z, by rw [hP.frame b hlt h.un]; exact hz, hv.ext hP.ext⟩, h.big, h.late, fun i c x hi hc he => ?_⟩
  rcases hP.fresh i c x hi hc with h1 | ⟨j, e, y, h1, h2, h3⟩
  · omega
  · exact h.un j e y h1 h2 (h3.trans he)
theorem has_refl (kd : LateK) (E : T AV) : kd.has E E := by cases kd <;> first | trivial | rfl
theorem runLate_ok (ok : TOk P tb w0) {call : CF} (hc : CallOk P w0 call) (hcw : CallWr call) {rc : Option Nat} {ops : Array Oper} (hnd : noDefer ops = true) {Q : Exit → Act → World → Prop} {m i d Bs : Nat} {t : TypeId} {oi : Oper} {V : Nat → Value} {cells : List AV} {kd : LateK} (hoi : ops[i]? = some oi) (hdst : oi.dst = some d) (hgd : oi.guard = none) (him : i < m) (hdn : d < n)
    (hno : noDst d i ops.toList 0 = true) {p2 : List (Nat × Bool)} :
    ∀ {plan : List (Nat × Bool)} {listed : Array Bool} {E E' : T AV} {H H' : AH}, runHead P tb n call ops plan E H = some (E', H') → LogOk P w0 H'.wr → planOkL ops m i kd p2 listed plan = true →
    (∀ {ρ : Names} {E0 : T AV} {a : Act}, FR n ds ρ E0 a → kd.has E0 E' → ∃ z : Array Value, VRL ρ cells z.toList ∧ ∀ w : World, (execOp a.eval oi).run P w = .ok (.value (V w.heap.size)) (w.alloc (.cells z t))) →
    HeadInv .any ops m listed → E.get d = none → ∀ {ρ : Names} {a : Act} {w : World}, FR n ds ρ E a → HR w0 ρ H w → w0.heap.size ≤ Bs → Bs ≤ w.heap.size →
    (∀ ρ' a' w' b L, planOk ops m L p2 = true → HeadInv .any ops m L → FR n ds ρ' E' a' → Post w0 ρ H w ρ' H' w' → Made w0 Bs d V cells t ρ' H' a' w' b → wpHeadR P rc ops (ON Q) m (Still w0 ρ' H' H'.wr w') (ZtR P rc ops (ON Q) m) p2.length L a' w') →
    (i ∈ Region.ready .any ops listed → ∀ b, Made w0 Bs d V cells t ρ H a w b → wpHeadR P rc ops (ON Q) m (Still w0 ρ H H'.wr w) (ZtR P rc ops (ON Q) m) (p2.length + plan.length) (listed.setIfInBounds i true) a w) ∧
    (wpHeadR P rc ops (ON Q) m (Still w0 ρ H H'.wr w) (ZtR P rc ops (ON Q) m) (p2.length + plan.length + 1) listed a w) := by
  have hdo : ∀ (q : Nat) (o : Oper), ops[q]? = some o → q ≠ i → o.dst ≠ some d := fun q o ho hq => noDst_ok hno q o (by simpa using ho) (by simpa using hq)
  -- the variable is made now
  have make : ∀ {f : Nat} {listed : Array Bool} {E : T AV} {H : AH} {M : List Wr} {ρ : Names} {a : Act} {w : World}, E.get d = none → (∃ z : Array Value, VRL ρ cells z.toList ∧ ∀ w : World, (execOp a.eval oi).run P w = .ok (.value (V w.heap.size)) (w.alloc (.cells z t))) → FR n ds ρ E a → HR w0 ρ H w → w0.heap.size ≤ Bs → Bs ≤ w.heap.size →
      (∀ a' w', FR n ds ρ E a' → Post w0 ρ H w ρ H w' → Made w0 Bs d V cells t ρ H a' w' w.heap.size → wpHeadR P rc ops (ON Q) m (Still w0 ρ H M w') (ZtR P rc ops (ON Q) m) f (listed.setIfInBounds i true) a' w') →
      wpOpIn (FD rc) 0 P ops (ON Q) i (fun a' w' => Still w0 ρ H M w w' ∧ wpHeadR P rc ops (ON Q) m (Still w0 ρ H M w) (ZtR P rc ops (ON Q) m) f (listed.setIfInBounds i true) a' w') a w := by
    intro f listed E H M ρ a w hE hz hF hH hB0 hB k
    obtain ⟨z, hzv, hrunA⟩ := hz
    unfold wpOpIn
    have hw : Region.wanted oi (yielded ops a.tmps) = true := by unfold Region.wanted; rw [hgd]
    simp only [hoi, hw, if_true]
    unfold Oper.wpIn
    refine ⟨fun _ _ => trivial, ?_⟩
    rw [Oper.semAt_eq _ _ _ (noDefer_ok hnd hoi), hrunA w]
    simp only [Oper.uponIn, hdst]
    have hP := hH.extra (.cells z t)
    have hst : Still w0 ρ H M w (w.alloc (.cells z t)) := ⟨hP.hr.bel, fun j b kk hj _ hb => Below.heap_alloc w _ b.1 (hH.rng j b hb).2⟩
    refine ⟨hst, wpHeadR_mono (fun w' hw' => ?_) _ _ _ _ (k _ _ (hF.other hE _) hP ⟨?_, ⟨z, heap_alloc_new w _, hzv⟩, Nat.le_trans hB0 hB, hB, fun j c x hj hc he => ?_⟩)⟩
    · refine ⟨hw'.1, ?_⟩
      intro j b kk hj hn hb
      rw [hw'.2 j b kk hj hn hb]; exact hst.2 j b kk hj hn hb
    · simp [Act.put, hF.size, hdn]
    · have := (hH.rng j c hc).2
      omega
  intro plan
  induction plan with
  | nil =>
    intro listed E E' H H' h hlog hp hA inv hE ρ a w hF hH hB0 hB k
    cases h
    simp only [planOkL, Bool.and_eq_true] at hp
    have hrd := listIs_ok hp.1
    have inv' := inv.set (by rw [hrd]; simp : i ∈ Region.ready .any ops listed) him
    have v1 : ∀ b, Made w0 Bs d V cells t ρ H a w b → wpHeadR P rc ops (ON Q) m (Still w0 ρ H H.wr w) (ZtR P rc ops (ON Q) m) p2.length (listed.setIfInBounds i true) a w := fun b hb => k ρ a w b _ hp.2 inv' hF (Post.refl hH) hb
    refine ⟨fun _ => v1, ⟨by rw [hrd]; simp, fun j hj => ?_⟩⟩
    rw [hrd] at hj
    have : j = i := by simpa using hj
    subst this
    exact ⟨him, make hE (hA hF (has_refl kd _)) hF hH hB0 hB (fun a' w' hF' hP' hM' => k ρ a' w' _ _ hp.2 inv' hF' hP' hM')⟩
  | cons p r ih =>
    obtain ⟨q, quiet⟩ := p
    intro listed E E' H H' h hlog hp hA inv hE ρ a w hF hH hB0 hB k
    have h0 := h
    cases quiet with
    | true =>
      simp only [planOkL, Bool.and_eq_true] at hp
      obtain ⟨⟨⟨hqi, hk0⟩, hk1⟩, hp⟩ := hp
      have hqi' : q ≠ i := fun e => by rw [e] at hqi; simp at hqi
      have spl : ∀ {l : Array Bool}, takeOk ops m l q = true → q < m ∧ tailOk ops m = true ∧ Region.noSelect ops = true ∧ Region.free .any ops l q = true ∧ q ∈ Region.ready .any ops l := fun {l} hk => by
        simp only [takeOk, Bool.and_eq_true, decide_eq_true_eq] at hk
        obtain ⟨⟨⟨⟨a1, a2⟩, a3⟩, a4⟩, a5⟩ := hk
        exact ⟨a1, a2, a3, a4, by simpa using a5⟩
      obtain ⟨hqm, ht, hsel, hf0, hr0⟩ := spl hk0
      have hk2 : i ∈ Region.ready .any ops listed → takeOk ops m (listed.setIfInBounds i true) q = true := fun hir => by
        rcases Bool.or_eq_true _ _ |>.mp hk1 with h1 | h1
        · rw [show (Region.ready .any ops listed).contains i = true by simpa using hir] at h1; cases h1
        · exact (Bool.and_eq_true _ _ |>.mp h1).1
      have hcomm : (listed.setIfInBounds i true).setIfInBounds q true = (listed.setIfInBounds q true).setIfInBounds i true := Array.setIfInBounds_comm _ _ (Ne.symm hqi')
      simp only [runHead] at h
      split at h
      · rename_i o ho
        have hod := hdo q o ho hqi'
        have fin : ∀ {E1 : T AV} {x : AV} {v : Value}, runHead P tb n call ops r E1 H = some (E', H') → putA n E o.dst x = some E1 → VR ρ x v → YieldsIf P ops (Still w0 ρ H H'.wr w) o v a →
            (i ∈ Region.ready .any ops listed → ∀ b, Made w0 Bs d V cells t ρ H a w b → wpHeadR P rc ops (ON Q) m (Still w0 ρ H H'.wr w) (ZtR P rc ops (ON Q) m) (p2.length + ((q, true) :: r).length) (listed.setIfInBounds i true) a w) ∧
            (wpHeadR P rc ops (ON Q) m (Still w0 ρ H H'.wr w) (ZtR P rc ops (ON Q) m) (p2.length + ((q, true) :: r).length + 1) listed a w) := by
          intro E1 x v hrun hpu hv hy
          have hF1 := putA_ok hF hpu hv
          have inv1 := inv.set hr0 hqm
          obtain ⟨g1, g2⟩ := ih hrun hlog hp hA inv1 (putA_get hpu hod hE) hF1 hH hB0 hB k
          refine ⟨fun hir b hb => ?_, ?_⟩
          · obtain ⟨_, _, _, hf1, hr1⟩ := spl (hk2 hir)
            have inv' := inv.set hir him
            refine head_firstR hnd ho hsel ht hqm ztR_done (p2.length + r.length) (listed.setIfInBounds i true) a w inv' (Region.free_spec ho hf1) hr1 hy ⟨hH.bel, fun _ _ _ _ _ _ => rfl⟩ ?_
            rw [hcomm]
            exact g1 (ready_mono hir (Ne.symm hqi')) b (hb.post (Post.refl hH) (put_other hod))
          · refine head_firstR hnd ho hsel ht hqm ztR_done (p2.length + r.length + 1) listed a w inv (Region.free_spec ho hf0) hr0 hy ⟨hH.bel, fun _ _ _ _ _ _ => rfl⟩ g2
        split at h
        · rename_i hg
          split at h
          · rename_i x hx
            split at h
            · rename_i E1 hpu
              split at h
              · rename_i E2 H2 hrun
                have hfin : E2 = E' ∧ H2 = H' ∧ ∀ id, touch E o = some id → Wr.b id ∉ H'.wr := by
                  split at h
                  · rename_i id hid
                    cases hel : hasB H2.wr id with
                    | true => rw [hel] at h; cases h
                    | false =>
                      rw [hel] at h
                      cases h
                      refine ⟨rfl, rfl, fun id' h' hmem => ?_⟩
                      rw [hid] at h'
                      cases h'
                      exact hasB_no hel hmem
                  · rename_i hid
                    cases h
                    exact ⟨rfl, rfl, fun id' h' => by rw [hid] at h'; cases h'⟩
                obtain ⟨rfl, rfl, hnot⟩ := hfin
                obtain ⟨v, hv, hrd⟩ := execQ_ok ok hF hH hx
                refine fin hrun hpu hv (.inl ⟨guardA_ok hF hg, fun w' hw' => hrd w' ⟨hw'.1, fun id b hid hb => ?_⟩⟩)
                obtain ⟨kk, hkk⟩ := touch_get hid hx
                exact hw'.2 id b kk hkk (hnot id hid) hb
              · cases h
            · cases h
          · cases h
        · rename_i hg
          split at h
          · rename_i E1 hpu
            exact fin h hpu VR.pl (.inr ⟨guardA_ok hF hg, rfl⟩)
          · cases h
        · cases h
      · cases h
    | false =>
      simp only [planOkL, Bool.and_eq_true, Nat.blt_eq] at hp
      obtain ⟨⟨⟨⟨hqi, hl0⟩, hl1⟩, hqm⟩, hp⟩ := hp
      have hqi' : q ≠ i := fun e => by rw [e] at hqi; simp at hqi
      have hrd0 := listIs_ok hl0
      have hl2 : i ∈ Region.ready .any ops listed → listIs (Region.ready .any ops (listed.setIfInBounds i true)) q = true ∧ kd.quiet ops ((q, false) :: r) = true := fun hir => by
        rcases Bool.or_eq_true _ _ |>.mp hl1 with h1 | h1
        · rw [show (Region.ready .any ops listed).contains i = true by simpa using hir] at h1; cases h1
        · exact Bool.and_eq_true _ _ |>.mp h1
      have hr0 : q ∈ Region.ready .any ops listed := without_sub (i := i) (by rw [hrd0]; simp)
      have hcomm : (listed.setIfInBounds i true).setIfInBounds q true = (listed.setIfInBounds q true).setIfInBounds i true := Array.setIfInBounds_comm _ _ (Ne.symm hqi')
      simp only [runHead] at h
      split at h
      · rename_i o ho
        have hod := hdo q o ho hqi'
        split at h
        · rename_i E1 H1 hs
          have g1 := runHead_wr hcw h
          have inv1 := inv.set hr0 hqm
          -- one step of the operation q from a state (a, w)
          have v1 : i ∈ Region.ready .any ops listed → ∀ {a : Act} {w : World}, FR n ds ρ E a → HR w0 ρ H w → Bs ≤ w.heap.size → (∀ ρ' a' w' b L, planOk ops m L p2 = true → HeadInv .any ops m L → FR n ds ρ' E' a' → Post w0 ρ H w ρ' H' w' → Made w0 Bs d V cells t ρ' H' a' w' b → wpHeadR P rc ops (ON Q) m (Still w0 ρ' H' H'.wr w') (ZtR P rc ops (ON Q) m) p2.length L a' w') → ∀ b, Made w0 Bs d V cells t ρ H a w b →
              wpHeadR P rc ops (ON Q) m (Still w0 ρ H H'.wr w) (ZtR P rc ops (ON Q) m) (p2.length + ((q, false) :: r).length) (listed.setIfInBounds i true) a w := by
            intro hir a w hF hH hB k b hb
            have hrd1 := listIs_ok (hl2 hir).1
            refine ⟨by rw [hrd1]; simp, fun j hj => ?_⟩
            rw [hrd1] at hj
            have : j = q := by simpa using hj
            subst this
            refine ⟨hqm, ?_⟩
            unfold wpOpIn
            simp only [ho]
            refine stepA_ok ok hc hs (hlog.mono g1) hF hH (fun ρ1 v1 w1 hF1 hP1 => ?_)
            have hst : Still w0 ρ H H'.wr w w1 := ⟨hP1.hr.bel, fun l bb kk hl hn hbb => hP1.kept l bb kk hl (fun hm => hn (g1 _ hm)) hbb⟩
            have g2 := (ih h hlog hp hA inv1 (stepA_get hs hod hE) hF1 hP1.hr hB0 (Nat.le_trans hB hP1.size) (fun ρ' a' w' b' L hL iL hF' hP' hM' => k ρ' a' w' b' L hL iL hF' (hP1.trans hP') hM')).1 (ready_mono hir (Ne.symm hqi')) b (hb.post hP1 (put_other hod))
            rw [hcomm]
            refine ⟨hst, wpHeadR_mono (fun w' hw' => ?_) _ _ _ _ g2⟩
            refine ⟨hw'.1, ?_⟩
            intro l bb kk hl hn hbb
            rw [hw'.2 l bb kk (hP1.same l kk hl (fun hm => hn (g1 _ hm))) hn (hP1.ext l bb hbb)]
            exact hst.2 l bb kk hl hn hbb
          refine ⟨fun hir => v1 hir hF hH hB k, ⟨(fun h0 => by rw [h0] at hr0; cases hr0), fun j hj => ?_⟩⟩
          rcases without_mem (i := i) hj with hji | hj
          · subst hji
            exact ⟨him, make hE (hA hF (runHead_has h0 (hl2 hj).2)) hF hH hB0 hB (fun a' w' hF' hP' hM' => v1 hj hF' hP'.hr (Nat.le_trans hB hP'.size) (fun ρ2 a2 w2 b2 L hL iL hF2 hP2 hM2 => k ρ2 a2 w2 b2 L hL iL hF2 (hP'.trans hP2) hM2) _ hM')⟩
          · rw [hrd0] at hj
            have : j = q := by simpa using hj
            subst this
            refine ⟨hqm, ?_⟩
            unfold wpOpIn
            simp only [ho]
            refine stepA_ok ok hc hs (hlog.mono g1) hF hH (fun ρ1 v1 w1 hF1 hP1 => ?_)
            have hst : Still w0 ρ H H'.wr w w1 := ⟨hP1.hr.bel, fun l bb kk hl hn hbb => hP1.kept l bb kk hl (fun hm => hn (g1 _ hm)) hbb⟩
            have g2 := (ih h hlog hp hA inv1 (stepA_get hs hod hE) hF1 hP1.hr hB0 (Nat.le_trans hB hP1.size) (fun ρ' a' w' b' L hL iL hF' hP' hM' => k ρ' a' w' b' L hL iL hF' (hP1.trans hP') hM')).2
            refine ⟨hst, wpHeadR_mono (fun w' hw' => ?_) _ _ _ _ g2⟩
            refine ⟨hw'.1, ?_⟩
            intro l bb kk hl hn hbb
            rw [hw'.2 l bb kk (hP1.same l kk hl (fun hm => hn (g1 _ hm))) hn (hP1.ext l bb hbb)]
            exact hst.2 l bb kk hl hn hbb
        · cases h
      · cases h
def evPlan (P : Program) (tb : Tab) (n : Nat) (call : CF) (ops : Array Oper) (m : Nat) (E : T AV) (H : AH) : Option (T AV × AH) :=
  let plan := mkPlan tb ops m (Array.replicate ops.size false)
  bif planOk ops m (Array.replicate ops.size false) plan && Nat.beq plan.length m && Nat.ble m ops.size && noDefer ops then
    (match runHead P tb n call ops plan E ⟨H.t, H.next, []⟩ with
     | some (E1, H1) => evOps P tb n call ops (ops.toList.drop m) E1 ⟨H1.t, H1.next, H1.wr ++ H.wr⟩
     | none => none) else none
def LateK.blk (tb : Tab) (E : T AV) : LateK → Option (List AV × TypeId)
  | .al t => (match tb.ty.get t with | some ti => some (plMap ti.zero, t) | none => none)
  | .bs t s => (match buildSliceA tb E ⟨.l, 0, []⟩ t 1 [(0, .tmp s)] with
    | some (_, H') => (match H'.get 0 with | some k => some (k.cells, k.ty) | none => none)
    | none => none)
def LateK.av (id : Nat) : LateK → AV
  | .al _ => .ptr id 0
  | .bs _ _ => .sl id 0 1 (.k 1)
def LateK.val : LateK → Nat → Value
  | .al _, b => .pointer (some ⟨b, 0, none⟩)
  | .bs _ _, b => .slice (some ⟨b, 0, none⟩) 1 1
def lateRun (P : Program) (tb : Tab) (n : Nat) (call : CF) (ops : Array Oper) (d : Nat) (kd : LateK) (plan p2 : List (Nat × Bool)) (X : List Wr) (E : T AV) (H : AH) : Option (T AV × AH × AH) :=
  match runHead P tb n call ops plan (E.set d none) ⟨H.t, H.next, X⟩ with
  | some (E1, H1) => (match kd.blk tb E1 with
    | some (cells, t) => (match runHead P tb n call ops p2 (E1.set d (some (kd.av H1.next))) ((⟨H1.t, H1.next, []⟩ : AH).new ⟨cells, t, false, 0, 0, .c⟩) with
      | some (E3, H3) => some (E3, H1, H3)
      | none => none)
    | none => none)
  | none => none
def evLate (P : Program) (tb : Tab) (n : Nat) (call : CF) (ops : Array Oper) (m : Nat) (E : T AV) (H : AH) : Option (T AV × AH) :=
  match lateOf ops ops.toList 0 with
  | some (i, d, kd) =>
    let plan := mkPlanL tb ops i m (Array.replicate ops.size false)
    let p2 := mkPlan tb ops (m - (plan.length + 1)) ((listedBy (Array.replicate ops.size false) plan).setIfInBounds i true)
    bif planOkL ops m i kd p2 (Array.replicate ops.size false) plan && noDst d i ops.toList 0 && Nat.beq (p2.length + plan.length + 1) m && Nat.ble m ops.size && Nat.blt i m && Nat.blt d n && noDefer ops then
      (match lateRun P tb n call ops d kd plan p2 [] E H with
       | some (E3, H1, H3) => bif onlyWr H1.next H1.wr H3.wr then evOps P tb n call ops (ops.toList.drop m) E3 ⟨H3.t, H3.next, H3.wr ++ (H1.wr ++ H.wr)⟩ else
         (match lateRun P tb n call ops d kd plan p2 (oldWr H1.next H3.wr) E H with
          | some (E3, H1, H3) => bif onlyWr H1.next H1.wr H3.wr then evOps P tb n call ops (ops.toList.drop m) E3 ⟨H3.t, H3.next, H3.wr ++ (H1.wr ++ H.wr)⟩ else none
          | none => none)
       | none => none) else none
  | none => none
def evDraw (P : Program) (tb : Tab) (n : Nat) (call : CF) (ops : Array Oper) (E : T AV) (H : AH) : Option (T AV × AH) :=
  match evPlan P tb n call ops (headLen ops.toList 0 0) E H with
  | some r => some r
  | none => match evPlan P tb n call ops ops.size E H with
    | some r => some r
    | none => match evLate P tb n call ops (headLen ops.toList 0 0) E H with
      | some r => some r
      | none => evLate P tb n call ops ops.size E H
theorem HR.setWr {ρ : Names} {H : AH} {w : World} (h : HR w0 ρ H w) (l : List Wr) : HR w0 ρ ⟨H.t, H.next, l⟩ w := ⟨h.bel, h.len, h.rng, h.inj, h.blk⟩
theorem Post.setWr {ρ ρ1 : Names} {H H1 : AH} {w w1 : World} {X : List Wr} (h : Post w0 ρ ⟨H.t, H.next, X⟩ w ρ1 H1 w1) : Post w0 ρ H w ρ1 ⟨H1.t, H1.next, H1.wr ++ H.wr⟩ w1 :=
  ⟨h.ext, h.hr.setWr _, fun i hi => List.mem_append_right _ hi, fun i k hi hn => h.same i k hi (fun hm => hn (List.mem_append_left _ hm)), fun i b k hi hn hb => h.kept i b k hi (fun hm => hn (List.mem_append_left _ hm)) hb, h.size, h.frame, h.fresh⟩
theorem Post.ofDrew {ρ ρ1 : Names} {H H1 : AH} {w w1 : World} (h : Post w0 ρ H w.drew ρ1 H1 w1) : Post w0 ρ H w ρ1 H1 w1 := ⟨h.ext, h.hr, h.wr, h.same, h.kept, h.size, h.frame, h.fresh⟩
theorem evPlan_ok (ok : TOk P tb w0) {call : CF} (hc : CallOk P w0 call) (hcw : CallWr call) {rc : Option Nat} {id m : Nat} {ops : Array Oper} {Q : Exit → Act → World → Prop} {E E' : T AV} {H H' : AH} (h : evPlan P tb n call ops m E H = some (E', H')) (hlog : LogOk P w0 H'.wr) {ρ : Names} {a : Act} {w : World} (hF : FR n ds ρ E a) (hH : HR w0 ρ H w)
    (k : ∀ ρ' a' w', FR n ds ρ' E' a' → Post w0 ρ H w ρ' H' w' → Q .normal a' w') : (Code.region id ops true).wpIn (FD rc) 0 P Q a w := by
  unfold evPlan at h
  simp only at h
  cases hq : (planOk ops m (Array.replicate ops.size false) (mkPlan tb ops m (Array.replicate ops.size false)) && Nat.beq (mkPlan tb ops m (Array.replicate ops.size false)).length m && Nat.ble m ops.size && noDefer ops) with
  | false => rw [hq] at h; cases h
  | true =>
    rw [hq] at h
    simp only [cond_true] at h
    simp only [Bool.and_eq_true, Nat.ble_eq] at hq
    obtain ⟨⟨⟨q1, q2⟩, q3⟩, hnd⟩ := hq
    have q2 := Nat.eq_of_beq_eq_true q2
    split at h
    · rename_i E1 H1 hrun
      have hl1 : LogOk P w0 H1.wr := hlog.mono (fun i hi => evOps_wr hcw h i (List.mem_append_left _ hi))
      refine drawR_wp (S := Still w0 ρ ⟨H.t, H.next, []⟩ H1.wr w.drew) ok.mix q3 (fun inv => ?_)
      have := runHead_ok ok hc hcw (rc := rc) hnd (Q := Q) hrun hl1 q1 inv (ρ := ρ) (a := a) (w := w.drew) hF (hH.drew.setWr _) (fun ρ1 a1 w1 hF1 hP1 => by
        have hP1' : Post w0 ρ H w ρ1 ⟨H1.t, H1.next, H1.wr ++ H.wr⟩ w1 := (Post.setWr hP1).ofDrew
        exact evOps_ok (Q := ON Q) ok hc hcw h hlog hF1 hP1'.hr (fun ρ2 a2 w2 hF2 hP2 => k ρ2 a2 w2 hF2 (hP1'.trans hP2)))
      rw [q2] at this
      exact this
    · cases h
def LateK.is : LateK → Op → Prop
  | .al t, op => op = .alloc t
  | .bs t s, op => op = .buildSlice t 1 #[(0, .tmp s)]
theorem lateOf_ok {ops : Array Oper} : ∀ {l : List Oper} {j i d : Nat} {kd : LateK}, lateOf ops l j = some (i, d, kd) → ∃ o, j ≤ i ∧ l[i - j]? = some o ∧ kd.is o.op ∧ o.dst = some d ∧ o.guard = none
  | [], _, _, _, _, h => by cases h
  | o :: r, j, i, d, kd, h => by
    have more : lateOf ops r (j + 1) = some (i, d, kd) → ∃ o', j ≤ i ∧ (o :: r)[i - j]? = some o' ∧ kd.is o'.op ∧ o'.dst = some d ∧ o'.guard = none := fun h => by
      obtain ⟨o', h1, h2, h3⟩ := lateOf_ok h
      refine ⟨o', by omega, ?_, h3⟩
      rw [show i - j = (i - (j + 1)) + 1 by omega]
      simpa using h2
    simp only [lateOf] at h
    split at h
    · rename_i t' d' h1 h2 h3
      cases h
      exact ⟨o, Nat.le_refl _, by simp, h1, h2, h3⟩
    · rename_i t' ps d' h1 h2 h3
      split at h
      · rename_i s hs
        cases h
        exact ⟨o, Nat.le_refl _, by simp, by show o.op = _; rw [h1]; congr 1; exact Array.toList_inj.1 hs, h2, h3⟩
      · exact more h
    · exact more h
theorem late_run (ok : TOk P tb w0) {kd : LateK} {oi : Oper} (hop : kd.is oi.op) {E' : T AV} {cells : List AV} {t : TypeId} (hb : kd.blk tb E' = some (cells, t)) {ρ : Names} {E0 : T AV} {a : Act} (hF : FR n ds ρ E0 a) (hh : kd.has E0 E') :
    ∃ z : Array Value, VRL ρ cells z.toList ∧ ∀ w : World, (execOp a.eval oi).run P w = .ok (.value (kd.val w.heap.size)) (w.alloc (.cells z t)) := by
  obtain ⟨x1, x2, x3, x4, x5, x6⟩ := oi
  cases kd with
  | al t' =>
    simp only [LateK.is] at hop
    subst hop
    simp only [LateK.blk] at hb
    split at hb
    · rename_i ti hti
      cases hb
      obtain ⟨dd, inf, z, hd, hinf, hz, hk, hs, _, hzero⟩ := ok.at_ hti
      exact ⟨z.cells, by rw [hzero]; exact VRL.plMap _, fun w => by simp [execOp, Instr.alloc, zeroValue, typeInfo, hinf, hz, newVar, newRow, LateK.val]⟩
    · cases hb
  | bs t' s =>
    simp only [LateK.is] at hop
    subst hop
    simp only [LateK.blk] at hb
    split at hb
    · rename_i y H' hbs
      split at hb
      · rename_i k hk
        cases hb
        have hE : buildSliceA tb E0 ⟨.l, 0, []⟩ t' 1 (#[(0, Operand.tmp s)] : Array (Nat × Operand)).toList = some (y, H') := by
          rw [← hbs]
          have he : E0.get s = E'.get s := hh
          simp only [buildSliceA, partsA, opnd, he]
        obtain ⟨c, e, z, rfl, rfl, hv, _, hr⟩ := buildSliceA_run (H := ⟨.l, 0, []⟩) ok hF hE
        rcases AH.get_new hk with ⟨_, rfl⟩ | ⟨h1, _⟩
        · refine ⟨z, hv, fun w => ?_⟩
          have h1 := hr w
          simp only [List.map_toArray, List.map_cons, List.map_nil] at h1
          simp [execOp, LateK.val, h1]
        · exact absurd rfl h1
      · cases hb
    · cases hb
theorem lateRun_ok (ok : TOk P tb w0) {call : CF} (hc : CallOk P w0 call) (hcw : CallWr call) {rc : Option Nat} {id m i d : Nat} {kd : LateK} {plan p2 : List (Nat × Bool)} {X : List Wr} {ops : Array Oper} {Q : Exit → Act → World → Prop} {E E3 E' : T AV} {H H1 H3 H' : AH} (hlate : lateOf ops ops.toList 0 = some (i, d, kd))
    (q1 : planOkL ops m i kd p2 (Array.replicate ops.size false) plan = true) (q3 : noDst d i ops.toList 0 = true) (q4 : p2.length + plan.length + 1 = m) (q5 : m ≤ ops.size) (q6 : i < m) (q7 : d < n) (hnd : noDefer ops = true)
    (hr : lateRun P tb n call ops d kd plan p2 X E H = some (E3, H1, H3)) (how : onlyWr H1.next H1.wr H3.wr = true) (h : evOps P tb n call ops (ops.toList.drop m) E3 ⟨H3.t, H3.next, H3.wr ++ (H1.wr ++ H.wr)⟩ = some (E', H')) (hlog : LogOk P w0 H'.wr) {ρ : Names} {a : Act} {w : World} (hF : FR n ds ρ E a) (hH : HR w0 ρ H w)
    (k : ∀ ρ' a' w', FR n ds ρ' E' a' → Post w0 ρ H w ρ' H' w' → Q .normal a' w') : (Code.region id ops true).wpIn (FD rc) 0 P Q a w := by
  obtain ⟨oi, _, hoi, hop, hdst, hgd⟩ := lateOf_ok hlate
  have hoi' : ops[i]? = some oi := by simpa using hoi
  unfold lateRun at hr
  split at hr
  case h_2 => cases hr
  rename_i E1 H1' hrun
  split at hr
  case h_2 => cases hr
  rename_i cells t hblk
  split at hr
  case h_2 => cases hr
  rename_i E3' H3' hrun2
  cases hr
  have hl1 : LogOk P w0 H1.wr := hlog.mono (fun i hi => evOps_wr hcw h i (List.mem_append_right _ (List.mem_append_left _ hi)))
  have hl3 : LogOk P w0 H3.wr := hlog.mono (fun i hi => evOps_wr hcw h i (List.mem_append_left _ hi))
  refine drawR_wp (S := Still w0 ρ ⟨H.t, H.next, X⟩ H1.wr w.drew) ok.mix q5 (fun inv => ?_)
  have := (runLate_ok ok hc hcw (rc := rc) hnd (Q := Q) (Bs := w.heap.size) (V := kd.val) (cells := cells) (t := t) hoi' hdst hgd q6 q7 q3 hrun hl1 q1 (fun hF0 hh => late_run ok hop hblk hF0 hh) inv (T.get_erase E d) (ρ := ρ) (a := a) (w := w.drew) (hF.erase d) (hH.drew.setWr _) hH.bel.size (Nat.le_refl _) (p2 := p2) (fun ρ1 a1 w1 b L hL iL hF1 hP1 hM => by
    have hP1' : Post w0 ρ H w ρ1 ⟨H1.t, H1.next, H1.wr ++ H.wr⟩ w1 := (Post.setWr hP1).ofDrew
    obtain ⟨z, hzb, hzv⟩ := hM.blk
    have hlt := (Array.getElem?_eq_some_iff.1 hzb).1
    have hN := HR.name hP1'.hr ⟨cells, t, false, 0, 0, .c⟩ b 0 (w' := w1) hP1'.hr.bel (Nat.le_refl _) ⟨hM.big, hlt⟩ hM.un (fun _ _ _ _ _ => rfl)
      (.inl ⟨rfl, z.toList, [], (0, 0), by simpa using hzb, hzv, fun _ => rfl, (fun h => by cases h), .inl rfl⟩)
    have hP2 : Post w0 ρ H w (ρ1 ++ [(b, 0)]) ((⟨H1.t, H1.next, H1.wr ++ H.wr⟩ : AH).new ⟨cells, t, false, 0, 0, .c⟩) w1 := by
      refine ⟨hP1'.ext.trans (Ext.snoc _ _), hN.1, hP1'.wr, fun j x hj hn => AH.new_same hP1'.hr _ (hP1'.same j x hj hn), hP1'.kept, hP1'.size, hP1'.frame, fun j c x hj hc => ?_⟩
      rcases name_fresh hP1'.hr hj hc with h1 | ⟨h1, h2⟩
      · exact .inl (by rw [h1]; exact hM.late)
      · exact hP1'.fresh j c x h1 h2
    have hF2 : FR n ds (ρ1 ++ [(b, 0)]) (E1.set d (some (kd.av H1.next))) a1 := by
      refine ⟨hF1.defers, hF1.size, fun kk x hkk => ?_⟩
      rcases T.get_set hkk with ⟨rfl, h2⟩ | ⟨_, h2⟩
      · cases h2
        refine ⟨_, hM.slot, ?_⟩
        cases kd with
        | al _ => simp only [LateK.av, LateK.val]; rw [VR]; exact ⟨(b, 0), hN.2, rfl⟩
        | bs _ _ => simp only [LateK.av, LateK.val]; rw [VR]; exact ⟨(b, 0), 1, hN.2, rfl, Nat.le_refl _, by simp only [maxLen]; omega, rfl⟩
      · obtain ⟨u, h3, h4⟩ := hF1.at_ kk x h2
        exact ⟨u, h3, h4.ext (Ext.snoc _ _)⟩
    have hd := runHead_ok ok hc hcw (rc := rc) hnd (Q := Q) (H := (⟨H1.t, H1.next, []⟩ : AH).new ⟨cells, t, false, 0, 0, .c⟩) hrun2 hl3 hL iL hF2 (hP2.hr.setWr []) (fun ρ3 a3 w3 hF3 hP3 => by
      have hP3' : Post w0 (ρ1 ++ [(b, 0)]) ((⟨H1.t, H1.next, H1.wr ++ H.wr⟩ : AH).new ⟨cells, t, false, 0, 0, .c⟩) w1 ρ3 ⟨H3.t, H3.next, H3.wr ++ (H1.wr ++ H.wr)⟩ w3 := Post.setWr hP3
      exact evOps_ok (Q := ON Q) ok hc hcw h hlog hF3 hP3'.hr (fun ρ4 a4 w4 hF4 hP4 => k ρ4 a4 w4 hF4 (hP2.trans (hP3'.trans hP4))))
    refine wpHeadR_mono (fun w' hw' => ?_) _ _ _ _ hd
    refine ⟨hw'.1, ?_⟩
    intro l bb kk hl hn hbb
    have hlt : l < H1.next := hP1'.hr.fresh hl
    exact hw'.2 l bb kk (AH.new_same hP1'.hr _ hl) (fun hm => hn (onlyWr_ok how l hm hlt)) ((Ext.snoc ρ1 (b, 0)) l bb hbb))).2
  rw [q4] at this
  exact this
theorem evLate_ok (ok : TOk P tb w0) {call : CF} (hc : CallOk P w0 call) (hcw : CallWr call) {rc : Option Nat} {id m : Nat} {ops : Array Oper} {Q : Exit → Act → World → Prop} {E E' : T AV} {H H' : AH} (h : evLate P tb n call ops m E H = some (E', H')) (hlog : LogOk P w0 H'.wr) {ρ : Names} {a : Act} {w : World} (hF : FR n ds ρ E a) (hH : HR w0 ρ H w)
    (k : ∀ ρ' a' w', FR n ds ρ' E' a' → Post w0 ρ H w ρ' H' w' → Q .normal a' w') : (Code.region id ops true).wpIn (FD rc) 0 P Q a w := by
  unfold evLate at h
  simp only at h
  split at h
  · rename_i i d kd hlate
    generalize hpl : mkPlanL tb ops i m (Array.replicate ops.size false) = plan at h
    generalize hp2 : mkPlan tb ops (m - (plan.length + 1)) ((listedBy (Array.replicate ops.size false) plan).setIfInBounds i true) = p2 at h
    cases hq : (planOkL ops m i kd p2 (Array.replicate ops.size false) plan && noDst d i ops.toList 0 && Nat.beq (p2.length + plan.length + 1) m && Nat.ble m ops.size && Nat.blt i m && Nat.blt d n && noDefer ops) with
    | false => rw [hq] at h; cases h
    | true =>
      rw [hq] at h
      simp only [cond_true] at h
      simp only [Bool.and_eq_true, Nat.ble_eq, Nat.blt_eq] at hq
      obtain ⟨⟨⟨⟨⟨⟨q1, q3⟩, q4⟩, q5⟩, q6⟩, q7⟩, hnd⟩ := hq
      have q4 := Nat.eq_of_beq_eq_true q4
      split at h
      · rename_i E3 H1 H3 hr
        cases how : onlyWr H1.next H1.wr H3.wr with
        | true =>
          rw [how] at h
          simp only [cond_true] at h
          exact lateRun_ok ok hc hcw hlate q1 q3 q4 q5 q6 q7 hnd hr how h hlog hF hH k
        | false =>
          rw [how] at h
          simp only [cond_false] at h
          split at h
          · rename_i E3' H1' H3' hr'
            cases how' : onlyWr H1'.next H1'.wr H3'.wr with
            | true =>
              rw [how'] at h
              simp only [cond_true] at h
              exact lateRun_ok ok hc hcw hlate q1 q3 q4 q5 q6 q7 hnd hr' how' h hlog hF hH k
            | false => rw [how'] at h; cases h
          · cases h
      · cases h
  · cases h
theorem evDraw_ok (ok : TOk P tb w0) {call : CF} (hc : CallOk P w0 call) (hcw : CallWr call) {rc : Option Nat} {id : Nat} {ops : Array Oper} {Q : Exit → Act → World → Prop} {E E' : T AV} {H H' : AH} (h : evDraw P tb n call ops E H = some (E', H')) (hlog : LogOk P w0 H'.wr) {ρ : Names} {a : Act} {w : World} (hF : FR n ds ρ E a) (hH : HR w0 ρ H w)
    (k : ∀ ρ' a' w', FR n ds ρ' E' a' → Post w0 ρ H w ρ' H' w' → Q .normal a' w') : (Code.region id ops true).wpIn (FD rc) 0 P Q a w := by
  unfold evDraw at h
  split at h
  · rename_i r hr; cases h; exact evPlan_ok ok hc hcw hr hlog hF hH k
  · split at h
    · rename_i r hr; cases h; exact evPlan_ok ok hc hcw hr hlog hF hH k
    · split at h
      · rename_i r hr; cases h; exact evLate_ok ok hc hcw hr hlog hF hH k
      · exact evLate_ok ok hc hcw h hlog hF hH k
theorem evPlan_wr {call : CF} (hcw : CallWr call) {ops : Array Oper} {m : Nat} {E E' : T AV} {H H' : AH} (hr : evPlan P tb n call ops m E H = some (E', H')) : ∀ i ∈ H.wr, i ∈ H'.wr := by
  unfold evPlan at hr
  simp only at hr
  have hr := cond_some hr
  split at hr <;> try (cases hr; done)
  exact fun i hi => evOps_wr hcw hr i (List.mem_append_right _ hi)
theorem evLate_wr {call : CF} (hcw : CallWr call) {ops : Array Oper} {m : Nat} {E E' : T AV} {H H' : AH} (h : evLate P tb n call ops m E H = some (E', H')) : ∀ i ∈ H.wr, i ∈ H'.wr := by
  unfold evLate at h
  simp only at h
  split at h <;> try (cases h; done)
  have h := cond_some h
  split at h <;> try (cases h; done)
  rcases cond_or h with h | h
  · exact fun i hi => evOps_wr hcw h i (List.mem_append_right _ (List.mem_append_right _ hi))
  · split at h <;> try (cases h; done)
    have h := cond_some h
    exact fun i hi => evOps_wr hcw h i (List.mem_append_right _ (List.mem_append_right _ hi))
theorem evDraw_wr {call : CF} (hcw : CallWr call) {ops : Array Oper} {E E' : T AV} {H H' : AH} (h : evDraw P tb n call ops E H = some (E', H')) : ∀ i ∈ H.wr, i ∈ H'.wr := by
  unfold evDraw at h
  split at h
  · rename_i r hr; cases h; exact evPlan_wr hcw hr
  · split at h
    · rename_i r hr; cases h; exact evPlan_wr hcw hr
    · split at h
      · rename_i r hr; cases h; exact evLate_wr hcw hr
      · exact evLate_wr hcw h
def isVv : List AV → Bool
  | [.vv _] => true
  | _ => false
def orcF (P : Program) (tb : Tab) (ev : EvF) (f : FuncId) (args : List AV) (H : AH) : Option (AV × AH) :=
  match tb.orc.get f, isVv args with
  | some _, true => some (.o1, ⟨H.t, H.next, .c f args :: H.wr⟩)
  | _, _ => callF P tb ev f args H
def cfOf (P : Program) (tb : Tab) (ev : EvF) : CF := ⟨orcF P tb ev, rndF ev⟩
def dfOf (H : AH) : Option Nat → List Nat → Option (Nat × List Nat × AH)
  | none, D => some (H.next, H.next :: D, H.new (obj (.df true)))
  | some id, D => (match H.get id with
    | some k => (match k.k with | .lp _ _ _ _ _ _ _ df => some (df, D, H) | _ => none)
    | none => none)
def notBusy (H : AH) (id : Nat) : Option (Option Code) :=
  match H.get id with
  | some k => (match k.k with
    | .lp .busy _ _ _ _ _ _ _ => none
    | .lp _ pd _ _ _ _ _ _ => some pd
    | _ => none)
  | none => none
def evC (P : Program) (tb : Tab) : Nat → EvF
  | 0, _, _, _, _, _, _ => none
  | f + 1, r, n, c, D, E, H => match c with
    | .skip => some (.normal, D, E, H)
    | .ret => some (.ret, D, E, H)
    | .exit id => some (.exit id, D, E, H)
    | .region _ ops d => (match d with
      | false => (match evOps P tb n (cfOf P tb (evC P tb f)) ops ops.toList E H with | some (E', H') => some (.normal, D, E', H') | none => none)
      | true => (match evDraw P tb n (cfOf P tb (evC P tb f)) ops E H with | some (E', H') => some (.normal, D, E', H') | none => none))
    | .seq x y => (match evC P tb f r n x D E H with
      | some (.normal, D', E', H') => evC P tb f r n y D' E' H'
      | z => z)
    | .cond q x y => (match pv E q with
      | some (.bool true) => evC P tb f r n x D E H
      | some (.bool false) => evC P tb f r n y D E H
      | _ => none)
    | .block id x => (match evC P tb f r n x D E H with
      | some (.exit i, D', E', H') => bif Nat.beq i id then some (.normal, D', E', H') else some (.exit i, D', E', H')
      | z => z)
    | .loop x => (match evC P tb f r n x D E H with
      | some (.normal, D', E', H') => evC P tb f r n (.loop x) D' E' H'
      | z => z)
    | .rangeFunc g ps ag bd => (match dfOf H r D with
      | some (df, D1, H1) => (match opnd E g with
        | some x => (match calleeA x [.yl H1.next] with
          | some (fid, args) => (match tb.fn.get fid with
            | some _ => (match callF P tb (evC P tb f) fid args (H1.new (obj (.lp .ready none n E ps ag bd df))) with
              | some (_, H3) => (match notBusy H3 H1.next, lpSet H3 H1.next .exhausted none with
                | some pd, some H4 => (match pd with
                  | none => some (.normal, D1, E, H4)
                  | some c => evC P tb f r n c D1 E H4)
                | _, _ => none)
              | none => none)
            | none => none)
          | none => none)
        | none => none)
      | none => none)
    | _ => none
theorem orcF_wr {ev : EvF} (he : EvWr ev) {f : FuncId} {args : List AV} {H : AH} {r : AV} {H' : AH} (h : orcF P tb ev f args H = some (r, H')) : ∀ i ∈ H.wr, i ∈ H'.wr := by
  unfold orcF at h
  split at h
  · cases h; exact fun i hi => List.mem_cons_of_mem _ hi
  · exact callF_wr he h
theorem HR.toPost {ρ : Names} {H : AH} {w w' : World} (h : HR w0 ρ H w) (hb : Below w.heap.size w w') (l : List Wr) (hl : ∀ x ∈ H.wr, x ∈ l) : Post w0 ρ H w ρ ⟨H.t, H.next, l⟩ w' := by
  have hsame : ∀ b, b < w.heap.size → w'.heap[b]? = w.heap[b]? := fun b hlt => hb.block b hlt
  refine ⟨Ext.refl _, ⟨h.bel.trans ⟨hb.os, hb.tape, hb.output, hb.size, fun b hlt => hsame b (Nat.lt_of_lt_of_le hlt h.bel.size)⟩, h.len, fun i b hi => ⟨(h.rng i b hi).1, Nat.lt_of_lt_of_le (h.rng i b hi).2 hb.size⟩, h.inj, fun i k hi => ?_⟩, hl, fun _ _ h _ => h, fun i b k _ _ hi => hsame b.1 (h.rng i b hi).2, hb.size, fun b hlt _ => hsame b hlt, fun i c k hi hc => .inr ⟨i, c, k, hi, hc, rfl⟩⟩
  obtain ⟨b, hb1, hb2⟩ := h.blk i k hi
  exact ⟨b, hb1, by rw [hsame b.1 (h.rng i b hb1).2]; exact hb2⟩
theorem orcF_ok (ok : TOk P tb w0) {ev : EvF} (he : EvOk P w0 ev) {f : FuncId} {args : List AV} {H : AH} {r : AV} {H' : AH} (h : orcF P tb ev f args H = some (r, H')) (hlog : LogOk P w0 H'.wr) {ρ : Names} {w : World} {vs : List Value} (hv : VRL ρ args vs) (hH : HR w0 ρ H w) : CallsIn Fence.wide 0 P f vs.toArray w (Rets w0 ρ H w r H') := by
  unfold orcF at h
  split at h
  · cases h
    refine CallsIn.mono (hlog f args (List.mem_cons_self ..) ρ w vs hv hH.bel) fun e w' hR => ?_
    obtain ⟨v, rfl, h1, h2⟩ := hR
    exact ⟨ρ, v, rfl, by rw [VR]; exact h1, hH.toPost h2 _ (fun x hx => List.mem_cons_of_mem _ hx)⟩
  · exact callF_ok ok he h hlog hv hH
theorem cfOf_wr {ev : EvF} (he : EvWr ev) : CallWr (cfOf P tb ev) := ⟨fun _ _ _ _ _ h => orcF_wr he h, fun _ _ _ _ _ _ _ _ h => rndF_wr he h⟩
theorem cfOf_ok (ok : TOk P tb w0) {ev : EvF} (he : EvOk P w0 ev) (hew : EvWr ev) : CallOk P w0 (cfOf P tb ev) := ⟨fun _ _ _ _ _ h _ _ _ hlog hv hH => orcF_ok ok he h hlog hv hH, fun _ _ _ _ _ _ _ _ h _ _ _ _ _ hlog hb hF hH => rndF_ok he hew h hlog hb hF hH⟩
theorem dfOf_wr {H H1 : AH} {r : Option Nat} {D D1 : List Nat} {df : Nat} (h : dfOf H r D = some (df, D1, H1)) : ∀ i ∈ H.wr, i ∈ H1.wr := by
  unfold dfOf at h
  split at h
  · cases h; exact fun i hi => hi
  · split at h <;> try (cases h; done)
    split at h <;> try (cases h; done)
    cases h; exact fun i hi => hi
theorem evC_wr : ∀ (f : Nat), EvWr (evC P tb f)
  | 0 => fun r n c D D' E E' H H' x h => by simp [evC] at h
  | f + 1 => fun r n c D D' E E' H H' x h => by
    have ih : EvWr (evC P tb f) := evC_wr f
    cases c <;> simp only [evC] at h <;> try (cases h; done)
    case skip => cases h; exact fun i hi => hi
    case region id ops d =>
      cases d <;> simp only at h
      · split at h <;> try (cases h; done)
        rename_i hh
        cases h; exact evOps_wr (cfOf_wr ih) hh
      · split at h <;> try (cases h; done)
        rename_i hh
        cases h; exact evDraw_wr (cfOf_wr ih) hh
    case seq p q =>
      split at h
      · rename_i hh; exact fun i hi => ih _ _ _ _ _ _ _ _ _ _ h i (ih _ _ _ _ _ _ _ _ _ _ hh i hi)
      · exact ih _ _ _ _ _ _ _ _ _ _ h
    case cond c p q =>
      split at h
      · exact ih _ _ _ _ _ _ _ _ _ _ h
      · exact ih _ _ _ _ _ _ _ _ _ _ h
      · cases h
    case block id p =>
      split at h
      · rename_i hh
        rcases cond_or h with h | h <;> (cases h; exact ih _ _ _ _ _ _ _ _ _ _ hh)
      · exact ih _ _ _ _ _ _ _ _ _ _ h
    case loop p =>
      split at h
      · rename_i hh; exact fun i hi => ih _ _ _ _ _ _ _ _ _ _ h i (ih _ _ _ _ _ _ _ _ _ _ hh i hi)
      · exact ih _ _ _ _ _ _ _ _ _ _ h
    case rangeFunc g ps ag bd =>
      split at h <;> try (cases h; done)
      rename_i df D1 H1 hdf
      split at h <;> try (cases h; done)
      split at h <;> try (cases h; done)
      split at h <;> try (cases h; done)
      split at h <;> try (cases h; done)
      rename_i y H3 hcall
      split at h <;> try (cases h; done)
      rename_i pd H4 hnb hset
      have h4 : ∀ i ∈ H.wr, i ∈ H4.wr := fun i hi => lpSet_wr hset i (callF_wr ih hcall i (dfOf_wr hdf i hi))
      split at h
      · cases h; exact h4
      · exact fun i hi => ih _ _ _ _ _ _ _ _ _ _ h i (h4 i hi)
    case exit id => cases h; exact fun i hi => hi
    case ret => cases h; exact fun i hi => hi
def LoopOk (P : Program) (tb : Tab) (w0 : World) (f : Nat) : Prop := ∀ (r : Option Nat) (n : Nat) (p : Code) (D D' : List Nat) (E E' : T AV) (H H' : AH) (x : AX), evC P tb f r n (.loop p) D E H = some (x, D', E', H') → LogOk P w0 H'.wr → ∀ (ρ : Names) (ds : List Deferred) (rc : Option Nat) (a : Act) (w : World) (Q : Exit → Act → World → Prop), RdOk ρ r rc → DR ρ D ds → FR n ds ρ E a → HR w0 ρ H w →
    (∀ ρ' ds' a' w', DR ρ' D' ds' → FR n ds' ρ' E' a' → Post w0 ρ H w ρ' H' w' → Q x.to a' w') → Code.roundsIn (FD rc) 0 P p Q f a w
theorem notBusy_ok {H : AH} {id : Nat} {pd : Option Code} (h : notBusy H id = some pd) {ρ : Names} {w : World} (hH : HR w0 ρ H w) {b : Nat × Nat} (hb : ρ[id]? = some b) {r : Loop} (hr : w.heap[b.1]? = some (.loop r)) : r.state ≠ .busy ∧ r.pending = pd := by
  unfold notBusy at h
  split at h <;> try (cases h; done)
  rename_i k hk
  split at h <;> try (cases h; done)
  rename_i st pd' n' E' ps ag bd df hnb hkk
  cases h
  obtain ⟨_, _, hO⟩ := (hH.at_ hk hb).o (by rw [hkk]; simp)
  rw [hkk] at hO
  obtain ⟨fn, tmps, b2, h1, _⟩ := hO
  rw [hr] at h1
  cases h1
  refine ⟨fun hs => ?_, rfl⟩
  simp only at hs
  subst hs
  first | exact hnb hkk | exact hnb rfl | simp_all
theorem calleeA_ok (ok : TOk P tb w0) {ρ : Names} {x : AV} {v : Value} {l : List AV} {us : List Value} {g : FuncId} {as' : List AV} {u : Unit} (h : calleeA x l = some (g, as')) (hfn : tb.fn.get g = some u) (hv : VR ρ x v) (hl : VRL ρ l us) (w : World) :
    ∃ (d : Deferred) (vs : List Value), (Deferred.ofValue v us.toArray).run P w = .ok d w ∧ (invoke d.target d.args).run P w = .ok (.enter g vs.toArray) w ∧ VRL ρ as' vs := by
  obtain ⟨fn, h1, h2, h3⟩ := ok.func hfn
  have hcf : ∀ xs : Array Value, (callFunc g xs).run P w = .ok (.enter g xs) w := fun xs => by
    have h2' : fn.name ≠ "runtime.NumGoroutine" := by simpa using h2
    have h3' : fn.body ≠ none := by intro e; rw [e] at h3; cases h3
    simp [callFunc, h1, h2', h3']
  unfold calleeA at h
  split at h
  · cases h
    rw [VR] at hv
    obtain ⟨vs, ws, rfl, hp, hq⟩ := hv
    refine ⟨_, vs ++ us ++ ws, by simp [Deferred.ofValue]; rfl, ?_, (hp.app hl).app hq⟩
    simp [invoke, hcf]
  · rename_i g2 p q
    cases h
    rw [VR] at hv
    subst hv
    refine ⟨_, p.toList ++ us ++ q.toList, by simp [Deferred.ofValue]; rfl, ?_, ((VRL.plMap _).app hl).app (VRL.plMap _)⟩
    simp [invoke, hcf]
  · cases h
theorem evRange_ok (ok : TOk P tb w0) {ev : EvF} (ih : EvOk P w0 ev) (hew : EvWr ev) {r : Option Nat} {g : Operand} {ps : Array Tmp} {ag bd : Code} {D D' D1 : List Nat} {E E' : T AV} {H H' H1 H3 H4 : AH} {x : AX} {df : Nat} {y : AV} {fid : FuncId} {args : List AV} {u : Unit} {z : AV} {pd : Option Code}
    (hdf : dfOf H r D = some (df, D1, H1)) (hy : opnd E g = some y) (hcal : calleeA y [.yl H1.next] = some (fid, args)) (hfn : tb.fn.get fid = some u) (hcall : callF P tb ev fid args (H1.new (obj (.lp .ready none n E ps ag bd df))) = some (z, H3))
    (hnb : notBusy H3 H1.next = some pd) (hset : lpSet H3 H1.next .exhausted none = some H4) (hend : (pd = none ∧ x = .normal ∧ D' = D1 ∧ E' = E ∧ H' = H4) ∨ ∃ c, pd = some c ∧ ev r n c D1 E H4 = some (x, D', E', H')) (hlog : LogOk P w0 H'.wr)
    {ρ : Names} {rc : Option Nat} {a : Act} {w : World} {Q : Exit → Act → World → Prop} (hr : RdOk ρ r rc) (hD : DR ρ D ds) (hF : FR n ds ρ E a) (hH : HR w0 ρ H w)
    (k : ∀ ρ' ds' a' w', DR ρ' D' ds' → FR n ds' ρ' E' a' → Post w0 ρ H w ρ' H' w' → Q x.to a' w') : (Code.rangeFunc g ps ag bd).wpIn (FD rc) 0 P Q a w := by
  refine wpIn_rangeFunc fun fn _ => ?_
  -- the record
  have hent : ∃ (l : Nat) (mark : List Deferred) (w1 : World) (ρ1 : Names) (b : Nat × Nat), (Instr.enterLoop fn a.tmps ps ag bd (FD rc).round).run P w = .ok (l, mark) w1 ∧ Post w0 ρ H w ρ1 (H1.new (obj (.lp .ready none n E ps ag bd df))) w1 ∧ ρ1[H1.next]? = some b ∧ b.1 = l ∧ DR ρ1 D1 (mark ++ ds) := by
    cases r with
    | none =>
      cases rc with
      | some _ => exact hr.elim
      | none =>
        cases hdf
        have p1 := Post.allocG hH (obj (.df true)) 0 (.deferred (some [])) (BR.obj rfl)
        have p2 := Post.allocG p1.1.hr (obj (.lp .ready none n E ps ag bd H.next)) 0 (.loop { state := .ready, pending := none, fn := fn, tmps := a.tmps, params := ps, assign := ag, body := bd, defers := w.heap.size }) (BR.obj ⟨fn, a.tmps, _, rfl, p1.2, hF.size, fun kk xx hk => by
          obtain ⟨v, h1, h2⟩ := hF.at_ kk xx hk
          exact ⟨v, h1, h2.ext p1.1.ext⟩⟩)
        refine ⟨_, _, _, _, _, run_enterLoop_outer fn a.tmps ps ag bd, p1.1.trans p2.1, p2.2, by simp, ?_⟩
        exact ⟨_, ds, rfl, p2.1.ext _ _ p1.2, hD.ext (p1.1.ext.trans p2.1.ext)⟩
    | some id =>
      cases rc with
      | none => exact hr.elim
      | some l0 =>
        simp only [dfOf] at hdf
        split at hdf <;> try (cases hdf; done)
        rename_i kk hk
        split at hdf <;> try (cases hdf; done)
        rename_i st pd' n' E'' ps' ag' bd' df' hkk
        cases hdf
        obtain ⟨b0, hb0, rfl⟩ := hr
        obtain ⟨_, _, hO⟩ := (hH.at_ hk hb0).o (by rw [hkk]; simp)
        rw [hkk] at hO
        obtain ⟨fn0, tmps0, b2, h1, h2, h3, h4⟩ := hO
        have p2 := Post.allocG hH (obj (.lp .ready none n E ps ag bd df)) 0 (.loop { state := .ready, pending := none, fn := fn, tmps := a.tmps, params := ps, assign := ag, body := bd, defers := b2.1 }) (BR.obj ⟨fn, a.tmps, b2, rfl, h2, hF.size, hF.at_⟩)
        refine ⟨w.heap.size, [], _, _, _, ?_, p2.1, p2.2, rfl, hD.ext p2.1.ext⟩
        show (Instr.enterLoop fn a.tmps ps ag bd (some b0.1)).run P w = _
        unfold Instr.enterLoop
        simp only [Sem.run_bind, run_getLoop h1, run_newObj, Result.andThen, Sem.run_pure]
  obtain ⟨l, mark, w1, ρ1, b, g1, g2, g3, g4, g5⟩ := hent
  subst g4
  have hF1 := hF.ext g2.ext
  have hyl : VRL ρ1 [.yl H1.next] [.func (.yield b.1) #[] #[]] := VRL.mk (by rw [VR]; exact ⟨b, g3, rfl⟩) VRL.mk0
  obtain ⟨d, vs, e1, e2, e3⟩ := calleeA_ok ok hcal hfn (hF1.opnd hy) hyl w1
  refine ⟨b.1, mark, w1, d, w1, fid, vs.toArray, w1, g1, ?_, fun _ _ => trivial, e2, fun h9 => by simp [FD, Fence.wide] at h9, ?_⟩
  · simp only [resolve, rangeCall, List.map_toArray, List.map_cons, List.map_nil, Act.eval]
    exact e1
  have hl4 : LogOk P w0 H4.wr := by
    rcases hend with ⟨_, _, _, _, rfl⟩ | ⟨c, _, hev⟩
    · exact hlog
    · exact hlog.mono (hew _ _ _ _ _ _ _ _ _ _ hev)
  have hC := callF_ok ok ih hcall (hl4.mono (lpSet_wr hset)) e3 g2.hr
  refine CallsIn.mono (F := FD rc) (show CallsIn (FD rc) 0 P fid vs.toArray w1 _ from hC) fun e w3 hR => ?_
  obtain ⟨ρ3, v, rfl, _, hP3⟩ := hR
  have hb3 := hP3.ext _ _ g3
  obtain ⟨l3, k1, k2, _⟩ := lpSet_ok hset hP3.hr hb3
  obtain ⟨n1, n2⟩ := notBusy_ok hnb hP3.hr hb3 k1
  have key : ∀ (jump : Option Code) (w4 : World), jump = pd → Post w0 ρ H w ρ3 H4 w4 → (match jump with | none => Q .normal { a with defers := mark ++ a.defers } w4 | some c => c.wpIn (FD rc) 0 P Q { a with defers := mark ++ a.defers } w4) := by
    intro jump w4 hj hP4
    subst hj
    have hF4 : FR n (mark ++ ds) ρ3 E { a with defers := mark ++ a.defers } := ⟨by simp [hF.defers], hF.size, fun kk xx hk => by
      obtain ⟨v9, h1, h2⟩ := hF.at_ kk xx hk
      exact ⟨v9, h1, h2.ext hP4.ext⟩⟩
    have hD4 : DR ρ3 D1 (mark ++ ds) := g5.ext hP3.ext
    rcases hend with ⟨rfl, rfl, rfl, rfl, rfl⟩ | ⟨c, rfl, hev⟩
    · exact k ρ3 _ _ _ hD4 hF4 hP4
    · exact ih _ _ _ _ _ _ _ _ _ _ hev hlog ρ3 _ rc _ _ Q (hr.ext hP4.ext) hD4 hF4 hP4.hr (fun ρ5 ds5 a5 w5 hD5 hF5 hP5 => k ρ5 ds5 a5 w5 hD5 hF5 (hP4.trans hP5))
  exact ⟨_, _, run_endLoop k1 n1, key _ _ n2 ((g2.trans hP3).trans k2)⟩
theorem evC_both (ok : TOk P tb w0) : ∀ (f : Nat), EvOk P w0 (evC P tb f) ∧ LoopOk P tb w0 f
  | 0 => ⟨fun r n c D D' E E' H H' x h => by simp [evC] at h, fun r n c D D' E E' H H' x h => by simp [evC] at h⟩
  | f + 1 => by
    obtain ⟨ih, il⟩ := evC_both ok f
    have hloop : LoopOk P tb w0 (f + 1) := fun r n p D D' E E' H H' x h hlog ρ ds rc a w Q hr hD hF hH k => by
      simp only [evC] at h
      show p.wpIn (FD rc) 0 P (Exit.then (Code.roundsIn (FD rc) 0 P p Q f) Q) a w
      split at h
      · rename_i D1 E1 H1 hh
        exact ih _ _ _ _ _ _ _ _ _ _ hh (hlog.mono (evC_wr f _ _ _ _ _ _ _ _ _ _ h)) ρ ds rc a w _ hr hD hF hH (fun ρ1 ds1 a1 w1 hD1 hF1 hP1 => il _ _ _ _ _ _ _ _ _ _ h hlog ρ1 ds1 rc a1 w1 Q (hr.ext hP1.ext) hD1 hF1 hP1.hr (fun ρ2 ds2 a2 w2 hD2 hF2 hP2 => k ρ2 ds2 a2 w2 hD2 hF2 (hP1.trans hP2)))
      · rename_i hno
        refine ih _ _ _ _ _ _ _ _ _ _ h hlog ρ ds rc a w _ hr hD hF hH (fun ρ1 ds1 a1 w1 hD1 hF1 hP1 => ?_)
        have := k ρ1 ds1 a1 w1 hD1 hF1 hP1
        cases x with
        | normal => exact (hno _ _ _ h).elim
        | ret => exact this
        | exit id => exact this
    refine ⟨fun r n c D D' E E' H H' x h hlog ρ ds rc a w Q hr hD hF hH k => ?_, hloop⟩
    have hew : EvWr (evC P tb f) := evC_wr f
    have hc := cfOf_ok ok ih hew
    have hcw : CallWr (cfOf P tb (evC P tb f)) := cfOf_wr (evC_wr f)
    by_cases hlp : ∃ p, c = .loop p
    · obtain ⟨p, rfl⟩ := hlp
      exact wpIn_loop_rounds (f + 1) (hloop r n p D D' E E' H H' x h hlog ρ ds rc a w Q hr hD hF hH k)
    · cases c <;> try (simp only [evC] at h) <;> try (cases h; done)
      case skip => cases h; exact wpIn_skip (k ρ ds a w hD hF (Post.refl hH))
      case ret => cases h; exact wpIn_ret (k ρ ds a w hD hF (Post.refl hH))
      case exit id => cases h; exact wpIn_exit (k ρ ds a w hD hF (Post.refl hH))
      case region id ops d =>
        cases d <;> simp only at h
        · split at h <;> try (cases h; done)
          rename_i hh
          cases h
          exact wpIn_region_list (evOps_ok ok hc hcw (Q := Q) hh hlog hF hH (fun ρ' a' w' hF' hP' => k ρ' ds a' w' (hD.ext hP'.ext) hF' hP'))
        · split at h <;> try (cases h; done)
          rename_i hh
          cases h
          exact evDraw_ok ok hc hcw hh hlog hF hH (fun ρ' a' w' hF' hP' => k ρ' ds a' w' (hD.ext hP'.ext) hF' hP')
      case seq p q =>
        refine wpIn_seq ?_
        split at h
        · rename_i D1 E1 H1 hh
          exact ih _ _ _ _ _ _ _ _ _ _ hh (hlog.mono (evC_wr f _ _ _ _ _ _ _ _ _ _ h)) ρ ds rc a w _ hr hD hF hH (fun ρ1 ds1 a1 w1 hD1 hF1 hP1 => ih _ _ _ _ _ _ _ _ _ _ h hlog ρ1 ds1 rc a1 w1 Q (hr.ext hP1.ext) hD1 hF1 hP1.hr (fun ρ2 ds2 a2 w2 hD2 hF2 hP2 => k ρ2 ds2 a2 w2 hD2 hF2 (hP1.trans hP2)))
        · rename_i hno
          refine ih _ _ _ _ _ _ _ _ _ _ h hlog ρ ds rc a w _ hr hD hF hH (fun ρ1 ds1 a1 w1 hD1 hF1 hP1 => ?_)
          have := k ρ1 ds1 a1 w1 hD1 hF1 hP1
          cases x with
          | normal => exact (hno _ _ _ h).elim
          | ret => exact this
          | exit id => exact this
      case cond c p q =>
        split at h
        · rename_i hv; exact wpIn_cond_true (hF.pv hv) (ih _ _ _ _ _ _ _ _ _ _ h hlog ρ ds rc a w Q hr hD hF hH k)
        · rename_i hv; exact wpIn_cond_false (hF.pv hv) (ih _ _ _ _ _ _ _ _ _ _ h hlog ρ ds rc a w Q hr hD hF hH k)
        · cases h
      case block id p =>
        refine wpIn_block ?_
        split at h
        · rename_i i D1 E1 H1 hh
          refine ih _ _ _ _ _ _ _ _ _ _ hh (by rcases cond_or h with h9 | h9 <;> (cases h9; exact hlog)) ρ ds rc a w _ hr hD hF hH (fun ρ1 ds1 a1 w1 hD1 hF1 hP1 => ?_)
          cases hi : Nat.beq i id with
          | true =>
            rw [hi] at h
            cases h
            have hid := Nat.eq_of_beq_eq_true hi
            simp only [AX.to, Exit.inBlock, hid, if_true]
            exact k ρ1 ds1 a1 w1 hD1 hF1 hP1
          | false =>
            rw [hi] at h
            cases h
            have hid : i ≠ id := fun e => by rw [e] at hi; simp at hi
            simp only [AX.to, Exit.inBlock, hid, if_false]
            exact k ρ1 ds1 a1 w1 hD1 hF1 hP1
        · rename_i hno
          refine ih _ _ _ _ _ _ _ _ _ _ h hlog ρ ds rc a w _ hr hD hF hH (fun ρ1 ds1 a1 w1 hD1 hF1 hP1 => ?_)
          have := k ρ1 ds1 a1 w1 hD1 hF1 hP1
          cases x with
          | normal => exact this
          | ret => exact this
          | exit i => exact (hno _ _ _ _ h).elim
      case loop p => exact (hlp ⟨p, rfl⟩).elim
      case rangeFunc g ps ag bd =>
        split at h <;> try (cases h; done)
        rename_i df D1 H1 hdf
        split at h <;> try (cases h; done)
        rename_i y hy
        split at h <;> try (cases h; done)
        rename_i fid args hcal
        split at h <;> try (cases h; done)
        rename_i u hfn
        split at h <;> try (cases h; done)
        rename_i z H3 hcall
        split at h <;> try (cases h; done)
        rename_i pd H4 hnb hset
        refine evRange_ok ok ih hew hdf hy hcal hfn hcall hnb hset ?_ hlog hr hD hF hH k
        split at h
        · cases h; exact .inl ⟨rfl, rfl, rfl, rfl, rfl⟩
        · rename_i c; exact .inr ⟨c, rfl, h⟩
theorem call_ev (ok : TOk P tb w0) (fuel : Nat) {f : FuncId} {args : List AV} {r : AV} {H H' : AH} (h : callF P tb (evC P tb fuel) f args H = some (r, H')) (hlog : LogOk P w0 H'.wr) {ρ : Names} {w : World} {vs : List Value} (hv : VRL ρ args vs) (hH : HR w0 ρ H w) :
    Calls P f vs.toArray w (fun e w' => ∃ ρ' v, e = .returned v ∧ VR ρ' r v ∧ Post w0 ρ H w ρ' H' w') := callsIn_wide.1 (callF_ok ok (evC_both ok fuel).1 h hlog hv hH)
def logOf : List Wr → List (FuncId × List AV)
  | [] => []
  | .b _ :: r => logOf r
  | .c f l :: r => (f, l) :: logOf r
theorem logOf_mem : ∀ {l : List Wr} {f : FuncId} {args : List AV}, Wr.c f args ∈ l → (f, args) ∈ logOf l
  | [], _, _, h => by cases h
  | .b _ :: r, _, _, h => by
    rcases List.mem_cons.1 h with e | h
    · cases e
    · exact logOf_mem (l := r) h
  | .c f l :: r, _, _, h => by
    rcases List.mem_cons.1 h with e | h
    · cases e; exact List.mem_cons_self ..
    · exact List.mem_cons_of_mem _ (logOf_mem (l := r) h)
def trueLog (x : Option (AV × AH)) : Option (List (FuncId × List AV)) := match x with | some (.pl (.bool true), H) => some (logOf H.wr) | _ => none
theorem call_log {w : World} (ok : TOk P tb w) (fuel : Nat) {f : FuncId} {args : List AV} {l : List (FuncId × List AV)} (h : trueLog (callF P tb (evC P tb fuel) f args ⟨.l, 0, []⟩) = some l) (hl : ∀ e ∈ l, OrcC P w e.1 e.2) {vs : List Value} (hv : VRL [] args vs) :
    Calls P f vs.toArray w (fun e w' => e = .returned (.bool true) ∧ Below w.heap.size w w') := by
  unfold trueLog at h
  split at h
  · rename_i H' hh
    cases h
    have hH : HR w [] ⟨.l, 0, []⟩ w := ⟨Below.refl _ _, rfl, fun i b hb => by simp at hb, fun i j b c x y hi => by simp [AH.get, T.get_l] at hi, fun i k hi => by simp [AH.get, T.get_l] at hi⟩
    refine (call_ev ok fuel hh (fun g as' hg => hl _ (logOf_mem hg)) hv hH).mono fun e w' hR => ?_
    obtain ⟨ρ', v, rfl, hv, hP⟩ := hR
    rw [VR] at hv
    exact ⟨by rw [hv], hP.hr.bel⟩
  · cases h
theorem call_true {w : World} (ok : TOk P tb w) (fuel : Nat) {f : FuncId} (h : trueLog (callF P tb (evC P tb fuel) f [] ⟨.l, 0, []⟩) = some []) :
    Calls P f #[] w (fun e w' => e = .returned (.bool true) ∧ Below w.heap.size w w') := call_log ok fuel h (fun e he => by cases he) VRL.mk0
end
end Go.Ev
