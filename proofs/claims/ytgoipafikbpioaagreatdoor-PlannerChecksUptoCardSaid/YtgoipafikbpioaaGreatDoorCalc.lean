/- Lemmas of this repository (Sx Mem Row Data Copy Api More Open Law Bl Bk Ca Bd An W1 Sl Cap Wr Ap Ao Eq2 EqD Dc Cw Da Db Sq Io), several texts in one. No statement is proved here. -/
import Derived.WalkKit
import Derived.OrdersHeld
import Derived.StillTail
import Derived.Deep.MidRow
import Derived.ProofKit
import Derived.OpenShut
import Derived.SizedLaws
import Derived.ChangeArms
import Derived.Below
import Derived.ChangeSame
import Derived.WideKeyArgs
import Derived.Laws.MakeOwn
import Derived.Laws.Slices
import Derived.Laws.Concat
import Derived.Laws.BytesString
import Derived.Laws.StructEq
import Derived.RangeFuncRecord
namespace Go.Sx
open Go.RowKit
set_option linter.unusedVariables false
abbrev Env := List (Nat × Value)
def look (e : Env) (k : Nat) : Option Value := match e with
  | [] => none
  | (j, v) :: r => bif Nat.beq j k then some v else look r k
def rho (e : Env) : Operand → Value
  | .tmp t => (look e t).getD undef
  | .const v => v
  | .global g => .pointer (some ⟨g, 0, none⟩)
  | .func f => .func (.func f) #[] #[]
structure Has (e : Env) (n : Nat) (a : Act) : Prop where
  defers : a.defers = []
  size : a.tmps.size = n
  at_ : ∀ k v, look e k = some v → a.tmps[k]? = some v
theorem look_cons_same (e : Env) (k : Nat) (v : Value) : look ((k, v) :: e) k = some v := by simp [look]
theorem look_cons_other (e : Env) (j k : Nat) (v : Value) (h : j ≠ k) : look ((j, v) :: e) k = look e k := by
  have : Nat.beq j k = false := by rw [Bool.eq_false_iff]; exact fun hh => h (Nat.eq_of_beq_eq_true hh)
  simp [look, this]
theorem Has.put {e : Env} {n : Nat} {a : Act} (h : Has e n a) (d : Nat) (v : Value) (hd : d < n) : Has ((d, v) :: e) n (a.put (some d) v) := by
  refine ⟨by simp [Act.put, h.defers], by simp [Act.put, h.size], fun k u hk => ?_⟩
  by_cases hkd : d = k
  · subst hkd
    rw [look_cons_same] at hk
    cases hk
    simp [Act.put, h.size, hd]
  · rw [look_cons_other _ _ _ _ hkd] at hk
    simp only [Act.put, Array.getElem?_setIfInBounds_ne hkd]
    exact h.at_ k u hk
theorem Has.weaken {e e' : Env} {n : Nat} {a : Act} (h : Has e n a) (hs : ∀ k v, look e' k = some v → look e k = some v) : Has e' n a :=
  ⟨h.defers, h.size, fun k v hk => h.at_ k v (hs k v hk)⟩
def known (e : Env) : Operand → Bool
  | .tmp t => (look e t).isSome
  | _ => true
def noSel : Op → Bool
  | .select _ _ => false
  | _ => true
def covers (e : Env) (o : Oper) : Bool := noSel o.op && o.op.operands.all (known e)
theorem Has.eval {e : Env} {n : Nat} {a : Act} (h : Has e n a) {x : Operand} (hx : known e x = true) : a.eval x = rho e x := by
  cases x with
  | tmp t =>
    simp only [known] at hx
    obtain ⟨v, hv⟩ := Option.isSome_iff_exists.1 hx
    have := h.at_ t v hv
    simp [Act.eval, rho, hv, this]
  | const v => rfl
  | global g => rfl
  | func f => rfl
theorem Has.exec {e : Env} {n : Nat} {a : Act} (h : Has e n a) {o : Oper} (hc : covers e o = true) : execOp a.eval o = execOp (rho e) o := by
  simp only [covers, Bool.and_eq_true] at hc
  refine execOp_congr o (fun cs b hb => ?_) (fun x hx => h.eval ?_)
  · rw [hb] at hc; simp [noSel] at hc
  · exact (Array.all_eq_true_iff_forall_mem.1 hc.2) x hx
section
variable {P : Program} {ops : Array Oper} {Q : Exit → Act → World → Prop} {n : Nat}
def WL (P : Program) (ops : Array Oper) (Q : Exit → Act → World → Prop) (n : Nat) (e : Env) (S : World → Prop) (rest : List Oper) : Prop :=
  ∀ a w, Has e n a → S w → wpList P ops Q rest a w
def WC (P : Program) (Q : Exit → Act → World → Prop) (n : Nat) (e : Env) (S : World → Prop) (c : Code) : Prop :=
  ∀ a w, Has e n a → S w → c.wp P Q a w
def guardOf (ops : Array Oper) (e : Env) (o : Oper) : Option Bool :=
  match o.guard with
  | none => some true
  | some (j, want) => match ((ops[j]?).bind (·.dst)).bind (look e) with
    | some (.bool b) => some (b == want)
    | some (.tuple _) => some false
    | _ => none
theorem guardOf_wanted {e : Env} {a : Act} {o : Oper} {b : Bool} (h : Has e n a) (hg : guardOf ops e o = some b) : Region.wanted o (yielded ops a.tmps) = b := by
  unfold guardOf at hg
  unfold Region.wanted
  split at hg
  · rename_i hn; rw [hn]; simpa using hg
  · rename_i j want hj
    rw [hj]
    simp only
    split at hg
    · rename_i c hc
      obtain ⟨t, ht, htl⟩ := Option.bind_eq_some_iff.1 hc
      have := h.at_ t _ htl
      simp only [yielded, ht, Option.bind_some, this]
      simp only [Option.some.injEq] at hg
      rw [← hg]
      cases c <;> cases want <;> rfl
    · rename_i c hc
      obtain ⟨t, ht, htl⟩ := Option.bind_eq_some_iff.1 hc
      have := h.at_ t _ htl
      simp only [yielded, ht, Option.bind_some, this]
      cases hg
      rfl
    · cases hg
def pureVal {α : Type} (P : Program) : Sem α → Option α
  | .pure a => some a
  | .program k => pureVal P (k P)
  | .mark _ k => pureVal P k
  | _ => none
theorem pureVal_run {α : Type} (s : Sem α) (x : α) (h : pureVal P s = some x) (w : World) : s.run P w = .ok x w := by
  induction s with
  | pure a => simp [pureVal] at h; subst h; rfl
  | program k ih => simp only [pureVal] at h; simp only [Sem.run]; exact ih P h
  | mark m k ih => simp only [pureVal] at h; simp only [Sem.run]; exact ih h
  | _ => simp [pureVal] at h
def stepPure (P : Program) (ops : Array Oper) (n : Nat) (e : Env) (o : Oper) : Option Env :=
  match o.dst, guardOf ops e o with
  | some d, some true =>
    if covers e o && decide (d < n) then
      match pureVal P (execOp (rho e) o) with
      | some (.value v) => some ((d, v) :: e)
      | _ => none
    else none
  | some d, some false => if d < n then some ((d, undef) :: e) else none
  | none, some false => some e
  | _, _ => none
theorem wl_step {e e' : Env} {S : World → Prop} {o : Oper} {rest : List Oper} (h : stepPure P ops n e o = some e') (k : WL P ops Q n e' S rest) : WL P ops Q n e S (o :: rest) := by
  intro a w ha hw
  unfold stepPure at h
  unfold wpList
  split at h
  · rename_i d hd hg
    rw [guardOf_wanted ha hg]
    split at h
    · rename_i hc
      simp only [Bool.and_eq_true, decide_eq_true_eq] at hc
      split at h
      · rename_i v hv
        cases h
        simp only [if_true]
        refine .inl ?_
        unfold Oper.wp
        rw [ha.exec hc.1, pureVal_run _ _ hv w]
        simp only [Oper.upon, hd]
        exact k _ _ (ha.put d v hc.2) hw
      · cases h
    · cases h
  · rename_i d hd hg
    rw [guardOf_wanted ha hg]
    split at h
    · rename_i hdn
      cases h
      simp only [Bool.false_eq_true, if_false, hd]
      exact k _ _ (ha.put d undef hdn) hw
    · cases h
  · rename_i hd hg
    rw [guardOf_wanted ha hg]
    cases h
    simp only [Bool.false_eq_true, if_false, hd]
    exact k _ _ ha hw
  · cases h
def stepsPure (P : Program) (ops : Array Oper) (n : Nat) : Nat → Env → List Oper → Option (Env × List Oper)
  | 0, e, l => some (e, l)
  | _ + 1, _, [] => none
  | m + 1, e, o :: l => match stepPure P ops n e o with
    | some e' => stepsPure P ops n m e' l
    | none => none
theorem wl_run {σ : Type} {e : Env} {S : World → Prop} {o : Oper} {rest : List Oper} {d : Nat} (V : σ → Value) (S' : σ → World → Prop)
    (hd : o.dst = some d) (hdn : d < n) (hg : guardOf ops e o = some true) (hc : covers e o = true)
    (h : ∀ w, S w → ∃ x w', (execOp (rho e) o).run P w = .ok (.value (V x)) w' ∧ S' x w')
    (k : ∀ x, WL P ops Q n ((d, V x) :: e) (S' x) rest) : WL P ops Q n e S (o :: rest) := by
  intro a w ha hw
  unfold wpList
  rw [guardOf_wanted ha hg, if_pos rfl]
  refine .inl ?_
  obtain ⟨x, w', hr, hS⟩ := h w hw
  unfold Oper.wp
  rw [ha.exec hc, hr]
  simp only [Oper.upon, hd]
  exact k x _ _ (ha.put d _ hdn) hS
theorem wl_skip {e : Env} {S : World → Prop} {o : Oper} {rest : List Oper} (S' : World → Prop)
    (hd : o.dst = none) (hg : guardOf ops e o = some true) (hc : covers e o = true)
    (h : ∀ w, S w → ∃ w', (execOp (rho e) o).run P w = .ok .skip w' ∧ S' w')
    (k : WL P ops Q n e S' rest) : WL P ops Q n e S (o :: rest) := by
  intro a w ha hw
  unfold wpList
  rw [guardOf_wanted ha hg, if_pos rfl]
  refine .inl ?_
  obtain ⟨w', hr, hS⟩ := h w hw
  unfold Oper.wp
  rw [ha.exec hc, hr]
  simp only [Oper.upon, hd, Act.put]
  exact k _ _ ha hS
theorem wl_call {e : Env} {S : World → Prop} {o : Oper} {rest : List Oper} {d : Nat} {f : FuncId} {args : Array Value} {R : World → Ending → World → Prop}
    (hd : o.dst = some d) (hdn : d < n) (hg : guardOf ops e o = some true) (hc : covers e o = true)
    (hv : pureVal P (execOp (rho e) o) = some (.enter f args))
    (h : ∀ w, S w → Calls P f args w (R w))
    (k : ∀ w ending w', S w → R w ending w' → ∃ v, ending = .returned v ∧ WL P ops Q n ((d, v) :: e) (· = w') rest) : WL P ops Q n e S (o :: rest) := by
  intro a w ha hw
  unfold wpList
  rw [guardOf_wanted ha hg, if_pos rfl]
  refine .inl ?_
  unfold Oper.wp
  rw [ha.exec hc, pureVal_run _ _ hv w]
  simp only [Oper.upon]
  refine (h w hw).mono fun ending w' hR => ?_
  obtain ⟨v, rfl, hk⟩ := k w ending w' hw hR
  simp only [hd]
  exact hk _ _ (ha.put d _ hdn) rfl
theorem wc_seq {e : Env} {S : World → Prop} {x y : Code} (h : WC P (Exit.then (y.wp P Q) Q) n e S x) : WC P Q n e S (.seq x y) :=
  fun a w ha hw => wp_seq (h a w ha hw)
theorem wc_skip {e : Env} {S : World → Prop} (h : ∀ a w, Has e n a → S w → Q .normal a w) : WC P Q n e S .skip := fun a w ha hw => wp_skip (h a w ha hw)
theorem wc_exit {e : Env} {S : World → Prop} {id : Nat} (h : ∀ a w, Has e n a → S w → Q (.exit id) a w) : WC P Q n e S (.exit id) := fun a w ha hw => wp_exit (h a w ha hw)
theorem wc_ret {e : Env} {S : World → Prop} (h : ∀ a w, Has e n a → S w → Q .ret a w) : WC P Q n e S .ret := fun a w ha hw => wp_ret (h a w ha hw)
theorem wc_block {e : Env} {S : World → Prop} {id : Nat} {c : Code} (h : WC P (Exit.inBlock id Q) n e S c) : WC P Q n e S (.block id c) := fun a w ha hw => wp_block (h a w ha hw)
theorem wc_region {e : Env} {S : World → Prop} {id : Nat} {l : List Oper} (h : WL P l.toArray Q n e S l) : WC P Q n e S (.region id l.toArray false) :=
  fun a w ha hw => wp_region_lit (h a w ha hw)
theorem wc_cond {e : Env} {S : World → Prop} {c : Operand} {x y : Code} (t : Bool) (hk : known e c = true) (hc : rho e c = .bool t)
    (ht : t = true → WC P Q n e S x) (hf : t = false → WC P Q n e S y) : WC P Q n e S (.cond c x y) := by
  intro a w ha hw
  refine wp_cond_split (t := t) (by rw [ha.eval hk, hc]) (fun h => ht h a w ha hw) (fun h => hf h a w ha hw)
theorem wc_mono {e : Env} {S : World → Prop} {c : Code} {Q' : Exit → Act → World → Prop} (h : WC P Q' n e S c) (hq : ∀ x a w, Q' x a w → Q x a w) : WC P Q n e S c :=
  fun a w ha hw => wp_mono (h a w ha hw) hq
theorem wc_loop {σ : Type} {e : Env} {S : World → Prop} {c : Code} (E : σ → Env) (T : σ → World → Prop) (μ : σ → Nat)
    (h₀ : ∀ w, S w → ∃ x, T x w ∧ ∀ k v, look (E x) k = some v → look e k = some v)
    (round : ∀ x, WC P (Exit.then (fun a w => ∃ y, μ y < μ x ∧ Has (E y) n a ∧ T y w) Q) n (E x) (T x) c) : WC P Q n e S (.loop c) := by
  intro a w ha hw
  obtain ⟨x0, hT0, hE0⟩ := h₀ w hw
  have key : ∀ (m : Nat) (x : σ), μ x = m → ∀ a w, Has (E x) n a → T x w → ∀ (b : Frame) (k : List Item) (cs : List Frame),
      ∃ e a' w', Q e a' w' ∧ Arrives P (lone (b.at a (.code c :: .inLoop c :: k)) cs w) b k cs e a' w' := by
    intro m
    induction m using Nat.strongRecOn with
    | _ m ih =>
      intro x hm a w ha hT b k cs
      obtain ⟨e, a₁, w₁, hq, harr⟩ := round x a w ha hT b (.inLoop c :: k) cs
      cases e with
      | normal =>
        obtain ⟨y, hlt, hy, hTy⟩ := hq
        obtain ⟨e₂, a₂, w₂, hq₂, harr₂⟩ := ih (μ y) (hm ▸ hlt) y rfl a₁ w₁ hy hTy b k cs
        exact ⟨e₂, a₂, w₂, hq₂, .of_steps (Steps.trans harr (.one step_inLoop)) harr₂⟩
      | exit id => exact ⟨_, a₁, w₁, hq, .pass (x := .inLoop c) rfl (fun _ _ => .inl (by simp)) harr⟩
      | goto l => exact ⟨_, a₁, w₁, hq, .pass (x := .inLoop c) rfl (fun _ _ => .inl (by simp)) harr⟩
      | ret => exact ⟨_, a₁, w₁, hq, .pass (x := .inLoop c) rfl (fun _ _ => .inl (by simp)) harr⟩
      | panic ch => exact ⟨_, a₁, w₁, hq, .pass (x := .inLoop c) rfl (fun _ _ => .inl (by simp)) harr⟩
      | outgrown => exact ⟨_, a₁, w₁, hq, .pass (x := .inLoop c) rfl (fun _ _ => .inl (by simp)) harr⟩
  intro b k cs
  obtain ⟨e', a', w', hq, harr⟩ := key _ x0 rfl a w (ha.weaken hE0) hT0 b k cs
  exact ⟨e', a', w', hq, .of_steps (.one step_loop) harr⟩
def argEnv : Nat → List Value → Env
  | _, [] => []
  | k, v :: r => (k, v) :: argEnv (k + 1) r
theorem look_argEnv : ∀ (l : List Value) (k j : Nat) (v : Value), look (argEnv k l) j = some v → k ≤ j ∧ l[j - k]? = some v
  | [], _, _, _, h => by simp [argEnv, look] at h
  | x :: r, k, j, v, h => by
    by_cases hkj : k = j
    · subst hkj
      simp only [argEnv, look_cons_same] at h
      exact ⟨Nat.le_refl _, by simpa using h⟩
    · simp only [argEnv, look_cons_other _ _ _ _ hkj] at h
      obtain ⟨h1, h2⟩ := look_argEnv r (k + 1) j v h
      refine ⟨by omega, ?_⟩
      rw [show j - k = (j - (k + 1)) + 1 by omega]
      simpa using h2
theorem enter {f : FuncId} {fn : Func} {c : Code} {l : List Value} {w : World} {R : Ending → World → Prop} (hf : P.funcs[f]? = some fn) (hb : fn.body = some c) (hn : fn.ntmps = n) (hl : l.length ≤ n)
    (h : WC P (bodyPost P fn R) n (argEnv 0 l) (· = w) c) : Calls P f l.toArray w R := by
  refine calls_of_wp hf hb (h _ _ ⟨rfl, ?_, fun k v hk => ?_⟩ rfl)
  · simp [hn]; omega
  · obtain ⟨_, h2⟩ := look_argEnv l 0 k v hk
    have hlt : k < l.length := by simpa using (List.getElem?_eq_some_iff.1 h2).1
    rw [Array.getElem?_append_left (by simpa using hlt)]
    simpa using h2
theorem ret_tmp {fn : Func} {R : Ending → World → Prop} {e : Env} {S : World → Prop} {t : Nat} {v : Value} (hr : fn.results = #[.tmp t]) (hv : look e t = some v) (hR : ∀ w, S w → R (.returned v) w) :
    ∀ a w, Has e n a → S w → bodyPost P fn R .ret a w := fun a w ha hw => by
  refine bodyPost_ret (results_tmp hr _ _ _) ha.defers ?_
  have := ha.at_ t v hv
  simp only [Array.getD_eq_getD_getElem?, this, Option.getD_some]
  exact hR w hw
theorem ret_tmp2 {fn : Func} {R : Ending → World → Prop} {e : Env} {S : World → Prop} {t u : Nat} {v v' : Value} (hr : fn.results = #[.tmp t, .tmp u]) (hv : look e t = some v) (hv' : look e u = some v') (hR : ∀ w, S w → R (.returned (.tuple #[v, v'])) w) :
    ∀ a w, Has e n a → S w → bodyPost P fn R .ret a w := fun a w ha hw => by
  refine bodyPost_ret (results_tmp2 hr _ _ _) ha.defers ?_
  have := ha.at_ t v hv
  have h2 := ha.at_ u v' hv'
  simp only [Array.getD_eq_getD_getElem?, this, h2, Option.getD_some]
  exact hR w hw
theorem end_none {fn : Func} {R : Ending → World → Prop} {e : Env} {S : World → Prop} (hr : fn.results = #[]) (hR : ∀ w, S w → R (.returned (.tuple #[])) w) :
    ∀ a w, Has e n a → S w → bodyPost P fn R .normal a w := fun a w ha hw =>
  bodyPost_end (results_none hr _ _ _) ha.defers (hR w hw)
theorem ret_none {fn : Func} {R : Ending → World → Prop} {e : Env} {S : World → Prop} (hr : fn.results = #[]) (hR : ∀ w, S w → R (.returned (.tuple #[])) w) :
    ∀ a w, Has e n a → S w → bodyPost P fn R .ret a w := fun a w ha hw =>
  bodyPost_ret (results_none hr _ _ _) ha.defers (hR w hw)
end
section
variable {P : Program} {ops : Array Oper} {Q : Exit → Act → World → Prop} {n : Nat}
def Yl (P : Program) (S : World → Prop) (e : Env) (o : Oper) (v : Value) : Prop := ∀ w, S w → (execOp (rho e) o).run P w = .ok (.value v) w
def fit (ops : Array Oper) (n : Nat) (e : Env) (o : Oper) (d : Option Nat) : Bool :=
  (match o.dst, d with
   | some x, some y => Nat.beq x y && decide (y < n)
   | none, none => true
   | _, _ => false) && (match guardOf ops e o with | some true => true | _ => false) && covers e o
theorem fit_some {e : Env} {o : Oper} {d : Nat} (h : fit ops n e o (some d) = true) : o.dst = some d ∧ d < n ∧ guardOf ops e o = some true ∧ covers e o = true := by
  unfold fit at h
  simp only [Bool.and_eq_true] at h
  obtain ⟨⟨h1, h2⟩, h3⟩ := h
  split at h1
  · rename_i x y hx hy
    simp only [Bool.and_eq_true, decide_eq_true_eq] at h1
    cases hy
    refine ⟨by rw [hx, Nat.eq_of_beq_eq_true h1.1], h1.2, ?_, h3⟩
    split at h2
    · assumption
    · cases h2
  · rename_i hx hy; cases hy
  · cases h1
theorem fit_none {e : Env} {o : Oper} (h : fit ops n e o none = true) : o.dst = none ∧ guardOf ops e o = some true ∧ covers e o = true := by
  unfold fit at h
  simp only [Bool.and_eq_true] at h
  obtain ⟨⟨h1, h2⟩, h3⟩ := h
  split at h1
  · rename_i x y hx hy; cases hy
  · rename_i hx hy
    refine ⟨hx, ?_, h3⟩
    split at h2
    · assumption
    · cases h2
  · cases h1
theorem wl_yl {e : Env} {S : World → Prop} {o : Oper} {rest : List Oper} {d : Nat} {v : Value} (hf : fit ops n e o (some d) = true) (hy : Yl P S e o v)
    (k : WL P ops Q n ((d, v) :: e) S rest) : WL P ops Q n e S (o :: rest) := by
  obtain ⟨h1, h2, h3, h4⟩ := fit_some hf
  exact wl_run (σ := Unit) (fun _ => v) (fun _ => S) h1 h2 h3 h4 (fun w hw => ⟨(), w, hy w hw, hw⟩) (fun _ => k)
def ON (Q : Exit → Act → World → Prop) : Exit → Act → World → Prop
  | .normal, a, w => Q .normal a w
  | _, _, _ => False
def wpHead (P : Program) (ops : Array Oper) (Q : Exit → Act → World → Prop) (m : Nat) (S : World → Prop) (Z : Array Bool → Act → World → Prop) : Nat → Array Bool → Act → World → Prop
  | 0, listed, a, w => Z listed a w
  | f + 1, listed, a, w =>
    Region.ready .any ops listed ≠ [] ∧ ∀ i ∈ Region.ready .any ops listed, i < m ∧ wpOp P ops Q i (fun a' w' => S w' ∧ wpHead P ops Q m S Z f (listed.setIfInBounds i true) a' w') a w
def tailOk (ops : Array Oper) (m : Nat) : Bool :=
  Nat.beq m ops.size || (decide (m < ops.size) && Region.sinkB .any ops m && Region.chainB .any ops m)
theorem head_lt {m i j : Nat} {listed : Array Bool} (ht : tailOk ops m = true) (inv : HeadInv .any ops m listed) (him : i < m) (hun : listed.getD i true = false)
    (hj : j ∈ Region.ready .any ops listed) : j < m := by
  simp only [tailOk, Bool.or_eq_true, Bool.and_eq_true, decide_eq_true_eq] at ht
  rcases ht with ht | ⟨⟨hn, hs⟩, hc⟩
  · have := Nat.eq_of_beq_eq_true ht
    obtain ⟨_, oj, hoj, _⟩ := mem_ready.1 hj
    have := (Array.getElem?_eq_some_iff.1 hoj).1
    omega
  · rcases Nat.lt_or_ge j m with h | h
    · exact h
    · exact absurd hj (tail_waits hs hc hn inv _ i rfl him hun j h)
theorem head_first {m i : Nat} {oi : Oper} {v : Value} {S : World → Prop} {Z : Array Bool → Act → World → Prop} (hi : ops[i]? = some oi) (hsel : Region.noSelect ops = true)
    (ht : tailOk ops m = true) (him : i < m) (hdone : ∀ listed a w, Z listed a w → ∀ j ∈ Region.ready .any ops listed, m ≤ j) :
    ∀ (f : Nat) (listed : Array Bool) (a : Act) (w : World), HeadInv .any ops m listed →
      (∀ j oj, ops[j]? = some oj → j ≠ i → listed.getD j true = false → (∀ e ∈ oj.after, Region.binds .any e = true → e.on ≠ i) → oi.apart ops oj = true) →
      i ∈ Region.ready .any ops listed → YieldsIf P ops S oi v a → S w →
      wpHead P ops (ON Q) m S Z f (listed.setIfInBounds i true) (a.put oi.dst v) w → wpHead P ops (ON Q) m S Z (f + 1) listed a w := by
  intro f
  induction f with
  | zero =>
    intro listed a w inv _ hr hy hS H
    have hun := (mem_ready.1 hr).1
    refine ⟨fun h => (by rw [h] at hr; cases hr), fun j hj => ?_⟩
    have hjm := head_lt ht inv him hun hj
    refine ⟨hjm, ?_⟩
    by_cases hji : j = i
    · subst hji; exact hy.wpOp hi hS ⟨hS, H⟩
    · have := hdone _ _ _ H j (ready_mono hj hji)
      omega
  | succ f ih =>
    intro listed a w inv hfree hr hy hS H
    have hun := (mem_ready.1 hr).1
    refine ⟨fun h => (by rw [h] at hr; cases hr), fun j hj => ?_⟩
    have hjm := head_lt ht inv him hun hj
    refine ⟨hjm, ?_⟩
    by_cases hji : j = i
    · subst hji; exact hy.wpOp hi hS ⟨hS, H⟩
    · have h1 := (H.2 j (ready_mono hj hji)).2
      obtain ⟨hjun, oj, hoj, hall⟩ := mem_ready.1 hj
      have hnot : ∀ e ∈ oj.after, Region.binds .any e = true → e.on ≠ i := fun e he hb heq => by
        have h1 := hall e he hb
        rw [heq, getD_both hun] at h1
        cases h1
      have h2 := wpOp_putIf hoj (hfree j oj hoj hji hjun hnot) (fun cs b => Region.noSelect_spec hsel i oi cs b hi) (fun cs b => Region.noSelect_spec hsel j oj cs b hoj) (fun _ _ _ h => h) hy h1
      have hfree' : ∀ k ok, ops[k]? = some ok → k ≠ i → (listed.setIfInBounds j true).getD k true = false →
          (∀ e ∈ ok.after, Region.binds .any e = true → e.on ≠ i) → oi.apart ops ok = true := fun k ok hk hki hun hno => by
        refine hfree k ok hk hki ?_ hno
        by_cases hjk : j = k
        · subst hjk; exact hjun
        · rw [getD_set_ne true hjk] at hun; exact hun
      refine wpOp_mono (fun a' w' h3 => ⟨h3.2.1, ih (listed.setIfInBounds j true) a' w' (inv.set hj hjm) hfree' (ready_mono hr (Ne.symm hji)) h3.1 h3.2.1 ?_⟩) h2
      rw [Array.setIfInBounds_comm _ _ hji]
      exact h3.2.2
theorem wpAny_of_wpHead {m g : Nat} {S : World → Prop} {Z : Array Bool → Act → World → Prop} (hZ : ∀ listed a w, Z listed a w → wpAny P .any ops Q g listed a w) :
    ∀ (f : Nat) (listed : Array Bool) (a : Act) (w : World), wpHead P ops Q m S Z f listed a w → wpAny P .any ops Q (f + g) listed a w
  | 0, listed, a, w, h => by rw [Nat.zero_add]; exact hZ _ _ _ h
  | f + 1, listed, a, w, h => by
    rw [show f + 1 + g = (f + g) + 1 by omega]
    exact ⟨fun h0 => absurd h0 h.1, fun i hi => wpOp_mono (fun a' w' h' => wpAny_of_wpHead hZ f _ a' w' h'.2) (h.2 i hi).2⟩
def Zt (P : Program) (ops : Array Oper) (Q : Exit → Act → World → Prop) (m : Nat) (listed : Array Bool) (a : Act) (w : World) : Prop :=
  Region.seqB .any ops (ops.size - m) m listed = true ∧ wpList P ops Q (ops.toList.drop m) a w
def WD (P : Program) (ops : Array Oper) (Q : Exit → Act → World → Prop) (n m : Nat) (S T : World → Prop) (f : Nat) (listed : Array Bool) (e : Env) : Prop :=
  ∀ a w, HeadInv .any ops m listed → Has e n a → T w → wpHead P ops (ON Q) m S (Zt P ops (ON Q) m) f listed a w
theorem wc_draw {e : Env} {T : World → Prop} {id : Nat} {l : List Oper} (m : Nat) (S : World → Prop) (hm : P.follows .mixedOrders = true) (hml : m ≤ l.length)
    (hT : ∀ w, T w → T w.drew)
    (h : WD P l.toArray Q n m S T m (Array.replicate l.toArray.size false) e) : WC P Q n e T (.region id l.toArray true) := by
  intro a w ha hw
  refine wp_mono (Q := ON Q) ?_ (fun x a w h => by cases x <;> first | exact h | exact h.elim)
  refine wp_region_any hm ?_
  have inv0 : HeadInv .any l.toArray m (Array.replicate l.toArray.size false) :=
    ⟨by simp, fun j oj _ hl => (by rw [getD_replicate_false] at hl; cases hl), fun t _ ht => getD_in (by simpa using ht) (getD_replicate_false _ _)⟩
  have := wpAny_of_wpHead (g := l.toArray.size - m) (fun listed a w hZ => by
    obtain ⟨hs, hl⟩ := hZ
    have hdl : (l.toArray.toList.drop m).length = l.toArray.size - m := by simp
    have := wpAny_of_seq (md := .any) (Q' := ON Q) (l.toArray.toList.drop m) m listed a w (fun j => by simp [List.getElem?_drop]) (by rw [hdl]; exact hs) hl
    rwa [hdl] at this) _ _ _ _ (h a w.drew inv0 ha (hT w hw))
  rw [show m + (l.toArray.size - m) = l.toArray.size by simp; omega] at this
  exact this
theorem wd_done {m : Nat} {e : Env} {S T : World → Prop} {listed : Array Bool} (hs : Region.seqB .any ops (ops.size - m) m listed = true)
    (k : WL P ops (ON Q) n e T (ops.toList.drop m)) : WD P ops Q n m S T 0 listed e :=
  fun a w _ ha hw => ⟨hs, k a w ha hw⟩
theorem zt_done {m : Nat} (listed : Array Bool) (a : Act) (w : World) (h : Zt P ops (ON Q) m listed a w) : ∀ j ∈ Region.ready .any ops listed, m ≤ j := seqB_ready h.1
def takeOk (ops : Array Oper) (m : Nat) (listed : Array Bool) (i : Nat) : Bool :=
  decide (i < m) && tailOk ops m && Region.noSelect ops && Region.free .any ops listed i && (Region.ready .any ops listed).contains i
theorem wd_first {m i f : Nat} {oi : Oper} {v : Value} {e e' : Env} {S T : World → Prop} {listed : Array Bool} (hi : ops[i]? = some oi) (hk : takeOk ops m listed i = true)
    (hT : ∀ w, T w → S w) (hy : ∀ a, Has e n a → YieldsIf P ops S oi v a ∧ Has e' n (a.put oi.dst v))
    (k : WD P ops Q n m S T f (listed.setIfInBounds i true) e') : WD P ops Q n m S T (f + 1) listed e := by
  intro a w inv ha hw
  simp only [takeOk, Bool.and_eq_true, decide_eq_true_eq] at hk
  obtain ⟨⟨⟨⟨him, ht⟩, hsel⟩, hf⟩, hr⟩ := hk
  have hr' : i ∈ Region.ready .any ops listed := by simpa using hr
  exact head_first hi hsel ht him zt_done f listed a w inv (Region.free_spec hi hf) hr' (hy a ha).1 (hT w hw) (k _ w (inv.set hr' him) (hy a ha).2 hw)
theorem stepPure_yields {e e' : Env} {S : World → Prop} {o : Oper} (h : stepPure P ops n e o = some e') : ∃ v, ∀ a, Has e n a → YieldsIf P ops S o v a ∧ Has e' n (a.put o.dst v) := by
  unfold stepPure at h
  split at h
  · rename_i d hd hg
    split at h
    · rename_i hc
      simp only [Bool.and_eq_true, decide_eq_true_eq] at hc
      split at h
      · rename_i v hv
        cases h
        exact ⟨v, fun a ha => ⟨.inl ⟨guardOf_wanted ha hg, fun w _ => by rw [ha.exec hc.1, pureVal_run _ _ hv w]⟩, by rw [hd]; exact ha.put d v hc.2⟩⟩
      · cases h
    · cases h
  · rename_i d hd hg
    split at h
    · rename_i hdn
      cases h
      exact ⟨undef, fun a ha => ⟨.inr ⟨guardOf_wanted ha hg, rfl⟩, by rw [hd]; exact ha.put d undef hdn⟩⟩
    · cases h
  · rename_i hd hg
    cases h
    exact ⟨undef, fun a ha => ⟨.inr ⟨guardOf_wanted ha hg, rfl⟩, by rw [hd]; exact ha⟩⟩
  · cases h
def takes (P : Program) (ops : Array Oper) (n m : Nat) : List Nat → Env → Array Bool → Option (Env × Array Bool)
  | [], e, listed => some (e, listed)
  | i :: r, e, listed => match ops[i]? with
    | some o => if takeOk ops m listed i then (match stepPure P ops n e o with | some e' => takes P ops n m r e' (listed.setIfInBounds i true) | none => none) else none
    | none => none
theorem wd_takes (is : List Nat) {m f : Nat} {e e' : Env} {S T : World → Prop} {listed listed' : Array Bool} (h : takes P ops n m is e listed = some (e', listed'))
    (hT : ∀ w, T w → S w) (k : WD P ops Q n m S T f listed' e') : WD P ops Q n m S T (is.length + f) listed e := by
  induction is generalizing e listed with
  | nil => simp only [takes, Option.some.injEq, Prod.mk.injEq] at h; obtain ⟨rfl, rfl⟩ := h; rw [show ([] : List Nat).length + f = f by simp]; exact k
  | cons i r ih =>
    simp only [takes] at h
    split at h
    · rename_i o ho
      split at h
      · rename_i hk
        split at h
        · rename_i e1 h1
          obtain ⟨v, hv⟩ := stepPure_yields (S := S) h1
          rw [show (i :: r).length + f = (r.length + f) + 1 by simp; omega]
          exact wd_first ho hk hT hv (ih h)
        · cases h
      · cases h
    · cases h
theorem wd_yl (i : Nat) {m f d : Nat} {oi : Oper} {v : Value} {e : Env} {S T : World → Prop} {listed : Array Bool} (hi : ops[i]? = some oi) (hk : takeOk ops m listed i = true)
    (hf : fit ops n e oi (some d) = true) (hT : ∀ w, T w → S w) (hy : Yl P S e oi v)
    (k : WD P ops Q n m S T f (listed.setIfInBounds i true) ((d, v) :: e)) : WD P ops Q n m S T (f + 1) listed e := by
  obtain ⟨h1, h2, h3, h4⟩ := fit_some hf
  refine wd_first (v := v) hi hk hT (fun a ha => ⟨.inl ⟨guardOf_wanted ha h3, fun w hw => by rw [ha.exec h4]; exact hy w hw⟩, ?_⟩) k
  rw [h1]; exact ha.put d v h2
theorem wd_call (i : Nat) {m f d : Nat} {oi : Oper} {e : Env} {S T : World → Prop} {listed : Array Bool} {g : FuncId} {args : Array Value} {R : World → Ending → World → Prop}
    (hi : ops[i]? = some oi) (him : i < m) (hr : Region.ready .any ops listed = [i]) (hf : fit ops n e oi (some d) = true)
    (hv : pureVal P (execOp (rho e) oi) = some (.enter g args))
    (h : ∀ w, T w → Calls P g args w (R w))
    (k : ∀ w ending w', T w → R w ending w' → ∃ v, ending = .returned v ∧ S w' ∧ WD P ops Q n m S (· = w') f (listed.setIfInBounds i true) ((d, v) :: e)) : WD P ops Q n m S T (f + 1) listed e := by
  intro a w inv ha hw
  obtain ⟨h1, h2, h3, h4⟩ := fit_some hf
  have him' : i ∈ Region.ready .any ops listed := by rw [hr]; simp
  refine ⟨by rw [hr]; simp, fun j hj => ?_⟩
  rw [hr] at hj
  have : j = i := by simpa using hj
  subst this
  refine ⟨him, ?_⟩
  unfold wpOp
  simp only [hi, guardOf_wanted ha h3, if_true]
  refine .inl ?_
  unfold Oper.wp
  rw [ha.exec h4, pureVal_run _ _ hv w]
  simp only [Oper.upon]
  refine (h w hw).mono fun ending w' hR => ?_
  obtain ⟨v, rfl, hS, hk⟩ := k w ending w' hw hR
  simp only [h1]
  exact ⟨hS, hk _ w' (inv.set him' him) (ha.put d _ h2) rfl⟩
end
section
variable {P : Program} {ops : Array Oper} {Q : Exit → Act → World → Prop} {n : Nat} {e : Env} {S : World → Prop}
def NX (Q : Exit → Act → World → Prop) (n : Nat) (e : Env) (S : World → Prop) (x : Exit) : Prop := ∀ a w, Has e n a → S w → Q x a w
theorem nx_block_here {id : Nat} (h : NX Q n e S .normal) : NX (Exit.inBlock id Q) n e S (.exit id) := fun a w ha hw => by simp only [Exit.inBlock, if_true]; exact h a w ha hw
def subEnv (e' e : Env) : Prop := ∀ k v, look e' k = some v → look e k = some v
end
section
variable {P : Program} {ops : Array Oper} {Q : Exit → Act → World → Prop} {n : Nat} {e : Env} {S : World → Prop}
def stepsEnv (P : Program) (ops : Array Oper) (n : Nat) : Nat → Env → List Oper → Option Env
  | 0, e, _ => some e
  | _ + 1, _, [] => none
  | m + 1, e, o :: l => match stepPure P ops n e o with
    | some e' => stepsEnv P ops n m e' l
    | none => none
theorem yl_pure {o : Oper} {v : Value} (h : pureVal P (execOp (rho e) o) = some (.value v)) : Yl P S e o v := fun w _ => pureVal_run _ _ h w
theorem i64w {t : Int} (h1 : -9223372036854775808 ≤ t) (h2 : t ≤ 9223372036854775807) : IntKind.i64.wrap t = t := IntWalk.i64_in t ⟨h1, h2⟩
theorem yl_int {o : Oper} {t r : Int} (h : pureVal P (execOp (rho e) o) = some (.value (.int .i64 (IntKind.i64.wrap t)))) (hw : IntKind.i64.wrap t = r) : Yl P S e o (.int .i64 r) := by
  rw [← hw]; exact yl_pure h
theorem wl_callB {X : Type} (V : X → Value) (Rel : World → X → World → Prop) {o : Oper} {rest : List Oper} {d : Nat} {f : FuncId} {args : Array Value} (hf : fit ops n e o (some d) = true) (hv : pureVal P (execOp (rho e) o) = some (.enter f args))
    (h : ∀ w, S w → Calls P f args w (fun z w' => ∃ x, z = .returned (V x) ∧ Rel w x w')) (k : ∀ w x w', S w → Rel w x w' → WL P ops Q n ((d, V x) :: e) (· = w') rest) : WL P ops Q n e S (o :: rest) := by
  obtain ⟨h1, h2, h3, h4⟩ := fit_some hf
  refine wl_call h1 h2 h3 h4 hv (R := fun w z w' => ∃ x, z = .returned (V x) ∧ Rel w x w') h (fun w z w' hw hR => ?_)
  obtain ⟨x, hz, hr⟩ := hR
  exact ⟨V x, hz, k w x w' hw hr⟩
theorem wl_eq {l : List Oper} {w0 : World} (h : S w0) (k : WL P ops Q n e S l) : WL P ops Q n e (· = w0) l := fun a w ha hw => k a w ha (hw ▸ h)
theorem wc_eq {c : Code} {w0 : World} (h : S w0) (k : WC P Q n e S c) : WC P Q n e (· = w0) c := fun a w ha hw => k a w ha (hw ▸ h)
end
end Go.Sx

namespace Go.Sx
open Go.RowKit
set_option linter.unusedVariables false
structure Blk where
  b : Nat
  c : Array Value
  t : TypeId
structure SH (wb : World) (L : List Blk) (w : World) : Prop where
  os : w.os = wb.os
  tape : w.tape = wb.tape
  output : w.output = wb.output
  size : wb.heap.size ≤ w.heap.size
  kept : ∀ k, k < wb.heap.size → (∀ x ∈ L, x.b ≠ k) → w.heap[k]? = wb.heap[k]?
  blk : ∀ x ∈ L, w.heap[x.b]? = some (.cells x.c x.t (0, 0))
  dis : ∀ (i j : Nat) (x y : Blk), L[i]? = some x → L[j]? = some y → x.b = y.b → i = j
def Im (wb : World) (L : List Blk) (k : Nat) : Prop := k < wb.heap.size ∧ ∀ x ∈ L, x.b ≠ k
theorem SH.refl (w : World) : SH w [] w := ⟨rfl, rfl, rfl, Nat.le_refl _, fun _ _ _ => rfl, by simp, by simp⟩
theorem SH.drew {wb : World} {L : List Blk} {w : World} (h : SH wb L w) : SH wb L w.drew := ⟨h.os, h.tape, h.output, h.size, h.kept, h.blk, h.dis⟩
theorem SH.lt {wb : World} {L : List Blk} {w : World} (h : SH wb L w) {x : Blk} (hx : x ∈ L) : x.b < w.heap.size := (Array.getElem?_eq_some_iff.1 (h.blk x hx)).1
theorem SH.alloc {wb : World} {L : List Blk} {w : World} (h : SH wb L w) (C : Array Value) (T : TypeId) : SH wb (⟨w.heap.size, C, T⟩ :: L) (w.alloc (.cells C T)) := by
  refine ⟨h.os, h.tape, h.output, Nat.le_trans h.size (by simp), fun k hk hx => ?_, fun x hx => ?_, ?_⟩
  · rw [Below.heap_alloc w _ k (Nat.lt_of_lt_of_le hk h.size)]
    exact h.kept k hk (fun x hx' => hx x (List.mem_cons_of_mem _ hx'))
  · rcases List.mem_cons.1 hx with rfl | hx
    · exact heap_alloc_new w _
    · rw [Below.heap_alloc w _ _ (h.lt hx)]; exact h.blk x hx
  · intro i j x y hi hj he
    cases i with
    | zero =>
      simp at hi
      cases j with
      | zero => rfl
      | succ j =>
        simp at hj
        have := h.lt (List.mem_of_getElem? hj)
        rw [← he, ← hi] at this
        exact absurd this (Nat.lt_irrefl _)
    | succ i =>
      simp at hi
      cases j with
      | zero =>
        simp at hj
        have := h.lt (List.mem_of_getElem? hi)
        rw [he, ← hj] at this
        exact absurd this (Nat.lt_irrefl _)
      | succ j => simp at hj; rw [h.dis i j x y hi hj he]
theorem SH.setRow {wb : World} {L : List Blk} {w : World} (h : SH wb L w) (p : Nat) {b : Nat} {c : Array Value} {t : TypeId} (hp : L[p]? = some ⟨b, c, t⟩) (c' : Array Value) :
    SH wb (L.set p ⟨b, c', t⟩) (w.setRow b c') := by
  have hpl : p < L.length := (List.getElem?_eq_some_iff.1 hp).1
  have hmem : (⟨b, c, t⟩ : Blk) ∈ L := List.mem_of_getElem? hp
  have hset : ∀ (i : Nat) (x : Blk), (L.set p ⟨b, c', t⟩)[i]? = some x → ∃ y, L[i]? = some y ∧ y.b = x.b := fun i x hi => by
    by_cases hpi : p = i
    · subst hpi; simp [hpl] at hi; exact ⟨_, hp, by rw [← hi]⟩
    · rw [List.getElem?_set_ne hpi] at hi; exact ⟨x, hi, rfl⟩
  refine ⟨h.os, h.tape, h.output, by simpa using h.size, fun k hk hx => ?_, fun x hx => ?_, fun i j x y hi hj he => ?_⟩
  · have hkb : k ≠ b := fun e => by
      subst e
      have : (⟨k, c', t⟩ : Blk) ∈ L.set p ⟨k, c', t⟩ := List.mem_of_getElem? (i := p) (by simp [hpl])
      exact hx _ this rfl
    rw [setRow_other w b k c' hkb]
    refine h.kept k hk (fun x hx' hxe => ?_)
    obtain ⟨i, hi⟩ := List.getElem?_of_mem hx'
    by_cases hpi : p = i
    · subst hpi; rw [hp] at hi; cases hi; exact hkb hxe.symm
    · exact hx x (List.mem_of_getElem? (i := i) (by rw [List.getElem?_set_ne hpi]; exact hi)) hxe
  · obtain ⟨i, hi⟩ := List.getElem?_of_mem hx
    by_cases hpi : p = i
    · subst hpi
      simp [hpl] at hi
      subst hi
      exact setRow_heap w b c c' t _ (h.blk _ hmem)
    · rw [List.getElem?_set_ne hpi] at hi
      have hne : x.b ≠ b := fun e => by
        exact hpi (h.dis p i _ _ hp hi e.symm)
      rw [setRow_other w b _ c' hne]
      exact h.blk x (List.mem_of_getElem? hi)
  · obtain ⟨x', hx', ex⟩ := hset i x hi
    obtain ⟨y', hy', ey⟩ := hset j y hj
    exact h.dis i j x' y' hx' hy' (by rw [ex, ey, he])
theorem SH.cell {wb : World} {L : List Blk} {w : World} (h : SH wb L w) (p : Nat) {b : Nat} {c : Array Value} {t : TypeId} (hp : L[p]? = some ⟨b, c, t⟩) (i : Nat) : w.cell? ⟨b, i, none⟩ = c[i]? :=
  cell_of_row w b i c t (0, 0) (h.blk _ (List.mem_of_getElem? hp))
theorem SH.frozen {wb : World} {L : List Blk} {w : World} (h : SH wb L w) (p : Nat) {b : Nat} {c : Array Value} {t : TypeId} (hp : L[p]? = some ⟨b, c, t⟩) (i : Nat) : w.frozen? ⟨b, i, none⟩ = false :=
  frozen_of_row w b i c t (h.blk _ (List.mem_of_getElem? hp))
theorem SH.still {wb : World} {L : List Blk} {w : World} (h : SH wb L w) {k : Nat} (hk : Im wb L k) : w.heap[k]? = wb.heap[k]? := h.kept k hk.1 hk.2
theorem SH.cellIm {wb : World} {L : List Blk} {w : World} (h : SH wb L w) {k : Nat} (hk : Im wb L k) (i : Nat) : w.cell? ⟨k, i, none⟩ = wb.cell? ⟨k, i, none⟩ :=
  World.cell?_of_block (w := wb) (w' := w) (a := ⟨k, i, none⟩) (h.still hk)
def kindOf (P : Program) (T : TypeId) : Option (Option Nat) :=
  match P.underlying T, P.info? T with
  | some (.struct _), some i | some (.array _ _), some i => some (some i.size)
  | some _, some i => if i.size = 1 then some none else none
  | _, _ => none
section
variable {P : Program} {ops : Array Oper} {Q : Exit → Act → World → Prop} {n : Nat}
theorem run_load_one (w : World) (T : TypeId) (a : Addr) (v : Value) (hk : kindOf P T = some none) (hc : w.cell? a = some v) : (loadVar T a).run P w = .ok v w := by
  unfold kindOf at hk
  split at hk
  · simp at hk
  · simp at hk
  · rename_i d i hns hna hu hi
    have hagg : (isAgg T).run P w = .ok false w := by
      unfold isAgg
      rw [Sem.run_bind, run_underlying hu w]
      cases d <;> simp_all
    simp [loadVar, hagg, load, Sem.run, hc]
  · cases hk
theorem run_load_many (w : World) (T : TypeId) (b o : Nat) (cs : List Value) (hk : kindOf P T = some (some cs.length)) (hc : w.rangeAt b o cs) : (loadVar T ⟨b, o, none⟩).run P w = .ok (.agg cs.toArray) w := by
  unfold kindOf at hk
  split at hk
  · rename_i fs i hu hi
    exact run_loadVar_mid w b o T cs _ hc hu rfl (by rw [hi]; simpa using hk)
  · rename_i m e i hu hi
    exact run_loadVar_mid w b o T cs _ hc hu rfl (by rw [hi]; simpa using hk)
  · split at hk <;> simp at hk
  · cases hk
def readAt (P : Program) (T : TypeId) (c : Array Value) (off : Nat) : Option Value :=
  match kindOf P T with
  | some none => c[off]?
  | some (some s) => if off + s ≤ c.size then some (.agg (c.extract off (off + s))) else none
  | none => none
theorem rangeAt_row {w : World} {b : Nat} {c : Array Value} (hc : ∀ i, w.cell? ⟨b, i, none⟩ = c[i]?) (o s : Nat) : w.rangeAt b o (c.extract o (o + s)).toList := fun j v hv => by
  rw [hc]
  simp only [Array.getElem?_toList, Array.getElem?_extract] at hv
  split at hv
  · exact hv
  · cases hv
theorem run_readAt (w : World) (T : TypeId) (b off : Nat) (c : Array Value) (v : Value) (hc : ∀ i, w.cell? ⟨b, i, none⟩ = c[i]?) (hv : readAt P T c off = some v) :
    (loadVar T ⟨b, off, none⟩).run P w = .ok v w := by
  unfold readAt at hv
  split at hv
  · rename_i hk
    exact run_load_one w T _ v hk (by rw [hc]; exact hv)
  · rename_i s hk
    split at hv
    · rename_i hle
      cases hv
      have hlen : (c.extract off (off + s)).toList.length = s := by simp; omega
      have := run_load_many (P := P) w T b off (c.extract off (off + s)).toList (by rw [hlen]; exact hk) (rangeAt_row hc off s)
      rwa [Array.toArray_toList] at this
    · cases hv
  · cases hv
theorem yl_load {e : Env} {wb : World} {L : List Blk} {o : Oper} {T : TypeId} {x : Operand} {b off : Nat} {c : Array Value} {t : TypeId} {v : Value} (p : Nat) (ho : o.op = .load T x)
    (hx : rho e x = .pointer (some ⟨b, off, none⟩)) (hp : L[p]? = some ⟨b, c, t⟩) (hv : readAt P T c off = some v) : Yl P (SH wb L) e o v := fun w hw => by
  unfold execOp
  simp only [ho, hx, Instr.loadAt, Instr.sureAddr, Sem.run_bind, Sem.run_pure, Result.andThen_ok, run_readAt w T b off c v (fun i => hw.cell p hp i) hv]
theorem yl_load_im {e : Env} {wb : World} {L : List Blk} {o : Oper} {T : TypeId} {x : Operand} {b off : Nat} {v : Value} (ho : o.op = .load T x)
    (hx : rho e x = .pointer (some ⟨b, off, none⟩)) (hI : Im wb L b) (hk : kindOf P T = some none) (hv : wb.cell? ⟨b, off, none⟩ = some v) : Yl P (SH wb L) e o v := fun w hw => by
  unfold execOp
  simp only [ho, hx, Instr.loadAt, Instr.sureAddr, Sem.run_bind, Sem.run_pure, Result.andThen_ok, run_load_one w T _ v hk (by rw [hw.cellIm hI]; exact hv)]
theorem yl_loads_im {e : Env} {wb : World} {L : List Blk} {o : Oper} {T : TypeId} {x : Operand} {b off : Nat} {cs : List Value} (ho : o.op = .load T x)
    (hx : rho e x = .pointer (some ⟨b, off, none⟩)) (hI : Im wb L b) (hk : kindOf P T = some (some cs.length)) (hv : wb.rangeAt b off cs) : Yl P (SH wb L) e o (.agg cs.toArray) := fun w hw => by
  unfold execOp
  simp only [ho, hx, Instr.loadAt, Instr.sureAddr, Sem.run_bind, Sem.run_pure, Result.andThen_ok, run_load_many w T b off cs hk (fun j v hj => by rw [hw.cellIm hI]; exact hv j v hj)]
def writeAt (P : Program) (T : TypeId) (c : Array Value) (off : Nat) (v : Value) : Option (Array Value) :=
  match P.info? T with
  | some i => if i.size = v.cells.size ∧ off + v.cells.size ≤ c.size ∧ v.cells.all (·.oneCell') = true
      then some (c.toList.take off ++ v.cells.toList ++ c.toList.drop (off + v.cells.size)).toArray else none
  | none => none
theorem run_writeAt (w : World) (T : TypeId) (b off : Nat) (c c' : Array Value) (t : TypeId) (v : Value) (hb : w.heap[b]? = some (.cells c t (0, 0))) (hv : writeAt P T c off v = some c') :
    (storeVar T ⟨b, off, none⟩ v).run P w = .ok () (w.setRow b c') := by
  unfold writeAt at hv
  split at hv
  · rename_i i hi
    split at hv
    · rename_i h
      obtain ⟨h1, h2, h3⟩ := h
      cases hv
      have := run_storeCells_at P b off t v.cells.toList 0 c w hb (by simpa using h2) (fun u hu => (Array.all_eq_true_iff_forall_mem.1 h3) u (by simpa using hu))
      simp only [Nat.add_zero, Array.length_toList] at this
      simp [storeVar, sizeOf, typeInfo, hi, h1, this]
    · cases hv
  · cases hv
theorem wl_store {e : Env} {wb : World} {L L' : List Blk} {o : Oper} {rest : List Oper} {T : TypeId} {x y : Operand} {b off : Nat} {c c' : Array Value} {t : TypeId} {v : Value} (p : Nat)
    (hf : fit ops n e o none = true) (ho : o.op = .store T x y) (hx : rho e x = .pointer (some ⟨b, off, none⟩)) (hy : rho e y = v) (hp : L[p]? = some ⟨b, c, t⟩)
    (hv : writeAt P T c off v = some c') (hL : L.set p ⟨b, c', t⟩ = L')
    (k : WL P ops Q n e (SH wb L') rest) : WL P ops Q n e (SH wb L) (o :: rest) := by
  obtain ⟨h1, h2, h3⟩ := fit_none hf
  refine wl_skip (SH wb L') h1 h2 h3 (fun w hw => ⟨w.setRow b c', ?_, hL ▸ hw.setRow p hp c'⟩) k
  unfold execOp
  simp only [ho, hx, hy, Instr.storeAt, Instr.sureAddr, Sem.run_bind, Sem.run_pure, Result.andThen_ok, run_writeAt w T b off c c' t v (hw.blk _ (List.mem_of_getElem? hp)) hv]
def newAt (P : Program) (r : Nat) : Sem Next → Option (Obj × Next)
  | .new o k => (pureVal P (k r)).map fun x => (o, x)
  | .program k => newAt P r (k P)
  | .mark _ k => newAt P r k
  | _ => none
theorem newAt_run (s : Sem Next) (w : World) (o : Obj) (x : Next) (h : newAt P w.heap.size s = some (o, x)) : s.run P w = .ok x (w.alloc o) := by
  induction s with
  | new ob k ih =>
    simp only [newAt, Option.map_eq_some_iff] at h
    obtain ⟨y, hy, he⟩ := h
    cases he
    simp only [Sem.run]
    exact pureVal_run _ _ hy _
  | program k ih => simp only [newAt] at h; simp only [Sem.run]; exact ih P h
  | mark m k ih => simp only [newAt] at h; simp only [Sem.run]; exact ih h
  | _ => simp [newAt] at h
theorem wl_new {e : Env} {wb : World} {L : List Blk} {o : Oper} {rest : List Oper} {d : Nat} (C : Array Value) (T : TypeId) (V : Nat → Value)
    (hf : fit ops n e o (some d) = true) (hn : ∀ r, newAt P r (execOp (rho e) o) = some (.cells C T (0, 0), .value (V r)))
    (k : ∀ r, wb.heap.size ≤ r → WL P ops Q n ((d, V r) :: e) (SH wb (⟨r, C, T⟩ :: L)) rest) : WL P ops Q n e (SH wb L) (o :: rest) := by
  obtain ⟨h1, h2, h3, h4⟩ := fit_some hf
  refine wl_run (σ := { r : Nat // wb.heap.size ≤ r }) (fun r => V r.1) (fun r => SH wb (⟨r.1, C, T⟩ :: L)) h1 h2 h3 h4 (fun w hw => ⟨⟨w.heap.size, hw.size⟩, w.alloc (.cells C T), newAt_run _ w _ _ (hn _), hw.alloc C T⟩) (fun r => k r.1 r.2)
theorem SH.tail {wb : World} {x : Blk} {L : List Blk} {w : World} (h : SH wb (x :: L) w) (hx : wb.heap.size ≤ x.b) : SH wb L w :=
  ⟨h.os, h.tape, h.output, h.size, fun k hk hL => h.kept k hk (fun y hy => by
    rcases List.mem_cons.1 hy with rfl | hy
    · omega
    · exact hL y hy), fun y hy => h.blk y (List.mem_cons_of_mem _ hy),
   fun i j y z hi hj he => by have := h.dis (i + 1) (j + 1) y z (by simpa using hi) (by simpa using hj) he; omega⟩
theorem SH.after {wb : World} {L : List Blk} {w w' : World} (h : SH wb L w) (hb : Below w.heap.size w w') : SH w' L w' :=
  ⟨rfl, rfl, rfl, Nat.le_refl _, fun _ _ _ => rfl, fun x hx => by rw [hb.block _ (h.lt hx)]; exact h.blk x hx, h.dis⟩
theorem SH.keep {wb : World} {L : List Blk} {w w' : World} (h : SH wb L w) (hb : Below w.heap.size w w') : SH wb L w' :=
  ⟨hb.os.trans h.os, hb.tape.trans h.tape, hb.output.trans h.output, Nat.le_trans h.size hb.size, fun k hk hx => by rw [hb.block _ (Nat.lt_of_lt_of_le hk h.size)]; exact h.kept k hk hx,
   fun x hx => by rw [hb.block _ (h.lt hx)]; exact h.blk x hx, h.dis⟩
structure Tr (wb : World) (L : List Blk) (wb' : World) (L' : List Blk) : Prop where
  os : wb'.os = wb.os
  tape : wb'.tape = wb.tape
  output : wb'.output = wb.output
  size : wb.heap.size ≤ wb'.heap.size
  im : ∀ k, Im wb L k → Im wb' L' k
  same : ∀ k, Im wb L k → wb'.heap[k]? = wb.heap[k]?
theorem Tr.refl (wb : World) (L : List Blk) : Tr wb L wb L := ⟨rfl, rfl, rfl, Nat.le_refl _, fun _ h => h, fun _ _ => rfl⟩
theorem Tr.trans {a b c : World} {L M N : List Blk} (h : Tr a L b M) (k : Tr b M c N) : Tr a L c N :=
  ⟨k.os.trans h.os, k.tape.trans h.tape, k.output.trans h.output, Nat.le_trans h.size k.size, fun i hi => k.im i (h.im i hi), fun i hi => (k.same i (h.im i hi)).trans (h.same i hi)⟩
theorem Tr.below {wb wb' : World} {L L' : List Blk} (h : Tr wb L wb' L') {B : Nat} (hB : B ≤ wb.heap.size) (hL : ∀ x ∈ L, B ≤ x.b) : Below B wb wb' :=
  ⟨h.os, h.tape, h.output, h.size, fun k hk => h.same k ⟨by omega, fun x hx => by have := hL x hx; omega⟩⟩
theorem SH.tr {wb : World} {L : List Blk} {w w' : World} (h : SH wb L w) (hb : Below w.heap.size w w') : Tr wb L w' L :=
  ⟨hb.os.trans h.os, hb.tape.trans h.tape, hb.output.trans h.output, Nat.le_trans h.size hb.size, fun k hk => ⟨Nat.lt_of_lt_of_le hk.1 (Nat.le_trans h.size hb.size), hk.2⟩, fun k hk => by rw [hb.block _ (Nat.lt_of_lt_of_le hk.1 h.size)]; exact h.still hk⟩
theorem SH.here {wb : World} {L : List Blk} {w : World} (h : SH wb L w) : SH w L w :=
  ⟨rfl, rfl, rfl, Nat.le_refl _, fun _ _ _ => rfl, h.blk, h.dis⟩
theorem SH.trHere {wb : World} {L : List Blk} {w : World} (h : SH wb L w) : Tr wb L w L :=
  ⟨h.os, h.tape, h.output, h.size, fun k hk => ⟨Nat.lt_of_lt_of_le hk.1 h.size, hk.2⟩, fun k hk => h.still hk⟩
theorem SH.below {wb : World} {L : List Blk} {w : World} (h : SH wb L w) {B : Nat} {w0 : World} (h0 : Below B w0 wb) (hB : B ≤ wb.heap.size) (hL : ∀ x ∈ L, B ≤ x.b) : Below B w0 w :=
  h0.trans ⟨h.os, h.tape, h.output, h.size, fun k hk => h.kept k (by omega) (fun x hx => by have := hL x hx; omega)⟩
theorem yl_index {e : Env} {S : World → Prop} {o : Oper} {T E : TypeId} {x y : Operand} {b off len cap k es : Nat} (ho : o.op = .indexAddr T x y)
    (hT : (P.underlying T, (P.info? E).map (·.size)) = (some (.slice E), some es)) (hx : rho e x = .slice (some ⟨b, off, none⟩) len cap) (hy : rho e y = .int .i64 (k : Int)) (hk : k < len) :
    Yl P S e o (.pointer (some ⟨b, off + k * es, none⟩)) := fun w _ => by
  simp only [Prod.mk.injEq] at hT
  obtain ⟨hu, hi⟩ := hT
  cases hq : P.info? E with
  | none => simp [hq] at hi
  | some i =>
    have hs : i.size = es := by simpa [hq] using hi
    have hadd : (⟨b, off, none⟩ : Addr).add (k * es) = ⟨b, off + k * es, none⟩ := by unfold Addr.add; split <;> simp_all
    unfold execOp
    simp [ho, hx, hy, Instr.indexAt, asIntOf, run_underlying hu, hk, sizeOf, typeInfo, hq, hs, hadd]
end
end Go.Sx

namespace Go.Sx
open Go.RowKit
set_option linter.unusedVariables false
def Own (E size : Nat) (v : Value) (n : Nat) (xs : List Value) (R : List Blk) : Prop :=
  xs.length = n * size ∧ ((v = .slice none 0 0 ∧ n = 0 ∧ R = []) ∨
    ∃ g cap c, v = .slice (some ⟨g, 0, none⟩) n cap ∧ R = [⟨g, c, E⟩] ∧ n ≤ cap ∧ cap ≤ maxLen ∧ c.size = cap * size ∧ c.toList.take (n * size) = xs)
theorem Own.nil (E size : Nat) : Own E size (.slice none 0 0) 0 [] [] := ⟨by simp, .inl ⟨rfl, rfl, rfl⟩⟩
theorem Tr.drewAlloc {wb : World} {L R R' : List Blk} {w : World} (h : SH wb (R ++ L) w) (C : Array Value) (T : TypeId) :
    SH (w.drew.alloc (.cells C T)) ([⟨w.heap.size, C, T⟩] ++ L) (w.drew.alloc (.cells C T)) ∧ Tr wb (R ++ L) (w.drew.alloc (.cells C T)) ([⟨w.heap.size, C, T⟩] ++ L) := by
  have hL : SH w L w := ⟨rfl, rfl, rfl, Nat.le_refl _, fun _ _ _ => rfl, fun x hx => h.blk x (List.mem_append_right _ hx), fun i j x y hi hj he => by
    have := h.dis (R.length + i) (R.length + j) x y (by rw [List.getElem?_append_right (by omega)]; simpa using hi) (by rw [List.getElem?_append_right (by omega)]; simpa using hj) he
    omega⟩
  have ha := (hL.drew).alloc C T
  refine ⟨ha.here, ?_⟩
  refine ⟨h.os, h.tape, h.output, Nat.le_trans h.size (show w.heap.size ≤ (w.drew.alloc (.cells C T)).heap.size by rw [World.size_alloc]; exact Nat.le_succ _), fun k hk => ⟨Nat.lt_of_lt_of_le hk.1 (Nat.le_trans h.size (show w.heap.size ≤ (w.drew.alloc (.cells C T)).heap.size by rw [World.size_alloc]; exact Nat.le_succ _)), fun x hx => ?_⟩, fun k hk => ?_⟩
  · rcases List.mem_append.1 hx with hx | hx
    · simp only [List.mem_singleton] at hx
      subst hx
      have := hk.1
      have := h.size
      show w.heap.size ≠ k
      omega
    · exact hk.2 x (List.mem_append_right _ hx)
  · rw [Below.heap_alloc _ _ _ (show k < w.drew.heap.size from Nat.lt_of_lt_of_le hk.1 h.size)]
    exact h.still hk
section
variable {P : Program} {ops : Array Oper} {Q : Exit → Act → World → Prop} {n : Nat}
theorem append_sh {wb : World} {L R : List Blk} {w : World} (t ty E : TypeId) (z : Value) (size bytes : Nat)
    (hT : (P.underlying t, (P.info? E).map (fun i => (i.zero, i.size, i.bytes))) = (some (.slice E), some (some z, size, bytes))) (hz : z.cells.size = size) (hs0 : 0 < size)
    (v : Value) (k : Nat) (xs : List Value) (hown : Own E size v k xs R) (h : SH wb (R ++ L) w)
    (a : Addr) (m c : Nat) (news : List Value) (hl : news.length = m * size) (hnews : ∀ j u, news[j]? = some u → w.cell? (a.add j) = some u) (h1 : ∀ u ∈ news, u.oneCell' = true)
    (h63 : k + m ≤ maxLen) (hby : (k + m) * bytes ≤ 140737488355328) :
    ∃ v' R' w', (Builtin.append_ #[t, t] ty #[v, .slice (some a) m c]).run P w = .ok v' w' ∧ Own E size v' (k + m) (xs ++ news) R' ∧ SH w' (R' ++ L) w' ∧ Tr wb (R ++ L) w' (R' ++ L) ∧ ∃ R1, R1.map (·.b) = R.map (·.b) ∧ SH wb (R1 ++ L) w' := by
  simp only [Prod.mk.injEq] at hT
  obtain ⟨ht, hi0⟩ := hT
  cases hi : P.info? E with
  | none => simp [hi] at hi0
  | some i =>
    simp only [hi, Option.map_some, Option.some.injEq, Prod.mk.injEq] at hi0
    obtain ⟨hzi, hsz, hbz⟩ := hi0
    subst hsz
    subst hbz
    have hsmall : k + m ≤ 9223372036854775807 := by simp only [maxLen] at h63; omega
    have hlen : (xs ++ news).length = (k + m) * i.size := by rw [List.length_append, hown.1, hl, Nat.add_mul]
    have grown : ∀ old, Own E i.size (.slice (some ⟨w.heap.size, 0, none⟩) (k + m) (grownCap w (k + m) old E)) (k + m) (xs ++ news)
        [⟨w.heap.size, xs.toArray ++ news.toArray ++ Builtin.zeroCells z.cells (grownCap w (k + m) old E - (k + m)), E⟩] := by
      intro old
      have hge := grownCap_ge w (k + m) old E
      refine ⟨hlen, .inr ⟨_, _, _, rfl, rfl, hge, grownCap_le_maxLen w (k + m) old E h63, ?_, ?_⟩⟩
      · simp only [Array.size_append, List.size_toArray, size_zeroCells, hz, hown.1, hl, ← Nat.add_mul]
        congr 1
        omega
      · simp only [Array.toList_append, List.append_assoc]
        rw [← List.append_assoc, ← hlen]
        exact List.take_left
    rcases hown.2 with ⟨rfl, rfl, rfl⟩ | ⟨g, cap, cur, rfl, rfl, hnc, hcm, hcs, htake⟩
    · have hx : xs = [] := List.eq_nil_of_length_eq_zero (by simpa using hown.1)
      subst hx
      by_cases hm : m = 0
      · subst hm
        have hn : news = [] := List.eq_nil_of_length_eq_zero (by simpa using hl)
        subst hn
        refine ⟨.slice none 0 0, [], w, ?_, Own.nil E i.size, h.here, h.trHere, [], rfl, h⟩
        simp [Builtin.append_, run_underlying ht, sizeOf, typeInfo, hi, Builtin.lenOf, Builtin.firstCells, loadCells, loadCellsFrom]
      · have hr := run_append_nil (P := P) w t ty E i z ht hi hzi a m c news hl hnews (by omega) (by omega) (by simp only [Nat.zero_add] at hby; omega)
        have hg := grown 0
        have hd := Tr.drewAlloc (R' := []) h (news.toArray ++ Builtin.zeroCells z.cells (grownCap w m 0 E - m)) E
        simp only [Nat.zero_add, List.nil_append, Array.empty_append] at hg ⊢
        exact ⟨_, _, _, hr, hg, hd.1, hd.2, [], rfl, (h.drew.alloc _ _).tail h.size⟩
    · have hb : w.heap[g]? = some (.cells cur E (0, 0)) := h.blk ⟨g, cur, E⟩ (by simp)
      by_cases hroom : k + m ≤ cap
      · have hfit : k * i.size + news.length ≤ cur.size := by rw [hl, hcs, ← Nat.add_mul]; exact Nat.mul_le_mul_right _ hroom
        have hr := run_append_room (P := P) w t ty E i ht hi g k cap cur hb a m c news hl hnews h1 hroom hfit
        have hs := h.setRow 0 (b := g) (c := cur) (t := E) rfl (cur.toList.take (k * i.size) ++ news ++ cur.toList.drop (k * i.size + news.length)).toArray
        refine ⟨_, [⟨g, (cur.toList.take (k * i.size) ++ news ++ cur.toList.drop (k * i.size + news.length)).toArray, E⟩], _, hr, ⟨hlen, .inr ⟨g, cap, _, rfl, rfl, hroom, hcm, ?_, ?_⟩⟩, hs.here, ?_, [⟨g, (cur.toList.take (k * i.size) ++ news ++ cur.toList.drop (k * i.size + news.length)).toArray, E⟩], rfl, hs⟩
        · simp only [List.size_toArray, List.length_append, List.length_take, List.length_drop, Array.length_toList]
          omega
        · rw [htake, ← hlen]
          exact List.take_left
        · have := hs.trHere
          refine ⟨this.os, this.tape, this.output, this.size, fun j hj => this.im j ⟨hj.1, fun x hx => ?_⟩, fun j hj => this.same j ⟨hj.1, fun x hx => ?_⟩⟩
          all_goals
            have hx' : x ∈ ({ b := g, c := _, t := E } : Blk) :: L := hx
            rcases List.mem_cons.1 hx' with rfl | hx'
            · exact hj.2 ⟨g, cur, E⟩ (by simp)
            · exact hj.2 x (List.mem_append_right _ hx')
      · have holds : ∀ j u, xs[j]? = some u → w.cell? ((⟨g, 0, none⟩ : Addr).add j) = some u := fun j u hu => by
          have hadd : (⟨g, 0, none⟩ : Addr).add j = ⟨g, j, none⟩ := by unfold Addr.add; split <;> simp_all
          rw [hadd, cell_of_row w g j cur E (0, 0) hb]
          rw [← htake, List.getElem?_take] at hu
          split at hu
          · simpa using hu
          · cases hu
        have hr := run_append_grow (P := P) w t ty E i z ht hi hzi ⟨g, 0, none⟩ k cap xs hown.1 holds a m c news hl hnews (by omega) (by omega) (growslice_fits (by omega) hby)
        have hd := Tr.drewAlloc (R' := []) h (xs.toArray ++ news.toArray ++ Builtin.zeroCells z.cells (grownCap w (k + m) cap E - (k + m))) E
        exact ⟨_, _, _, hr, grown cap, hd.1, hd.2, _, rfl, (h.drew.alloc _ _).tail h.size⟩
theorem SH.perm {wb : World} {L L' : List Blk} {w : World} (h : SH wb L w) (hm : ∀ x, x ∈ L' ↔ x ∈ L) (hd : ∀ (i j : Nat) (x y : Blk), L'[i]? = some x → L'[j]? = some y → x.b = y.b → i = j) : SH wb L' w :=
  ⟨h.os, h.tape, h.output, h.size, fun k hk hx => h.kept k hk (fun x hL => hx x ((hm x).2 hL)), fun x hx => h.blk x ((hm x).1 hx), hd⟩
theorem SH.swap {wb : World} {A R : List Blk} {w : World} (h : SH wb (A ++ R) w) : SH wb (R ++ A) w := by
  refine h.perm (fun x => by simp only [List.mem_append]; exact or_comm) (fun i j x y hi hj he => ?_)
  have look : ∀ (i : Nat) (x : Blk), (R ++ A)[i]? = some x → ∃ i', (A ++ R)[i']? = some x ∧ ((i < R.length ∧ i' = A.length + i) ∨ (R.length ≤ i ∧ i' = i - R.length ∧ i' < A.length)) := fun i x hi => by
    by_cases hl : i < R.length
    · rw [List.getElem?_append_left hl] at hi
      exact ⟨A.length + i, by rw [List.getElem?_append_right (by omega)]; simpa using hi, .inl ⟨hl, rfl⟩⟩
    · rw [List.getElem?_append_right (by omega)] at hi
      have hA := (List.getElem?_eq_some_iff.1 hi).1
      exact ⟨i - R.length, by rw [List.getElem?_append_left hA]; exact hi, .inr ⟨by omega, rfl, hA⟩⟩
  obtain ⟨i', hi', e1⟩ := look i x hi
  obtain ⟨j', hj', e2⟩ := look j y hj
  have := h.dis i' j' x y hi' hj' he
  rcases e1 with ⟨a1, a2⟩ | ⟨a1, a2, a3⟩ <;> rcases e2 with ⟨b1, b2⟩ | ⟨b1, b2, b3⟩ <;> omega
theorem Tr.swap {wb w' : World} {A R A' R' : List Blk} (h : Tr wb (R ++ A) w' (R' ++ A')) : Tr wb (A ++ R) w' (A' ++ R') :=
  ⟨h.os, h.tape, h.output, h.size, fun k hk => by
    have := h.im k ⟨hk.1, fun x hx => hk.2 x (by simp only [List.mem_append] at hx ⊢; exact hx.symm)⟩
    exact ⟨this.1, fun x hx => this.2 x (by simp only [List.mem_append] at hx ⊢; exact hx.symm)⟩,
   fun k hk => h.same k ⟨hk.1, fun x hx => hk.2 x (by simp only [List.mem_append] at hx ⊢; exact hx.symm)⟩⟩
def SX (wb : World) (L R : List Blk) (w : World) : Prop := ∃ R1 : List Blk, R1.map (·.b) = R.map (·.b) ∧ SH wb (L ++ R1) w
theorem SX.of {wb : World} {L R : List Blk} {w : World} (h : SH wb (L ++ R) w) : SX wb L R w := ⟨R, rfl, h⟩
theorem SX.yl {e : Env} {wb : World} {L R : List Blk} {o : Oper} {v : Value} (h : ∀ R1, Yl P (SH wb (L ++ R1)) e o v) : Yl P (SX wb L R) e o v := fun w hw => by
  obtain ⟨R1, _, hs⟩ := hw
  exact h R1 w hs
theorem SH.frame {wb w w' : World} {A A' L : List Blk} (h : SH wb (A ++ L) w) (ha : SH w' A' w') (ht : Tr w A w' A') : SH w' (A' ++ L) w' ∧ Tr wb (A ++ L) w' (A' ++ L) := by
  have hIm : ∀ x ∈ L, Im w A x.b := fun x hx => ⟨h.lt (List.mem_append_right _ hx), fun y hy he => by
    obtain ⟨i, hi⟩ := List.getElem?_of_mem hy
    obtain ⟨j, hj⟩ := List.getElem?_of_mem hx
    have hil := (List.getElem?_eq_some_iff.1 hi).1
    have := h.dis i (A.length + j) y x (by rw [List.getElem?_append_left hil]; exact hi) (by rw [List.getElem?_append_right (by omega)]; simpa using hj) he
    omega⟩
  have hL : ∀ x ∈ L, w'.heap[x.b]? = some (.cells x.c x.t (0, 0)) := fun x hx => by rw [ht.same x.b (hIm x hx)]; exact h.blk x (List.mem_append_right _ hx)
  refine ⟨⟨rfl, rfl, rfl, Nat.le_refl _, fun _ _ _ => rfl, fun x hx => ?_, fun i j x y hi hj he => ?_⟩, ⟨ht.os.trans h.os, ht.tape.trans h.tape, ht.output.trans h.output, Nat.le_trans h.size ht.size, fun k hk => ?_, fun k hk => ?_⟩⟩
  · rcases List.mem_append.1 hx with hx | hx
    · exact ha.blk x hx
    · exact hL x hx
  · have look : ∀ (i : Nat) (x : Blk), (A' ++ L)[i]? = some x → (i < A'.length ∧ A'[i]? = some x) ∨ (A'.length ≤ i ∧ L[i - A'.length]? = some x) := fun i x hi => by
      by_cases hl : i < A'.length
      · rw [List.getElem?_append_left hl] at hi; exact .inl ⟨hl, hi⟩
      · rw [List.getElem?_append_right (by omega)] at hi; exact .inr ⟨by omega, hi⟩
    rcases look i x hi with ⟨a1, a2⟩ | ⟨a1, a2⟩ <;> rcases look j y hj with ⟨b1, b2⟩ | ⟨b1, b2⟩
    · exact ha.dis i j x y a2 b2 he
    · exact absurd he ((ht.im y.b (hIm y (List.mem_of_getElem? b2))).2 x (List.mem_of_getElem? a2))
    · exact absurd he.symm ((ht.im x.b (hIm x (List.mem_of_getElem? a2))).2 y (List.mem_of_getElem? b2))
    · have := h.dis (A.length + (i - A'.length)) (A.length + (j - A'.length)) x y (by rw [List.getElem?_append_right (by omega)]; simpa using a2) (by rw [List.getElem?_append_right (by omega)]; simpa using b2) he
      omega
  · have h1 := ht.im k ⟨Nat.lt_of_lt_of_le hk.1 h.size, fun x hx => hk.2 x (List.mem_append_left _ hx)⟩
    exact ⟨h1.1, fun x hx => by
      rcases List.mem_append.1 hx with hx | hx
      · exact h1.2 x hx
      · exact hk.2 x (List.mem_append_right _ hx)⟩
  · rw [ht.same k ⟨Nat.lt_of_lt_of_le hk.1 h.size, fun x hx => hk.2 x (List.mem_append_left _ hx)⟩]
    exact h.still hk
theorem SH.part {wb w : World} {A L : List Blk} (h : SH wb (A ++ L) w) : SH w A w :=
  ⟨rfl, rfl, rfl, Nat.le_refl _, fun _ _ _ => rfl, fun x hx => h.blk x (List.mem_append_left _ hx), fun i j x y hi hj he =>
    h.dis i j x y (by rw [List.getElem?_append_left (List.getElem?_eq_some_iff.1 hi).1]; exact hi) (by rw [List.getElem?_append_left (List.getElem?_eq_some_iff.1 hj).1]; exact hj) he⟩
end
end Go.Sx

namespace Go.Sx
open Go.RowKit
set_option linter.unusedVariables false
inductive D where
  | int (n : Int)
  | bool (b : Bool)
  | str (s : ByteArray)
  | sl (rows : List (List D))
mutual
/-- the value v reads as d, out of blocks of S alone -/
def Rd (S : Nat → Prop) (w : World) : D → Value → Prop
  | .int n, v => v = .int .i64 n
  | .bool b, v => v = .bool b
  | .str s, v => v = .string s
  | .sl rows, v => ∃ a cap, v = .slice a rows.length (cap + rows.length) ∧ (rows = [] ∨ ∃ g off, a = some ⟨g, off, none⟩ ∧ S g ∧ g < w.heap.size ∧ RdRows S w rows g off)
def RdRows (S : Nat → Prop) (w : World) : List (List D) → Nat → Nat → Prop
  | [], _, _ => True
  | r :: rs, g, off => RdCells S w r g off ∧ RdRows S w rs g (off + r.length)
def RdCells (S : Nat → Prop) (w : World) : List D → Nat → Nat → Prop
  | [], _, _ => True
  | d :: ds, g, off => (∃ v, w.cell? ⟨g, off, none⟩ = some v ∧ Rd S w d v) ∧ RdCells S w ds g (off + 1)
end
theorem Rd.mkSl {S : Nat → Prop} {w : World} {rows : List (List D)} {a : Option Addr} {n cap : Nat} (hn : n = rows.length) (hc : rows.length ≤ cap) (h : rows = [] ∨ ∃ g off, a = some ⟨g, off, none⟩ ∧ S g ∧ g < w.heap.size ∧ RdRows S w rows g off) : Rd S w (.sl rows) (.slice a n cap) := by
  rw [Rd]; exact ⟨a, cap - rows.length, by rw [Nat.sub_add_cancel hc, hn], h⟩
theorem Rd.caps {S : Nat → Prop} {w : World} {rows : List (List D)} {v : Value} (h : Rd S w (.sl rows) v) : ∃ a cap, v = .slice a rows.length cap ∧ rows.length ≤ cap ∧ (rows = [] ∨ ∃ g off, a = some ⟨g, off, none⟩ ∧ S g ∧ g < w.heap.size ∧ RdRows S w rows g off) := by
  rw [Rd] at h; obtain ⟨a, c, rfl, h⟩ := h; exact ⟨a, _, rfl, Nat.le_add_left _ _, h⟩
theorem Rd.cap {S : Nat → Prop} {w : World} {rows : List (List D)} {a : Option Addr} {n c : Nat} (h : Rd S w (.sl rows) (.slice a n c)) : rows.length ≤ c := by
  obtain ⟨_, _, he, hc, _⟩ := h.caps; cases he; exact hc
def RdL (S : Nat → Prop) (w : World) : List D → List Value → Prop
  | [], [] => True
  | d :: ds, v :: vs => Rd S w d v ∧ RdL S w ds vs
  | _, _ => False
theorem RdL.length {S : Nat → Prop} {w : World} : ∀ {ds : List D} {vs : List Value}, RdL S w ds vs → ds.length = vs.length
  | [], [], _ => rfl
  | _ :: _, _ :: _, h => by simp [RdL.length h.2]
  | [], _ :: _, h => h.elim
  | _ :: _, [], h => h.elim
theorem RdL.append {S : Nat → Prop} {w : World} : ∀ {ds ds' : List D} {vs vs' : List Value}, RdL S w ds vs → RdL S w ds' vs' → RdL S w (ds ++ ds') (vs ++ vs')
  | [], _, [], _, _, h' => h'
  | _ :: _, _, _ :: _, _, h, h' => ⟨h.1, RdL.append h.2 h'⟩
  | [], _, _ :: _, _, h, _ => h.elim
  | _ :: _, _, [], _, h, _ => h.elim
theorem RdL.split {S : Nat → Prop} {w : World} : ∀ {ds ds' : List D} {vs : List Value}, RdL S w (ds ++ ds') vs → ∃ u u', vs = u ++ u' ∧ RdL S w ds u ∧ RdL S w ds' u'
  | [], _, vs, h => ⟨[], vs, rfl, trivial, h⟩
  | d :: ds, ds', [], h => h.elim
  | d :: ds, ds', v :: vs, h => by
    obtain ⟨u, u', rfl, h1, h2⟩ := RdL.split (ds := ds) (ds' := ds') h.2
    exact ⟨v :: u, u', rfl, ⟨h.1, h1⟩, h2⟩
theorem RdCells.vals {S : Nat → Prop} {w : World} : ∀ {ds : List D} {g off : Nat}, RdCells S w ds g off → ∃ vs, RdL S w ds vs ∧ w.rangeAt g off vs
  | [], _, _, _ => ⟨[], trivial, fun j v h => by simp at h⟩
  | d :: ds, g, off, h => by
    obtain ⟨v, hv, hd⟩ := h.1
    obtain ⟨vs, h1, h2⟩ := RdCells.vals (ds := ds) h.2
    refine ⟨v :: vs, ⟨hd, h1⟩, fun j u hj => ?_⟩
    cases j with
    | zero => simp at hj; subst hj; exact hv
    | succ j => simp at hj; have := h2 j u hj; rwa [show off + (j + 1) = off + 1 + j by omega]
theorem RdCells.mk {S : Nat → Prop} {w : World} : ∀ {ds : List D} {vs : List Value} {g off : Nat}, RdL S w ds vs → w.rangeAt g off vs → RdCells S w ds g off
  | [], _, _, _, _, _ => trivial
  | d :: ds, [], _, _, h, _ => h.elim
  | d :: ds, v :: vs, g, off, h, hr => ⟨⟨v, by have := hr 0 v rfl; simpa using this, h.1⟩, RdCells.mk (vs := vs) h.2 (fun j u hj => by have := hr (j + 1) u (by simpa using hj); rwa [show off + 1 + j = off + (j + 1) by omega])⟩
theorem RdCells.lt {S : Nat → Prop} {w : World} {ds : List D} {g off : Nat} (h : RdCells S w ds g off) (hd : ds ≠ []) : g < w.heap.size := by
  cases ds with
  | nil => exact absurd rfl hd
  | cons d ds => obtain ⟨v, hv, _⟩ := h.1; exact block_lt_of_cell hv
structure Stays (S : Nat → Prop) (w : World) (S' : Nat → Prop) (w' : World) : Prop where
  size : w.heap.size ≤ w'.heap.size
  sub : ∀ k, k < w.heap.size → S k → S' k
  same : ∀ k, k < w.heap.size → S k → w'.heap[k]? = w.heap[k]?
theorem Stays.cell {S S' : Nat → Prop} {w w' : World} (h : Stays S w S' w') {g off : Nat} {v : Value} (hS : S g) (hc : w.cell? ⟨g, off, none⟩ = some v) : w'.cell? ⟨g, off, none⟩ = some v := by
  rw [World.cell?_of_block (w := w) (w' := w') (a := ⟨g, off, none⟩) (h.same g (block_lt_of_cell hc) hS)]; exact hc
mutual
theorem Rd.stays {S S' : Nat → Prop} {w w' : World} (h : Stays S w S' w') : ∀ (d : D) (v : Value), Rd S w d v → Rd S' w' d v
  | .int _, _, hr => by simpa [Rd] using hr
  | .bool _, _, hr => by simpa [Rd] using hr
  | .str _, _, hr => by simpa [Rd] using hr
  | .sl rows, v, hr => by
    rw [Rd] at hr ⊢
    obtain ⟨a, cap, hv, hrows⟩ := hr
    refine ⟨a, cap, hv, ?_⟩
    rcases hrows with hn | ⟨g, off, ha, hS, hg, hR⟩
    · exact .inl hn
    · exact .inr ⟨g, off, ha, h.sub g hg hS, Nat.lt_of_lt_of_le hg h.size, RdRows.stays h rows g off hS hR⟩
theorem RdRows.stays {S S' : Nat → Prop} {w w' : World} (h : Stays S w S' w') : ∀ (rows : List (List D)) (g off : Nat), S g → RdRows S w rows g off → RdRows S' w' rows g off
  | [], _, _, _, _ => by simp [RdRows]
  | r :: rs, g, off, hS, hR => by
    rw [RdRows] at hR ⊢
    exact ⟨RdCells.stays h r g off hS hR.1, RdRows.stays h rs g _ hS hR.2⟩
theorem RdCells.stays {S S' : Nat → Prop} {w w' : World} (h : Stays S w S' w') : ∀ (ds : List D) (g off : Nat), S g → RdCells S w ds g off → RdCells S' w' ds g off
  | [], _, _, _, _ => by simp [RdCells]
  | d :: ds, g, off, hS, hR => by
    rw [RdCells] at hR ⊢
    obtain ⟨⟨v, hv, hd⟩, hr⟩ := hR
    exact ⟨⟨v, h.cell hS hv, Rd.stays h d v hd⟩, RdCells.stays h ds g _ hS hr⟩
end
theorem RdL.stays {S S' : Nat → Prop} {w w' : World} (h : Stays S w S' w') : ∀ {ds : List D} {vs : List Value}, RdL S w ds vs → RdL S' w' ds vs
  | [], [], _ => trivial
  | _ :: _, _ :: _, hr => ⟨Rd.stays h _ _ hr.1, RdL.stays h hr.2⟩
  | [], _ :: _, hr => hr.elim
  | _ :: _, [], hr => hr.elim
theorem Tr.stays {wb wb' : World} {L L' : List Blk} (h : Tr wb L wb' L') : Stays (Im wb L) wb (Im wb' L') wb' := ⟨h.size, fun k _ hk => h.im k hk, fun k _ hk => h.same k hk⟩
theorem Rd.oneCell {S : Nat → Prop} {w : World} {d : D} {v : Value} (h : Rd S w d v) : v.oneCell' = true := by
  cases d with
  | int n => rw [Rd] at h; subst h; rfl
  | bool n => rw [Rd] at h; subst h; rfl
  | str n => rw [Rd] at h; subst h; rfl
  | sl rows => rw [Rd] at h; obtain ⟨a, cap, rfl, _⟩ := h; rfl
theorem RdL.oneCell {S : Nat → Prop} {w : World} : ∀ {ds : List D} {vs : List Value}, RdL S w ds vs → ∀ v ∈ vs, v.oneCell' = true
  | [], [], _ => by simp
  | _ :: _, _ :: _, h => by
    intro v hv
    rcases List.mem_cons.1 hv with rfl | hv
    · exact h.1.oneCell
    · exact RdL.oneCell h.2 v hv
  | [], _ :: _, h => h.elim
  | _ :: _, [], h => h.elim
def RdR (S : Nat → Prop) (w : World) : List (List D) → List (List Value) → Prop
  | [], [] => True
  | r :: rs, v :: vs => RdL S w r v ∧ RdR S w rs vs
  | _, _ => False
theorem RdR.length {S : Nat → Prop} {w : World} : ∀ {rs : List (List D)} {vs : List (List Value)}, RdR S w rs vs → rs.length = vs.length
  | [], [], _ => rfl
  | _ :: _, _ :: _, h => by simp [RdR.length h.2]
  | [], _ :: _, h => h.elim
  | _ :: _, [], h => h.elim
theorem RdR.stays {S S' : Nat → Prop} {w w' : World} (h : Stays S w S' w') : ∀ {rs : List (List D)} {vs : List (List Value)}, RdR S w rs vs → RdR S' w' rs vs
  | [], [], _ => trivial
  | _ :: _, _ :: _, hr => ⟨RdL.stays h hr.1, RdR.stays h hr.2⟩
  | [], _ :: _, hr => hr.elim
  | _ :: _, [], hr => hr.elim
theorem RdR.get {S : Nat → Prop} {w : World} : ∀ {rs : List (List D)} {vs : List (List Value)}, RdR S w rs vs → ∀ (i : Nat) (r : List D), rs[i]? = some r → ∃ v, vs[i]? = some v ∧ RdL S w r v
  | [], [], _, i, r, h => by simp at h
  | _ :: _, v :: _, hr, 0, r, h => by simp at h; subst h; exact ⟨v, rfl, hr.1⟩
  | _ :: _, _ :: _, hr, i + 1, r, h => by simp at h; simpa using RdR.get hr.2 i r h
  | [], _ :: _, h, _, _, _ => h.elim
  | _ :: _, [], h, _, _, _ => h.elim
theorem RdR.set {S : Nat → Prop} {w : World} : ∀ {rs : List (List D)} {vs : List (List Value)}, RdR S w rs vs → ∀ (i : Nat) (r : List D) (v : List Value), rs[i]? = some r → RdL S w r v → RdR S w rs (vs.set i v)
  | [], [], _, i, r, v, h, _ => by simp at h
  | _ :: _, u :: _, hr, 0, r, v, h, hv => by simp at h; subst h; exact ⟨hv, hr.2⟩
  | _ :: _, _ :: _, hr, i + 1, r, v, h, hv => by simp at h; exact ⟨hr.1, RdR.set hr.2 i r v h hv⟩
  | [], _ :: _, h, _, _, _, _, _ => h.elim
  | _ :: _, [], h, _, _, _, _, _ => h.elim
theorem RdRows.vals {S : Nat → Prop} {w : World} : ∀ {rs : List (List D)} {g off : Nat}, RdRows S w rs g off → ∃ vs, RdR S w rs vs ∧ w.rangeAt g off vs.flatten
  | [], _, _, _ => ⟨[], trivial, fun j v h => by simp at h⟩
  | r :: rs, g, off, h => by
    rw [RdRows] at h
    obtain ⟨v, h1, h2⟩ := RdCells.vals h.1
    obtain ⟨vs, h3, h4⟩ := RdRows.vals (rs := rs) h.2
    refine ⟨v :: vs, ⟨h1, h3⟩, fun j u hj => ?_⟩
    have hl := h1.length
    rw [List.flatten_cons] at hj
    by_cases hjl : j < v.length
    · rw [List.getElem?_append_left hjl] at hj
      exact h2 j u hj
    · rw [List.getElem?_append_right (by omega)] at hj
      have := h4 (j - v.length) u hj
      rwa [show off + r.length + (j - v.length) = off + j by omega] at this
theorem RdRows.mk {S : Nat → Prop} {w : World} : ∀ {rs : List (List D)} {vs : List (List Value)} {g off : Nat}, RdR S w rs vs → w.rangeAt g off vs.flatten → RdRows S w rs g off
  | [], _, _, _, _, _ => by rw [RdRows]; trivial
  | r :: rs, [], _, _, h, _ => h.elim
  | r :: rs, v :: vs, g, off, h, hr => by
    rw [RdRows]
    have hl := h.1.length
    refine ⟨RdCells.mk h.1 (fun j u hj => hr j u ?_), RdRows.mk (vs := vs) h.2 (fun j u hj => ?_)⟩
    · rw [List.flatten_cons, List.getElem?_append_left (List.getElem?_eq_some_iff.1 hj).1]; exact hj
    · have := hr (v.length + j) u (by rw [List.flatten_cons, List.getElem?_append_right (by omega)]; simpa using hj)
      rwa [show off + (v.length + j) = off + r.length + j by omega] at this
section
variable {P : Program}
theorem split_row {es : Nat} : ∀ {rv : List (List Value)} {i : Nat} {r : List Value}, (∀ x ∈ rv, x.length = es) → rv[i]? = some r →
    rv.flatten = (rv.take i).flatten ++ r ++ (rv.drop (i + 1)).flatten ∧ (rv.take i).flatten.length = i * es ∧ ∀ r', (rv.set i r').flatten = (rv.take i).flatten ++ r' ++ (rv.drop (i + 1)).flatten
  | [], i, r, _, h => by simp at h
  | x :: rv, 0, r, _, h => by simp at h; subst h; simp
  | x :: rv, i + 1, r, hl, h => by
    simp at h
    obtain ⟨h1, h2, h3⟩ := split_row (es := es) (rv := rv) (i := i) (r := r) (fun y hy => hl y (List.mem_cons_of_mem _ hy)) h
    have hx : x.length = es := hl x (List.mem_cons_self ..)
    refine ⟨by simp [h1], ?_, fun r' => by simp [h3]⟩
    simp only [List.take_succ_cons, List.flatten_cons, List.length_append, h2, hx, Nat.add_mul, Nat.one_mul]
    omega
theorem set_len {es : Nat} {rv : List (List Value)} (hl : ∀ x ∈ rv, x.length = es) (i : Nat) {r : List Value} (hr : r.length = es) : ∀ x ∈ rv.set i r, x.length = es := fun x hx => by
  rcases List.mem_or_eq_of_mem_set hx with h | rfl
  · exact hl x h
  · exact hr
end
theorem Tr.new {wb w' : World} {L L' : List Blk} (h : Tr wb L w' L') {x : Blk} (hx : x ∈ L') : wb.heap.size ≤ x.b ∨ ∃ y ∈ L, y.b = x.b := by
  by_cases h1 : wb.heap.size ≤ x.b
  · exact .inl h1
  · by_cases h2 : ∃ y ∈ L, y.b = x.b
    · exact .inr h2
    · exact absurd rfl ((h.im x.b ⟨by omega, fun y hy e => h2 ⟨y, hy, e⟩⟩).2 x hx)
def Cl (E : TypeId) (S : Nat → Prop) (w : World) (rows : List (List D)) (v' : Value) (w' : World) (R : List Blk) (rv : List (List Value)) : Prop :=
  Below w.heap.size w w' ∧ RdR S w rows rv ∧ (∃ a cap, v' = .slice a rows.length cap ∧ ((rows = [] ∧ R = []) ∨ ∃ g sp, a = some ⟨g, 0, none⟩ ∧ w.heap.size ≤ g ∧ R = [⟨g, (rv.flatten ++ sp).toArray, E⟩])) ∧
  ∀ x ∈ R, w'.heap[x.b]? = some (.cells x.c x.t (0, 0))
theorem RdR.oneCell {S : Nat → Prop} {w : World} : ∀ {rs : List (List D)} {vs : List (List Value)}, RdR S w rs vs → ∀ v ∈ vs.flatten, v.oneCell' = true
  | [], [], _ => by simp
  | _ :: _, v :: vs, h => by
    intro u hu
    rw [List.flatten_cons] at hu
    rcases List.mem_append.1 hu with hu | hu
    · exact h.1.oneCell u hu
    · exact RdR.oneCell h.2 u hu
  | [], _ :: _, h => h.elim
  | _ :: _, [], h => h.elim
theorem RdR.flat {S : Nat → Prop} {w : World} {es : Nat} : ∀ {rs : List (List D)} {vs : List (List Value)}, RdR S w rs vs → (∀ r ∈ rs, r.length = es) → (∀ v ∈ vs, v.length = es) ∧ vs.flatten.length = rs.length * es
  | [], [], _, _ => by simp
  | r :: rs, v :: vs, h, hl => by
    obtain ⟨h1, h2⟩ := RdR.flat (es := es) h.2 (fun x hx => hl x (List.mem_cons_of_mem _ hx))
    have h3 := h.1.length
    have h4 := hl r (List.mem_cons_self ..)
    refine ⟨fun x hx => ?_, ?_⟩
    · rcases List.mem_cons.1 hx with rfl | hx
      · omega
      · exact h1 x hx
    · rw [List.flatten_cons, List.length_append, h2, List.length_cons, Nat.add_mul]; omega
  | [], _ :: _, h, _ => h.elim
  | _ :: _, [], h, _ => h.elim
end Go.Sx

namespace Go.Sx
open Go.RowKit
set_option linter.unusedVariables false
inductive K where
  | int | bool | str
  | sl (t : Nat)
mutual
/-- d has the kind k; sh: the cells of each type of element; by_: its bytes -/
def Fit (sh : Nat → List K) (by_ : Nat → Nat) : D → K → Prop
  | .int n, k => k = .int ∧ -9223372036854775808 ≤ n ∧ n ≤ 9223372036854775807
  | .bool _, k => k = .bool
  | .str s, k => k = .str ∧ s.size ≤ 140737488355328
  | .sl rows, k => ∃ t, k = .sl t ∧ rows.length * by_ t ≤ 140737488355328 ∧ FitR sh by_ rows (sh t)
def FitR (sh : Nat → List K) (by_ : Nat → Nat) : List (List D) → List K → Prop
  | [], _ => True
  | r :: rs, ks => FitL sh by_ r ks ∧ FitR sh by_ rs ks
def FitL (sh : Nat → List K) (by_ : Nat → Nat) : List D → List K → Prop
  | [], ks => ks = []
  | d :: ds, ks => ∃ k ks', ks = k :: ks' ∧ Fit sh by_ d k ∧ FitL sh by_ ds ks'
end
mutual
def D.sz : D → Nat
  | .int _ => 1
  | .bool _ => 1
  | .str s => s.size + 1
  | .sl rows => szR rows + 1
def szR : List (List D) → Nat
  | [] => 0
  | r :: rs => szL r + szR rs + 1
def szL : List D → Nat
  | [] => 0
  | d :: ds => d.sz + szL ds
end
theorem szL_append (a b : List D) : szL (a ++ b) = szL a + szL b := by
  induction a with
  | nil => simp [szL]
  | cons d a ih => simp only [List.cons_append, szL, ih]; omega
theorem szR_get {rs : List (List D)} {i : Nat} {r : List D} (h : rs[i]? = some r) : szL r < szR rs := by
  induction rs generalizing i with
  | nil => simp at h
  | cons x rs ih =>
    cases i with
    | zero => simp at h; subst h; simp only [szR]; omega
    | succ i => simp at h; have := ih h; simp only [szR]; omega
section
variable {sh : Nat → List K} {by_ : Nat → Nat}
theorem FitL.length : ∀ {ds : List D} {ks : List K}, FitL sh by_ ds ks → ds.length = ks.length
  | [], _, h => by rw [FitL] at h; subst h; rfl
  | d :: ds, _, h => by rw [FitL] at h; obtain ⟨k, ks', rfl, _, h2⟩ := h; simp [FitL.length h2]
theorem FitL.split : ∀ {ds : List D} {ks ks' : List K}, FitL sh by_ ds (ks ++ ks') → ∃ u u', ds = u ++ u' ∧ FitL sh by_ u ks ∧ FitL sh by_ u' ks'
  | ds, [], ks', h => ⟨[], ds, rfl, by rw [FitL], h⟩
  | [], k :: ks, ks', h => by rw [FitL] at h; cases h
  | d :: ds, k :: ks, ks', h => by
    rw [FitL] at h
    obtain ⟨k1, ks1, he, h1, h2⟩ := h
    simp only [List.cons_append, List.cons.injEq] at he
    obtain ⟨rfl, rfl⟩ := he
    obtain ⟨u, u', rfl, h3, h4⟩ := FitL.split h2
    refine ⟨d :: u, u', rfl, ?_, h4⟩
    rw [FitL]
    exact ⟨_, _, rfl, h1, h3⟩
theorem FitL.cons {ds : List D} {k : K} {ks : List K} (h : FitL sh by_ ds (k :: ks)) : ∃ d ds', ds = d :: ds' ∧ Fit sh by_ d k ∧ FitL sh by_ ds' ks := by
  cases ds with
  | nil => rw [FitL] at h; cases h
  | cons d ds => rw [FitL] at h; obtain ⟨k1, ks1, he, h1, h2⟩ := h; cases he; exact ⟨d, ds, rfl, h1, h2⟩
theorem FitL.nil {ds : List D} (h : FitL sh by_ ds []) : ds = [] := by
  cases ds with
  | nil => rfl
  | cons d ds => rw [FitL] at h; obtain ⟨k1, ks1, he, _⟩ := h; cases he
theorem Fit.int {d : D} (h : Fit sh by_ d .int) : ∃ n, d = .int n ∧ -9223372036854775808 ≤ n ∧ n ≤ 9223372036854775807 := by
  cases d with
  | int n => rw [Fit] at h; exact ⟨n, rfl, h.2⟩
  | bool b => rw [Fit] at h; cases h
  | str s => rw [Fit] at h; cases h.1
  | sl r => rw [Fit] at h; obtain ⟨t, h, _⟩ := h; cases h
theorem Fit.bool {d : D} (h : Fit sh by_ d .bool) : ∃ b, d = .bool b := by
  cases d with
  | int n => rw [Fit] at h; cases h.1
  | bool b => exact ⟨b, rfl⟩
  | str s => rw [Fit] at h; cases h.1
  | sl r => rw [Fit] at h; obtain ⟨t, h, _⟩ := h; cases h
theorem Fit.str {d : D} (h : Fit sh by_ d .str) : ∃ s, d = .str s ∧ s.size ≤ 140737488355328 := by
  cases d with
  | int n => rw [Fit] at h; cases h.1
  | bool b => rw [Fit] at h; cases h
  | str s => rw [Fit] at h; exact ⟨s, rfl, h.2⟩
  | sl r => rw [Fit] at h; obtain ⟨t, h, _⟩ := h; cases h
theorem Fit.sl {d : D} {t : Nat} (h : Fit sh by_ d (.sl t)) : ∃ rows, d = .sl rows ∧ rows.length * by_ t ≤ 140737488355328 ∧ FitR sh by_ rows (sh t) := by
  cases d with
  | int n => rw [Fit] at h; cases h.1
  | bool b => rw [Fit] at h; cases h
  | str s => rw [Fit] at h; cases h.1
  | sl r => rw [Fit] at h; obtain ⟨t', h, h2⟩ := h; cases h; exact ⟨r, rfl, h2⟩
theorem FitR.get : ∀ {rs : List (List D)} {ks : List K}, FitR sh by_ rs ks → ∀ (i : Nat) (r : List D), rs[i]? = some r → FitL sh by_ r ks
  | [], _, _, i, r, h => by simp at h
  | x :: rs, ks, hf, 0, r, h => by simp at h; subst h; rw [FitR] at hf; exact hf.1
  | x :: rs, ks, hf, i + 1, r, h => by simp at h; rw [FitR] at hf; exact FitR.get hf.2 i r h
theorem FitR.length {rs : List (List D)} {ks : List K} (h : FitR sh by_ rs ks) : ∀ r ∈ rs, r.length = ks.length := fun r hr => by
  obtain ⟨i, hi⟩ := List.getElem?_of_mem hr
  exact (h.get i r hi).length
end
def D.bare : D → Bool
  | .sl _ => false
  | _ => true
theorem Rd.bare {S S' : Nat → Prop} {w w' : World} {d : D} {v : Value} (hb : d.bare = true) (h : Rd S w d v) : Rd S' w' d v := by
  cases d with
  | int n => rw [Rd] at h ⊢; exact h
  | bool n => rw [Rd] at h ⊢; exact h
  | str n => rw [Rd] at h ⊢; exact h
  | sl r => cases hb
theorem RdL.bare {S S' : Nat → Prop} {w w' : World} : ∀ {ds : List D} {vs : List Value}, ds.all D.bare = true → RdL S w ds vs → RdL S' w' ds vs
  | [], [], _, _ => trivial
  | d :: ds, v :: vs, hb, h => by simp only [List.all_cons, Bool.and_eq_true] at hb; exact ⟨h.1.bare hb.1, RdL.bare hb.2 h.2⟩
  | [], _ :: _, _, h => h.elim
  | _ :: _, [], _, h => h.elim
abbrev Nw (B : Nat) (wb : World) (L : List Blk) : Nat → Prop := fun k => B ≤ k ∧ Im wb L k
theorem im_cong {wb : World} {L L' : List Blk} (h : L.map (·.b) = L'.map (·.b)) {k : Nat} (hk : Im wb L k) : Im wb L' k := ⟨hk.1, fun x hx => by
  have : x.b ∈ L.map (·.b) := by rw [h]; exact List.mem_map.2 ⟨x, hx, rfl⟩
  obtain ⟨y, hy, he⟩ := List.mem_map.1 this
  rw [← he]; exact hk.2 y hy⟩
theorem Tr.cong {wb wb' : World} {L L' L0 : List Blk} (h : Tr wb L wb' L') (hL : L0.map (·.b) = L.map (·.b)) : Tr wb L0 wb' L' :=
  ⟨h.os, h.tape, h.output, h.size, fun k hk => h.im k (im_cong hL hk), fun k hk => h.same k (im_cong hL hk)⟩
theorem Tr.staysN {wb wb' : World} {L L' : List Blk} {B : Nat} (h : Tr wb L wb' L') : Stays (Nw B wb L) wb (Nw B wb' L') wb' := ⟨h.size, fun k _ hk => ⟨hk.1, h.im k hk.2⟩, fun k _ hk => h.same k hk.2⟩
theorem SH.staysN {wb : World} {L L0 : List Blk} {w : World} {B : Nat} (h : SH wb L w) (hL : L0.map (·.b) = L.map (·.b)) : Stays (Nw B wb L0) wb (fun k => B ≤ k) w := ⟨h.size, fun _ _ hk => hk.1, fun k _ hk => h.still (im_cong hL hk.2)⟩
theorem stays_newN {wb w w' : World} {L : List Blk} {B : Nat} (h : SH wb L w) (hB : B ≤ w.heap.size) : Stays (fun k => w.heap.size ≤ k) w' (Nw B w' L) w' :=
  ⟨Nat.le_refl _, fun k hk hn => ⟨Nat.le_trans hB hn, hk, fun x hx => by have := h.lt hx; omega⟩, fun _ _ _ => rfl⟩
theorem SH.belowCall {wb w w' w0 : World} {L : List Blk} (h : SH wb L w) (h0 : Below w0.heap.size w0 wb) (hL : ∀ x ∈ L, w0.heap.size ≤ x.b) (hb : Below w.heap.size w w') : Below w0.heap.size w0 w' :=
  (h.below h0 h0.size hL).trans (hb.mono (Nat.le_trans h0.size h.size))
theorem ge_nil (B : Nat) : ∀ x ∈ ([] : List Blk), B ≤ x.b := by simp
theorem ge_cons {B : Nat} {x : Blk} {L : List Blk} (h : B ≤ x.b) (hL : ∀ x ∈ L, B ≤ x.b) : ∀ y ∈ x :: L, B ≤ y.b := fun y hy => by
  rcases List.mem_cons.1 hy with rfl | hy
  · exact h
  · exact hL y hy
theorem Tr.congR {wb wb' : World} {L L' L0 : List Blk} (h : Tr wb L wb' L') (hL : L'.map (·.b) = L0.map (·.b)) : Tr wb L wb' L0 :=
  ⟨h.os, h.tape, h.output, h.size, fun k hk => im_cong hL (h.im k hk), fun k hk => h.same k hk⟩
theorem SH.trans {wb w1 : World} {L : List Blk} {w : World} (h1 : SH wb L w1) (h : SH w1 L w) : SH wb L w :=
  ⟨h.os.trans h1.os, h.tape.trans h1.tape, h.output.trans h1.output, Nat.le_trans h1.size h.size, fun k hk hL => (h.kept k (Nat.lt_of_lt_of_le hk h1.size) hL).trans (h1.kept k hk hL), h.blk, h.dis⟩
theorem im_more {wb : World} {L : List Blk} {b : Nat} {c : Array Value} {t : TypeId} (hb : wb.heap.size ≤ b) : Stays (Im wb L) wb (Im wb (⟨b, c, t⟩ :: L)) wb := ⟨Nat.le_refl _, fun k hk hI => ⟨hk, fun x hx => by
  rcases List.mem_cons.1 hx with rfl | hx
  · show b ≠ k; omega
  · exact hI.2 x hx⟩, fun _ _ _ => rfl⟩
theorem nw_more {wb : World} {L : List Blk} {B b : Nat} {c : Array Value} {t : TypeId} (hb : wb.heap.size ≤ b) : Stays (Nw B wb L) wb (Nw B wb (⟨b, c, t⟩ :: L)) wb := ⟨Nat.le_refl _, fun k hk hI => ⟨hI.1, (im_more hb).sub k hk hI.2⟩, fun _ _ _ => rfl⟩
theorem Cl.tr {E : TypeId} {S : Nat → Prop} {wb w w' : World} {rows : List (List D)} {v : Value} {L L0 R : List Blk} {rv : List (List Value)} (hsh : SH wb L w) (hcl : Cl E S w rows v w' R rv) (hL : L0.map (·.b) = L.map (·.b)) : Tr wb L0 w' (L ++ R) := by
  have h := (hsh.tr hcl.1).cong hL
  refine ⟨h.os, h.tape, h.output, h.size, fun k hk => ⟨(h.im k hk).1, fun x hx => ?_⟩, h.same⟩
  rcases List.mem_append.1 hx with hx | hx
  · exact (h.im k hk).2 x hx
  · obtain ⟨a', cap', he, h3⟩ := hcl.2.2.1
    rcases h3 with h3 | ⟨g, sp, ha, hg, hR⟩
    · rw [h3.2] at hx; cases hx
    · rw [hR] at hx; simp only [List.mem_singleton] at hx; subst hx
      have := hk.1; have := hsh.size
      show g ≠ k
      omega
structure Cp (E es : Nat) (w0 ws : World) (Ls : List Blk) (rows : List (List D)) (a : Option Addr) (L : List Blk) where
  i : Nat
  wb : World
  rv : List (List Value)
  R : List Blk
  hi : i ≤ rows.length
  hcnt : rv.length = rows.length
  hlen : ∀ x ∈ rv, x.length = es
  hR : (rows = [] ∧ R = []) ∨ ∃ g sp, a = some ⟨g, 0, none⟩ ∧ w0.heap.size ≤ g ∧ R = [⟨g, (rv.flatten ++ sp).toArray, E⟩]
  hnew : ∀ j r v, j < i → rows[j]? = some r → rv[j]? = some v → RdL (Nw w0.heap.size wb (L ++ R)) wb r v
  hold : ∀ j r v, i ≤ j → rows[j]? = some r → rv[j]? = some v → RdL (Im wb (L ++ R)) wb r v
  hbel : Below w0.heap.size w0 wb
  hL : ∀ x ∈ L ++ R, w0.heap.size ≤ x.b
  htr : Tr ws Ls wb (L ++ R)
theorem nw_cong {wb : World} {L L' : List Blk} {B : Nat} (h : L.map (·.b) = L'.map (·.b)) : Stays (Nw B wb L) wb (Nw B wb L') wb := ⟨Nat.le_refl _, fun k _ hk => ⟨hk.1, im_cong h hk.2⟩, fun _ _ _ => rfl⟩
def Cp.next {E es : Nat} {w0 ws : World} {Ls : List Blk} {rows : List (List D)} {g : Nat} {L : List Blk} (x : Cp E es w0 ws Ls rows (some ⟨g, 0, none⟩) L) {w w1 : World} {sp : List Value} {dp dm dq : List D} {p m q m' : List Value}
    (hlt : x.i < rows.length) (hrow : rows[x.i]? = some (dp ++ dm ++ dq)) (hval : x.rv[x.i]? = some (p ++ m ++ q)) (hxR : x.R = [⟨g, (x.rv.flatten ++ sp).toArray, E⟩])
    (hp : RdL (Im x.wb (L ++ x.R)) x.wb dp p) (hq : RdL (Im x.wb (L ++ x.R)) x.wb dq q) (hbp : dp.all D.bare = true) (hbq : dq.all D.bare = true) (hml : m.length = m'.length)
    (hsh : SH x.wb (L ++ x.R) w) (hb : Below w.heap.size w w1) (hm : RdL (fun k => w.heap.size ≤ k) w1 dm m') : Cp E es w0 ws Ls rows (some ⟨g, 0, none⟩) L where
  i := x.i + 1
  wb := w1
  rv := x.rv.set x.i (p ++ m' ++ q)
  R := [⟨g, ((x.rv.set x.i (p ++ m' ++ q)).flatten ++ sp).toArray, E⟩]
  hi := hlt
  hcnt := by simp [x.hcnt]
  hlen := set_len x.hlen _ (by have := x.hlen _ (List.mem_of_getElem? hval); simp at this ⊢; omega)
  hR := .inr ⟨g, sp, rfl, x.hL ⟨g, (x.rv.flatten ++ sp).toArray, E⟩ (by rw [hxR]; simp), rfl⟩
  hnew := fun j r v hj hr hv => by
    have hcg : (L ++ x.R).map Blk.b = (L ++ [(⟨g, ((x.rv.set x.i (p ++ m' ++ q)).flatten ++ sp).toArray, E⟩ : Blk)]).map Blk.b := by rw [hxR]; simp
    have hT := (hsh.tr hb).congR hcg
    by_cases hji : j = x.i
    · subst hji
      rw [hrow] at hr
      cases hr
      rw [List.getElem?_set_self (by rw [x.hcnt]; exact hlt)] at hv
      cases hv
      refine RdL.append (RdL.append (hp.bare hbp) ?_) (hq.bare hbq)
      exact (hm.stays (stays_newN hsh (Nat.le_trans x.hbel.size hsh.size))).stays (nw_cong hcg)
    · rw [List.getElem?_set_ne (Ne.symm hji)] at hv
      exact (x.hnew j r v (by omega) hr hv).stays hT.staysN
  hold := fun j r v hj hr hv => by
    have hcg : (L ++ x.R).map Blk.b = (L ++ [(⟨g, ((x.rv.set x.i (p ++ m' ++ q)).flatten ++ sp).toArray, E⟩ : Blk)]).map Blk.b := by rw [hxR]; simp
    rw [List.getElem?_set_ne (by omega)] at hv
    exact (x.hold j r v (by omega) hr hv).stays ((hsh.tr hb).congR hcg).stays
  hbel := hsh.belowCall x.hbel x.hL hb
  hL := fun y hy => by
    rcases List.mem_append.1 hy with hy | hy
    · exact x.hL y (List.mem_append_left _ hy)
    · simp only [List.mem_singleton] at hy; subst hy
      exact x.hL ⟨g, (x.rv.flatten ++ sp).toArray, E⟩ (by rw [hxR]; simp)
  htr := (x.htr.trans (hsh.tr hb)).congR (by rw [hxR]; simp)
theorem SH.drop {wb : World} {R L : List Blk} {w : World} (h : SH wb (L ++ R) w) : SH w L w :=
  ⟨rfl, rfl, rfl, Nat.le_refl _, fun _ _ _ => rfl, fun x hx => h.blk x (List.mem_append_left _ hx), fun i j x y hi hj he =>
    h.dis i j x y (by rw [List.getElem?_append_left (List.getElem?_eq_some_iff.1 hi).1]; exact hi) (by rw [List.getElem?_append_left (List.getElem?_eq_some_iff.1 hj).1]; exact hj) he⟩
theorem SH.trDrop {wb : World} {R L : List Blk} {w : World} (h : SH wb (L ++ R) w) : Tr wb (L ++ R) w L :=
  ⟨h.os, h.tape, h.output, h.size, fun k hk => ⟨Nat.lt_of_lt_of_le hk.1 h.size, fun x hx => hk.2 x (List.mem_append_left _ hx)⟩, fun k hk => h.still hk⟩
theorem RdR.of {S : Nat → Prop} {w : World} : ∀ (rs : List (List D)) (vs : List (List Value)), rs.length = vs.length → (∀ (j : Nat) (r : List D) (v : List Value), rs[j]? = some r → vs[j]? = some v → RdL S w r v) → RdR S w rs vs
  | [], [], _, _ => trivial
  | [], _ :: _, hl, _ => by simp at hl
  | _ :: _, [], hl, _ => by simp at hl
  | r :: rs, v :: vs, hl, h => ⟨h 0 r v rfl rfl, RdR.of rs vs (by simpa using hl) (fun j r' v' hr hv => h (j + 1) r' v' (by simpa using hr) (by simpa using hv))⟩
theorem Cp.done {E es : Nat} {w0 ws : World} {Ls : List Blk} {rows : List (List D)} {a : Option Addr} {L : List Blk} (x : Cp E es w0 ws Ls rows a L) (hi : rows.length ≤ x.i) {w : World} (hsh : SH x.wb (L ++ x.R) w) (cap : Nat) (hcap : rows.length ≤ cap) :
    Rd (Nw w0.heap.size w L) w (.sl rows) (.slice a rows.length cap) := by
  rw [Rd]
  refine ⟨a, cap - rows.length, by rw [Nat.sub_add_cancel hcap], ?_⟩
  rcases x.hR with h | ⟨g, sp, ha, hg, hR⟩
  · exact .inl h.1
  · have hmem : (⟨g, (x.rv.flatten ++ sp).toArray, E⟩ : Blk) ∈ L ++ x.R := by rw [hR]; simp
    have hlt := hsh.lt hmem
    have hb := hsh.blk _ hmem
    refine .inr ⟨g, 0, ha, ⟨hg, hlt, fun y hy he => ?_⟩, hlt, RdRows.mk (vs := x.rv) ?_ (fun j v hj => ?_)⟩
    · obtain ⟨i, hi'⟩ := List.getElem?_of_mem hy
      have hil := (List.getElem?_eq_some_iff.1 hi').1
      have := hsh.dis L.length i ⟨g, (x.rv.flatten ++ sp).toArray, E⟩ y (by rw [hR]; simp) (by rw [List.getElem?_append_left hil]; exact hi') he.symm
      omega
    · refine RdR.of rows x.rv x.hcnt.symm (fun j r v hr hv => ?_)
      have hj : j < rows.length := (List.getElem?_eq_some_iff.1 hr).1
      exact (x.hnew j r v (by omega) hr hv).stays ⟨hsh.size, fun k _ hk => ⟨hk.1, (hsh.trDrop.im k hk.2)⟩, fun k _ hk => hsh.still hk.2⟩
    · rw [cell_of_row w g (0 + j) _ E (0, 0) hb, Nat.zero_add]
      have hjl := (List.getElem?_eq_some_iff.1 hj).1
      simp only [List.getElem?_toArray]
      rw [List.getElem?_append_left hjl]
      exact hj
theorem Cp.row {E es : Nat} {w0 ws : World} {Ls : List Blk} {rows : List (List D)} {a : Option Addr} {L : List Blk} (x : Cp E es w0 ws Ls rows a L) (hlt : x.i < rows.length) :
    ∃ g sp r v, a = some ⟨g, 0, none⟩ ∧ x.R = [⟨g, (x.rv.flatten ++ sp).toArray, E⟩] ∧ rows[x.i]? = some r ∧ x.rv[x.i]? = some v ∧ RdL (Im x.wb (L ++ x.R)) x.wb r v := by
  rcases x.hR with h | ⟨g, sp, ha, hg, hR⟩
  · have h0 := congrArg List.length h.1
    simp only [List.length_nil] at h0
    omega
  · have h1 : rows[x.i]? = some rows[x.i] := List.getElem?_eq_getElem hlt
    have h2 : x.rv[x.i]? = some (x.rv[x.i]'(by rw [x.hcnt]; exact hlt)) := List.getElem?_eq_getElem _
    exact ⟨g, sp, _, _, ha, hR, h1, h2, x.hold _ _ _ (Nat.le_refl _) h1 h2⟩
section
variable {P : Program}
theorem RdL.cons {S : Nat → Prop} {w : World} {d : D} {ds : List D} {vs : List Value} (h : RdL S w (d :: ds) vs) : ∃ v vs', vs = v :: vs' ∧ Rd S w d v ∧ RdL S w ds vs' := by
  cases vs with
  | nil => exact h.elim
  | cons v vs => exact ⟨v, vs, rfl, h.1, h.2⟩
theorem RdL.nil {S : Nat → Prop} {w : World} {vs : List Value} (h : RdL S w [] vs) : vs = [] := by
  cases vs with
  | nil => rfl
  | cons v vs => exact h.elim
end
theorem Rd.im {S : Nat → Prop} {w : World} {d : D} {v : Value} (h : Rd S w d v) : Rd (Im w []) w d v := h.stays ⟨Nat.le_refl _, fun k hk _ => ⟨hk, by simp⟩, fun _ _ _ => rfl⟩
theorem RdL.im {S : Nat → Prop} {w : World} {ds : List D} {vs : List Value} (h : RdL S w ds vs) : RdL (Im w []) w ds vs := h.stays ⟨Nat.le_refl _, fun k hk _ => ⟨hk, by simp⟩, fun _ _ _ => rfl⟩
theorem SH.stays {wb : World} {L : List Blk} {w : World} (h : SH wb L w) : Stays (Im wb L) wb (Im wb L) w := ⟨h.size, fun _ _ hk => hk, fun k _ hk => h.still hk⟩
theorem RdL.mk {S : Nat → Prop} {w : World} {d : D} {ds : List D} {v : Value} {vs : List Value} (h : Rd S w d v) (hs : RdL S w ds vs) : RdL S w (d :: ds) (v :: vs) := ⟨h, hs⟩
theorem RdL.none {S : Nat → Prop} {w : World} : RdL S w [] [] := trivial
theorem Rd.cells {S : Nat → Prop} {w : World} {d : D} {v : Value} (h : Rd S w d v) : v.cells = [v].toArray := by
  cases d with
  | int n => rw [Rd] at h; subst h; rfl
  | bool n => rw [Rd] at h; subst h; rfl
  | str n => rw [Rd] at h; subst h; rfl
  | sl rows => rw [Rd] at h; obtain ⟨a, cap, rfl, _⟩ := h; rfl
end Go.Sx

namespace Go.Sx
def shV : List K := [.int, .int, .str, .sl 0, .sl 1]
def shExpr : List K := [.int, .sl 2, .str, .sl 2] ++ shV ++ [.int, .sl 5]
def shPred : List K := [.int, .sl 2] ++ shV ++ [.sl 0, .int, .int, .int, .sl 4, .int] ++ shExpr ++ [.sl 6]
def shIndex : List K := [.str, .int, .sl 7, .bool, .bool, .bool] ++ shPred
def shSchema : List K := [.int, .bool] ++ shV ++ [.bool] ++ shV ++ [.sl 0, .int, .int, .sl 2, .sl 10, .bool, .sl 9, .bool]
def shSpace : List K := [.str, .sl 8] ++ shSchema ++ [.int, .int]
def shWrite : List K := [.int, .str] ++ shV ++ shV ++ shV ++ shSpace ++ shIndex ++ [.str, .int, .sl 12, .sl 3, .bool]
def shMsg : List K := [.int, .int, .int, .int, .int, .int, .int, .sl 13, .bool]
def sh : Nat → List K
  | 0 => shV
  | 1 => .str :: shV
  | 2 => [.str]
  | 3 => [.int]
  | 4 => [.int, .int]
  | 5 => shExpr
  | 6 => shPred
  | 7 => [.sl 2, .bool]
  | 8 => shIndex
  | 9 => shSchema
  | 10 => .str :: shSchema
  | 11 => shSpace
  | 12 => shWrite
  | 13 => [.int, .int, .str, .int] ++ shWrite
  | 14 => shMsg
  | 15 => [.int] ++ shMsg ++ [.int, .int]
  | 16 => [.sl 0, .int, .int, .int, .bool]
  | 17 => [.sl 2]
  | 18 => [.sl 2, .int, .int]
  | 19 => [.sl 2] ++ shExpr
  | 20 => shPred ++ [.sl 7, .int, .int, .bool, .sl 17, .bool, .sl 18, .sl 19, .str]
  | 21 => [.sl 22]
  | 22 => shV ++ shV ++ [.bool, .bool]
  | _ => []
def by_ : Nat → Nat
  | 0 => 80
  | 1 => 96
  | 2 => 16
  | 3 => 8
  | 4 => 16
  | 5 => 184
  | 6 => 400
  | 7 => 32
  | 8 => 456
  | 9 => 312
  | 10 => 328
  | 11 => 368
  | 12 => 1168
  | 13 => 1208
  | 14 => 88
  | 15 => 112
  | 16 => 56
  | 17 => 24
  | 18 => 40
  | 19 => 208
  | 20 => 0
  | 21 => 24
  | 22 => 168
  | _ => 0
end Go.Sx

namespace Go.Sx
open Go.RowKit
set_option linter.unusedVariables false
theorem Tr.more {w0 wb : World} {A L : List Blk} {b : Nat} {c : Array Value} {t : TypeId} (h : Tr w0 A wb L) (hb : wb.heap.size ≤ b) : Tr w0 A wb (⟨b, c, t⟩ :: L) :=
  ⟨h.os, h.tape, h.output, h.size, fun k hk => (im_more hb).sub k (h.im k hk).1 (h.im k hk), h.same⟩
theorem Tr.drop1 {w0 wb : World} {A L : List Blk} {x : Blk} (h : Tr w0 A wb (x :: L)) : Tr w0 A wb L :=
  ⟨h.os, h.tape, h.output, h.size, fun k hk => ⟨(h.im k hk).1, fun y hy => (h.im k hk).2 y (List.mem_cons_of_mem _ hy)⟩, h.same⟩
theorem SH.drop1 {wb : World} {L : List Blk} {x : Blk} {w : World} (h : SH wb (x :: L) w) : SH w L w :=
  ⟨rfl, rfl, rfl, Nat.le_refl _, fun _ _ _ => rfl, fun y hy => h.blk y (List.mem_cons_of_mem _ hy), fun i j y z hi hj he => by
    have := h.dis (i + 1) (j + 1) y z (by simpa using hi) (by simpa using hj) he; omega⟩
theorem SH.news {wb : World} {L : List Blk} {w : World} (h : SH wb L w) (p : Nat) {r : Nat} {t : TypeId} {news : List Value} (hp : L[p]? = some ⟨r, news.toArray, t⟩) : ∀ j u, news[j]? = some u → w.cell? ((⟨r, 0, none⟩ : Addr).add j) = some u := fun j u hu => by
  rw [Addr.add_mid, Nat.zero_add, h.cell p hp j]
  simpa using hu
theorem Own.val {E size : Nat} {v : Value} {n : Nat} {xs : List Value} {R : List Blk} (h : Own E size v n xs R) : ∃ a cap, v = .slice a n cap := by
  rcases h.2 with ⟨rfl, rfl, _⟩ | ⟨g, cap, c, rfl, _⟩
  · exact ⟨none, 0, rfl⟩
  · exact ⟨_, cap, rfl⟩
section
variable {P : Program} {ops : Array Oper} {Q : Exit → Act → World → Prop} {n : Nat}
end
theorem Rd.slv {S : Nat → Prop} {w : World} {rows : List (List D)} {v : Value} (h : Rd S w (.sl rows) v) : ∃ a c, v = .slice a rows.length c := by
  rw [Rd] at h
  obtain ⟨a, c, h, _⟩ := h
  exact ⟨a, _, h⟩
theorem Tr.wide {w0 wb : World} {A A' L : List Blk} (h : Tr w0 A wb L) (hA : ∀ x ∈ A, x ∈ A') : Tr w0 A' wb L :=
  ⟨h.os, h.tape, h.output, h.size, fun k hk => h.im k ⟨hk.1, fun x hx => hk.2 x (hA x hx)⟩, fun k hk => h.same k ⟨hk.1, fun x hx => hk.2 x (hA x hx)⟩⟩
theorem Tr.range {w0 wb : World} {A L : List Blk} (h : Tr w0 A wb L) {g o : Nat} {cs : List Value} (hI : Im w0 A g) (hr : w0.rangeAt g o cs) : wb.rangeAt g o cs := fun j v hj => by
  rw [World.cell?_of_block (w := w0) (w' := wb) (a := ⟨g, o + j, none⟩) (h.same g hI)]; exact hr j v hj
theorem SH.sub {wb : World} {L L' : List Blk} {w : World} (h : SH wb L w) (hL : ∀ x ∈ L', x ∈ L) (hd : ∀ (i j : Nat) (x y : Blk), L'[i]? = some x → L'[j]? = some y → x.b = y.b → i = j) : SH w L' w :=
  ⟨rfl, rfl, rfl, Nat.le_refl _, fun _ _ _ => rfl, fun x hx => h.blk x (hL x hx), hd⟩
def RowV (wb : World) (L : List Blk) (B : Nat) (v : Value) (rv : List (List Value)) : Prop :=
  ∃ a cap, v = .slice a rv.length cap ∧ (rv = [] ∨ ∃ g, a = some ⟨g, 0, none⟩ ∧ B ≤ g ∧ Im wb L g ∧ wb.rangeAt g 0 rv.flatten)
theorem RowV.tr {wb wb' : World} {L L' : List Blk} {B : Nat} {v : Value} {rv : List (List Value)} (h : RowV wb L B v rv) (ht : Tr wb L wb' L') : RowV wb' L' B v rv := by
  obtain ⟨a, cap, rfl, h⟩ := h
  refine ⟨a, cap, rfl, ?_⟩
  rcases h with h | ⟨g, ha, hB, hI, hr⟩
  · exact .inl h
  · exact .inr ⟨g, ha, hB, ht.im g hI, ht.range hI hr⟩
end Go.Sx

namespace Go.Sx
open Go.RowKit
set_option linter.unusedVariables false
def eqK : K → K → Bool
  | .int, .int => true
  | .bool, .bool => true
  | .str, .str => true
  | .sl a, .sl b => a == b
  | _, _ => false
theorem eqK_eq : ∀ {a b : K}, eqK a b = true → a = b
  | .int, .int, _ => rfl
  | .bool, .bool, _ => rfl
  | .str, .str, _ => rfl
  | .sl a, .sl b, h => by simp only [eqK, beq_iff_eq] at h; rw [h]
  | .int, .bool, h | .int, .str, h | .int, .sl _, h | .bool, .int, h | .bool, .str, h | .bool, .sl _, h | .str, .int, h | .str, .bool, h | .str, .sl _, h | .sl _, .int, h | .sl _, .bool, h | .sl _, .str, h => by cases h
def eqKs : List K → List K → Bool
  | [], [] => true
  | a :: l, b :: r => eqK a b && eqKs l r
  | _, _ => false
theorem eqKs_eq : ∀ {a b : List K}, eqKs a b = true → a = b
  | [], [], _ => rfl
  | a :: l, b :: r, h => by
    simp only [eqKs, Bool.and_eq_true] at h
    rw [eqK_eq h.1, eqKs_eq h.2]
  | [], _ :: _, h | _ :: _, [], h => by cases h
def tabAt : List (TypeId × List K) → TypeId → Option (List K)
  | [], _ => none
  | x :: xs, t => bif Nat.beq x.1 t then some x.2 else tabAt xs t
theorem tabAt_mem : ∀ {tab : List (TypeId × List K)} {t : TypeId} {ks : List K}, tabAt tab t = some ks → (t, ks) ∈ tab
  | [], _, _, h => by cases h
  | x :: xs, t, ks, h => by
    simp only [tabAt] at h
    cases hb : Nat.beq x.1 t with
    | true =>
      rw [hb] at h
      simp only [cond_true, Option.some.injEq] at h
      have e := Nat.eq_of_beq_eq_true hb
      have hx : x = (t, ks) := Prod.ext e h
      rw [hx]
      exact List.mem_cons_self ..
    | false =>
      rw [hb] at h
      exact List.mem_cons_of_mem _ (tabAt_mem h)
def fldsAt (P : Program) (tab : List (TypeId × List K)) : List Field → Nat → Option (List K)
  | [], _ => some []
  | f :: fs, o => bif Nat.beq f.offset o then (match tabAt tab f.type with
      | some k => bif Nat.beq (P.cellsOf f.type) k.length then (match fldsAt P tab fs (o + k.length) with | some r => some (k ++ r) | none => none) else none
      | none => none) else none
def oneAt (P : Program) (sh : Nat → List K) (by_ : Nat → Nat) (tab : List (TypeId × List K)) (x : TypeId × List K) : Bool :=
  Nat.beq (P.cellsOf x.1) x.2.length && match P.underlying x.1 with
    | some .bool => eqKs x.2 [.bool]
    | some (.int .i64) => eqKs x.2 [.int]
    | some .string => eqKs x.2 [.str]
    | some (.slice e) => (match x.2 with
      | [.sl t] => (match tabAt tab e with | some ks => eqKs ks (sh t) && Nat.blt 0 ks.length && Nat.beq (P.cellsOf e) ks.length && Nat.beq (P.bytesOf e) (by_ t) | none => false)
      | _ => false)
    | some (.struct fs) => (match fldsAt P tab fs.toList 0 with | some ks' => eqKs ks' x.2 | none => false)
    | _ => false
mutual
def bulk {H : Type} : DataW H → Nat
  | .lit (.string bytes) => bytes.length + 1
  | .lit _ => 1
  | .nil => 1
  | .ptr d => bulk d + 1
  | .slice elems spare => bulkAll elems + bulkAll spare + 1
  | .agg parts => bulkAll parts + 1
  | .iface _ d => bulk d + 1
  | .map entries => 1
  | .held _ => 1
def bulkAll {H : Type} : List (DataW H) → Nat
  | [] => 0
  | d :: r => bulk d + bulkAll r
end
section
variable {H : Type} {enc : TypeId × Value → H} {P : Program} {w : World} {spare : Nat → Bool} {held : Bool} {tab : List (TypeId × List K)} {sh : Nat → List K} {by_ : Nat → Nat}
def Opened (sh : Nat → List K) (by_ : Nat → Nat) (w : World) (ks : List K) (cs : List Value) (d : DataW H) : Prop := ∃ ds, RdL (Im w []) w ds cs ∧ FitL sh by_ ds ks ∧ szL ds + 1 ≤ 2 * bulk d
theorem FitL.app : ∀ {ds ds' : List D} {ks ks' : List K}, FitL sh by_ ds ks → FitL sh by_ ds' ks' → FitL sh by_ (ds ++ ds') (ks ++ ks')
  | [], _, ks, _, h, h' => by rw [FitL] at h; subst h; exact h'
  | d :: ds, ds', ks, ks', h, h' => by
    rw [FitL] at h
    obtain ⟨k, kr, rfl, h1, h2⟩ := h
    rw [List.cons_append, List.cons_append, FitL]
    exact ⟨k, _, rfl, h1, FitL.app h2 h'⟩
theorem FitL.one {d : D} {k : K} (h : Fit sh by_ d k) : FitL sh by_ [d] [k] := by
  rw [FitL]; exact ⟨k, [], rfl, h, by rw [FitL]⟩
def Wt (P : Program) (t : TypeId) (d : DataW H) : Prop := ∀ x ∈ d.weights P t, x ≤ reachBytes
def WtAll (P : Program) (t : TypeId) (ds : List (DataW H)) : Prop := ∀ x ∈ DataW.weightsAll P t ds, x ≤ reachBytes
def WtEach (P : Program) (ts : List TypeId) (ds : List (DataW H)) : Prop := ∀ x ∈ DataW.weightsEach P ts ds, x ≤ reachBytes
theorem WtEach.cons {t : TypeId} {ts : List TypeId} {d : DataW H} {ds : List (DataW H)} (h : WtEach P (t :: ts) (d :: ds)) : Wt P t d ∧ WtEach P ts ds :=
  ⟨fun x hx => h x (by simp [DataW.weightsEach, hx]), fun x hx => h x (by simp [DataW.weightsEach, hx])⟩
theorem WtAll.cons {t : TypeId} {d : DataW H} {ds : List (DataW H)} (h : WtAll P t (d :: ds)) : Wt P t d ∧ WtAll P t ds :=
  ⟨fun x hx => h x (by simp [DataW.weightsAll, hx]), fun x hx => h x (by simp [DataW.weightsAll, hx])⟩
theorem open_flds {fuel : Nat} (ih : ∀ t ks cs d ps, DataW.trod enc P w 0 spare held fuel t cs = some (d, ps) → tabAt tab t = some ks → Wt P t d → Opened sh by_ w ks cs d) {cs : List Value} :
    ∀ (fs : List Field) (o : Nat) (ks : List K) (xs : List (DataW H × List MemPlace)), fldsAt P tab fs o = some ks → xs.length = fs.length →
      (∀ (i : Nat) (f : Field), fs[i]? = some f → DataW.trod enc P w 0 spare held fuel f.type ((cs.drop f.offset).take (P.cellsOf f.type)) = xs[i]?) → WtEach P (fs.map (·.type)) (xs.map (·.1)) →
      ∃ ds, RdL (Im w []) w ds ((cs.drop o).take ks.length) ∧ FitL sh by_ ds ks ∧ szL ds ≤ 2 * bulkAll (xs.map (·.1))
  | [], o, ks, xs, h, hl, hx, _ => by
    simp only [fldsAt, Option.some.injEq] at h
    subst h
    refine ⟨[], ?_, by simp [FitL], by simp [szL]⟩
    simp [RdL]
  | f :: fs, o, ks, [], h, hl, hx, _ => by simp at hl
  | f :: fs, o, ks, y :: xs, h, hl, hx, hw => by
    simp only [fldsAt] at h
    cases hb : Nat.beq f.offset o with
    | false => rw [hb] at h; cases h
    | true =>
      rw [hb, cond_true] at h
      have ho := Nat.eq_of_beq_eq_true hb
      cases hk : tabAt tab f.type with
      | none => rw [hk] at h; cases h
      | some k =>
        simp only [hk] at h
        cases hc : Nat.beq (P.cellsOf f.type) k.length with
        | false => rw [hc] at h; cases h
        | true =>
          rw [hc, cond_true] at h
          have hcl := Nat.eq_of_beq_eq_true hc
          cases hr : fldsAt P tab fs (o + k.length) with
          | none => rw [hr] at h; cases h
          | some kr =>
            simp only [hr, Option.some.injEq] at h
            subst h
            have hw' : WtEach P (f.type :: fs.map (·.type)) (y.1 :: xs.map (·.1)) := hw
            obtain ⟨w1, w2⟩ := hw'.cons
            have h0 := hx 0 f rfl
            obtain ⟨d1, r1, f1, s1⟩ := ih f.type k _ y.1 y.2 h0 hk w1
            obtain ⟨d2, r2, f2, s2⟩ := open_flds ih fs (o + k.length) kr xs hr (by simpa using hl) (fun i g hg => by simpa using hx (i + 1) g (by simpa using hg)) w2
            refine ⟨d1 ++ d2, ?_, FitL.app f1 f2, by rw [szL_append]; simp only [List.map_cons, bulkAll]; omega⟩
            have h1 := r1.append r2
            have e : (cs.drop o).take ((k ++ kr).length) = (cs.drop f.offset).take (P.cellsOf f.type) ++ (cs.drop (o + k.length)).take kr.length := by
              rw [ho, hcl, List.length_append, List.take_add, List.drop_drop]
            rw [e]
            exact h1
theorem cells_range {a : Addr} {n : Nat} {cs : List Value} (h : w.cells? 0 a n = some cs) (hn : 0 < n) : ∃ g off, a = ⟨g, off, none⟩ ∧ cs.length = n ∧ w.rangeAt g off cs := by
  obtain ⟨_, hl, hc⟩ := World.cells?_some h
  have h0 := hc 0 hn
  have hcs : cs[0]? = some (cs[0]'(by omega)) := List.getElem?_eq_getElem (by omega)
  rw [hcs] at h0
  obtain ⟨g, off, spot⟩ := a
  have hsp : spot = none := by
    simp only [Addr.add, if_true] at h0
    unfold World.cell? at h0
    split at h0
    · split at h0
      · cases h0
      · rename_i hs; simpa using hs
    · cases h0
  subst hsp
  refine ⟨g, off, rfl, hl, fun j v hj => ?_⟩
  have hjl : j < n := by have := (List.getElem?_eq_some_iff.1 hj).1; omega
  have := hc j hjl
  rw [Addr.add_mid] at this
  rw [this]; exact hj
theorem open_rows {fuel : Nat} (ih : ∀ t ks cs d ps, DataW.trod enc P w 0 spare held fuel t cs = some (d, ps) → tabAt tab t = some ks → Wt P t d → Opened sh by_ w ks cs d) {a : Addr} {e : TypeId} {ks : List K} (hk : tabAt tab e = some ks)
    (hlen : P.cellsOf e = ks.length) (hpos : 0 < ks.length) :
    ∀ (xs : List (DataW H × List MemPlace)) (s : Nat), (∀ i, i < xs.length → (w.cells? 0 (a.add ((s + i) * P.cellsOf e)) (P.cellsOf e)).bind (DataW.trod enc P w 0 spare held fuel e) = xs[i]?) → WtAll P e (xs.map (·.1)) →
      ∃ rows vs, RdR (Im w []) w rows vs ∧ rows.length = xs.length ∧ FitR sh by_ rows ks ∧ szR rows ≤ 2 * bulkAll (xs.map (·.1)) ∧ (∀ v ∈ vs, v.length = ks.length) ∧
        ∀ (i : Nat) (v : List Value), vs[i]? = some v → ∃ g off, a.add ((s + i) * P.cellsOf e) = ⟨g, off, none⟩ ∧ w.rangeAt g off v
  | [], s, h, _ => ⟨[], [], trivial, rfl, by simp [FitR], by simp [szR], by simp, by simp⟩
  | y :: xs, s, h, hw => by
    have hw' : WtAll P e (y.1 :: xs.map (·.1)) := hw
    obtain ⟨w1, w2⟩ := hw'.cons
    have h0 := h 0 (by simp)
    simp only [Nat.add_zero, List.getElem?_cons_zero] at h0
    cases hc : w.cells? 0 (a.add (s * P.cellsOf e)) (P.cellsOf e) with
    | none => rw [hc] at h0; cases h0
    | some cs =>
      rw [hc, Option.bind_some] at h0
      obtain ⟨d1, r1, f1, s1⟩ := ih e ks cs y.1 y.2 h0 hk w1
      obtain ⟨rows, vs, r2, l2, f2, s2, v2, c2⟩ := open_rows ih hk hlen hpos xs (s + 1) (fun i hi => by
        have := h (i + 1) (by simpa using hi)
        rw [show s + 1 + i = s + (i + 1) by omega]
        simpa using this) w2
      obtain ⟨g, off, hg, hcl, hr⟩ := cells_range hc (by omega)
      refine ⟨d1 :: rows, cs :: vs, ⟨r1, r2⟩, by simp [l2], by rw [FitR]; exact ⟨f1, f2⟩, by simp only [szR, List.map_cons, bulkAll]; omega, ?_, fun j v hv => ?_⟩
      · intro v hv
        rcases List.mem_cons.1 hv with rfl | hv
        · omega
        · exact v2 v hv
      · cases j with
        | zero =>
          simp only [List.getElem?_cons_zero, Option.some.injEq] at hv
          subst hv
          exact ⟨g, off, by simpa using hg, hr⟩
        | succ j =>
          have := c2 j v (by simpa using hv)
          rwa [show s + 1 + j = s + (j + 1) by omega] at this
theorem rows_range {g off es : Nat} : ∀ (vs : List (List Value)) (s : Nat), (∀ v ∈ vs, v.length = es) → (∀ (i : Nat) (v : List Value), vs[i]? = some v → w.rangeAt g (off + (s + i) * es) v) → w.rangeAt g (off + s * es) vs.flatten
  | [], _, _, _ => fun j u h => by simp at h
  | v :: vs, s, hl, h => fun j u hj => by
    have hv : v.length = es := hl v (List.mem_cons_self ..)
    rw [List.flatten_cons] at hj
    by_cases hjl : j < v.length
    · rw [List.getElem?_append_left hjl] at hj
      have := h 0 v rfl j u hj
      simpa using this
    · rw [List.getElem?_append_right (by omega)] at hj
      have h1 := rows_range vs (s + 1) (fun x hx => hl x (List.mem_cons_of_mem _ hx)) (fun i x hx => by
        have := h (i + 1) x (by simpa using hx)
        rwa [show s + (i + 1) = s + 1 + i by omega] at this) (j - v.length) u hj
      rw [Nat.add_mul, Nat.one_mul] at h1
      rwa [show off + (s * es + es) + (j - v.length) = off + s * es + j by omega] at h1
theorem open_trod (hT : tab.all (oneAt P sh by_ tab) = true) : ∀ (fuel : Nat) (t : TypeId) (ks : List K) (cs : List Value) (d : DataW H) (ps : List MemPlace),
    DataW.trod enc P w 0 spare held fuel t cs = some (d, ps) → tabAt tab t = some ks → Wt P t d → Opened sh by_ w ks cs d
  | 0, _, _, _, _, _, h, _, _ => by simp [DataW.trod] at h
  | fuel + 1, t, ks, cs, d, ps, h, ht, hb => by
    have ih := open_trod hT fuel
    have hone := List.all_eq_true.1 hT _ (tabAt_mem ht)
    simp only [oneAt, Bool.and_eq_true] at hone
    obtain ⟨hcell0, hone⟩ := hone
    have hcell := Nat.eq_of_beq_eq_true hcell0
    split at hone
    · rename_i hu
      obtain rfl := eqKs_eq hone
      obtain ⟨b, rfl, hx⟩ := DataW.trod_bool hu h
      simp only [Prod.mk.injEq] at hx
      obtain ⟨rfl, _⟩ := hx
      exact ⟨[.bool b], ⟨by simp [Rd], trivial⟩, FitL.one (by simp [Fit]), by simp [szL, D.sz, bulk]⟩
    · rename_i hu
      obtain rfl := eqKs_eq hone
      obtain ⟨n, rfl, hx, hwf⟩ := DataW.trod_int hu h
      simp only [Prod.mk.injEq] at hx
      obtain ⟨rfl, _⟩ := hx
      have m1 : IntKind.i64.min = -9223372036854775808 := by decide
      have m2 : IntKind.i64.max = 9223372036854775807 := by decide
      simp only [Lit.wf, Bool.and_eq_true, decide_eq_true_eq] at hwf
      exact ⟨[.int n], ⟨by simp [Rd], trivial⟩, FitL.one (by rw [Fit]; exact ⟨rfl, by omega, by omega⟩), by simp [szL, D.sz, bulk]⟩
    · rename_i hu
      obtain rfl := eqKs_eq hone
      obtain ⟨s, rfl, hx, hs⟩ := DataW.trod_string hu h
      simp only [Prod.mk.injEq] at hx
      obtain ⟨rfl, _⟩ := hx
      have := hb s.data.toList.length (by simp [DataW.weights])
      have hsz : s.data.toList.length = s.size := by simp
      refine ⟨[.str s], ⟨by simp [Rd], trivial⟩, FitL.one (by rw [Fit]; refine ⟨rfl, ?_⟩; simp only [reachBytes] at this; omega), ?_⟩
      simp only [szL, D.sz, bulk]
      omega
    · rename_i e hu
      split at hone
      · rename_i x1 t1
        cases hk : tabAt tab e with
        | none => rw [hk] at hone; cases hone
        | some kk =>
          simp only [hk, Bool.and_eq_true] at hone
          obtain ⟨⟨⟨e1, e2⟩, e3⟩, e4⟩ := hone
          have hkk := eqKs_eq e1
          have hpos : 0 < kk.length := by simpa [Nat.blt_eq] using e2
          have hce := Nat.eq_of_beq_eq_true e3
          have hby := Nat.eq_of_beq_eq_true e4
          rcases DataW.trod_slice hu h with ⟨rfl, hx⟩ | ⟨a, len, cap, elems, rest, n, hn, rfl, hx, hb0, hl, hm, hlen, hel, hsp, hns⟩
          · simp only [Prod.mk.injEq] at hx
            obtain ⟨rfl, _⟩ := hx
            exact ⟨[.sl []], ⟨by rw [Rd]; exact ⟨none, 0, rfl, .inl rfl⟩, trivial⟩, FitL.one (by rw [Fit]; exact ⟨t1, rfl, by simp, by simp [FitR]⟩), by simp [szL, D.sz, szR, bulk]⟩
          · simp only [Prod.mk.injEq] at hx
            obtain ⟨rfl, _⟩ := hx
            have hn' : n = fuel := by omega
            subst hn'
            have hwl := hb ((elems.map (·.1)).length + (rest.map (·.1)).length |> fun q => q * P.bytesOf e) (by simp [DataW.weights, hu])
            simp only [List.length_map, reachBytes] at hwl
            have hwa : WtAll P e (elems.map (·.1)) := fun x hx => hb x (by simp only [DataW.weights, hu]; exact List.mem_cons_of_mem _ (List.mem_append_left _ hx))
            obtain ⟨rows, vs, r1, r2, r3, r4, r5, r6⟩ := open_rows ih hk hce hpos (a := a) elems 0 (fun i hi => by rw [Nat.zero_add]; exact hel i (by omega)) hwa
            refine ⟨[.sl rows], ⟨?_, trivial⟩, FitL.one ?_, ?_⟩
            · rw [Rd]
              refine ⟨some a, cap - rows.length, by rw [Nat.sub_add_cancel (by rw [r2, hlen]; exact hl), r2, hlen], ?_⟩
              have hlv := r1.length
              cases hvs : vs with
              | nil => left; rw [hvs] at hlv; exact List.eq_nil_of_length_eq_zero (by simpa using hlv)
              | cons v0 vr =>
                right
                obtain ⟨g, off, hg, hr0⟩ := r6 0 v0 (by rw [hvs]; rfl)
                have ha : a = ⟨g, off, none⟩ := by simpa [Addr.add] using hg
                subst ha
                have hr : w.rangeAt g (off + 0 * kk.length) vs.flatten := rows_range vs 0 r5 (fun i v hv => by
                  obtain ⟨g', off', hg', hr'⟩ := r6 i v hv
                  rw [Addr.add_mid, hce] at hg'
                  simp only [Addr.mk.injEq] at hg'
                  obtain ⟨rfl, rfl, _⟩ := hg'
                  exact hr')
                simp only [Nat.zero_mul, Nat.add_zero] at hr
                have hv0 : v0.length = kk.length := r5 v0 (by rw [hvs]; simp)
                have hcell0 : w.cell? ⟨g, off, none⟩ = some (v0[0]'(by omega)) := by
                  have := hr0 0 (v0[0]'(by omega)) (List.getElem?_eq_getElem (by omega))
                  simpa using this
                have hlt := block_lt_of_cell hcell0
                exact ⟨g, off, rfl, ⟨hlt, by simp⟩, hlt, RdRows.mk r1 hr⟩
            · rw [Fit]
              refine ⟨t1, rfl, ?_, hkk ▸ r3⟩
              rw [r2, ← hby]
              rw [Nat.add_mul] at hwl
              omega
            · simp only [szL, D.sz, bulk]
              omega
      · cases hone
    · rename_i fs hu
      cases hf : fldsAt P tab fs.toList 0 with
      | none => rw [hf] at hone; cases hone
      | some ks' =>
        simp only [hf] at hone
        have hkk := eqKs_eq hone
        have hkk' : ks' = ks := hkk
        subst hkk'
        obtain ⟨xs, n, hn, hx, hcl, hxl, hfi⟩ := DataW.trod_struct hu h
        simp only [Prod.mk.injEq] at hx
        obtain ⟨rfl, _⟩ := hx
        have hn' : n = fuel := by omega
        subst hn'
        obtain ⟨ds, r1, r2, r3⟩ := open_flds ih (cs := cs) fs.toList 0 ks' xs hf (by simpa using hxl) (fun i f hi => hfi i f (by simpa using hi)) (fun x hx => hb x (by simp only [DataW.weights, hu]; exact hx))
        refine ⟨ds, ?_, r2, ?_⟩
        · have hc2 : cs.length = ks'.length := by rw [hcl]; exact hcell
          rw [List.drop_zero, ← hc2, List.take_length] at r1
          exact r1
        · simp only [bulk]; omega
    · cases hone
end
end Go.Sx

namespace Go.Sx
open Go.ChangeShapes Go.WideShapes Go.ChangeAt Go.RowKit
set_option linter.unusedVariables false
section
variable {H : Type} {enc : TypeId × Value → H} {P : Program}
theorem trodAll_stays (hl : laidOutB P = true) {W W' : World} {sp : Nat → Bool} : ∀ {ts : List TypeId} {vs : List Value} {ds : List (DataW H)} {p : List MemPlace}, (ts.all fun t => P.readableRec t && decide (t < P.types.size)) = true →
    DataW.TrodAll enc P W 0 (fun _ => true) true ts vs ds p → (∀ q ∈ p, W.sameAt W' q) → (∀ q ∈ p, sp q.block = true) → DataW.TrodAll enc P W' 0 sp true ts vs ds p
  | [], [], [], p, _, h, _, _ => h
  | t :: ts, v :: vs, d :: ds, p, hr, h, h1, h2 => by
    obtain ⟨p1, p2, ha, hb, rfl⟩ := h
    simp only [List.all_cons, Bool.and_eq_true, decide_eq_true_eq] at hr
    exact ⟨p1, p2, Go.WideElems.Trod_stays hl hr.1.1 hr.1.2 ha (fun q hq => h1 q (List.mem_append_left _ hq)) (fun q hq => h2 q (List.mem_append_left _ hq)),
      trodAll_stays hl hr.2 hb (fun q hq => h1 q (List.mem_append_right _ hq)) (fun q hq => h2 q (List.mem_append_right _ hq)), rfl⟩
  | [], _ :: _, _, _, _, h, _, _ | [], [], _ :: _, _, _, h, _, _ | _ :: _, [], _, _, _, h, _, _ | _ :: _, _ :: _, [], _, _, h, _, _ => h.elim
theorem post_law {f : Func} {s : ChangeSpec} {apart fresh handsOn again : Bool} {W W' : World} {args : Array Value} {ds : List (DataW H)} {before : List MemPlace} {tb : TypeId}
    (hW : DataW.Whole enc P f.params.toList s.vars apart W args.toList ds [] before) (hvars : s.vars = []) (hfn : s.fn H (ds ++ []) = { results := [.lit (.bool true)], args := ds })
    (hrt : f.resultTypes = #[tb]) (hb : P.underlying tb = some .bool) (hl : laidOutB P = true) (hr : (f.params.toList.all fun t => P.readableRec t && decide (t < P.types.size)) = true) (hbel : Below W.heap.size W W') :
    s.post enc P f apart fresh handsOn again W args (.bool true) W' := by
  have hW0 := hW
  have hlt : ∀ p ∈ before, p.block < W.heap.size := fun p hp => hW.lt p hp
  have hold : ∀ p ∈ before, (fun b => decide (b < W.heap.size)) p.block = true := fun p hp => by simpa using hlt p hp
  obtain ⟨p, q, hA, hV, rfl, hz, hn⟩ := hW
  rw [hvars] at hV
  have hq : q = [] := hV
  subst hq
  simp only [List.append_nil] at *
  have hargs : ∀ sp : Nat → Bool, (∀ x ∈ p, sp x.block = true) → DataW.TrodAll enc P W' 0 sp true f.params.toList args.toList (s.fn H ds).args p := fun sp hsp => by
    rw [hfn]; exact trodAll_stays hl hr hA (fun x hx => hbel.same (hlt x hx)) hsp
  have hvs : ∀ sp : Nat → Bool, DataW.TrodVars enc P W' sp s.vars (s.fn H ds).vars [] := fun sp => by rw [hvars, hfn]; rfl
  have hres : ∀ (b : Nat) (sp : Nat → Bool) (hd : Bool), DataW.TrodAll enc P W' b sp hd f.resultTypes.toList ((Value.bool true).resultList f.resultTypes.size) (s.fn H ds).results [] := fun b sp hd => by
    rw [hfn, hrt]; exact trodAll_cons_mk (shut_bool hb true) trodAll_mk0
  have hok : ∀ (j : Nat) (t : TypeId) (r : Value), f.resultTypes[j]? = some t → ((Value.bool true).resultList f.resultTypes.size)[j]? = some r → Value.okWide P W' .any 0 t r := ok_one (by rw [hrt]) rfl (okWide_bool_mk hb _)
  refine ⟨ds, [], p, [], p, [], hW0, by simpa using hres _ _ _, by simpa using hargs _ hold, by simpa using hvs _, World.keptBut_mono (fun x hx => ⟨hx, ?_⟩) (hbel.frame (· ∈ p)), fun _ => ?_⟩
  · exact Or.inr (by simpa using hx)
  · refine ⟨hok, _, _, ([] ++ p) ++ [], ⟨[] ++ p, [], trodAll_append (hargs _ (fun _ _ => rfl)) (hres _ _ _), hvs _, rfl, ?_, ?_⟩, ?_⟩
    · intro b off hp
      have hin : MemPlace.cell b off ∈ p := by simpa using hp
      rw [hbel.frozen (hlt _ hin)]
      exact hz b off hin
    · intro ha
      simpa using hn ha
    · intro x hx _
      simpa using hx
end
end Go.Sx

namespace Go.Sx
open Go.RowKit
set_option linter.unusedVariables false
abbrev Bl (w0 : World) (w : World) : Prop := Below w0.heap.size w0 w
theorem Bl.drew {w0 w : World} (h : Bl w0 w) : Bl w0 w.drew := ⟨h.os, h.tape, h.output, h.size, h.block⟩
theorem Bl.call {w0 w w' : World} (h : Bl w0 w) (hb : Below w.heap.size w w') : Bl w0 w' := h.trans (hb.mono h.size)
theorem Bl.cell {w0 w : World} (h : Bl w0 w) {g o : Nat} {v : Value} (hv : w0.cell? ⟨g, o, none⟩ = some v) : w.cell? ⟨g, o, none⟩ = some v := by
  rw [World.cell?_of_block (w := w0) (w' := w) (a := ⟨g, o, none⟩) (h.block g (block_lt_of_cell hv))]; exact hv
theorem Bl.stays {w0 w : World} (h : Bl w0 w) : Stays (fun _ => True) w0 (fun _ => True) w := ⟨h.size, fun _ _ _ => trivial, fun k hk _ => h.block k hk⟩
theorem RdL.any {S : Nat → Prop} {w : World} {ds : List D} {vs : List Value} (h : RdL S w ds vs) : RdL (fun _ => True) w ds vs := h.stays ⟨Nat.le_refl _, fun _ _ _ => trivial, fun _ _ _ => rfl⟩
theorem Rd.any {S : Nat → Prop} {w : World} {d : D} {v : Value} (h : Rd S w d v) : Rd (fun _ => True) w d v := h.stays ⟨Nat.le_refl _, fun _ _ _ => trivial, fun _ _ _ => rfl⟩
section
variable {P : Program} {ops : Array Oper} {Q : Exit → Act → World → Prop} {n : Nat} {e : Env} {w0 : World}
theorem yl_indexI {S : World → Prop} {o : Oper} {T E : TypeId} {x y : Operand} {b off len cap es : Nat} (k : Nat) {i : Int} (ho : o.op = .indexAddr T x y)
    (hT : (P.underlying T, (P.info? E).map (·.size)) = (some (.slice E), some es)) (hx : rho e x = .slice (some ⟨b, off, none⟩) len cap) (hy : rho e y = .int .i64 i) (hi : i = (k : Int)) (hk : k < len) :
    Yl P S e o (.pointer (some ⟨b, off + k * es, none⟩)) := yl_index ho hT hx (by rw [hy, hi]) hk
end
theorem Rd.rows {S : Nat → Prop} {w : World} {rows : List (List D)} {v : Value} (h : Rd S w (.sl rows) v) (hne : rows ≠ []) : ∃ g off cap rv, v = .slice (some ⟨g, off, none⟩) rows.length cap ∧ RdR S w rows rv ∧ w.rangeAt g off rv.flatten := by
  rw [Rd] at h
  obtain ⟨a, cap, rfl, h⟩ := h
  rcases h with h | ⟨g, off, rfl, _, _, h⟩
  · exact absurd h hne
  · obtain ⟨rv, h1, h2⟩ := RdRows.vals h
    exact ⟨g, off, _, rv, rfl, h1, h2⟩
theorem range_row {w : World} {g off es : Nat} {rv : List (List Value)} (h : w.rangeAt g off rv.flatten) (hl : ∀ x ∈ rv, x.length = es) {i : Nat} {r : List Value} (hi : rv[i]? = some r) : w.rangeAt g (off + i * es) r := fun j u hj => by
  obtain ⟨h1, h2, _⟩ := split_row hl hi
  have hjl := (List.getElem?_eq_some_iff.1 hj).1
  have := h (i * es + j) u (by
    rw [h1, List.append_assoc, List.getElem?_append_right (by omega), h2, List.getElem?_append_left (by omega)]
    rw [show i * es + j - i * es = j by omega]; exact hj)
  rwa [show off + (i * es + j) = off + i * es + j by omega] at this
end Go.Sx

namespace Go.Sx
open Go.RowKit
set_option linter.unusedVariables false
section
variable {P : Program} {ops : Array Oper} {Q : Exit → Act → World → Prop} {n : Nat} {e : Env}
theorem wl_callK {S : World → Prop} (hS : ∀ w w', S w → Below w.heap.size w w' → S w') {o : Oper} {rest : List Oper} {d : Nat} {f : FuncId} {args : Array Value} {v : Value} (hf : fit ops n e o (some d) = true) (hv : pureVal P (execOp (rho e) o) = some (.enter f args))
    (h : ∀ w, S w → Calls P f args w (fun x w' => x = .returned v ∧ Below w.heap.size w w')) (k : WL P ops Q n ((d, v) :: e) S rest) : WL P ops Q n e S (o :: rest) := by
  obtain ⟨h1, h2, h3, h4⟩ := fit_some hf
  refine wl_call h1 h2 h3 h4 hv (R := fun w x w' => x = .returned v ∧ Below w.heap.size w w') h (fun w x w' hw hR => ⟨v, hR.1, ?_⟩)
  exact fun a w2 ha hww => k a w2 ha (by subst hww; exact hS _ _ hw hR.2)
theorem wd_callK {S : World → Prop} (hS : ∀ w w', S w → Below w.heap.size w w' → S w') (i : Nat) {m fu d : Nat} {oi : Oper} {listed : Array Bool} {f : FuncId} {args : Array Value} {v : Value} (hi : ops[i]? = some oi) (him : i < m) (hr : Region.ready .any ops listed = [i]) (hf : fit ops n e oi (some d) = true) (hv : pureVal P (execOp (rho e) oi) = some (.enter f args))
    (h : ∀ w, S w → Calls P f args w (fun x w' => x = .returned v ∧ Below w.heap.size w w')) (k : WD P ops Q n m S S fu (listed.setIfInBounds i true) ((d, v) :: e)) : WD P ops Q n m S S (fu + 1) listed e := by
  refine wd_call i hi him hr hf hv (R := fun w x w' => x = .returned v ∧ Below w.heap.size w w') h (fun w x w' hw hR => ⟨v, hR.1, hS _ _ hw hR.2, ?_⟩)
  exact fun a w2 inv ha hww => k a w2 inv ha (by subst hww; exact hS _ _ hw hR.2)
end
theorem shK {wb : World} {L : List Blk} : ∀ w w', SH wb L w → Below w.heap.size w w' → SH wb L w' := fun _ _ h hb => h.keep hb
end Go.Sx

namespace Go.Sx
open Go.RowKit
set_option linter.unusedVariables false
section
variable {P : Program} {ops : Array Oper} {Q : Exit → Act → World → Prop} {n : Nat} {e : Env}
end
structure Ca (E es : Nat) (w0 : World) (rows : List (List D)) (g : Nat) where
  i : Nat
  wb : World
  rv : List (List Value)
  hi : i ≤ rows.length
  hcnt : rv.length = rows.length
  hlen : ∀ x ∈ rv, x.length = es
  hg : w0.heap.size ≤ g
  hnew : ∀ j r v, j < i → rows[j]? = some r → rv[j]? = some v → RdL (Nw w0.heap.size wb [⟨g, (rv.flatten ++ []).toArray, E⟩]) wb r v
  hbel : Below w0.heap.size w0 wb
def Ca.next {E es : Nat} {w0 : World} {rows : List (List D)} {g : Nat} (x : Ca E es w0 rows g) {r1 : Nat} {c1 : Array Value} {t1 : TypeId} {w1 w2 w3 : World} {r : List D} {cs : List Value} (hlt : x.i < rows.length) (hrow : rows[x.i]? = some r) (hr1 : x.wb.heap.size ≤ r1)
    (h1 : SH x.wb [⟨r1, c1, t1⟩, ⟨g, (x.rv.flatten ++ []).toArray, E⟩] w1) (hb : Below w1.heap.size w1 w2) (hm : RdL (fun k => w1.heap.size ≤ k) w2 r cs) (hl : cs.length = es)
    (h3 : SH w2 [⟨r1, c1, t1⟩, ⟨g, ((x.rv.set x.i cs).flatten ++ []).toArray, E⟩] w3) : Ca E es w0 rows g where
  i := x.i + 1
  wb := w3
  rv := x.rv.set x.i cs
  hi := hlt
  hcnt := by simp [x.hcnt]
  hlen := set_len x.hlen _ hl
  hg := x.hg
  hnew := fun j q v hj hq hv => by
    have hB : w0.heap.size ≤ x.wb.heap.size := x.hbel.size
    have hT : Tr x.wb [⟨r1, c1, t1⟩, ⟨g, (x.rv.flatten ++ []).toArray, E⟩] w2 [⟨r1, c1, t1⟩, ⟨g, ((x.rv.set x.i cs).flatten ++ []).toArray, E⟩] := (h1.tr hb).congR rfl
    have hT3 : Tr w2 [⟨r1, c1, t1⟩, ⟨g, ((x.rv.set x.i cs).flatten ++ []).toArray, E⟩] w3 [⟨g, ((x.rv.set x.i cs).flatten ++ []).toArray, E⟩] := h3.trHere.drop1
    by_cases hji : j = x.i
    · subst hji
      rw [hrow] at hq
      cases hq
      rw [List.getElem?_set_self (by rw [x.hcnt]; exact hlt)] at hv
      cases hv
      have := (hm.stays (stays_newN h1 (Nat.le_trans hB h1.size))).stays (nw_cong (L := [⟨r1, c1, t1⟩, ⟨g, (x.rv.flatten ++ []).toArray, E⟩]) (L' := [⟨r1, c1, t1⟩, ⟨g, ((x.rv.set x.i cs).flatten ++ []).toArray, E⟩]) rfl)
      exact this.stays hT3.staysN
    · rw [List.getElem?_set_ne (Ne.symm hji)] at hv
      have h0 := x.hnew j q v (by omega) hq hv
      exact ((h0.stays (nw_more (c := c1) (t := t1) hr1)).stays hT.staysN).stays hT3.staysN
  hbel := by
    have hL : ∀ y ∈ [(⟨r1, c1, t1⟩ : Blk), ⟨g, (x.rv.flatten ++ []).toArray, E⟩], w0.heap.size ≤ y.b := ge_cons (Nat.le_trans x.hbel.size hr1) (ge_cons x.hg (ge_nil _))
    have hb2 := h1.belowCall x.hbel hL hb
    exact h3.below hb2 hb2.size (ge_cons (Nat.le_trans x.hbel.size hr1) (ge_cons x.hg (ge_nil _)))
theorem Ca.done {E es : Nat} {w0 : World} {rows : List (List D)} {g : Nat} (x : Ca E es w0 rows g) (hi : rows.length ≤ x.i) (hes : 0 < es) {w : World} (hsh : SH x.wb [⟨g, (x.rv.flatten ++ []).toArray, E⟩] w) (cap : Nat) (hcap : rows.length ≤ cap) :
    Rd (fun k => w0.heap.size ≤ k) w (.sl rows) (.slice (some ⟨g, 0, none⟩) rows.length cap) := by
  have hcell : w.rangeAt g 0 x.rv.flatten := fun j u hj => by
    have := hsh.cell 0 rfl (0 + j)
    rw [this]
    simpa using hj
  refine Rd.mkSl rfl hcap (.inr ⟨g, 0, rfl, x.hg, hsh.lt (x := ⟨g, (x.rv.flatten ++ []).toArray, E⟩) (by simp), ?_⟩)
  refine RdRows.mk (RdR.of rows x.rv x.hcnt.symm (fun j r v hr hv => ?_)) hcell
  have hj : j < rows.length := (List.getElem?_eq_some_iff.1 hr).1
  exact (x.hnew j r v (by omega) hr hv).stays (hsh.staysN rfl)
theorem Ca.row {E es : Nat} {w0 : World} {rows : List (List D)} {g : Nat} (x : Ca E es w0 rows g) {gs o : Nat} {cs : List Value} (h : w0.rangeAt gs o cs) (hl : cs.length = es) (hes : 0 < es) (c : Array Value) (t : TypeId) :
    x.wb.rangeAt gs o cs ∧ Im x.wb [⟨g, c, t⟩] gs := by
  have h0 := h 0 (cs[0]'(by omega)) (List.getElem?_eq_getElem (by omega))
  have hlt : gs < w0.heap.size := block_lt_of_cell h0
  have := x.hg
  have := x.hbel.size
  exact ⟨fun j u hj => Bl.cell x.hbel (h j u hj), by omega, fun y hy => by simp only [List.mem_singleton] at hy; subst hy; show g ≠ gs; omega⟩
theorem Ca.src {E es : Nat} {w0 : World} {rows : List (List D)} {g : Nat} (x : Ca E es w0 rows g) {L : List Blk} {w1 : World} (h1 : SH x.wb L w1) (hL : ∀ y ∈ L, w0.heap.size ≤ y.b) : Stays (Im w0 []) w0 (fun _ => True) w1 :=
  ⟨Nat.le_trans x.hbel.size h1.size, fun _ _ _ => trivial, fun k hk _ => by
    rw [h1.kept k (Nat.lt_of_lt_of_le hk x.hbel.size) (fun y hy => by have := hL y hy; omega)]
    exact x.hbel.block k hk⟩
end Go.Sx

namespace Go.Sx
open Go.RowKit
set_option linter.unusedVariables false
theorem FitR.mem {sh : Nat → List K} {by_ : Nat → Nat} {rs : List (List D)} {ks : List K} (h : FitR sh by_ rs ks) {r : List D} (hr : r ∈ rs) : FitL sh by_ r ks := by
  obtain ⟨i, hi⟩ := List.getElem?_of_mem hr
  exact h.get i r hi
section
variable {P : Program} {S : World → Prop} {e : Env}
end
end Go.Sx

namespace Go.Sx
open Go.RowKit
set_option linter.unusedVariables false
set_option linter.unusedSimpArgs false
section
variable {P : Program} {ops : Array Oper} {Q : Exit → Act → World → Prop} {n : Nat} {e : Env}
theorem run_append_none (t ty E : TypeId) (z : Value) (size bytes : Nat) (hT : (P.underlying t, (P.info? E).map (fun i => (i.zero, i.size, i.bytes))) = (some (.slice E), some (some z, size, bytes))) (a : Option Addr) (c : Nat) (w : World) :
    (Builtin.append_ #[t, t] ty #[.slice none 0 0, .slice a 0 c]).run P w = .ok (.slice none 0 0) w := by
  simp only [Prod.mk.injEq] at hT
  obtain ⟨ht, hi0⟩ := hT
  obtain ⟨i, hi, hii⟩ := Option.map_eq_some_iff.1 hi0
  have hu : (underlying t).run P w = .ok (.slice E) w := by simp [underlying, ht]
  cases a with
  | none => simp [Builtin.append_, ht, underlying, sizeOf, typeInfo, hi, Builtin.lenOf, Builtin.firstCells]
  | some a =>
    have h0 := run_firstCells_some (P := P) w i.size 0 a 0 c [] (by simp) (fun j u hu => by simp at hu)
    simp [Builtin.append_, ht, underlying, sizeOf, typeInfo, hi, Builtin.lenOf, h0]
end
end Go.Sx

namespace Go.Sx
open Go.RowKit
set_option linter.unusedVariables false
section
variable {P : Program} {ops : Array Oper} {Q : Exit → Act → World → Prop} {n : Nat}
end
end Go.Sx

namespace Go.Sx
open Go.RowKit
set_option linter.unusedVariables false
set_option linter.unusedSimpArgs false
theorem RdRows.drop {S : Nat → Prop} {w : World} {es : Nat} : ∀ (k : Nat) {rows : List (List D)} {g off : Nat}, (∀ r ∈ rows, r.length = es) → RdRows S w rows g off → RdRows S w (rows.drop k) g (off + k * es)
  | 0, rows, g, off, _, h => by simpa using h
  | k + 1, [], g, off, _, h => by simp [RdRows]
  | k + 1, r :: rs, g, off, hes, h => by
    rw [RdRows] at h
    have h2 := h.2
    rw [hes r (List.mem_cons_self ..)] at h2
    have := RdRows.drop k (fun x hx => hes x (List.mem_cons_of_mem _ hx)) h2
    rw [List.drop_succ_cons, show off + (k + 1) * es = off + es + k * es by rw [Nat.add_mul]; omega]
    exact this
theorem RdRows.take {S : Nat → Prop} {w : World} : ∀ (k : Nat) {rows : List (List D)} {g off : Nat}, RdRows S w rows g off → RdRows S w (rows.take k) g off
  | 0, rows, g, off, h => by simp [RdRows]
  | k + 1, [], g, off, h => by simp [RdRows]
  | k + 1, r :: rs, g, off, h => by
    rw [RdRows] at h
    rw [List.take_succ_cons, RdRows]
    exact ⟨h.1, RdRows.take k h.2⟩
theorem rd_to {S : Nat → Prop} {w : World} {rows : List (List D)} {a : Option Addr} {cap es k : Nat} (h : Rd S w (.sl rows) (.slice a rows.length cap)) (hk : k ≤ rows.length) (hc : rows.length ≤ cap) :
    Rd S w (.sl (rows.take k)) (sliced a 0 k cap es) := by
  obtain ⟨a', cap', he, hcap, hr⟩ := h.caps
  cases he
  refine Rd.mkSl (a := if cap = 0 then a else a.map (·.add (0 * es))) (cap := cap - 0) (by rw [List.length_take, Nat.min_eq_left hk]; rfl) (by rw [List.length_take]; omega) ?_
  rcases hr with rfl | ⟨g, off, rfl, hS, hg, hR⟩
  · exact .inl (by simp)
  · refine .inr ⟨g, off, ?_, hS, hg, RdRows.take k hR⟩
    split
    · rfl
    · simp [Addr.add_mid]
section
variable {sh : Nat → List K} {by_ : Nat → Nat}
theorem FitL.cons_iff {d : D} {ds : List D} {k : K} {ks : List K} : FitL sh by_ (d :: ds) (k :: ks) ↔ Fit sh by_ d k ∧ FitL sh by_ ds ks := by
  rw [FitL]
  constructor
  · rintro ⟨k', ks', he, h1, h2⟩
    cases he
    exact ⟨h1, h2⟩
  · rintro ⟨h1, h2⟩
    exact ⟨k, ks, rfl, h1, h2⟩
theorem Fit.int_iff {m : Int} : Fit sh by_ (.int m) .int ↔ -9223372036854775808 ≤ m ∧ m ≤ 9223372036854775807 := by rw [Fit]; simp
theorem FitR.of : ∀ {rs : List (List D)} {ks : List K}, (∀ r ∈ rs, FitL sh by_ r ks) → FitR sh by_ rs ks
  | [], _, _ => by rw [FitR]; trivial
  | r :: rs, ks, h => by rw [FitR]; exact ⟨h r (List.mem_cons_self ..), FitR.of (fun x hx => h x (List.mem_cons_of_mem _ hx))⟩
end
section
variable {P : Program} {ops : Array Oper} {Q : Exit → Act → World → Prop} {n : Nat} {e : Env} {S : World → Prop}
theorem yl_to {o : Oper} {T E : TypeId} {x y : Operand} {a : Option Addr} {len cap k es : Nat} (ho : o.op = .slice T x none (some y) none)
    (hT : (P.underlying T, (P.info? E).map (·.size)) = (some (.slice E), some es)) (hx : rho e x = .slice a len cap) (hy : rho e y = .int .i64 (k : Int)) (hk : k ≤ cap) : Yl P S e o (sliced a 0 k cap es) := fun w _ => by
  simp only [Prod.mk.injEq] at hT
  obtain ⟨hu, hi⟩ := hT
  obtain ⟨i, hq, hs⟩ := Option.map_eq_some_iff.1 hi
  unfold execOp
  simp [ho, hx, hy, Instr.sliceAt, Instr.slice, run_underlying hu, Instr.sliceBounds, run_sliceBound, sizeOf, typeInfo, hq, hs, sliced, hk]
end
end Go.Sx

namespace Go.Sx
set_option linter.unusedVariables false
section
variable {H : Type} {enc : TypeId × Value → H} {P : Program} {w : World} {spare : Nat → Bool} {held : Bool}
mutual
theorem bulk_mono {f : DataW H → Nat} {fs : List (DataW H) → Nat} (h1 : ∀ b, b.length + 1 ≤ f (.lit (.string b))) (h2 : ∀ l, 1 ≤ f (.lit l)) (h3 : 1 ≤ f .nil) (h4 : ∀ d, f d + 1 ≤ f (.ptr d)) (h5 : ∀ a b, fs a + fs b + 1 ≤ f (.slice a b)) (h6 : ∀ a, fs a + 1 ≤ f (.agg a))
    (h7 : ∀ t d, f d + 1 ≤ f (.iface t d)) (h8 : ∀ m, 1 ≤ f (.map m)) (h9 : ∀ x, 1 ≤ f (.held x)) (h10 : ∀ d r, f d + fs r ≤ fs (d :: r)) : ∀ d : DataW H, bulk d ≤ f d
  | .lit (.string b) => by rw [bulk]; exact h1 b
  | .lit (.int k n) => by rw [bulk]; exact h2 _; intro b; intro hb; cases hb
  | .lit (.bool b) => by rw [bulk]; exact h2 _; intro b; intro hb; cases hb
  | .lit l => by
    cases l with
    | string b => rw [bulk]; exact h1 b
    | _ => rw [bulk]; exact h2 _; intro b hb; cases hb
  | .nil => by rw [bulk]; exact h3
  | .ptr d => by rw [bulk]; have := bulk_mono h1 h2 h3 h4 h5 h6 h7 h8 h9 h10 d; have := h4 d; omega
  | .slice a b => by rw [bulk]; have := bulks_mono h1 h2 h3 h4 h5 h6 h7 h8 h9 h10 a; have := bulks_mono h1 h2 h3 h4 h5 h6 h7 h8 h9 h10 b; have := h5 a b; omega
  | .agg a => by rw [bulk]; have := bulks_mono h1 h2 h3 h4 h5 h6 h7 h8 h9 h10 a; have := h6 a; omega
  | .iface t d => by rw [bulk]; have := bulk_mono h1 h2 h3 h4 h5 h6 h7 h8 h9 h10 d; have := h7 t d; omega
  | .map m => by rw [bulk]; exact h8 m
  | .held x => by rw [bulk]; exact h9 x
theorem bulks_mono {f : DataW H → Nat} {fs : List (DataW H) → Nat} (h1 : ∀ b, b.length + 1 ≤ f (.lit (.string b))) (h2 : ∀ l, 1 ≤ f (.lit l)) (h3 : 1 ≤ f .nil) (h4 : ∀ d, f d + 1 ≤ f (.ptr d)) (h5 : ∀ a b, fs a + fs b + 1 ≤ f (.slice a b)) (h6 : ∀ a, fs a + 1 ≤ f (.agg a))
    (h7 : ∀ t d, f d + 1 ≤ f (.iface t d)) (h8 : ∀ m, 1 ≤ f (.map m)) (h9 : ∀ x, 1 ≤ f (.held x)) (h10 : ∀ d r, f d + fs r ≤ fs (d :: r)) : ∀ l : List (DataW H), bulkAll l ≤ fs l
  | [] => by rw [bulkAll]; exact Nat.zero_le _
  | d :: r => by rw [bulkAll]; have := bulk_mono h1 h2 h3 h4 h5 h6 h7 h8 h9 h10 d; have := bulks_mono h1 h2 h3 h4 h5 h6 h7 h8 h9 h10 r; have := h10 d r; omega
end
end
end Go.Sx

namespace Go.Sx
open Go.RowKit
set_option linter.unusedVariables false
set_option linter.unusedSimpArgs false
theorem im_new {wb : World} {L : List Blk} {g : Nat} (hg : g < wb.heap.size) (hL : ∀ x ∈ L, wb.heap.size ≤ x.b) : Im wb L g := ⟨hg, fun x hx => by have := hL x hx; omega⟩
theorem SH.one {wb : World} {L : List Blk} {w : World} (h : SH wb L w) (p : Nat) {x : Blk} (hp : L[p]? = some x) : SH w [x] w :=
  ⟨rfl, rfl, rfl, Nat.le_refl _, fun _ _ _ => rfl, fun y hy => by simp only [List.mem_singleton] at hy; subst hy; exact h.blk _ (List.mem_of_getElem? hp), fun i j y z hi hj _ => by
    have h1 := (List.getElem?_eq_some_iff.1 hi).1
    have h2 := (List.getElem?_eq_some_iff.1 hj).1
    simp only [List.length_cons, List.length_nil] at h1 h2
    omega⟩
theorem SH.put {wb : World} {L : List Blk} {w w' : World} (h : SH wb L w) (p : Nat) {b : Nat} {c c' : Array Value} {t : TypeId} (hp : L[p]? = some ⟨b, c, t⟩) (h' : SH w [⟨b, c', t⟩] w') : SH wb (L.set p ⟨b, c', t⟩) w' := by
  have hpl : p < L.length := (List.getElem?_eq_some_iff.1 hp).1
  have hset : ∀ (i : Nat) (x : Blk), (L.set p ⟨b, c', t⟩)[i]? = some x → ∃ y, L[i]? = some y ∧ y.b = x.b := fun i x hi => by
    by_cases hpi : p = i
    · subst hpi; simp [hpl] at hi; exact ⟨_, hp, by rw [← hi]⟩
    · rw [List.getElem?_set_ne hpi] at hi; exact ⟨x, hi, rfl⟩
  refine ⟨h'.os.trans h.os, h'.tape.trans h.tape, h'.output.trans h.output, Nat.le_trans h.size h'.size, fun k hk hx => ?_, fun x hx => ?_, fun i j x y hi hj he => ?_⟩
  · have hkb : k ≠ b := fun e => by
      subst e
      have : (⟨k, c', t⟩ : Blk) ∈ L.set p ⟨k, c', t⟩ := List.mem_of_getElem? (i := p) (by simp [hpl])
      exact hx _ this rfl
    rw [h'.kept k (Nat.lt_of_lt_of_le hk h.size) (fun y hy => by simp only [List.mem_singleton] at hy; subst hy; exact fun e => hkb e.symm)]
    refine h.kept k hk (fun x hx' hxe => ?_)
    obtain ⟨i, hi⟩ := List.getElem?_of_mem hx'
    by_cases hpi : p = i
    · subst hpi; rw [hp] at hi; cases hi; exact hkb hxe.symm
    · exact hx x (List.mem_of_getElem? (i := i) (by rw [List.getElem?_set_ne hpi]; exact hi)) hxe
  · obtain ⟨i, hi⟩ := List.getElem?_of_mem hx
    by_cases hpi : p = i
    · subst hpi
      simp [hpl] at hi
      subst hi
      exact h'.blk _ (by simp)
    · rw [List.getElem?_set_ne hpi] at hi
      have hne : x.b ≠ b := fun e => by
        exact hpi (h.dis p i _ _ hp hi e.symm)
      rw [h'.kept x.b (h.lt (List.mem_of_getElem? hi)) (fun y hy => by simp only [List.mem_singleton] at hy; subst hy; exact fun e => hne e.symm)]
      exact h.blk x (List.mem_of_getElem? hi)
  · obtain ⟨x', hx', ex⟩ := hset i x hi
    obtain ⟨y', hy', ey⟩ := hset j y hj
    exact h.dis i j x' y' hx' hy' (by rw [ex, ey, he])
section
variable {P : Program} {ops : Array Oper} {Q : Exit → Act → World → Prop} {n : Nat} {e : Env}
end
end Go.Sx

namespace Go.Sx
open Go.RowKit
set_option linter.unusedVariables false
set_option linter.unusedSimpArgs false
section
variable {P : Program} {ops : Array Oper} {Q : Exit → Act → World → Prop} {n : Nat} {e : Env}
end
end Go.Sx

namespace Go.Sx
open Go.RowKit
set_option linter.unusedVariables false
set_option linter.unusedSimpArgs false
theorem RdR.app {S : Nat → Prop} {w : World} : ∀ {a b : List (List D)} {u v : List (List Value)}, RdR S w a u → RdR S w b v → RdR S w (a ++ b) (u ++ v)
  | [], _, [], _, _, h => h
  | _ :: _, _, _ :: _, _, h, h' => ⟨h.1, RdR.app h.2 h'⟩
  | [], _, _ :: _, _, h, _ => h.elim
  | _ :: _, _, [], _, h, _ => h.elim
section
variable {P : Program} {ops : Array Oper} {Q : Exit → Act → World → Prop} {n : Nat} {e : Env}
end
end Go.Sx

namespace Go.Sx
open Go.RowKit
set_option linter.unusedVariables false
set_option linter.unusedSimpArgs false
section
variable {P : Program}
section
variable {ops : Array Oper} {Q : Exit → Act → World → Prop} {n : Nat} {e : Env}
end
variable {n : Nat} {e : Env}
end
end Go.Sx

namespace Go.Sx
open Go.RowKit
set_option linter.unusedVariables false
theorem range_cut {w : World} {g o : Nat} {cs : List Value} (h : w.rangeAt g o cs) (k n : Nat) : w.rangeAt g (o + k) ((cs.drop k).take n) := fun j v hj => by
  rw [List.getElem?_take] at hj
  split at hj
  · rw [List.getElem?_drop] at hj
    have := h (k + j) v hj
    rwa [← Nat.add_assoc] at this
  · cases hj
end Go.Sx

namespace Go.Sx
open Go.RowKit
set_option linter.unusedVariables false
def dI : D → Int | .int n => n | .bool _ => 0 | .str _ => 0 | .sl _ => 0
def dB : D → Bool | .bool b => b | .int _ => false | .str _ => false | .sl _ => false
def dS : D → ByteArray | .str s => s | .int _ => ByteArray.empty | .bool _ => ByteArray.empty | .sl _ => ByteArray.empty
def dR : D → List (List D) | .sl r => r | .int _ => [] | .bool _ => [] | .str _ => []
def nth : List D → Nat → D
  | [], _ => .int 0
  | d :: _, 0 => d
  | _ :: r, k + 1 => nth r k
def fI (r : List D) (j : Nat) : Int := dI (nth r j)
def fB (r : List D) (j : Nat) : Bool := dB (nth r j)
def fS (r : List D) (j : Nat) : ByteArray := dS (nth r j)
def fR (r : List D) (j : Nat) : List (List D) := dR (nth r j)
def row (R : List (List D)) (i : Nat) : List D := (R[i]?).getD []
def sub (r : List D) : Nat → Nat → List D
  | _, 0 => []
  | k, n + 1 => nth r k :: sub r (k + 1) n
theorem row_some {R : List (List D)} {i : Nat} (h : i < R.length) : R[i]? = some (row R i) := by simp [row, List.getElem?_eq_getElem h]
theorem nth_get : ∀ (r : List D) (k : Nat) (h : k < r.length), nth r k = r[k]
  | [], k, h => by simp at h
  | d :: r, 0, _ => rfl
  | d :: r, k + 1, h => by simpa [nth] using nth_get r k (by simpa using h)
theorem sub_eq : ∀ (n k : Nat) (r : List D), k + n ≤ r.length → sub r k n = (r.drop k).take n
  | 0, k, r, _ => by simp [sub]
  | n + 1, k, r, h => by
    rw [sub, sub_eq n (k + 1) r (by omega), List.drop_eq_getElem_cons (show k < r.length by omega), List.take_succ_cons, nth_get r k (by omega)]
theorem sub_all {r : List D} {n : Nat} (h : r.length = n) : sub r 0 n = r := by rw [sub_eq n 0 r (by omega)]; subst h; simp
section
variable {sh : Nat → List K} {by_ : Nat → Nat}
theorem FitR.row {R : List (List D)} {ks : List K} (h : FitR sh by_ R ks) {i : Nat} (hi : i < R.length) : FitL sh by_ (row R i) ks := h.get i _ (row_some hi)
theorem FitL.drop : ∀ {r : List D} {ks : List K} (k : Nat), FitL sh by_ r ks → FitL sh by_ (r.drop k) (ks.drop k)
  | r, ks, 0, h => by simpa using h
  | [], ks, k + 1, h => by rw [FitL] at h; subst h; simp [FitL]
  | d :: r, ks, k + 1, h => by
    rw [FitL] at h
    obtain ⟨k0, ks', rfl, _, h2⟩ := h
    simpa using FitL.drop k h2
theorem FitL.take : ∀ {r : List D} {ks : List K} (k : Nat), FitL sh by_ r ks → FitL sh by_ (r.take k) (ks.take k)
  | r, ks, 0, h => by simp [FitL]
  | [], ks, k + 1, h => by rw [FitL] at h; subst h; simp [FitL]
  | d :: r, ks, k + 1, h => by
    rw [FitL] at h
    obtain ⟨k0, ks', rfl, h1, h2⟩ := h
    rw [List.take_succ_cons, List.take_succ_cons, FitL]
    exact ⟨k0, _, rfl, h1, FitL.take k h2⟩
theorem FitL.sub {r : List D} {ks : List K} (h : FitL sh by_ r ks) (k n : Nat) (hl : k + n ≤ ks.length) : FitL sh by_ (sub r k n) ((ks.drop k).take n) := by
  rw [sub_eq n k r (by rw [h.length]; exact hl)]; exact (h.drop k).take n
theorem FitL.full {r : List D} {ks : List K} (h : FitL sh by_ r ks) : Go.Sx.sub r 0 ks.length = r := sub_all h.length
end
theorem RdL.drop {S : Nat → Prop} {w : World} : ∀ {r : List D} {cs : List Value} (k : Nat), RdL S w r cs → RdL S w (r.drop k) (cs.drop k)
  | r, cs, 0, h => by simpa using h
  | [], [], k + 1, h => h
  | [], _ :: _, k + 1, h => h.elim
  | _ :: _, [], k + 1, h => h.elim
  | d :: r, c :: cs, k + 1, h => by simpa using RdL.drop k h.2
theorem RdL.take {S : Nat → Prop} {w : World} : ∀ {r : List D} {cs : List Value} (k : Nat), RdL S w r cs → RdL S w (r.take k) (cs.take k)
  | r, cs, 0, h => by simp [RdL]
  | [], [], k + 1, h => by simp [RdL]
  | [], _ :: _, k + 1, h => h.elim
  | _ :: _, [], k + 1, h => h.elim
  | d :: r, c :: cs, k + 1, h => by rw [List.take_succ_cons, List.take_succ_cons]; exact ⟨h.1, RdL.take k h.2⟩
theorem RdL.sub {S : Nat → Prop} {w : World} {r : List D} {cs : List Value} (h : RdL S w r cs) (k n : Nat) (hl : k + n ≤ r.length) : RdL S w (sub r k n) ((cs.drop k).take n) := by
  rw [sub_eq n k r hl]; exact (h.drop k).take n
section
variable {sh : Nat → List K} {by_ : Nat → Nat}
theorem FitL.nthF : ∀ {r : List D} {ks : List K} {j : Nat} {k : K}, FitL sh by_ r ks → ks[j]? = some k → Fit sh by_ (nth r j) k
  | [], ks, j, k, h, hk => by rw [FitL] at h; subst h; simp at hk
  | d :: r, ks, 0, k, h, hk => by
    rw [FitL] at h
    obtain ⟨k0, ks', rfl, h1, _⟩ := h
    simp at hk
    subst hk
    exact h1
  | d :: r, ks, j + 1, k, h, hk => by
    rw [FitL] at h
    obtain ⟨k0, ks', rfl, _, h2⟩ := h
    rw [List.getElem?_cons_succ] at hk
    exact FitL.nthF (j := j) h2 hk
theorem FitL.fR {r : List D} {ks : List K} {j t : Nat} (h : FitL sh by_ r ks) (hk : ks[j]? = some (.sl t)) : FitR sh by_ (fR r j) (sh t) ∧ (fR r j).length * by_ t ≤ 140737488355328 := by
  obtain ⟨R, h1, h2, h3⟩ := (h.nthF hk).sl
  rw [Go.Sx.fR, h1]
  exact ⟨h3, h2⟩
theorem FitL.fS {r : List D} {ks : List K} {j : Nat} (h : FitL sh by_ r ks) (hk : ks[j]? = some .str) : (fS r j).size ≤ 140737488355328 := by
  obtain ⟨R, h1, h2⟩ := (h.nthF hk).str
  rw [Go.Sx.fS, h1]
  exact h2
theorem FitL.fI {r : List D} {ks : List K} {j : Nat} (h : FitL sh by_ r ks) (hk : ks[j]? = some .int) : -9223372036854775808 ≤ fI r j ∧ fI r j ≤ 9223372036854775807 := by
  obtain ⟨R, h1, h2⟩ := (h.nthF hk).int
  rw [Go.Sx.fI, h1]
  exact h2
theorem Fit.str_mk {s : ByteArray} (h : s.size ≤ 140737488355328) : Fit sh by_ (.str s) .str := by rw [Fit]; exact ⟨rfl, h⟩
end
theorem szR_row {R : List (List D)} {i : Nat} (h : i < R.length) : szL (row R i) < szR R := szR_get (row_some h)
theorem szL_drop : ∀ (r : List D) (k : Nat), szL (r.drop k) ≤ szL r
  | r, 0 => by simp
  | [], k + 1 => by simp
  | d :: r, k + 1 => by have := szL_drop r k; simp only [List.drop_succ_cons, szL]; omega
theorem szL_take : ∀ (r : List D) (k : Nat), szL (r.take k) ≤ szL r
  | r, 0 => by simp [szL]
  | [], k + 1 => by simp
  | d :: r, k + 1 => by have := szL_take r k; simp only [List.take_succ_cons, szL]; omega
theorem szL_sub {r : List D} {k n : Nat} (h : k + n ≤ r.length) : szL (sub r k n) ≤ szL r := by
  rw [sub_eq n k r h]; exact Nat.le_trans (szL_take _ _) (szL_drop _ _)
theorem szR_dR (d : D) : szR (dR d) ≤ d.sz := by cases d <;> simp [dR, szR, D.sz]
theorem sz_nth : ∀ (r : List D) (j : Nat), szR (fR r j) ≤ szL r
  | [], j => by simp [fR, nth, dR, szR]
  | d :: r, 0 => by have := szR_dR d; simp only [fR, nth, szL]; omega
  | d :: r, j + 1 => by have := sz_nth r j; simp only [fR, nth, szL] at this ⊢; omega
abbrev AnyB : Nat → Prop := fun _ => True
theorem slv_addr {w : World} {R : List (List D)} {a : Option Addr} {n c i : Nat} (h : Rd AnyB w (.sl R) (.slice a n c)) (hi : i < R.length) : ∃ g o, a = some ⟨g, o, none⟩ ∧ g < w.heap.size := by
  rw [Rd] at h
  obtain ⟨a', cap, he, h⟩ := h
  cases he
  rcases h with h | ⟨g, off, rfl, _, hg, _⟩
  · subst h; simp at hi
  · exact ⟨g, off, rfl, hg⟩
theorem row_cells {sh : Nat → List K} {by_ : Nat → Nat} {w : World} {R : List (List D)} {g o n c i es : Nat} {ks : List K} (h : Rd AnyB w (.sl R) (.slice (some ⟨g, o, none⟩) n c)) (hf : FitR sh by_ R ks) (hk : ks.length = es) (hi : i < R.length) :
    ∃ cs, w.rangeAt g (o + i * es) cs ∧ RdL AnyB w (row R i) cs := by
  rw [Rd] at h
  obtain ⟨a', cap, he, h⟩ := h
  cases he
  rcases h with h | ⟨g', off, he, _, _, h⟩
  · subst h; simp at hi
  · cases he
    obtain ⟨rv, h1, h2⟩ := RdRows.vals h
    obtain ⟨v, hv, hr⟩ := h1.get i _ (row_some hi)
    refine ⟨v, range_row h2 (fun x hx => ?_) hv, hr⟩
    obtain ⟨j, hj⟩ := List.getElem?_of_mem hx
    have hjl : j < R.length := by rw [h1.length]; exact (List.getElem?_eq_some_iff.1 hj).1
    obtain ⟨u, hu, hur⟩ := h1.get j _ (row_some hjl)
    rw [hj] at hu
    cases hu
    rw [← hur.length, (hf.row hjl).length, hk]
def lpW {σ ρ : Type} (B : σ → (σ → ρ) → ρ) (z : ρ) : Nat → σ → ρ
  | 0, _ => z
  | m + 1, x => B x (lpW B z m)
def Inv {σ ρ : Type} (B : σ → (σ → ρ) → ρ) (z : ρ) (μ : σ → Nat) (r : ρ) (x : σ) : Prop := ∃ m, μ x < m ∧ lpW B z m x = r
theorem Inv.begin {σ ρ : Type} {B : σ → (σ → ρ) → ρ} {z : ρ} {μ : σ → Nat} {r : ρ} {x : σ} {m : Nat} (h : lpW B z m x = r) (hm : μ x < m) : Inv B z μ r x := ⟨m, hm, h⟩
theorem Inv.step {σ ρ : Type} {B : σ → (σ → ρ) → ρ} {z : ρ} {μ : σ → Nat} {r : ρ} {x : σ} (h : Inv B z μ r x) : ∃ m K, K = lpW B z m ∧ μ x ≤ m ∧ B x K = r := by
  obtain ⟨m, hm, h⟩ := h
  cases m with
  | zero => omega
  | succ m => exact ⟨m, _, rfl, by omega, h⟩
theorem Inv.next {σ ρ : Type} {B : σ → (σ → ρ) → ρ} {z : ρ} {μ : σ → Nat} {r : ρ} {x y : σ} {m : Nat} {K : σ → ρ} (hK : K = lpW B z m) (hm : μ x ≤ m) (hy : μ y < μ x) (h : K y = r) : Inv B z μ r y := ⟨m, by omega, hK ▸ h⟩
theorem cT {α : Type} {c : Bool} {a b r : α} (h : c = true) (e : (bif c then a else b) = r) : a = r := by subst h; exact e
theorem cF {α : Type} {c : Bool} {a b r : α} (h : c = false) (e : (bif c then a else b) = r) : b = r := by subst h; exact e
section
variable {P : Program} {ops : Array Oper} {Q : Exit → Act → World → Prop} {n : Nat} {e : Env} {S : World → Prop}
theorem wc_loopI {σ : Type} {c : Code} (I : σ → Prop) (E : σ → Env) (T : World → Prop) (μ : σ → Nat) (x0 : σ) (hI : I x0) (hE : subEnv (E x0) e) (hT : ∀ w, S w → T w)
    (round : ∀ x, I x → WC P (Exit.then (fun a w => ∃ y, (μ y < μ x ∧ I y) ∧ Has (E y) n a ∧ T w) Q) n (E x) T c) : WC P Q n e S (.loop c) := by
  refine wc_loop (σ := { x // I x }) (fun x => E x.1) (fun _ => T) (fun x => μ x.1) (fun w hw => ⟨⟨x0, hI⟩, hT w hw, hE⟩) (fun x => wc_mono (round x.1 x.2) (fun xt a w h => ?_))
  cases xt with
  | normal => obtain ⟨y, ⟨h1, h2⟩, h3, h4⟩ := h; exact ⟨⟨y, h2⟩, h1, h3, h4⟩
  | _ => exact h
theorem nx_roundI {σ : Type} {I : σ → Prop} {E : σ → Env} {T : World → Prop} {μ : σ → Nat} {x : σ} (y : σ) (hμ : μ y < μ x) (hI : I y) (he : subEnv (E y) e) (hS : ∀ w, S w → T w) :
    NX (Exit.then (fun a w => ∃ y, (μ y < μ x ∧ I y) ∧ Has (E y) n a ∧ T w) Q) n e S .normal := fun a w ha hw => ⟨y, ⟨hμ, hI⟩, ha.weaken he, hS w hw⟩
theorem wc_join {x y : Code} (E1 : Env) (S1 : World → Prop) (hx : WC P (Exit.then (fun a w => Has E1 n a ∧ S1 w) Q) n e S x) (hy : WC P Q n E1 S1 y) : WC P Q n e S (.seq x y) :=
  wc_seq (wc_mono hx (fun xt a w h => by
    cases xt with
    | normal => exact hy a w h.1 h.2
    | _ => exact h))
theorem nx_join {E1 : Env} {S1 : World → Prop} (he : subEnv E1 e) (hS : ∀ w, S w → S1 w) : NX (Exit.then (fun a w => Has E1 n a ∧ S1 w) Q) n e S .normal := fun a w ha hw => ⟨ha.weaken he, hS w hw⟩
end
theorem treeF {c a b v : Bool} (h : (bif c then a else b) = v) (ha : a ≠ v) : c = false ∧ b = v := by
  cases c
  · exact ⟨rfl, h⟩
  · exact absurd h ha
theorem treeT {c a b v : Bool} (h : (bif c then a else b) = v) (hb : b ≠ v) : c = true ∧ a = v := by
  cases c
  · exact absurd h hb
  · exact ⟨rfl, h⟩
theorem notT {a : Bool} (h : (!a) = true) : a = false := by cases a <;> simp_all
theorem notF {a : Bool} (h : (!a) = false) : a = true := by cases a <;> simp_all
def sb (s : ByteArray) (k : Nat) : Int := (((s[k]?).getD 0).toNat : Int)
theorem sb_bounds (s : ByteArray) (k : Nat) : 0 ≤ sb s k ∧ sb s k ≤ 255 := by
  have := ((s[k]?).getD 0).toNat_lt
  unfold sb; omega
theorem yl_strix {P : Program} {S : World → Prop} {e : Env} {o : Oper} {T : TypeId} {x y : Operand} {s : ByteArray} (k : Nat) {i : Int} (ho : o.op = .index T x y) (hT : P.underlying T = some .string) (hx : rho e x = .string s) (hy : rho e y = .int .i64 i) (hi : i = (k : Int)) (hk : k < s.size) :
    Yl P S e o (.int .u8 (sb s k)) := fun w _ => by
  unfold execOp
  have h1 : s[k]? = some s[k] := getElem?_pos s k hk
  simp [ho, hx, hy, hi, Instr.index, asIntOf, run_underlying hT, h1, sb]
theorem of_dT {p : Prop} [Decidable p] (h : decide p = true) : p := of_decide_eq_true h
theorem of_dF {p : Prop} [Decidable p] (h : decide p = false) : ¬ p := of_decide_eq_false h
theorem of_eT {a b : Int} (h : (a == b) = true) : a = b := by simpa using h
theorem of_eF {a b : Int} (h : (a == b) = false) : a ≠ b := by simpa using h
theorem of_nT {a b : Int} (h : (a != b) = true) : a ≠ b := by simpa using h
theorem of_nF {a b : Int} (h : (a != b) = false) : a = b := by simpa using h
end Go.Sx

namespace Go.Sx
open Go.RowKit
set_option linter.unusedVariables false
theorem ge_app {w : World} {A B : List Blk} (hA : ∀ x ∈ A, w.heap.size ≤ x.b) (hB : ∀ x ∈ B, w.heap.size ≤ x.b) : ∀ x ∈ A ++ B, w.heap.size ≤ x.b := fun x hx => by
  rcases List.mem_append.1 hx with h | h
  · exact hA x h
  · exact hB x h
theorem Own.one {E es k : Nat} {v : Value} {xs : List Value} {R : List Blk} (h : Own E es v k xs R) : v.oneCell' = true := by
  rcases h.2 with ⟨rfl, _⟩ | ⟨g, cap, c, rfl, _⟩ <;> rfl
theorem SH.addN {w q : World} {A : List Blk} (h : SH w A q) : SH w (A ++ []) q := by rw [List.append_nil]; exact h
section
variable {P : Program} {ops : Array Oper} {Q : Exit → Act → World → Prop} {n : Nat} {e : Env}
theorem append_fix {w w1 : World} {L R : List Blk} (t ty E : TypeId) (z : Value) (size bytes : Nat)
    (hT : (P.underlying t, (P.info? E).map (fun i => (i.zero, i.size, i.bytes))) = (some (.slice E), some (some z, size, bytes))) (hz : z.cells.size = size) (hs0 : 0 < size)
    (v : Value) (k : Nat) (xs : List Value) (hown : Own E size v k xs R) (h : SH w (L ++ R) w1) (hR : ∀ x ∈ R, w.heap.size ≤ x.b)
    (a : Addr) (m c : Nat) (news : List Value) (hl : news.length = m * size) (hnews : ∀ j u, news[j]? = some u → w1.cell? (a.add j) = some u) (h1 : ∀ u ∈ news, u.oneCell' = true)
    (h63 : k + m ≤ maxLen) (hby : (k + m) * bytes ≤ 140737488355328) :
    ∃ v' R' w', (Builtin.append_ #[t, t] ty #[v, .slice (some a) m c]).run P w1 = .ok v' w' ∧ Own E size v' (k + m) (xs ++ news) R' ∧ SH w (L ++ R') w' ∧ ∀ x ∈ R', w.heap.size ≤ x.b := by
  obtain ⟨v', R', w', hr, ho', hsh, htr, _⟩ := append_sh (P := P) t ty E z size bytes hT hz hs0 v k xs hown h.swap a m c news hl hnews h1 h63 hby
  have hnew : ∀ x ∈ R', w.heap.size ≤ x.b := fun x hx => by
    rcases Nat.lt_or_ge x.b w.heap.size with hlt | hge
    · exfalso
      have hno : ¬ Im w (R ++ L) x.b := fun hi => (htr.im x.b hi).2 x (List.mem_append_left _ hx) rfl
      apply hno
      refine ⟨hlt, fun y hy he => ?_⟩
      rcases List.mem_append.1 hy with hy | hy
      · have := hR y hy; omega
      · obtain ⟨i, hi⟩ := List.getElem?_of_mem (List.mem_append_left L hx)
        obtain ⟨j, hj⟩ := List.getElem?_of_mem hx
        obtain ⟨l, hl'⟩ := List.getElem?_of_mem hy
        have e1 : (R' ++ L)[j]? = some x := by rw [List.getElem?_append_left (List.getElem?_eq_some_iff.1 hj).1]; exact hj
        have e2 : (R' ++ L)[R'.length + l]? = some y := by rw [List.getElem?_append_right (by omega)]; simpa using hl'
        have := hsh.dis _ _ _ _ e1 e2 he.symm
        have := (List.getElem?_eq_some_iff.1 hj).1
        omega
    · exact hge
  refine ⟨v', R', w', hr, ho', ?_, hnew⟩
  have hs := hsh.swap
  refine ⟨htr.os, htr.tape, htr.output, htr.size, fun j hj hn => htr.same j ⟨hj, fun x hx he => ?_⟩, hs.blk, hs.dis⟩
  rcases List.mem_append.1 hx with hx | hx
  · have := hR x hx; omega
  · exact hn x (List.mem_append_left _ hx) he
theorem wl_appendF {w : World} {L R : List Blk} {o : Oper} {rest : List Oper} {d : Nat} {s x : Operand} {t : TypeId} (E : TypeId) (z : Value) (size bytes : Nat) {v : Value} {k : Nat} {xs : List Value} {a : Addr} {m c : Nat} (news : List Value)
    (hf : fit ops n e o (some d) = true) (ho : o.op = .call { callee := .builtin .append, args := #[s, x], argTypes := #[t, t] })
    (hT : (P.underlying t, (P.info? E).map (fun i => (i.zero, i.size, i.bytes))) = (some (.slice E), some (some z, size, bytes))) (hz : z.cells.size = size) (hs0 : 0 < size)
    (hs : rho e s = v) (hown : Own E size v k xs R) (hR : ∀ x ∈ R, w.heap.size ≤ x.b) (hx : rho e x = .slice (some a) m c) (hl : news.length = m * size)
    (hnews : ∀ q, SH w (L ++ R) q → ∀ j u, news[j]? = some u → q.cell? (a.add j) = some u) (h1 : ∀ u ∈ news, u.oneCell' = true)
    (h63 : k + m ≤ maxLen) (hby : (k + m) * bytes ≤ 140737488355328)
    (kk : ∀ v' R', Own E size v' (k + m) (xs ++ news) R' → (∀ x ∈ R', w.heap.size ≤ x.b) → WL P ops Q n ((d, v') :: e) (SH w (L ++ R')) rest) : WL P ops Q n e (SH w (L ++ R)) (o :: rest) := by
  obtain ⟨h1', h2, h3, h4⟩ := fit_some hf
  refine wl_run (σ := { x : Value × List Blk // Own E size x.1 (k + m) (xs ++ news) x.2 ∧ ∀ y ∈ x.2, w.heap.size ≤ y.b }) (fun x => x.1.1) (fun x => SH w (L ++ x.1.2)) h1' h2 h3 h4 (fun q hq => ?_) (fun x => kk x.1.1 x.1.2 x.2.1 x.2.2)
  obtain ⟨v', R', w', hr, ho', hsh, hn⟩ := append_fix (P := P) t o.type E z size bytes hT hz hs0 v k xs hown hq hR a m c news hl (hnews q hq) h1 h63 hby
  refine ⟨⟨(v', R'), ho', hn⟩, w', ?_, hsh⟩
  unfold execOp
  simp only [ho, resolve, invoke, builtin, Sem.run_bind, Sem.run_pure, Result.andThen_ok, List.map_toArray, List.map_cons, List.map_nil, hs, hx, hr]
theorem wc_weak {c : Code} {T T' : World → Prop} (h : ∀ q, T q → T' q) (k : WC P Q n e T' c) : WC P Q n e T c := fun a w ha hw => k a w ha (h w hw)
end
theorem Own.slv {E es k : Nat} {v : Value} {xs : List Value} {R : List Blk} (h : Own E es v k xs R) : ∃ a m c, v = .slice a m c := by
  rcases h.2 with ⟨rfl, _⟩ | ⟨g, cap, c, rfl, _⟩
  · exact ⟨_, _, _, rfl⟩
  · exact ⟨_, _, _, rfl⟩
structure Cw (w : World) (E es m : Nat) where
  i : Nat
  a : Option Addr
  n : Nat
  c : Nat
  R : List Blk
  xs : List Value
  hi : i ≤ m
  own : Own E es (.slice a n c) i xs R
  hR : ∀ x ∈ R, w.heap.size ≤ x.b
def Cw.begin (w : World) (E es m : Nat) : Cw w E es m := ⟨0, none, 0, 0, [], [], Nat.zero_le _, Own.nil _ _, fun x hx => by cases hx⟩
def Cw.next {w : World} {E es m : Nat} (x : Cw w E es m) (hlt : x.i < m) {a : Option Addr} {n c : Nat} {R : List Blk} {xs : List Value} (own : Own E es (.slice a n c) (x.i + 1) xs R) (hR : ∀ y ∈ R, w.heap.size ≤ y.b) : Cw w E es m := ⟨x.i + 1, a, n, c, R, xs, hlt, own, hR⟩
end Go.Sx

namespace Go.Sx
open Go.RowKit
set_option linter.unusedVariables false
def OwD (w : World) (E es : Nat) (a : Option Addr) (n c : Nat) (R : List Blk) (out : List (List D)) : Prop :=
  (∃ vs, RdR AnyB w out vs ∧ (∀ v ∈ vs, v.length = es) ∧ Own E es (.slice a n c) out.length vs.flatten R) ∧ ∀ x ∈ R, w.heap.size ≤ x.b
theorem OwD.nil (w : World) (E es : Nat) : OwD w E es none 0 0 [] [] := ⟨⟨[], trivial, by simp, Own.nil _ _⟩, fun x hx => by cases hx⟩
theorem OwD.len {w : World} {E es : Nat} {a : Option Addr} {n c : Nat} {R : List Blk} {out : List (List D)} (h : OwD w E es a n c R out) : n = out.length := by
  obtain ⟨⟨vs, _, _, h1⟩, _⟩ := h
  rcases h1.2 with ⟨h2, h3, _⟩ | ⟨g, cap, cc, h2, _⟩
  · cases h2; omega
  · cases h2; rfl
theorem RdR.snoc {S : Nat → Prop} {w : World} : ∀ {rs : List (List D)} {vs : List (List Value)} {r : List D} {v : List Value}, RdR S w rs vs → RdL S w r v → RdR S w (rs ++ [r]) (vs ++ [v])
  | [], [], _, _, _, h => ⟨h, trivial⟩
  | _ :: _, _ :: _, _, _, h, h' => ⟨h.1, RdR.snoc h.2 h'⟩
  | [], _ :: _, _, _, h, _ => h.elim
  | _ :: _, [], _, _, h, _ => h.elim
theorem OwD.reads {w q : World} {E es : Nat} {a : Option Addr} {n c : Nat} {R : List Blk} {out : List (List D)} {L : List Blk} (h : OwD w E es a n c R out) (hq : SH w (L ++ R) q) (hL : ∀ x ∈ L, w.heap.size ≤ x.b) : Rd AnyB q (.sl out) (.slice a out.length c) := by
  obtain ⟨⟨vs, h1, h1l, h2⟩, hR⟩ := h
  have hB : Below w.heap.size w q := hq.below (Below.refl _ _) (Nat.le_refl _) (ge_app hL hR)
  refine Rd.mkSl rfl (by rcases h2.2 with ⟨_, h4, _⟩ | ⟨_, _, _, h3, _, h4, _⟩; · rw [h4]; exact Nat.zero_le _
                         · cases h3; exact h4) ?_
  rcases h2.2 with ⟨h3, h4, _⟩ | ⟨g, cap, cc, h3, rfl, h4, h5, h6, h7⟩
  · left; exact List.eq_nil_of_length_eq_zero h4
  · cases h3
    right
    have hx : (⟨g, cc, E⟩ : Blk) ∈ L ++ [⟨g, cc, E⟩] := List.mem_append_right _ (List.mem_singleton.2 rfl)
    have hb := hq.blk _ hx
    refine ⟨g, 0, rfl, trivial, hq.lt hx, RdRows.mk (h1.stays (Bl.stays hB)) (fun j u hj => ?_)⟩
    rw [← h7, List.getElem?_take] at hj
    split at hj
    · rw [Nat.zero_add]
      unfold World.cell?
      simp only [hb]
      simpa using hj
    · cases hj
section
variable {P : Program} {ops : Array Oper} {Q : Exit → Act → World → Prop} {n : Nat} {e : Env}
theorem wl_appendD {w : World} {L R : List Blk} {o : Oper} {rest : List Oper} {d : Nat} {s x : Operand} {t : TypeId} (E : TypeId) (z : Value) (size bytes : Nat) {a : Option Addr} {m c : Nat} {out : List (List D)} (elem : List D) (news : List Value) {ad : Addr}
    (hf : fit ops n e o (some d) = true) (ho : o.op = .call { callee := .builtin .append, args := #[s, x], argTypes := #[t, t] })
    (hT : (P.underlying t, (P.info? E).map (fun i => (i.zero, i.size, i.bytes))) = (some (.slice E), some (some z, size, bytes))) (hz : z.cells.size = size) (hs0 : 0 < size)
    (hs : rho e s = .slice a m c) (hown : OwD w E size a m c R out) (hx : rho e x = .slice (some ad) 1 1) (hl : news.length = size) (hrd : RdL AnyB w elem news)
    (hnews : ∀ q, SH w (L ++ R) q → ∀ j u, news[j]? = some u → q.cell? (ad.add j) = some u)
    (hby : (out.length + 1) * bytes ≤ 140737488355328) (h63 : out.length + 1 ≤ maxLen)
    (kk : ∀ a' c' R', OwD w E size a' (out ++ [elem]).length c' R' (out ++ [elem]) → WL P ops Q n ((d, .slice a' (out ++ [elem]).length c') :: e) (SH w (L ++ R')) rest) : WL P ops Q n e (SH w (L ++ R)) (o :: rest) := by
  obtain ⟨⟨vs, h1, h1l, h2⟩, hR⟩ := hown
  refine wl_appendF (R := R) (L := L) E z size bytes (m := 1) news hf ho hT hz hs0 hs h2 hR hx (by simpa using hl) hnews hrd.oneCell h63 hby (fun v' R' ho' hR' => ?_)
  obtain ⟨a', m', c', rfl⟩ := ho'.slv
  have hown' : OwD w E size a' m' c' R' (out ++ [elem]) := ⟨⟨vs ++ [news], h1.snoc hrd, fun v hv => by
    rcases List.mem_append.1 hv with hv | hv
    · exact h1l v hv
    · simp only [List.mem_singleton] at hv; subst hv; exact hl, by simpa using ho'⟩, hR'⟩
  obtain rfl := hown'.len
  exact kk a' c' R' hown'
theorem wc_loopT {σ : Type} {c : Code} {S : World → Prop} (I : σ → Prop) (E : σ → Env) (T : σ → World → Prop) (μ : σ → Nat) (x0 : σ) (hI : I x0) (hE : subEnv (E x0) e) (hT : ∀ w, S w → T x0 w)
    (round : ∀ x, I x → WC P (Exit.then (fun a w => ∃ y, (μ y < μ x ∧ I y) ∧ Has (E y) n a ∧ T y w) Q) n (E x) (T x) c) : WC P Q n e S (.loop c) := by
  refine wc_loop (σ := { x // I x }) (fun x => E x.1) (fun x => T x.1) (fun x => μ x.1) (fun w hw => ⟨⟨x0, hI⟩, hT w hw, hE⟩) (fun x => wc_mono (round x.1 x.2) (fun xt a w h => ?_))
  cases xt with
  | normal => obtain ⟨y, ⟨h1, h2⟩, h3, h4⟩ := h; exact ⟨⟨y, h2⟩, h1, h3, h4⟩
  | _ => exact h
theorem nx_roundT {σ : Type} {S : World → Prop} {I : σ → Prop} {E : σ → Env} {T : σ → World → Prop} {μ : σ → Nat} {x : σ} (y : σ) (hμ : μ y < μ x) (hI : I y) (he : subEnv (E y) e) (hS : ∀ w, S w → T y w) :
    NX (Exit.then (fun a w => ∃ y, (μ y < μ x ∧ I y) ∧ Has (E y) n a ∧ T y w) Q) n e S .normal := fun a w ha hw => ⟨y, ⟨hμ, hI⟩, ha.weaken he, hS w hw⟩
theorem wc_as {c : Code} (e : Env) (S : World → Prop) (h : WC P Q n e S c) : WC P Q n e S c := h
theorem wl_appendD0 {w : World} {L : List Blk} {o : Oper} {rest : List Oper} {d : Nat} {s x : Operand} {t : TypeId} (E : TypeId) (z : Value) (size bytes : Nat) {a2 : Option Addr} {c2 : Nat} {rows : List (List D)}
    (hf : fit ops n e o (some d) = true) (ho : o.op = .call { callee := .builtin .append, args := #[s, x], argTypes := #[t, t] })
    (hT : (P.underlying t, (P.info? E).map (fun i => (i.zero, i.size, i.bytes))) = (some (.slice E), some (some z, size, bytes))) (hz : z.cells.size = size) (hs0 : 0 < size)
    (hs : rho e s = .slice none 0 0) (hx : rho e x = .slice a2 rows.length c2) (hrd : Rd AnyB w (.sl rows) (.slice a2 rows.length c2)) (hes : ∀ r ∈ rows, r.length = size) (hL : ∀ x ∈ L, w.heap.size ≤ x.b)
    (hby : rows.length * bytes ≤ 140737488355328) (h63 : rows.length ≤ maxLen)
    (kk : ∀ a' c' R', OwD w E size a' rows.length c' R' rows → WL P ops Q n ((d, .slice a' rows.length c') :: e) (SH w (L ++ R')) rest) : WL P ops Q n e (SH w L) (o :: rest) := by
  obtain ⟨h1', h2, h3, h4⟩ := fit_some hf
  refine wl_run (σ := { x : Option Addr × Nat × List Blk // OwD w E size x.1 rows.length x.2.1 x.2.2 rows }) (fun x => .slice x.1.1 rows.length x.1.2.1) (fun x => SH w (L ++ x.1.2.2)) h1' h2 h3 h4 (fun q hq => ?_) (fun x => kk x.1.1 x.1.2.1 x.1.2.2 x.2)
  obtain ⟨a, cap, he, hcap, hr⟩ := hrd.caps
  cases he
  rcases hr with rfl | ⟨g, off, rfl, hI, hg, hR⟩
  · refine ⟨⟨(none, 0, []), OwD.nil _ _ _⟩, q, ?_, hq.addN⟩
    unfold execOp
    simp only [ho, resolve, invoke, builtin, Sem.run_bind, Sem.run_pure, Result.andThen_ok, List.map_toArray, List.map_cons, List.map_nil, hs, hx, run_append_none t o.type E z size bytes hT a2 c2 q, List.length_nil]
  · obtain ⟨rv, r1, r2⟩ := RdRows.vals hR
    obtain ⟨v', R', w', hr, ho', hsh, hnew⟩ := append_fix (P := P) (R := []) t o.type E z size bytes hT hz hs0 (.slice none 0 0) 0 [] (Own.nil E size) hq.addN (fun x hx => by cases hx) ⟨g, off, none⟩ rows.length c2 rv.flatten ((r1.flat hes).2) (fun j u hj => by
      rw [Addr.add_mid]; exact Bl.cell (hq.below (Below.refl _ _) (Nat.le_refl _) hL) (r2 j u hj)) r1.oneCell (by omega) (by rw [Nat.zero_add]; exact hby)
    obtain ⟨a', m', c', rfl⟩ := ho'.slv
    rw [Nat.zero_add, List.nil_append] at ho'
    have hown : OwD w E size a' m' c' R' rows := ⟨⟨rv, r1, (r1.flat hes).1, ho'⟩, hnew⟩
    obtain rfl := hown.len
    refine ⟨⟨(a', c', R'), hown⟩, w', ?_, hsh⟩
    unfold execOp
    simp only [ho, resolve, invoke, builtin, Sem.run_bind, Sem.run_pure, Result.andThen_ok, List.map_toArray, List.map_cons, List.map_nil, hs, hx, hr]
end
theorem lp_app {ρ : Type} {B : Nat × List (List D) → (Nat × List (List D) → ρ) → ρ} {z : ρ} {n : Nat} {g : Nat → List D} {E : Nat × List (List D) → ρ}
    (hB : ∀ i out K, B (i, out) K = bif decide ((i : Int) < (n : Int)) then K (i + 1, out ++ [g i]) else E (i, out)) :
    ∀ (m i : Nat) (out : List (List D)), n - i < m → i ≤ n → lpW B z m (i, out) = E (n, out ++ (List.range' i (n - i)).map g)
  | 0, _, _, h, _ => by omega
  | m + 1, i, out, h, hi => by
    rw [lpW, hB]
    by_cases hlt : i < n
    · rw [decide_eq_true (show (i : Int) < n by omega), cond_true, lp_app hB m (i + 1) _ (by omega) hlt, show n - i = (n - (i + 1)) + 1 by omega, List.range'_succ, List.map_cons, List.append_assoc, List.singleton_append]
    · have : i = n := by omega
      subst this
      rw [decide_eq_false (show ¬ (i : Int) < i by omega), cond_false]
      simp
theorem FitR.of_mem {sh : Nat → List K} {by_ : Nat → Nat} {ks : List K} : ∀ {R : List (List D)}, (∀ r ∈ R, FitL sh by_ r ks) → FitR sh by_ R ks
  | [], _ => by rw [FitR]; trivial
  | r :: R, h => by rw [FitR]; exact ⟨h r (List.mem_cons_self ..), FitR.of_mem (fun x hx => h x (List.mem_cons_of_mem _ hx))⟩
theorem row_mem {R : List (List D)} {i : Nat} (h : i < R.length) : row R i ∈ R := List.mem_of_getElem? (row_some h)
theorem Bl.range {w0 w : World} (h : Bl w0 w) {b o : Nat} {cs : List Value} (hr : w0.rangeAt b o cs) : w.rangeAt b o cs := fun j v hj => h.cell (hr j v hj)
theorem blk_range {wb w1 w2 : World} {L : List Blk} (h : SH wb L w1) (p : Nat) {b t : Nat} {c : Array Value} (hp : L[p]? = some ⟨b, c, t⟩) (hb : Below w1.heap.size w1 w2) : w2.rangeAt b 0 c.toList ∧ b < w2.heap.size := by
  have hx := List.mem_of_getElem? hp
  have hk := h.blk _ hx
  have hlt := h.lt hx
  refine ⟨fun j v hj => ?_, Nat.lt_of_lt_of_le hlt hb.size⟩
  refine Bl.cell hb ?_
  rw [Nat.zero_add]
  unfold World.cell?
  simp only [hk]
  simpa using hj
end Go.Sx

namespace Go.Sx
open Go.RowKit
set_option linter.unusedVariables false
theorem split_at {α : Type} {cs : List α} {m n : Nat} (h : cs.length = m + n) : cs = (cs.drop 0).take m ++ (cs.drop m).take n := by
  have : (cs.drop m).length = n := by rw [List.length_drop, h]; omega
  rw [List.drop_zero, ← this, List.take_length, List.take_append_drop]
end Go.Sx

namespace Go.Sx
open Go.RowKit
set_option linter.unusedVariables false
def hasKey (e : Env) (k : Nat) : Bool := match e with
  | [] => false
  | (j, _) :: r => bif Nat.beq j k then true else hasKey r k
theorem hasKey_some : ∀ {e : Env} {k : Nat} {v : Value}, look e k = some v → hasKey e k = true
  | [], _, _, h => by cases h
  | (j, u) :: r, k, v, h => by
    unfold look at h; unfold hasKey
    cases hb : Nat.beq j k
    · rw [hb] at h; exact hasKey_some h
    · rfl
theorem look_app {a b : Env} {k : Nat} : look (a ++ b) k = bif hasKey a k then look a k else look b k := by
  induction a with
  | nil => rfl
  | cons p a ih =>
    obtain ⟨j, v⟩ := p
    show (bif Nat.beq j k then some v else look (a ++ b) k) = bif (bif Nat.beq j k then true else hasKey a k) then (bif Nat.beq j k then some v else look a k) else look b k
    cases Nat.beq j k
    · exact ih
    · rfl
theorem look_mem : ∀ {e : Env} {k : Nat} {v : Value}, look e k = some v → (k, v) ∈ e
  | [], _, _, h => by cases h
  | (j, u) :: r, k, v, h => by
    unfold look at h
    cases hb : Nat.beq j k
    · rw [hb] at h; exact List.mem_cons_of_mem _ (look_mem h)
    · rw [hb] at h; obtain rfl := Nat.eq_of_beq_eq_true hb; cases h; exact List.mem_cons_self
theorem hasKey_mem {e : Env} {k : Nat} (h : hasKey e k = true) : ∃ v, (k, v) ∈ e := by
  induction e with
  | nil => cases h
  | cons p r ih =>
    obtain ⟨j, u⟩ := p
    unfold hasKey at h
    cases hb : Nat.beq j k
    · rw [hb] at h; obtain ⟨v, hv⟩ := ih h; exact ⟨v, List.mem_cons_of_mem _ hv⟩
    · obtain rfl := Nat.eq_of_beq_eq_true hb; exact ⟨u, List.mem_cons_self⟩
theorem bj {α : Type} {c : Bool} {x y r : α} (h : (bif c then x else y) = r) : ∃ b, c = b ∧ (bif b then x else y) = r := ⟨c, rfl, h⟩
theorem g1 {B : Nat} {x : Blk} (h : B ≤ x.b) : ∀ y ∈ [x], B ≤ y.b := ge_cons h (ge_nil _)
abbrev pt (b o : Nat) : Value := .pointer (some ⟨b, o, none⟩)
abbrev vi (n : Int) : Value := .int .i64 n
theorem sB {w w1 : World} {L : List Blk} (h : SH w L w1) (hL : ∀ x ∈ L, w.heap.size ≤ x.b) : Stays (fun _ => True) w (fun _ => True) w1 := Bl.stays (h.below (Below.refl _ _) (Nat.le_refl _) hL)
theorem rs {S : Nat → Prop} {w : World} {r : List D} {cs : List Value} {sh : Nat → List K} {by_ : Nat → Nat} {ks : List K} (f : FitL sh by_ r ks) (h : RdL S w r cs) (k n : Nat) (hl : k + n ≤ ks.length := by decide) : RdL S w (sub r k n) ((cs.drop k).take n) := RdL.sub h k n (by rw [f.length]; exact hl)
theorem fs {sh : Nat → List K} {by_ : Nat → Nat} {r : List D} {ks : List K} (f : FitL sh by_ r ks) (k n : Nat) (hl : k + n ≤ ks.length := by decide) : FitL sh by_ (sub r k n) ((ks.drop k).take n) := FitL.sub f k n hl
def keepOk (e2 new e : Env) : List (Option Value) × Bool := (new.map (fun p => look e2 p.1), (e2.take (e2.length - e.length)).all (fun p => hasKey new p.1 || !hasKey e p.1))
theorem sub_keep {full new e : Env} (h : keepOk (full ++ e) new e = (new.map (fun p => some p.2), true)) : subEnv (new ++ e) (full ++ e) := by
  simp only [keepOk, Prod.mk.injEq] at h
  obtain ⟨h1, h2⟩ := h
  rw [List.length_append, Nat.add_sub_cancel, List.take_left] at h2
  intro k v hk
  rw [look_app] at hk
  cases hn : hasKey new k
  · rw [hn] at hk
    simp only [cond_false] at hk
    rw [look_app]
    cases hf : hasKey full k
    · exact hk
    · obtain ⟨u, hu⟩ := hasKey_mem hf
      have := List.all_eq_true.1 h2 _ hu
      simp only [hn, hasKey_some hk, Bool.not_true, Bool.or_self, Bool.false_eq_true] at this
  · rw [hn] at hk
    simp only [cond_true] at hk
    have hm := look_mem hk
    obtain ⟨i, hi, he⟩ := List.getElem_of_mem hm
    have := congrArg (fun l => l[i]?) h1
    simp only [List.getElem?_map, List.getElem?_eq_getElem hi, he, Option.map_some, Option.some.injEq] at this
    exact this
section
variable {P : Program} {ops : Array Oper} {Q : Exit → Act → World → Prop} {n : Nat} {e : Env} {S : World → Prop}
theorem stepPure_grows {e e' : Env} {o : Oper} (h : stepPure P ops n e o = some e') : ∃ f, e' = f ++ e := by
  unfold stepPure at h
  split at h
  · split at h
    · split at h
      · cases h; exact ⟨[_], rfl⟩
      · cases h
    · cases h
  · split at h
    · cases h; exact ⟨[_], rfl⟩
    · cases h
  · cases h; exact ⟨[], rfl⟩
  · cases h
theorem stepsEnv_grows : ∀ {m : Nat} {e e' : Env} {l : List Oper}, stepsEnv P ops n m e l = some e' → ∃ f, e' = f ++ e
  | 0, e, e', l, h => by simp only [stepsEnv, Option.some.injEq] at h; exact ⟨[], h.symm⟩
  | m + 1, e, e', [], h => by simp [stepsEnv] at h
  | m + 1, e, e', o :: l, h => by
    simp only [stepsEnv] at h
    split at h
    · rename_i e1 h1
      obtain ⟨f1, rfl⟩ := stepPure_grows h1
      obtain ⟨f2, rfl⟩ := stepsEnv_grows h
      exact ⟨f2 ++ f1, (List.append_assoc _ _ _).symm⟩
    · cases h
theorem takes_grows : ∀ {is : List Nat} {m : Nat} {e e' : Env} {la lb : Array Bool}, takes P ops n m is e la = some (e', lb) → (∃ f, e' = f ++ e) ∧ lb = is.foldl (fun l i => l.setIfInBounds i true) la
  | [], m, e, e', la, lb, h => by simp only [takes, Option.some.injEq, Prod.mk.injEq] at h; exact ⟨⟨[], h.1.symm⟩, h.2.symm⟩
  | i :: r, m, e, e', la, lb, h => by
    simp only [takes] at h
    split at h
    · split at h
      · split at h
        · rename_i e1 h1
          obtain ⟨f1, rfl⟩ := stepPure_grows h1
          obtain ⟨⟨f2, rfl⟩, hl⟩ := takes_grows h
          exact ⟨⟨f2 ++ f1, (List.append_assoc _ _ _).symm⟩, hl⟩
        · cases h
      · cases h
    · cases h
theorem zsteps : ∀ (m : Nat) (e e' : Env) (l : List Oper), stepsEnv P ops n m e l = some e' → WL P ops Q n e' S (l.drop m) → WL P ops Q n e S l
  | 0, e, e', l, h, k => by simp only [stepsEnv, Option.some.injEq] at h; subst h; exact k
  | m + 1, e, e', [], h, k => by simp [stepsEnv] at h
  | m + 1, e, e', o :: l, h, k => by
    simp only [stepsEnv] at h
    split at h
    · rename_i e1 h1
      exact wl_step h1 (zsteps m e1 e' l h k)
    · cases h
theorem zg (m : Nat) (new : Env) {l : List Oper} (k : WL P ops Q n (new ++ e) S (l.drop m)) (h : (stepsEnv P ops n m e l).map (fun e2 => keepOk e2 new e) = some (new.map (fun p => some p.2), true) := by kernel_rfl) : WL P ops Q n e S l := by
  obtain ⟨e2, h1, h2⟩ := Option.map_eq_some_iff.1 h
  obtain ⟨f, rfl⟩ := stepsEnv_grows h1
  exact zsteps m e _ l h1 (fun a w ha hw => k a w (ha.weaken (sub_keep h2)) hw)
theorem zd (is : List Nat) (new : Env) (f : Nat) {m F : Nat} {T : World → Prop} {la : Array Bool} (hT : ∀ w, T w → S w) (k : WD P ops Q n m S T f (is.foldl (fun l i => l.setIfInBounds i true) la) (new ++ e))
    (hF : F = is.length + f := by rfl) (h : (takes P ops n m is e la).map (fun x => keepOk x.1 new e) = some (new.map (fun p => some p.2), true) := by kernel_rfl) : WD P ops Q n m S T F la e := by
  obtain ⟨⟨e2, l2⟩, h1, h2⟩ := Option.map_eq_some_iff.1 h
  obtain ⟨⟨g, rfl⟩, rfl⟩ := takes_grows h1
  subst hF
  exact wd_takes is h1 hT (fun a w inv ha hw => k a w inv (ha.weaken (sub_keep h2)) hw)
theorem zd0 (is : List Nat) (new : Env) (f : Nat) {m F : Nat} {la : Array Bool} (k : WD P ops Q n m S S f (is.foldl (fun l i => l.setIfInBounds i true) la) (new ++ e))
    (hF : F = is.length + f := by rfl) (h : (takes P ops n m is e la).map (fun x => keepOk x.1 new e) = some (new.map (fun p => some p.2), true) := by kernel_rfl) : WD P ops Q n m S S F la e := zd is new f (fun _ h => h) k hF h
theorem sE {E1 e : Env} (h : E1.map (fun p => look e p.1) = E1.map (fun p => some p.2) := by kernel_rfl) : subEnv E1 e := fun k v hk => by
  obtain ⟨i, hi, he⟩ := List.getElem_of_mem (look_mem hk)
  have := congrArg (fun l => l[i]?) h
  simp only [List.getElem?_map, List.getElem?_eq_getElem hi, he, Option.map_some, Option.some.injEq] at this
  exact this
theorem zj0 {E1 : Env} (he : E1.map (fun p => look e p.1) = E1.map (fun p => some p.2) := by kernel_rfl) : NX (Exit.then (fun a w => Has E1 n a ∧ S w) Q) n e S .normal := nx_join (sE he) (fun _ h => h)
theorem zT {S : World → Prop} {c : Operand} {x y : Code} (k : WC P Q n e S x) (hk : (known e c, rho e c) = (true, .bool true) := by kernel_rfl) : WC P Q n e S (.cond c x y) :=
  wc_cond true (congrArg Prod.fst hk) (congrArg Prod.snd hk) (fun _ => k) (fun h => by cases h)
theorem zF {S : World → Prop} {c : Operand} {x y : Code} (k : WC P Q n e S y) (hk : (known e c, rho e c) = (true, .bool false) := by kernel_rfl) : WC P Q n e S (.cond c x y) :=
  wc_cond false (congrArg Prod.fst hk) (congrArg Prod.snd hk) (fun h => by cases h) (fun _ => k)
theorem zy (d : Nat) (v : Value) {o : Oper} {rest : List Oper} (hy : Yl P S e o v) (k : WL P ops Q n ((d, v) :: e) S rest) (hf : fit ops n e o (some d) = true := by kernel_rfl) : WL P ops Q n e S (o :: rest) := wl_yl hf hy k
theorem yl (p off : Nat) {wb : World} {L : List Blk} {o : Oper} {T : TypeId} {x : Operand} {b : Nat} {c : Array Value} {t : TypeId} {v : Value} (hp : L[p]? = some ⟨b, c, t⟩ := by rfl) (ho : o.op = .load T x := by rfl)
    (hx : rho e x = .pointer (some ⟨b, off, none⟩) := by kernel_rfl) (hv : readAt P T c off = some v := by kernel_rfl) : Yl P (SH wb L) e o v := yl_load p ho hx hp hv
theorem zl (d : Nat) (v : Value) (p off : Nat) {wb : World} {L : List Blk} {o : Oper} {rest : List Oper} {T : TypeId} {x : Operand} {b : Nat} {c : Array Value} {t : TypeId} (k : WL P ops Q n ((d, v) :: e) (SH wb L) rest) (hp : L[p]? = some ⟨b, c, t⟩ := by rfl) (ho : o.op = .load T x := by rfl)
    (hx : rho e x = .pointer (some ⟨b, off, none⟩) := by kernel_rfl) (hv : readAt P T c off = some v := by kernel_rfl) (hf : fit ops n e o (some d) = true := by kernel_rfl) : WL P ops Q n e (SH wb L) (o :: rest) := wl_yl hf (yl_load p ho hx hp hv) k
theorem zi (d : Nat) (t : Int) {o : Oper} {rest : List Oper} (k : WL P ops Q n ((d, .int .i64 t) :: e) S rest) (h : pureVal P (execOp (rho e) o) = some (.value (.int .i64 (IntKind.i64.wrap t))) := by kernel_rfl) (h1 : -9223372036854775808 ≤ t := by omega) (h2 : t ≤ 9223372036854775807 := by omega)
    (hf : fit ops n e o (some d) = true := by kernel_rfl) : WL P ops Q n e S (o :: rest) := wl_yl hf (yl_int h (i64w h1 h2)) k
theorem zs (d : Nat) (s : ByteArray) (i : Int) (K : Nat) (hk : K < s.size) {o : Oper} {rest : List Oper} {T : TypeId} {x y : Operand} (k : WL P ops Q n ((d, .int .u8 (sb s K)) :: e) S rest) (ho : o.op = .index T x y := by rfl) (hT : P.underlying T = some .string := by kernel_rfl)
    (hx : (rho e x, rho e y) = (.string s, .int .i64 i) := by kernel_rfl) (hi : i = (K : Int) := by first | rfl | omega) (hf : fit ops n e o (some d) = true := by kernel_rfl) : WL P ops Q n e S (o :: rest) :=
  wl_yl hf (yl_strix K ho hT (congrArg Prod.fst hx) (congrArg Prod.snd hx) hi hk) k
theorem yx (i : Int) (K b off len cap es : Nat) (hk : K < len) {o : Oper} {T E : TypeId} {x y : Operand} (ho : o.op = .indexAddr T x y := by rfl)
    (hT : (P.underlying T, (P.info? E).map (·.size)) = (some (.slice E), some es) := by kernel_rfl) (hx : rho e x = .slice (some ⟨b, off, none⟩) len cap := by kernel_rfl) (hy : rho e y = .int .i64 i := by kernel_rfl) (hi : i = (K : Int) := by first | rfl | omega) :
    Yl P S e o (.pointer (some ⟨b, off + K * es, none⟩)) := yl_indexI K ho hT hx hy hi hk
theorem rB (q : Nat) {b B : Bool} {fn : Func} {w0 : World} {L : List Blk} (hF : b = B) (hg : ∀ x ∈ L, w0.heap.size ≤ x.b) (hr : fn.results = #[.tmp q] := by rfl) (hv : look e q = some (.bool b) := by kernel_rfl) :
    ∀ a w, Has e n a → SH w0 L w → bodyPost P fn (fun e w' => e = .returned (.bool B) ∧ Below w0.heap.size w0 w') .ret a w :=
  ret_tmp hr hv (fun w h => ⟨congrArg (fun q => Ending.returned (.bool q)) hF, h.below (Below.refl _ _) (Nat.le_refl _) hg⟩)
theorem rI (q : Nat) {b B : Int} {fn : Func} {w0 : World} {L : List Blk} (hF : b = B) (hg : ∀ x ∈ L, w0.heap.size ≤ x.b) (hr : fn.results = #[.tmp q] := by rfl) (hv : look e q = some (.int .i64 b) := by kernel_rfl) :
    ∀ a w, Has e n a → SH w0 L w → bodyPost P fn (fun e w' => e = .returned (.int .i64 B) ∧ Below w0.heap.size w0 w') .ret a w :=
  ret_tmp hr hv (fun w h => ⟨congrArg (fun q => Ending.returned (.int .i64 q)) hF, h.below (Below.refl _ _) (Nat.le_refl _) hg⟩)
theorem rb {q : Nat} {b B : Bool} {fn : Func} {w0 : World} (hF : b = B) (hr : fn.results = #[.tmp q] := by rfl) (hv : look e q = some (.bool b) := by kernel_rfl) :
    ∀ a w, Has e n a → SH w0 [] w → bodyPost P fn (fun e w' => e = .returned (.bool B) ∧ Below w0.heap.size w0 w') .ret a w := rB q hF (ge_nil _) hr hv
theorem ri {q : Nat} {b B : Int} {fn : Func} {w0 : World} (hF : b = B) (hr : fn.results = #[.tmp q] := by rfl) (hv : look e q = some (.int .i64 b) := by kernel_rfl) :
    ∀ a w, Has e n a → SH w0 [] w → bodyPost P fn (fun e w' => e = .returned (.int .i64 B) ∧ Below w0.heap.size w0 w') .ret a w := rI q hF (ge_nil _) hr hv
theorem rb1 {q : Nat} {b B : Bool} {fn : Func} {w0 : World} {x : Blk} (hg : w0.heap.size ≤ x.b) (hF : b = B) (hr : fn.results = #[.tmp q] := by rfl) (hv : look e q = some (.bool b) := by kernel_rfl) :
    ∀ a w, Has e n a → SH w0 [x] w → bodyPost P fn (fun e w' => e = .returned (.bool B) ∧ Below w0.heap.size w0 w') .ret a w := rB q hF (ge_cons hg (ge_nil _)) hr hv
theorem ri1 {q : Nat} {b B : Int} {fn : Func} {w0 : World} {x : Blk} (hg : w0.heap.size ≤ x.b) (hF : b = B) (hr : fn.results = #[.tmp q] := by rfl) (hv : look e q = some (.int .i64 b) := by kernel_rfl) :
    ∀ a w, Has e n a → SH w0 [x] w → bodyPost P fn (fun e w' => e = .returned (.int .i64 B) ∧ Below w0.heap.size w0 w') .ret a w := rI q hF (ge_cons hg (ge_nil _)) hr hv
theorem zc (d : Nat) (v : Value) {wb : World} {L : List Blk} {o : Oper} {rest : List Oper} {f : FuncId} {args : Array Value} (h : ∀ w, SH wb L w → Calls P f args w (fun x w' => x = .returned v ∧ Below w.heap.size w w')) (k : WL P ops Q n ((d, v) :: e) (SH wb L) rest)
    (hf : fit ops n e o (some d) = true := by kernel_rfl) (hv : pureVal P (execOp (rho e) o) = some (.enter f args) := by kernel_rfl) : WL P ops Q n e (SH wb L) (o :: rest) := wl_callK shK hf hv h k
theorem zn (d : Nat) (C : Array Value) (T : TypeId) (V : Nat → Value) {wb : World} {L : List Blk} {o : Oper} {rest : List Oper} (k : ∀ r, wb.heap.size ≤ r → WL P ops Q n ((d, V r) :: e) (SH wb (⟨r, C, T⟩ :: L)) rest)
    (hf : fit ops n e o (some d) = true := by kernel_rfl) (hn : ∀ r, newAt P r (execOp (rho e) o) = some (.cells C T (0, 0), .value (V r)) := by intro r; kernel_rfl) : WL P ops Q n e (SH wb L) (o :: rest) := wl_new C T V hf hn k
theorem Wy0 (i d : Nat) (v : Value) (f : Nat) {m : Nat} {oi : Oper} {la : Array Bool} (hi : ops[i]? = some oi) (hy : Yl P S e oi v) (k : WD P ops Q n m S S f (la.setIfInBounds i true) ((d, v) :: e))
    (hk : takeOk ops m la i = true := by kernel_rfl) (hf : fit ops n e oi (some d) = true := by kernel_rfl) : WD P ops Q n m S S (f + 1) la e := wd_yl i hi hk hf (fun _ h => h) hy k
theorem Wc (i d : Nat) (v : Value) (f : Nat) {wb : World} {L : List Blk} {m : Nat} {oi : Oper} {la : Array Bool} {g : FuncId} {args : Array Value} (h : ∀ w, SH wb L w → Calls P g args w (fun x w' => x = .returned v ∧ Below w.heap.size w w')) (k : WD P ops Q n m (SH wb L) (SH wb L) f (la.setIfInBounds i true) ((d, v) :: e))
    (hi : ops[i]? = some oi := by rfl) (him : i < m := by decide) (hr : Region.ready .any ops la = [i] := by kernel_rfl) (hf : fit ops n e oi (some d) = true := by kernel_rfl) (hv : pureVal P (execOp (rho e) oi) = some (.enter g args) := by kernel_rfl) :
    WD P ops Q n m (SH wb L) (SH wb L) (f + 1) la e := wd_callK shK i hi him hr hf hv h k
theorem qL (h : NX Q n e S .normal) : WL P ops Q n e S [] := h
theorem qN {y : Code} (h : WC P Q n e S y) : NX (Exit.then (y.wp P Q) Q) n e S .normal := h
theorem qS {x y : Code} (h : WC P (Exit.then (y.wp P Q) Q) n e S x) : WC P Q n e S (.seq x y) := wc_seq h
theorem qR {id : Nat} {l : List Oper} (h : WL P l.toArray Q n e S l) : WC P Q n e S (.region id l.toArray false) := wc_region h
theorem qK (h : NX Q n e S .normal) : WC P Q n e S .skip := wc_skip h
theorem qr (h : NX Q n e S .ret) : WC P Q n e S .ret := wc_ret h
theorem qt {K : Act → World → Prop} (h : NX Q n e S .ret) : NX (Exit.then K Q) n e S .ret := h
theorem qb {id : Nat} (h : NX Q n e S .ret) : NX (Exit.inBlock id Q) n e S .ret := h
theorem qe {id : Nat} (h : NX Q n e S (.exit id)) : WC P Q n e S (.exit id) := wc_exit h
theorem qx {id : Nat} {K : Act → World → Prop} (h : NX Q n e S (.exit id)) : NX (Exit.then K Q) n e S (.exit id) := h
theorem qh {id : Nat} (h : NX Q n e S .normal) : NX (Exit.inBlock id Q) n e S (.exit id) := nx_block_here h
theorem qn {id : Nat} (h : NX Q n e S .normal) : NX (Exit.inBlock id Q) n e S .normal := h
theorem qB {id : Nat} {c : Code} (h : WC P (Exit.inBlock id Q) n e S c) : WC P Q n e S (.block id c) := wc_block h
theorem qo (h : NX Q n e S .normal) : NX (ON Q) n e S .normal := h
theorem qLN {y : Code} (h : WC P Q n e S y) : WL P ops (Exit.then (y.wp P Q) Q) n e S [] := h
theorem qSR {id : Nat} {l : List Oper} {y : Code} (k : WL P l.toArray (Exit.then (y.wp P Q) Q) n e S l) : WC P Q n e S (.seq (.region id l.toArray false) y) := wc_seq (wc_region k)
theorem qrt {K : Act → World → Prop} (h : NX Q n e S .ret) : WC P (Exit.then K Q) n e S .ret := wc_ret h
theorem qKN {y : Code} (h : WC P Q n e S y) : WC P (Exit.then (y.wp P Q) Q) n e S .skip := wc_skip h
theorem qM {id : Nat} {l : List Oper} {y : Code} (k : WL P l.toArray (Exit.then (y.wp P Q) Q) n e S l) : WL P ops (Exit.then ((Code.seq (.region id l.toArray false) y).wp P Q) Q) n e S [] := wc_seq (wc_region k)
end
end Go.Sx

namespace Go.Sx
open Go.RowKit
set_option linter.unusedVariables false
set_option linter.unusedSimpArgs false
theorem SH.pm {wb w : World} {L L' : List Blk} (h : SH wb L w) (hp : L.Perm L') : SH wb L' w := by
  have key : ∀ (M : List Blk), (∀ (i j : Nat) (x y : Blk), M[i]? = some x → M[j]? = some y → x.b = y.b → i = j) ↔ (M.map (·.b)).Nodup := fun M => by
    rw [List.Nodup, List.pairwise_iff_getElem]
    constructor
    · intro hd i j hi hj hlt he
      have hi' : i < M.length := by simpa using hi
      have hj' : j < M.length := by simpa using hj
      have := hd i j _ _ (List.getElem?_eq_getElem hi') (List.getElem?_eq_getElem hj') (by simpa using he)
      omega
    · intro hd i j x y hx hy he
      have hi := (List.getElem?_eq_some_iff.1 hx)
      have hj := (List.getElem?_eq_some_iff.1 hy)
      obtain ⟨hi, rfl⟩ := hi
      obtain ⟨hj, rfl⟩ := hj
      rcases Nat.lt_trichotomy i j with h1 | h1 | h1
      · exact absurd (show (M.map (·.b))[i]'(by simpa using hi) = (M.map (·.b))[j]'(by simpa using hj) by rw [List.getElem_map, List.getElem_map]; exact he) (hd i j (by simpa using hi) (by simpa using hj) h1)
      · exact h1
      · exact absurd (show (M.map (·.b))[j]'(by simpa using hj) = (M.map (·.b))[i]'(by simpa using hi) by rw [List.getElem_map, List.getElem_map]; exact he.symm) (hd j i (by simpa using hj) (by simpa using hi) h1)
  exact ⟨h.os, h.tape, h.output, h.size, fun k hk hn => h.kept k hk (fun x hx => hn x (hp.mem_iff.1 hx)), fun x hx => h.blk x (hp.mem_iff.2 hx), (key L').2 ((hp.map _).nodup_iff.1 ((key L).1 h.dis))⟩
section
variable {P : Program} {ops : Array Oper} {Q : Exit → Act → World → Prop} {n : Nat} {e : Env} {S : World → Prop}
theorem SH.fronts {w q : World} {A Bs L0 : List Blk} (h : SH w (A ++ (Bs ++ L0)) q) : SH w (Bs ++ (A ++ L0)) q := h.pm (List.perm_append_comm_assoc _ _ _)
theorem zios (d : Nat) (v : Value) (A Bs : List Blk) {Bs' : List Blk} {w0 : World} {L0 : List Blk} {o : Oper} {rest : List Oper} {f : FuncId} {args : Array Value}
    (h : ∀ q, SH w0 (Bs ++ (A ++ L0)) q → Calls P f args q (fun z q' => z = .returned v ∧ SH w0 (Bs' ++ (A ++ L0)) q')) (k : WL P ops Q n ((d, v) :: e) (SH w0 (A ++ (Bs' ++ L0))) rest)
    (hf : fit ops n e o (some d) = true := by kernel_rfl) (hv : pureVal P (execOp (rho e) o) = some (.enter f args) := by kernel_rfl) : WL P ops Q n e (SH w0 (A ++ (Bs ++ L0))) (o :: rest) := by
  obtain ⟨h1, h2, h3, h4⟩ := fit_some hf
  refine wl_call h1 h2 h3 h4 hv (R := fun w z w' => z = .returned v ∧ SH w0 (Bs' ++ (A ++ L0)) w') (fun q hq => h q hq.fronts) (fun w z w' hw hR => ⟨v, hR.1, ?_⟩)
  exact fun a w2 ha hww => k a w2 ha (by subst hww; exact hR.2.fronts)
end
def cutA (a : Option Addr) (cap es : Nat) : Option Addr := if cap = 0 then a else a.map (·.add (0 * es))
theorem rd_cut {S : Nat → Prop} {w : World} {rows : List (List D)} {a : Option Addr} {cap k : Nat} (h : Rd S w (.sl rows) (.slice a rows.length cap)) (es : Nat) (hk : k ≤ rows.length) : Rd S w (.sl (rows.take k)) (.slice (cutA a cap es) (rows.take k).length cap) := by
  have := rd_to (es := es) h hk h.cap
  rw [List.length_take, Nat.min_eq_left hk]
  exact this
theorem yl_cut {P : Program} {S : World → Prop} {e : Env} {o : Oper} {T E : TypeId} {x y : Operand} {rows : List (List D)} {a a' : Option Addr} {len cap es : Nat} (k : Nat) {i : Int} (hA : cutA a cap es = a') (hk : k ≤ rows.length) (hc : rows.length ≤ cap) (ho : o.op = .slice T x none (some y) none)
    (hT : (P.underlying T, (P.info? E).map (·.size)) = (some (.slice E), some es)) (hx : rho e x = .slice a len cap) (hy : rho e y = .int .i64 i) (hi : i = (k : Int)) : Yl P S e o (.slice a' (rows.take k).length cap) := by
  subst hA
  rw [List.length_take, Nat.min_eq_left hk]
  exact yl_to ho hT hx (by rw [hy, hi]) (Nat.le_trans hk hc)
theorem FitR.cut {sh : Nat → List K} {by_ : Nat → Nat} {ks : List K} : ∀ {R : List (List D)} (k : Nat), FitR sh by_ R ks → FitR sh by_ (R.take k) ks
  | _, 0, _ => by rw [List.take_zero, FitR]; trivial
  | [], k + 1, h => h
  | r :: R, k + 1, h => by rw [List.take_succ_cons]; rw [FitR] at h ⊢; exact ⟨h.1, FitR.cut k h.2⟩
theorem cut_bnd {R : List (List D)} {b M : Nat} (k : Nat) (h : R.length * b ≤ M) : (R.take k).length * b ≤ M := Nat.le_trans (Nat.mul_le_mul_right _ (by rw [List.length_take]; exact Nat.min_le_right _ _)) h
theorem rd_one {wb w : World} {L : List Blk} {b : Nat} {s : ByteArray} {t : TypeId} (h : SH wb L w) (j : Nat) (hj : L[j]? = some ⟨b, #[.string s], t⟩) : Rd AnyB w (.sl [[.str s]]) (.slice (some ⟨b, 0, none⟩) ([[D.str s]] : List (List D)).length 1) := by
  obtain ⟨h1, h2⟩ := blk_range h j hj (Below.refl _ _)
  refine Rd.mkSl rfl (Nat.le_refl _) (.inr ⟨b, 0, rfl, trivial, h2, RdRows.mk (vs := [[.string s]]) ⟨⟨by rw [Rd], trivial⟩, trivial⟩ h1⟩)
theorem fit_one {sh : Nat → List K} {by_ : Nat → Nat} {s : ByteArray} (h : s.size ≤ 140737488355328) : FitR sh by_ [[.str s]] [.str] := by
  simp only [FitR, FitL, Fit, and_true]
  exact ⟨_, _, rfl, ⟨rfl, h⟩, rfl⟩
theorem FitR.snoc {sh : Nat → List K} {by_ : Nat → Nat} {ks : List K} {r : List D} : ∀ {R : List (List D)}, FitR sh by_ R ks → FitL sh by_ r ks → FitR sh by_ (R ++ [r]) ks
  | [], _, hr => by rw [List.nil_append, FitR, FitR]; exact ⟨hr, trivial⟩
  | x :: xs, h, hr => by rw [FitR] at h; rw [List.cons_append, FitR]; exact ⟨h.1, FitR.snoc h.2 hr⟩
theorem run_getMap {P : Program} {w : World} {r cl : Nat} {es : Array MapEntry} (h : w.heap[r]? = some (.map es cl)) : (getObj r).run P w = .ok (.map es cl) w := by simp [getObj, Sem.run, h]
theorem run_putMap {P : Program} {w : World} {r cl : Nat} {es : Array MapEntry} (h : w.heap[r]? = some (.map es cl)) (o : Obj) : (setObj r o).run P w = .ok () (w.putObj r o) := by
  simp [setObj, Sem.run, h, World.putObj]
theorem checkKey_str {P : Program} {b : Bool} {t : TypeId} (hu : P.underlying t = some .string) (v : Value) (w : World) : (Instr.checkKey b 10000 t v).run P w = .ok () w := by
  refine (show ∀ m, (Instr.checkKey b (m + 1) t v).run P w = .ok () w from fun m => ?_) 9999
  simp [Instr.checkKey, run_underlying hu]
def mEs (ks : List ByteArray) : List MapEntry := ks.zipIdx.map fun p => { key := .string p.1, val := .bool true, born := p.2 }
theorem mEs_snoc (ks : List ByteArray) (k : ByteArray) : mEs (ks ++ [k]) = mEs ks ++ [{ key := .string k, val := .bool true, born := ks.length }] := by
  simp [mEs, List.zipIdx_append]
theorem find_set (k : ByteArray) : ∀ (ks : List ByteArray) (b i : Nat), ∃ j, Instr.findNow .string (.string k) ((ks.zipIdx b).map fun p => ({ key := .string p.1, val := .bool true, born := p.2 } : MapEntry)) i = some (bif ks.contains k then some (j, .bool true) else none)
  | [], _, _ => ⟨0, rfl⟩
  | s :: ks, b, i => by
    obtain ⟨j, hj⟩ := find_set k ks (b + 1) (i + 1)
    simp only [List.zipIdx_cons, List.map_cons, Instr.findNow, Instr.sameNow, List.contains_cons]
    cases hks : (k == s)
    · exact ⟨j, by simpa using hj⟩
    · exact ⟨i, by simp⟩
def MS (w0 : World) (r : Nat) (ks : List ByteArray) (L : List Blk) (q : World) : Prop :=
  SH w0 L q ∧ w0.heap.size ≤ r ∧ (∀ x ∈ L, x.b ≠ r) ∧ q.heap[r]? = some (.map (mEs ks).toArray ks.length)
theorem MS.tail {w0 q : World} {r : Nat} {ks : List ByteArray} {x : Blk} {L : List Blk} (h : MS w0 r ks (x :: L) q) (hx : w0.heap.size ≤ x.b) : MS w0 r ks L q := ⟨h.1.tail hx, h.2.1, fun y hy => h.2.2.1 y (List.mem_cons_of_mem _ hy), h.2.2.2⟩
theorem MS.drew {w0 q : World} {r : Nat} {ks : List ByteArray} {L : List Blk} (h : MS w0 r ks L q) : MS w0 r ks L q.drew := ⟨h.1.drew, h.2⟩
theorem MS.sh {w0 q : World} {r : Nat} {ks : List ByteArray} {L : List Blk} (h : MS w0 r ks L q) : SH w0 L q := h.1
theorem MS.keep {w0 q q' : World} {r : Nat} {ks : List ByteArray} {L : List Blk} (h : MS w0 r ks L q) (hb : Below q.heap.size q q') : MS w0 r ks L q' :=
  ⟨h.1.keep hb, h.2.1, h.2.2.1, by rw [hb.block r (Array.getElem?_eq_some_iff.1 h.2.2.2).1]; exact h.2.2.2⟩
section
variable {P : Program} {ops : Array Oper} {Q : Exit → Act → World → Prop} {n : Nat} {e : Env} {S : World → Prop}
theorem yl_ms {w0 : World} {r : Nat} {ks : List ByteArray} {L : List Blk} {o : Oper} {v : Value} (h : Yl P (SH w0 L) e o v) : Yl P (MS w0 r ks L) e o v := fun q hq => h q hq.1
theorem yl_has (k : ByteArray) {w0 : World} {r : Nat} {ks : List ByteArray} {L : List Blk} {o : Oper} {T K V : TypeId} {x y : Operand} (ho : o.op = .lookup T x y false) (hT : P.underlying T = some (.map K V)) (hK : P.underlying K = some .string) (hV : (P.info? V).map (·.zero) = some (some (.bool false)))
    (hx : rho e x = .map (some r)) (hy : rho e y = .string k) : Yl P (MS w0 r ks L) e o (.bool (ks.contains k)) := fun q hq => by
  unfold execOp
  obtain ⟨j, hj⟩ := find_set k ks 0 0
  obtain ⟨inf, hinf, hz⟩ := Option.map_eq_some_iff.1 hV
  have hzv : (zeroValue V).run P q = .ok (.bool false) q := by simp [zeroValue, typeInfo, hinf, hz]
  have hf : (Instr.findKey K (.string k) (mEs ks)).run P q = .ok (bif ks.contains k then some (j, .bool true) else none) q := by
    have : Instr.findNow .string (.string k) (mEs ks) 0 = some (bif ks.contains k then some (j, .bool true) else none) := hj
    simp [Instr.findKey, run_underlying hK, this]
  simp only [ho, hx, hy]
  cases hc : ks.contains k
  · rw [hc] at hf
    simp only [cond_false] at hf
    simp [Instr.lookup, run_underlying hT, run_getMap hq.2.2.2, checkKey_str hK, hf, hzv]
  · rw [hc] at hf
    simp only [cond_true] at hf
    simp [Instr.lookup, run_underlying hT, run_getMap hq.2.2.2, checkKey_str hK, hf]
theorem wl_mkset {w0 : World} {L : List Blk} {o : Oper} {rest : List Oper} {d : Nat} {T : TypeId} (hf : fit ops n e o (some d) = true) (ho : o.op = .makeMap T none) (hL : ∀ x ∈ L, w0.heap.size ≤ x.b)
    (k : ∀ r, w0.heap.size ≤ r → WL P ops Q n ((d, .map (some r)) :: e) (MS w0 r [] L) rest) : WL P ops Q n e (SH w0 L) (o :: rest) := by
  obtain ⟨h1, h2, h3, h4⟩ := fit_some hf
  refine wl_run (σ := { r : Nat // w0.heap.size ≤ r }) (fun r => .map (some r.1)) (fun r => MS w0 r.1 [] L) h1 h2 h3 h4 (fun q hq => ?_) (fun r => k r.1 r.2)
  refine ⟨⟨q.heap.size, hq.size⟩, q.alloc (.map #[] 0), ?_, ?_, hq.size, fun x hx => Nat.ne_of_lt (hq.lt hx), heap_alloc_new q _⟩
  · unfold execOp
    have hn : (newObj (.map #[] 0)).run P q = .ok q.heap.size (q.alloc (.map #[] 0)) := by simp [newObj, Sem.run]
    simp [ho, Instr.makeMap, hn]
  · refine ⟨hq.os, hq.tape, hq.output, Nat.le_trans hq.size (by simp), fun k hk hx => ?_, fun x hx => ?_, hq.dis⟩
    · rw [Below.heap_alloc q _ k (Nat.lt_of_lt_of_le hk hq.size)]; exact hq.kept k hk hx
    · rw [Below.heap_alloc q _ _ (hq.lt hx)]; exact hq.blk x hx
theorem wl_addset (k0 : ByteArray) {w0 : World} {r : Nat} {ks : List ByteArray} {L : List Blk} {o : Oper} {rest : List Oper} {T K V : TypeId} {x y z : Operand} (hf : fit ops n e o none = true) (ho : o.op = .mapUpdate T x y z) (hT : P.underlying T = some (.map K V)) (hK : P.underlying K = some .string)
    (hx : rho e x = .map (some r)) (hy : rho e y = .string k0) (hz : rho e z = .bool true) (hn : ks.contains k0 = false) (k : WL P ops Q n e (MS w0 r (ks ++ [k0]) L) rest) : WL P ops Q n e (MS w0 r ks L) (o :: rest) := by
  obtain ⟨h1, h2, h3⟩ := fit_none hf
  refine wl_skip (MS w0 r (ks ++ [k0]) L) h1 h2 h3 (fun q hq => ?_) k
  obtain ⟨hs, hr, hd, hm⟩ := hq
  obtain ⟨j, hj⟩ := find_set k0 ks 0 0
  rw [hn] at hj
  have hfk : (Instr.findKey K (.string k0) (mEs ks)).run P q = .ok none q := by
    have : Instr.findNow .string (.string k0) (mEs ks) 0 = some none := hj
    simp [Instr.findKey, run_underlying hK, this]
  refine ⟨q.putObj r (.map (mEs (ks ++ [k0])).toArray (ks ++ [k0]).length), ?_, ?_, hr, hd, World.putObj_heap_same (Array.getElem?_eq_some_iff.1 hm).1⟩
  · unfold execOp
    simp only [ho, hx, hy, hz]
    simp [Instr.mapUpdate, run_underlying hT, run_getMap hm, checkKey_str hK, hfk, run_putMap hm, mEs_snoc]
  · refine ⟨hs.os, hs.tape, hs.output, by simpa using hs.size, fun j hj hx => ?_, fun x hx => ?_, hs.dis⟩
    · rw [World.putObj_heap_other (by omega)]; exact hs.kept j hj hx
    · rw [World.putObj_heap_other (hd x hx)]; exact hs.blk x hx
theorem wl_newMS {w0 : World} {r : Nat} {ks : List ByteArray} {L : List Blk} {o : Oper} {rest : List Oper} {d : Nat} (C : Array Value) (t : TypeId) (V : Nat → Value) (hf : fit ops n e o (some d) = true)
    (hn : ∀ b, newAt P b (execOp (rho e) o) = some (.cells C t (0, 0), .value (V b))) (k : ∀ b, w0.heap.size ≤ b → WL P ops Q n ((d, V b) :: e) (MS w0 r ks (⟨b, C, t⟩ :: L)) rest) : WL P ops Q n e (MS w0 r ks L) (o :: rest) := by
  obtain ⟨h1, h2, h3, h4⟩ := fit_some hf
  refine wl_run (σ := { b : Nat // w0.heap.size ≤ b }) (fun b => V b.1) (fun b => MS w0 r ks (⟨b.1, C, t⟩ :: L)) h1 h2 h3 h4 (fun q hq => ?_) (fun b => k b.1 b.2)
  have hlt := (Array.getElem?_eq_some_iff.1 hq.2.2.2).1
  refine ⟨⟨q.heap.size, hq.1.size⟩, q.alloc (.cells C t), newAt_run _ q _ _ (hn _), hq.1.alloc C t, hq.2.1, fun x hx => ?_, by rw [Below.heap_alloc q _ _ hlt]; exact hq.2.2.2⟩
  rcases List.mem_cons.1 hx with rfl | hx
  · exact (Nat.ne_of_lt hlt).symm
  · exact hq.2.2.1 x hx
theorem wl_storeMS {w0 : World} {r : Nat} {ks : List ByteArray} {L L' : List Blk} {o : Oper} {rest : List Oper} {T : TypeId} {x y : Operand} {b off : Nat} {c c' : Array Value} {t : TypeId} {v : Value} (p : Nat)
    (hf : fit ops n e o none = true) (ho : o.op = .store T x y) (hx : rho e x = .pointer (some ⟨b, off, none⟩)) (hy : rho e y = v) (hp : L[p]? = some ⟨b, c, t⟩)
    (hv : writeAt P T c off v = some c') (hL : L.set p ⟨b, c', t⟩ = L') (k : WL P ops Q n e (MS w0 r ks L') rest) : WL P ops Q n e (MS w0 r ks L) (o :: rest) := by
  obtain ⟨h1, h2, h3⟩ := fit_none hf
  refine wl_skip (MS w0 r ks L') h1 h2 h3 (fun q hq => ⟨q.setRow b c', ?_, hL ▸ hq.1.setRow p hp c', hq.2.1, fun z hz => ?_, ?_⟩) k
  · unfold execOp
    simp only [ho, hx, hy, Instr.storeAt, Instr.sureAddr, Sem.run_bind, Sem.run_pure, Result.andThen_ok, run_writeAt q T b off c c' t v (hq.1.blk _ (List.mem_of_getElem? hp)) hv]
  · subst hL
    rcases List.mem_or_eq_of_mem_set hz with hz | rfl
    · exact hq.2.2.1 z hz
    · exact hq.2.2.1 ⟨b, c, t⟩ (List.mem_of_getElem? hp)
  · have : b ≠ r := hq.2.2.1 ⟨b, c, t⟩ (List.mem_of_getElem? hp)
    rw [setRow_other q b r c' (Ne.symm this)]; exact hq.2.2.2
theorem wl_callMS {w0 : World} {r : Nat} {ks : List ByteArray} {L : List Blk} {o : Oper} {rest : List Oper} {d : Nat} {f : FuncId} {args : Array Value} {v : Value} (hf : fit ops n e o (some d) = true) (hv : pureVal P (execOp (rho e) o) = some (.enter f args))
    (h : ∀ q, SH w0 L q → Calls P f args q (fun x q' => x = .returned v ∧ Below q.heap.size q q')) (k : WL P ops Q n ((d, v) :: e) (MS w0 r ks L) rest) : WL P ops Q n e (MS w0 r ks L) (o :: rest) := by
  refine wl_callK (fun w w' hw hb => hw.keep hb) hf hv (fun w hw => h w hw.1) k
end
end Go.Sx
