/- Lemmas of this repository (Sx Mem Row Data Copy Api More Post Open Law Bl), several texts in one. No statement is proved here. -/
import Derived.WalkKit
import Derived.OrdersHeld
import Derived.StillTail
import Derived.Deep.MidRow
import Derived.Below
import Derived.ChangeSame
import Derived.ProofKit
import Derived.OpenShut
import Derived.SizedLaws
import Derived.ChangeArms
import Derived.WideKeyArgs
namespace Go.Sx
open Go.RowKit
set_option linter.unusedVariables false

/-! ### Frames -/
abbrev Env := List (Nat × Value)

def look (e : Env) (k : Nat) : Option Value := match e with
  | [] => none
  | (j, v) :: r => bif Nat.beq j k then some v else look r k

def rho (e : Env) : Operand → Value
  | .tmp t => (look e t).getD undef
  | .const v => v
  | .global g => .pointer (some ⟨g, 0, none⟩)
  | .func f => .func (.func f) #[] #[]

structure Has (e : Env) (n : Nat) (a : Act) : Prop where
  defers : a.defers = []
  size : a.tmps.size = n
  at_ : ∀ k v, look e k = some v → a.tmps[k]? = some v

theorem look_cons_same (e : Env) (k : Nat) (v : Value) : look ((k, v) :: e) k = some v := by simp [look]
theorem look_cons_other (e : Env) (j k : Nat) (v : Value) (h : j ≠ k) : look ((j, v) :: e) k = look e k := by
  have : Nat.beq j k = false := by rw [Bool.eq_false_iff]; exact fun hh => h (Nat.eq_of_beq_eq_true hh)
  simp [look, this]

theorem Has.put {e : Env} {n : Nat} {a : Act} (h : Has e n a) (d : Nat) (v : Value) (hd : d < n) : Has ((d, v) :: e) n (a.put (some d) v) := by
  refine ⟨by simp [Act.put, h.defers], by simp [Act.put, h.size], fun k u hk => ?_⟩
  by_cases hkd : d = k
  · subst hkd
    rw [look_cons_same] at hk
    cases hk
    simp [Act.put, h.size, hd]
  · rw [look_cons_other _ _ _ _ hkd] at hk
    simp only [Act.put, Array.getElem?_setIfInBounds_ne hkd]
    exact h.at_ k u hk

theorem Has.weaken {e e' : Env} {n : Nat} {a : Act} (h : Has e n a) (hs : ∀ k v, look e' k = some v → look e k = some v) : Has e' n a :=
  ⟨h.defers, h.size, fun k v hk => h.at_ k v (hs k v hk)⟩

def known (e : Env) : Operand → Bool
  | .tmp t => (look e t).isSome
  | _ => true

def noSel : Op → Bool
  | .select _ _ => false
  | _ => true

def covers (e : Env) (o : Oper) : Bool := noSel o.op && o.op.operands.all (known e)

theorem Has.eval {e : Env} {n : Nat} {a : Act} (h : Has e n a) {x : Operand} (hx : known e x = true) : a.eval x = rho e x := by
  cases x with
  | tmp t =>
    simp only [known] at hx
    obtain ⟨v, hv⟩ := Option.isSome_iff_exists.1 hx
    have := h.at_ t v hv
    simp [Act.eval, rho, hv, this]
  | const v => rfl
  | global g => rfl
  | func f => rfl

theorem Has.exec {e : Env} {n : Nat} {a : Act} (h : Has e n a) {o : Oper} (hc : covers e o = true) : execOp a.eval o = execOp (rho e) o := by
  simp only [covers, Bool.and_eq_true] at hc
  refine execOp_congr o (fun cs b hb => ?_) (fun x hx => h.eval ?_)
  · rw [hb] at hc; simp [noSel] at hc
  · exact (Array.all_eq_true_iff_forall_mem.1 hc.2) x hx

/-! ### Lists of operations -/
section
variable {P : Program} {ops : Array Oper} {Q : Exit → Act → World → Prop} {n : Nat}

def WL (P : Program) (ops : Array Oper) (Q : Exit → Act → World → Prop) (n : Nat) (e : Env) (S : World → Prop) (rest : List Oper) : Prop :=
  ∀ a w, Has e n a → S w → wpList P ops Q rest a w

def WC (P : Program) (Q : Exit → Act → World → Prop) (n : Nat) (e : Env) (S : World → Prop) (c : Code) : Prop :=
  ∀ a w, Has e n a → S w → c.wp P Q a w

/-- what the guard of an operation says in a frame: wanted, not wanted, or not known -/
def guardOf (ops : Array Oper) (e : Env) (o : Oper) : Option Bool :=
  match o.guard with
  | none => some true
  | some (j, want) => match ((ops[j]?).bind (·.dst)).bind (look e) with
    | some (.bool b) => some (b == want)
    | some (.tuple _) => some false
    | _ => none

theorem guardOf_wanted {e : Env} {a : Act} {o : Oper} {b : Bool} (h : Has e n a) (hg : guardOf ops e o = some b) : Region.wanted o (yielded ops a.tmps) = b := by
  unfold guardOf at hg
  unfold Region.wanted
  split at hg
  · rename_i hn; rw [hn]; simpa using hg
  · rename_i j want hj
    rw [hj]
    simp only
    split at hg
    · rename_i c hc
      obtain ⟨t, ht, htl⟩ := Option.bind_eq_some_iff.1 hc
      have := h.at_ t _ htl
      simp only [yielded, ht, Option.bind_some, this]
      simp only [Option.some.injEq] at hg
      rw [← hg]
      cases c <;> cases want <;> rfl
    · rename_i c hc
      obtain ⟨t, ht, htl⟩ := Option.bind_eq_some_iff.1 hc
      have := h.at_ t _ htl
      simp only [yielded, ht, Option.bind_some, this]
      cases hg
      rfl
    · cases hg

/-- what an operation that leaves the world alone yields -/
def pureVal {α : Type} (P : Program) : Sem α → Option α
  | .pure a => some a
  | .program k => pureVal P (k P)
  | .mark _ k => pureVal P k
  | _ => none

theorem pureVal_run {α : Type} (s : Sem α) (x : α) (h : pureVal P s = some x) (w : World) : s.run P w = .ok x w := by
  induction s with
  | pure a => simp [pureVal] at h; subst h; rfl
  | program k ih => simp only [pureVal] at h; simp only [Sem.run]; exact ih P h
  | mark m k ih => simp only [pureVal] at h; simp only [Sem.run]; exact ih h
  | _ => simp [pureVal] at h

def stepPure (P : Program) (ops : Array Oper) (n : Nat) (e : Env) (o : Oper) : Option Env :=
  match o.dst, guardOf ops e o with
  | some d, some true =>
    if covers e o && decide (d < n) then
      match pureVal P (execOp (rho e) o) with
      | some (.value v) => some ((d, v) :: e)
      | _ => none
    else none
  | some d, some false => if d < n then some ((d, undef) :: e) else none
  | none, some false => some e
  | _, _ => none

theorem wl_step {e e' : Env} {S : World → Prop} {o : Oper} {rest : List Oper} (h : stepPure P ops n e o = some e') (k : WL P ops Q n e' S rest) : WL P ops Q n e S (o :: rest) := by
  intro a w ha hw
  unfold stepPure at h
  unfold wpList
  split at h
  · rename_i d hd hg
    rw [guardOf_wanted ha hg]
    split at h
    · rename_i hc
      simp only [Bool.and_eq_true, decide_eq_true_eq] at hc
      split at h
      · rename_i v hv
        cases h
        simp only [if_true]
        refine .inl ?_
        unfold Oper.wp
        rw [ha.exec hc.1, pureVal_run _ _ hv w]
        simp only [Oper.upon, hd]
        exact k _ _ (ha.put d v hc.2) hw
      · cases h
    · cases h
  · rename_i d hd hg
    rw [guardOf_wanted ha hg]
    split at h
    · rename_i hdn
      cases h
      simp only [Bool.false_eq_true, if_false, hd]
      exact k _ _ (ha.put d undef hdn) hw
    · cases h
  · rename_i hd hg
    rw [guardOf_wanted ha hg]
    cases h
    simp only [Bool.false_eq_true, if_false, hd]
    exact k _ _ ha hw
  · cases h

/-- so many operations that leave the world alone -/
def stepsPure (P : Program) (ops : Array Oper) (n : Nat) : Nat → Env → List Oper → Option (Env × List Oper)
  | 0, e, l => some (e, l)
  | _ + 1, _, [] => none
  | m + 1, e, o :: l => match stepPure P ops n e o with
    | some e' => stepsPure P ops n m e' l
    | none => none

theorem wl_steps (m : Nat) {e e' : Env} {S : World → Prop} {l rest : List Oper} (h : stepsPure P ops n m e l = some (e', rest)) (k : WL P ops Q n e' S rest) : WL P ops Q n e S l := by
  induction m generalizing e l with
  | zero => simp only [stepsPure, Option.some.injEq, Prod.mk.injEq] at h; obtain ⟨rfl, rfl⟩ := h; exact k
  | succ m ih =>
    cases l with
    | nil => simp [stepsPure] at h
    | cons o l =>
      simp only [stepsPure] at h
      split at h
      · rename_i e1 h1
        exact wl_step h1 (ih h)
      · cases h

theorem wl_nil {e : Env} {S : World → Prop} (h : ∀ a w, Has e n a → S w → Q .normal a w) : WL P ops Q n e S [] := h

theorem wl_weaken {e e' : Env} {S S' : World → Prop} {l : List Oper} (he : ∀ k v, look e' k = some v → look e k = some v) (hS : ∀ w, S w → S' w) (k : WL P ops Q n e' S' l) : WL P ops Q n e S l :=
  fun a w ha hw => k a w (ha.weaken he) (hS w hw)

/-- an operation that yields a value and may change the world -/
theorem wl_run {σ : Type} {e : Env} {S : World → Prop} {o : Oper} {rest : List Oper} {d : Nat} (V : σ → Value) (S' : σ → World → Prop)
    (hd : o.dst = some d) (hdn : d < n) (hg : guardOf ops e o = some true) (hc : covers e o = true)
    (h : ∀ w, S w → ∃ x w', (execOp (rho e) o).run P w = .ok (.value (V x)) w' ∧ S' x w')
    (k : ∀ x, WL P ops Q n ((d, V x) :: e) (S' x) rest) : WL P ops Q n e S (o :: rest) := by
  intro a w ha hw
  unfold wpList
  rw [guardOf_wanted ha hg, if_pos rfl]
  refine .inl ?_
  obtain ⟨x, w', hr, hS⟩ := h w hw
  unfold Oper.wp
  rw [ha.exec hc, hr]
  simp only [Oper.upon, hd]
  exact k x _ _ (ha.put d _ hdn) hS

/-- an operation that yields nothing (a store) -/
theorem wl_skip {e : Env} {S : World → Prop} {o : Oper} {rest : List Oper} (S' : World → Prop)
    (hd : o.dst = none) (hg : guardOf ops e o = some true) (hc : covers e o = true)
    (h : ∀ w, S w → ∃ w', (execOp (rho e) o).run P w = .ok .skip w' ∧ S' w')
    (k : WL P ops Q n e S' rest) : WL P ops Q n e S (o :: rest) := by
  intro a w ha hw
  unfold wpList
  rw [guardOf_wanted ha hg, if_pos rfl]
  refine .inl ?_
  obtain ⟨w', hr, hS⟩ := h w hw
  unfold Oper.wp
  rw [ha.exec hc, hr]
  simp only [Oper.upon, hd, Act.put]
  exact k _ _ ha hS

/-- a call of a function by its contract -/
theorem wl_call {e : Env} {S : World → Prop} {o : Oper} {rest : List Oper} {d : Nat} {f : FuncId} {args : Array Value} {R : World → Ending → World → Prop}
    (hd : o.dst = some d) (hdn : d < n) (hg : guardOf ops e o = some true) (hc : covers e o = true)
    (hv : pureVal P (execOp (rho e) o) = some (.enter f args))
    (h : ∀ w, S w → Calls P f args w (R w))
    (k : ∀ w ending w', S w → R w ending w' → ∃ v, ending = .returned v ∧ WL P ops Q n ((d, v) :: e) (· = w') rest) : WL P ops Q n e S (o :: rest) := by
  intro a w ha hw
  unfold wpList
  rw [guardOf_wanted ha hg, if_pos rfl]
  refine .inl ?_
  unfold Oper.wp
  rw [ha.exec hc, pureVal_run _ _ hv w]
  simp only [Oper.upon]
  refine (h w hw).mono fun ending w' hR => ?_
  obtain ⟨v, rfl, hk⟩ := k w ending w' hw hR
  simp only [hd]
  exact hk _ _ (ha.put d _ hdn) rfl

/-! ### Code -/
theorem wc_seq {e : Env} {S : World → Prop} {x y : Code} (h : WC P (Exit.then (y.wp P Q) Q) n e S x) : WC P Q n e S (.seq x y) :=
  fun a w ha hw => wp_seq (h a w ha hw)
theorem wc_skip {e : Env} {S : World → Prop} (h : ∀ a w, Has e n a → S w → Q .normal a w) : WC P Q n e S .skip := fun a w ha hw => wp_skip (h a w ha hw)
theorem wc_exit {e : Env} {S : World → Prop} {id : Nat} (h : ∀ a w, Has e n a → S w → Q (.exit id) a w) : WC P Q n e S (.exit id) := fun a w ha hw => wp_exit (h a w ha hw)
theorem wc_ret {e : Env} {S : World → Prop} (h : ∀ a w, Has e n a → S w → Q .ret a w) : WC P Q n e S .ret := fun a w ha hw => wp_ret (h a w ha hw)
theorem wc_block {e : Env} {S : World → Prop} {id : Nat} {c : Code} (h : WC P (Exit.inBlock id Q) n e S c) : WC P Q n e S (.block id c) := fun a w ha hw => wp_block (h a w ha hw)
theorem wc_region {e : Env} {S : World → Prop} {id : Nat} {l : List Oper} (h : WL P l.toArray Q n e S l) : WC P Q n e S (.region id l.toArray false) :=
  fun a w ha hw => wp_region_lit (h a w ha hw)
theorem wc_cond {e : Env} {S : World → Prop} {c : Operand} {x y : Code} (t : Bool) (hk : known e c = true) (hc : rho e c = .bool t)
    (ht : t = true → WC P Q n e S x) (hf : t = false → WC P Q n e S y) : WC P Q n e S (.cond c x y) := by
  intro a w ha hw
  refine wp_cond_split (t := t) (by rw [ha.eval hk, hc]) (fun h => ht h a w ha hw) (fun h => hf h a w ha hw)

theorem wc_weaken {e e' : Env} {S S' : World → Prop} {c : Code} (he : ∀ k v, look e' k = some v → look e k = some v) (hS : ∀ w, S w → S' w) (k : WC P Q n e' S' c) : WC P Q n e S c :=
  fun a w ha hw => k a w (ha.weaken he) (hS w hw)

theorem wc_mono {e : Env} {S : World → Prop} {c : Code} {Q' : Exit → Act → World → Prop} (h : WC P Q' n e S c) (hq : ∀ x a w, Q' x a w → Q x a w) : WC P Q n e S c :=
  fun a w ha hw => wp_mono (h a w ha hw) hq

/-- a loop: states are numbered by σ; each has a frame and a condition on the world -/
theorem wc_loop {σ : Type} {e : Env} {S : World → Prop} {c : Code} (E : σ → Env) (T : σ → World → Prop) (μ : σ → Nat)
    (h₀ : ∀ w, S w → ∃ x, T x w ∧ ∀ k v, look (E x) k = some v → look e k = some v)
    (round : ∀ x, WC P (Exit.then (fun a w => ∃ y, μ y < μ x ∧ Has (E y) n a ∧ T y w) Q) n (E x) (T x) c) : WC P Q n e S (.loop c) := by
  intro a w ha hw
  obtain ⟨x0, hT0, hE0⟩ := h₀ w hw
  have key : ∀ (m : Nat) (x : σ), μ x = m → ∀ a w, Has (E x) n a → T x w → ∀ (b : Frame) (k : List Item) (cs : List Frame),
      ∃ e a' w', Q e a' w' ∧ Arrives P (lone (b.at a (.code c :: .inLoop c :: k)) cs w) b k cs e a' w' := by
    intro m
    induction m using Nat.strongRecOn with
    | _ m ih =>
      intro x hm a w ha hT b k cs
      obtain ⟨e, a₁, w₁, hq, harr⟩ := round x a w ha hT b (.inLoop c :: k) cs
      cases e with
      | normal =>
        obtain ⟨y, hlt, hy, hTy⟩ := hq
        obtain ⟨e₂, a₂, w₂, hq₂, harr₂⟩ := ih (μ y) (hm ▸ hlt) y rfl a₁ w₁ hy hTy b k cs
        exact ⟨e₂, a₂, w₂, hq₂, .of_steps (Steps.trans harr (.one step_inLoop)) harr₂⟩
      | exit id => exact ⟨_, a₁, w₁, hq, .pass (x := .inLoop c) rfl (fun _ _ => .inl (by simp)) harr⟩
      | goto l => exact ⟨_, a₁, w₁, hq, .pass (x := .inLoop c) rfl (fun _ _ => .inl (by simp)) harr⟩
      | ret => exact ⟨_, a₁, w₁, hq, .pass (x := .inLoop c) rfl (fun _ _ => .inl (by simp)) harr⟩
      | panic ch => exact ⟨_, a₁, w₁, hq, .pass (x := .inLoop c) rfl (fun _ _ => .inl (by simp)) harr⟩
      | outgrown => exact ⟨_, a₁, w₁, hq, .pass (x := .inLoop c) rfl (fun _ _ => .inl (by simp)) harr⟩
  intro b k cs
  obtain ⟨e', a', w', hq, harr⟩ := key _ x0 rfl a w (ha.weaken hE0) hT0 b k cs
  exact ⟨e', a', w', hq, .of_steps (.one step_loop) harr⟩

/-! ### A call's beginning and end -/
def argEnv : Nat → List Value → Env
  | _, [] => []
  | k, v :: r => (k, v) :: argEnv (k + 1) r

theorem look_argEnv : ∀ (l : List Value) (k j : Nat) (v : Value), look (argEnv k l) j = some v → k ≤ j ∧ l[j - k]? = some v
  | [], _, _, _, h => by simp [argEnv, look] at h
  | x :: r, k, j, v, h => by
    by_cases hkj : k = j
    · subst hkj
      simp only [argEnv, look_cons_same] at h
      exact ⟨Nat.le_refl _, by simpa using h⟩
    · simp only [argEnv, look_cons_other _ _ _ _ hkj] at h
      obtain ⟨h1, h2⟩ := look_argEnv r (k + 1) j v h
      refine ⟨by omega, ?_⟩
      rw [show j - k = (j - (k + 1)) + 1 by omega]
      simpa using h2

theorem enter {f : FuncId} {fn : Func} {c : Code} {l : List Value} {w : World} {R : Ending → World → Prop} (hf : P.funcs[f]? = some fn) (hb : fn.body = some c) (hn : fn.ntmps = n) (hl : l.length ≤ n)
    (h : WC P (bodyPost P fn R) n (argEnv 0 l) (· = w) c) : Calls P f l.toArray w R := by
  refine calls_of_wp hf hb (h _ _ ⟨rfl, ?_, fun k v hk => ?_⟩ rfl)
  · simp [hn]; omega
  · obtain ⟨_, h2⟩ := look_argEnv l 0 k v hk
    have hlt : k < l.length := by simpa using (List.getElem?_eq_some_iff.1 h2).1
    rw [Array.getElem?_append_left (by simpa using hlt)]
    simpa using h2

/-- the results' value, out of a frame and a condition on the world -/
theorem ret_tmp {fn : Func} {R : Ending → World → Prop} {e : Env} {S : World → Prop} {t : Nat} {v : Value} (hr : fn.results = #[.tmp t]) (hv : look e t = some v) (hR : ∀ w, S w → R (.returned v) w) :
    ∀ a w, Has e n a → S w → bodyPost P fn R .ret a w := fun a w ha hw => by
  refine bodyPost_ret (results_tmp hr _ _ _) ha.defers ?_
  have := ha.at_ t v hv
  simp only [Array.getD_eq_getD_getElem?, this, Option.getD_some]
  exact hR w hw

theorem ret_tmp2 {fn : Func} {R : Ending → World → Prop} {e : Env} {S : World → Prop} {t u : Nat} {v v' : Value} (hr : fn.results = #[.tmp t, .tmp u]) (hv : look e t = some v) (hv' : look e u = some v') (hR : ∀ w, S w → R (.returned (.tuple #[v, v'])) w) :
    ∀ a w, Has e n a → S w → bodyPost P fn R .ret a w := fun a w ha hw => by
  refine bodyPost_ret (results_tmp2 hr _ _ _) ha.defers ?_
  have := ha.at_ t v hv
  have h2 := ha.at_ u v' hv'
  simp only [Array.getD_eq_getD_getElem?, this, h2, Option.getD_some]
  exact hR w hw

theorem end_none {fn : Func} {R : Ending → World → Prop} {e : Env} {S : World → Prop} (hr : fn.results = #[]) (hR : ∀ w, S w → R (.returned (.tuple #[])) w) :
    ∀ a w, Has e n a → S w → bodyPost P fn R .normal a w := fun a w ha hw =>
  bodyPost_end (results_none hr _ _ _) ha.defers (hR w hw)

theorem ret_none {fn : Func} {R : Ending → World → Prop} {e : Env} {S : World → Prop} (hr : fn.results = #[]) (hR : ∀ w, S w → R (.returned (.tuple #[])) w) :
    ∀ a w, Has e n a → S w → bodyPost P fn R .ret a w := fun a w ha hw =>
  bodyPost_ret (results_none hr _ _ _) ha.defers (hR w hw)

end

/-! ### What an operation yields in every world of a kind -/
section
variable {P : Program} {ops : Array Oper} {Q : Exit → Act → World → Prop} {n : Nat}

def Yl (P : Program) (S : World → Prop) (e : Env) (o : Oper) (v : Value) : Prop := ∀ w, S w → (execOp (rho e) o).run P w = .ok (.value v) w

/-- the operation may be carried out: it is wanted, its operands are known, its slot is there -/
def fit (ops : Array Oper) (n : Nat) (e : Env) (o : Oper) (d : Option Nat) : Bool :=
  (match o.dst, d with
   | some x, some y => Nat.beq x y && decide (y < n)
   | none, none => true
   | _, _ => false) && (match guardOf ops e o with | some true => true | _ => false) && covers e o

theorem fit_some {e : Env} {o : Oper} {d : Nat} (h : fit ops n e o (some d) = true) : o.dst = some d ∧ d < n ∧ guardOf ops e o = some true ∧ covers e o = true := by
  unfold fit at h
  simp only [Bool.and_eq_true] at h
  obtain ⟨⟨h1, h2⟩, h3⟩ := h
  split at h1
  · rename_i x y hx hy
    simp only [Bool.and_eq_true, decide_eq_true_eq] at h1
    cases hy
    refine ⟨by rw [hx, Nat.eq_of_beq_eq_true h1.1], h1.2, ?_, h3⟩
    split at h2
    · assumption
    · cases h2
  · rename_i hx hy; cases hy
  · cases h1

theorem fit_none {e : Env} {o : Oper} (h : fit ops n e o none = true) : o.dst = none ∧ guardOf ops e o = some true ∧ covers e o = true := by
  unfold fit at h
  simp only [Bool.and_eq_true] at h
  obtain ⟨⟨h1, h2⟩, h3⟩ := h
  split at h1
  · rename_i x y hx hy; cases hy
  · rename_i hx hy
    refine ⟨hx, ?_, h3⟩
    split at h2
    · assumption
    · cases h2
  · cases h1

theorem wl_yl {e : Env} {S : World → Prop} {o : Oper} {rest : List Oper} {d : Nat} {v : Value} (hf : fit ops n e o (some d) = true) (hy : Yl P S e o v)
    (k : WL P ops Q n ((d, v) :: e) S rest) : WL P ops Q n e S (o :: rest) := by
  obtain ⟨h1, h2, h3, h4⟩ := fit_some hf
  exact wl_run (σ := Unit) (fun _ => v) (fun _ => S) h1 h2 h3 h4 (fun w hw => ⟨(), w, hy w hw, hw⟩) (fun _ => k)

/-! ### A region whose order is drawn: a head, whose operations keep S, and a tail in one order -/
def ON (Q : Exit → Act → World → Prop) : Exit → Act → World → Prop
  | .normal, a, w => Q .normal a w
  | _, _, _ => False

def wpHead (P : Program) (ops : Array Oper) (Q : Exit → Act → World → Prop) (m : Nat) (S : World → Prop) (Z : Array Bool → Act → World → Prop) : Nat → Array Bool → Act → World → Prop
  | 0, listed, a, w => Z listed a w
  | f + 1, listed, a, w =>
    Region.ready .any ops listed ≠ [] ∧ ∀ i ∈ Region.ready .any ops listed, i < m ∧ wpOp P ops Q i (fun a' w' => S w' ∧ wpHead P ops Q m S Z f (listed.setIfInBounds i true) a' w') a w

def tailOk (ops : Array Oper) (m : Nat) : Bool :=
  Nat.beq m ops.size || (decide (m < ops.size) && Region.sinkB .any ops m && Region.chainB .any ops m)

theorem head_lt {m i j : Nat} {listed : Array Bool} (ht : tailOk ops m = true) (inv : HeadInv .any ops m listed) (him : i < m) (hun : listed.getD i true = false)
    (hj : j ∈ Region.ready .any ops listed) : j < m := by
  simp only [tailOk, Bool.or_eq_true, Bool.and_eq_true, decide_eq_true_eq] at ht
  rcases ht with ht | ⟨⟨hn, hs⟩, hc⟩
  · have := Nat.eq_of_beq_eq_true ht
    obtain ⟨_, oj, hoj, _⟩ := mem_ready.1 hj
    have := (Array.getElem?_eq_some_iff.1 hoj).1
    omega
  · rcases Nat.lt_or_ge j m with h | h
    · exact h
    · exact absurd hj (tail_waits hs hc hn inv _ i rfl him hun j h)

theorem head_first {m i : Nat} {oi : Oper} {v : Value} {S : World → Prop} {Z : Array Bool → Act → World → Prop} (hi : ops[i]? = some oi) (hsel : Region.noSelect ops = true)
    (ht : tailOk ops m = true) (him : i < m) (hdone : ∀ listed a w, Z listed a w → ∀ j ∈ Region.ready .any ops listed, m ≤ j) :
    ∀ (f : Nat) (listed : Array Bool) (a : Act) (w : World), HeadInv .any ops m listed →
      (∀ j oj, ops[j]? = some oj → j ≠ i → listed.getD j true = false → (∀ e ∈ oj.after, Region.binds .any e = true → e.on ≠ i) → oi.apart ops oj = true) →
      i ∈ Region.ready .any ops listed → YieldsIf P ops S oi v a → S w →
      wpHead P ops (ON Q) m S Z f (listed.setIfInBounds i true) (a.put oi.dst v) w → wpHead P ops (ON Q) m S Z (f + 1) listed a w := by
  intro f
  induction f with
  | zero =>
    intro listed a w inv _ hr hy hS H
    have hun := (mem_ready.1 hr).1
    refine ⟨fun h => (by rw [h] at hr; cases hr), fun j hj => ?_⟩
    have hjm := head_lt ht inv him hun hj
    refine ⟨hjm, ?_⟩
    by_cases hji : j = i
    · subst hji; exact hy.wpOp hi hS ⟨hS, H⟩
    · have := hdone _ _ _ H j (ready_mono hj hji)
      omega
  | succ f ih =>
    intro listed a w inv hfree hr hy hS H
    have hun := (mem_ready.1 hr).1
    refine ⟨fun h => (by rw [h] at hr; cases hr), fun j hj => ?_⟩
    have hjm := head_lt ht inv him hun hj
    refine ⟨hjm, ?_⟩
    by_cases hji : j = i
    · subst hji; exact hy.wpOp hi hS ⟨hS, H⟩
    · have h1 := (H.2 j (ready_mono hj hji)).2
      obtain ⟨hjun, oj, hoj, hall⟩ := mem_ready.1 hj
      have hnot : ∀ e ∈ oj.after, Region.binds .any e = true → e.on ≠ i := fun e he hb heq => by
        have h1 := hall e he hb
        rw [heq, getD_both hun] at h1
        cases h1
      have h2 := wpOp_putIf hoj (hfree j oj hoj hji hjun hnot) (fun cs b => Region.noSelect_spec hsel i oi cs b hi) (fun cs b => Region.noSelect_spec hsel j oj cs b hoj) (fun _ _ _ h => h) hy h1
      have hfree' : ∀ k ok, ops[k]? = some ok → k ≠ i → (listed.setIfInBounds j true).getD k true = false →
          (∀ e ∈ ok.after, Region.binds .any e = true → e.on ≠ i) → oi.apart ops ok = true := fun k ok hk hki hun hno => by
        refine hfree k ok hk hki ?_ hno
        by_cases hjk : j = k
        · subst hjk; exact hjun
        · rw [getD_set_ne true hjk] at hun; exact hun
      refine wpOp_mono (fun a' w' h3 => ⟨h3.2.1, ih (listed.setIfInBounds j true) a' w' (inv.set hj hjm) hfree' (ready_mono hr (Ne.symm hji)) h3.1 h3.2.1 ?_⟩) h2
      rw [Array.setIfInBounds_comm _ _ hji]
      exact h3.2.2

theorem wpAny_of_wpHead {m g : Nat} {S : World → Prop} {Z : Array Bool → Act → World → Prop} (hZ : ∀ listed a w, Z listed a w → wpAny P .any ops Q g listed a w) :
    ∀ (f : Nat) (listed : Array Bool) (a : Act) (w : World), wpHead P ops Q m S Z f listed a w → wpAny P .any ops Q (f + g) listed a w
  | 0, listed, a, w, h => by rw [Nat.zero_add]; exact hZ _ _ _ h
  | f + 1, listed, a, w, h => by
    rw [show f + 1 + g = (f + g) + 1 by omega]
    exact ⟨fun h0 => absurd h0 h.1, fun i hi => wpOp_mono (fun a' w' h' => wpAny_of_wpHead hZ f _ a' w' h'.2) (h.2 i hi).2⟩

/-- the tail, in its one order -/
def Zt (P : Program) (ops : Array Oper) (Q : Exit → Act → World → Prop) (m : Nat) (listed : Array Bool) (a : Act) (w : World) : Prop :=
  Region.seqB .any ops (ops.size - m) m listed = true ∧ wpList P ops Q (ops.toList.drop m) a w

/-- the head: S is kept by all of it; T is what is known now -/
def WD (P : Program) (ops : Array Oper) (Q : Exit → Act → World → Prop) (n m : Nat) (S T : World → Prop) (f : Nat) (listed : Array Bool) (e : Env) : Prop :=
  ∀ a w, HeadInv .any ops m listed → Has e n a → T w → wpHead P ops (ON Q) m S (Zt P ops (ON Q) m) f listed a w

theorem wc_draw {e : Env} {T : World → Prop} {id : Nat} {l : List Oper} (m : Nat) (S : World → Prop) (hm : P.follows .mixedOrders = true) (hml : m ≤ l.length)
    (hT : ∀ w, T w → T w.drew)
    (h : WD P l.toArray Q n m S T m (Array.replicate l.toArray.size false) e) : WC P Q n e T (.region id l.toArray true) := by
  intro a w ha hw
  refine wp_mono (Q := ON Q) ?_ (fun x a w h => by cases x <;> first | exact h | exact h.elim)
  refine wp_region_any hm ?_
  have inv0 : HeadInv .any l.toArray m (Array.replicate l.toArray.size false) :=
    ⟨by simp, fun j oj _ hl => (by rw [getD_replicate_false] at hl; cases hl), fun t _ ht => getD_in (by simpa using ht) (getD_replicate_false _ _)⟩
  have := wpAny_of_wpHead (g := l.toArray.size - m) (fun listed a w hZ => by
    obtain ⟨hs, hl⟩ := hZ
    have hdl : (l.toArray.toList.drop m).length = l.toArray.size - m := by simp
    have := wpAny_of_seq (md := .any) (Q' := ON Q) (l.toArray.toList.drop m) m listed a w (fun j => by simp [List.getElem?_drop]) (by rw [hdl]; exact hs) hl
    rwa [hdl] at this) _ _ _ _ (h a w.drew inv0 ha (hT w hw))
  rw [show m + (l.toArray.size - m) = l.toArray.size by simp; omega] at this
  exact this

theorem wd_done {m : Nat} {e : Env} {S T : World → Prop} {listed : Array Bool} (hs : Region.seqB .any ops (ops.size - m) m listed = true)
    (k : WL P ops (ON Q) n e T (ops.toList.drop m)) : WD P ops Q n m S T 0 listed e :=
  fun a w _ ha hw => ⟨hs, k a w ha hw⟩

theorem zt_done {m : Nat} (listed : Array Bool) (a : Act) (w : World) (h : Zt P ops (ON Q) m listed a w) : ∀ j ∈ Region.ready .any ops listed, m ≤ j := seqB_ready h.1

/-- may number i be taken first? -/
def takeOk (ops : Array Oper) (m : Nat) (listed : Array Bool) (i : Nat) : Bool :=
  decide (i < m) && tailOk ops m && Region.noSelect ops && Region.free .any ops listed i && (Region.ready .any ops listed).contains i

theorem wd_first {m i f : Nat} {oi : Oper} {v : Value} {e e' : Env} {S T : World → Prop} {listed : Array Bool} (hi : ops[i]? = some oi) (hk : takeOk ops m listed i = true)
    (hT : ∀ w, T w → S w) (hy : ∀ a, Has e n a → YieldsIf P ops S oi v a ∧ Has e' n (a.put oi.dst v))
    (k : WD P ops Q n m S T f (listed.setIfInBounds i true) e') : WD P ops Q n m S T (f + 1) listed e := by
  intro a w inv ha hw
  simp only [takeOk, Bool.and_eq_true, decide_eq_true_eq] at hk
  obtain ⟨⟨⟨⟨him, ht⟩, hsel⟩, hf⟩, hr⟩ := hk
  have hr' : i ∈ Region.ready .any ops listed := by simpa using hr
  exact head_first hi hsel ht him zt_done f listed a w inv (Region.free_spec hi hf) hr' (hy a ha).1 (hT w hw) (k _ w (inv.set hr' him) (hy a ha).2 hw)

theorem stepPure_yields {e e' : Env} {S : World → Prop} {o : Oper} (h : stepPure P ops n e o = some e') : ∃ v, ∀ a, Has e n a → YieldsIf P ops S o v a ∧ Has e' n (a.put o.dst v) := by
  unfold stepPure at h
  split at h
  · rename_i d hd hg
    split at h
    · rename_i hc
      simp only [Bool.and_eq_true, decide_eq_true_eq] at hc
      split at h
      · rename_i v hv
        cases h
        exact ⟨v, fun a ha => ⟨.inl ⟨guardOf_wanted ha hg, fun w _ => by rw [ha.exec hc.1, pureVal_run _ _ hv w]⟩, by rw [hd]; exact ha.put d v hc.2⟩⟩
      · cases h
    · cases h
  · rename_i d hd hg
    split at h
    · rename_i hdn
      cases h
      exact ⟨undef, fun a ha => ⟨.inr ⟨guardOf_wanted ha hg, rfl⟩, by rw [hd]; exact ha.put d undef hdn⟩⟩
    · cases h
  · rename_i hd hg
    cases h
    exact ⟨undef, fun a ha => ⟨.inr ⟨guardOf_wanted ha hg, rfl⟩, by rw [hd]; exact ha⟩⟩
  · cases h

/-- several operations that leave the world alone, taken first one after the other -/
def takes (P : Program) (ops : Array Oper) (n m : Nat) : List Nat → Env → Array Bool → Option (Env × Array Bool)
  | [], e, listed => some (e, listed)
  | i :: r, e, listed => match ops[i]? with
    | some o => if takeOk ops m listed i then (match stepPure P ops n e o with | some e' => takes P ops n m r e' (listed.setIfInBounds i true) | none => none) else none
    | none => none

theorem wd_takes (is : List Nat) {m f : Nat} {e e' : Env} {S T : World → Prop} {listed listed' : Array Bool} (h : takes P ops n m is e listed = some (e', listed'))
    (hT : ∀ w, T w → S w) (k : WD P ops Q n m S T f listed' e') : WD P ops Q n m S T (is.length + f) listed e := by
  induction is generalizing e listed with
  | nil => simp only [takes, Option.some.injEq, Prod.mk.injEq] at h; obtain ⟨rfl, rfl⟩ := h; rw [show ([] : List Nat).length + f = f by simp]; exact k
  | cons i r ih =>
    simp only [takes] at h
    split at h
    · rename_i o ho
      split at h
      · rename_i hk
        split at h
        · rename_i e1 h1
          obtain ⟨v, hv⟩ := stepPure_yields (S := S) h1
          rw [show (i :: r).length + f = (r.length + f) + 1 by simp; omega]
          exact wd_first ho hk hT hv (ih h)
        · cases h
      · cases h
    · cases h

/-- one operation that yields its value in every world of S -/
theorem wd_yl (i : Nat) {m f d : Nat} {oi : Oper} {v : Value} {e : Env} {S T : World → Prop} {listed : Array Bool} (hi : ops[i]? = some oi) (hk : takeOk ops m listed i = true)
    (hf : fit ops n e oi (some d) = true) (hT : ∀ w, T w → S w) (hy : Yl P S e oi v)
    (k : WD P ops Q n m S T f (listed.setIfInBounds i true) ((d, v) :: e)) : WD P ops Q n m S T (f + 1) listed e := by
  obtain ⟨h1, h2, h3, h4⟩ := fit_some hf
  refine wd_first (v := v) hi hk hT (fun a ha => ⟨.inl ⟨guardOf_wanted ha h3, fun w hw => by rw [ha.exec h4]; exact hy w hw⟩, ?_⟩) k
  rw [h1]; exact ha.put d v h2

/-- the one operation that may come up now, whatever it does to the world -/
theorem wd_one (i : Nat) {m f d : Nat} {oi : Oper} {e : Env} {S T : World → Prop} {listed : Array Bool} {σ : Type} (V : σ → Value) (T' : σ → World → Prop)
    (hi : ops[i]? = some oi) (him : i < m) (hr : Region.ready .any ops listed = [i]) (hf : fit ops n e oi (some d) = true)
    (h : ∀ w, T w → ∃ x w', (execOp (rho e) oi).run P w = .ok (.value (V x)) w' ∧ T' x w') (hS : ∀ x w, T' x w → S w)
    (k : ∀ x, WD P ops Q n m S (T' x) f (listed.setIfInBounds i true) ((d, V x) :: e)) : WD P ops Q n m S T (f + 1) listed e := by
  intro a w inv ha hw
  obtain ⟨h1, h2, h3, h4⟩ := fit_some hf
  have him' : i ∈ Region.ready .any ops listed := by rw [hr]; simp
  refine ⟨by rw [hr]; simp, fun j hj => ?_⟩
  rw [hr] at hj
  have : j = i := by simpa using hj
  subst this
  refine ⟨him, ?_⟩
  unfold wpOp
  simp only [hi, guardOf_wanted ha h3, if_true]
  refine .inl ?_
  obtain ⟨x, w', hrun, hT'⟩ := h w hw
  unfold Oper.wp
  rw [ha.exec h4, hrun]
  simp only [Oper.upon, h1]
  exact ⟨hS x w' hT', k x _ w' (inv.set him' him) (ha.put d _ h2) hT'⟩

/-- a call of a function by its contract, the one operation that may come up now -/
theorem wd_call (i : Nat) {m f d : Nat} {oi : Oper} {e : Env} {S T : World → Prop} {listed : Array Bool} {g : FuncId} {args : Array Value} {R : World → Ending → World → Prop}
    (hi : ops[i]? = some oi) (him : i < m) (hr : Region.ready .any ops listed = [i]) (hf : fit ops n e oi (some d) = true)
    (hv : pureVal P (execOp (rho e) oi) = some (.enter g args))
    (h : ∀ w, T w → Calls P g args w (R w))
    (k : ∀ w ending w', T w → R w ending w' → ∃ v, ending = .returned v ∧ S w' ∧ WD P ops Q n m S (· = w') f (listed.setIfInBounds i true) ((d, v) :: e)) : WD P ops Q n m S T (f + 1) listed e := by
  intro a w inv ha hw
  obtain ⟨h1, h2, h3, h4⟩ := fit_some hf
  have him' : i ∈ Region.ready .any ops listed := by rw [hr]; simp
  refine ⟨by rw [hr]; simp, fun j hj => ?_⟩
  rw [hr] at hj
  have : j = i := by simpa using hj
  subst this
  refine ⟨him, ?_⟩
  unfold wpOp
  simp only [hi, guardOf_wanted ha h3, if_true]
  refine .inl ?_
  unfold Oper.wp
  rw [ha.exec h4, pureVal_run _ _ hv w]
  simp only [Oper.upon]
  refine (h w hw).mono fun ending w' hR => ?_
  obtain ⟨v, rfl, hS, hk⟩ := k w ending w' hw hR
  simp only [h1]
  exact ⟨hS, hk _ w' (inv.set him' him) (ha.put d _ h2) rfl⟩

theorem wd_weaken {m f : Nat} {e e' : Env} {S T T' : World → Prop} {listed : Array Bool} (he : ∀ k v, look e' k = some v → look e k = some v) (hT : ∀ w, T w → T' w)
    (k : WD P ops Q n m S T' f listed e') : WD P ops Q n m S T f listed e :=
  fun a w inv ha hw => k a w inv (ha.weaken he) (hT w hw)

end

/-! ### Ways out -/
section
variable {P : Program} {ops : Array Oper} {Q : Exit → Act → World → Prop} {n : Nat} {e : Env} {S : World → Prop}

def NX (Q : Exit → Act → World → Prop) (n : Nat) (e : Env) (S : World → Prop) (x : Exit) : Prop := ∀ a w, Has e n a → S w → Q x a w

theorem nx_list (h : NX Q n e S .normal) : WL P ops Q n e S [] := h
theorem nx_skip (h : NX Q n e S .normal) : WC P Q n e S .skip := wc_skip h
theorem nx_exit {id : Nat} (h : NX Q n e S (.exit id)) : WC P Q n e S (.exit id) := wc_exit h
theorem nx_ret (h : NX Q n e S .ret) : WC P Q n e S .ret := wc_ret h
theorem nx_then {y : Code} (h : WC P Q n e S y) : NX (Exit.then (y.wp P Q) Q) n e S .normal := h
theorem nx_then_exit {id : Nat} {K : Act → World → Prop} (h : NX Q n e S (.exit id)) : NX (Exit.then K Q) n e S (.exit id) := h
theorem nx_then_ret {K : Act → World → Prop} (h : NX Q n e S .ret) : NX (Exit.then K Q) n e S .ret := h
theorem nx_block {id : Nat} (h : NX Q n e S .normal) : NX (Exit.inBlock id Q) n e S .normal := h
theorem nx_block_ret {id : Nat} (h : NX Q n e S .ret) : NX (Exit.inBlock id Q) n e S .ret := h
theorem nx_block_here {id : Nat} (h : NX Q n e S .normal) : NX (Exit.inBlock id Q) n e S (.exit id) := fun a w ha hw => by simp only [Exit.inBlock, if_true]; exact h a w ha hw
theorem nx_block_on {id id' : Nat} (hne : id' ≠ id) (h : NX Q n e S (.exit id')) : NX (Exit.inBlock id Q) n e S (.exit id') := fun a w ha hw => by simp only [Exit.inBlock, if_neg hne]; exact h a w ha hw
theorem nx_on (h : NX Q n e S .normal) : NX (ON Q) n e S .normal := h
/-- the end of a loop's round -/
theorem nx_round {σ : Type} {E : σ → Env} {T : σ → World → Prop} {μ : σ → Nat} {x : σ} (y : σ) (hμ : μ y < μ x) (he : ∀ k v, look (E y) k = some v → look e k = some v) (hS : ∀ w, S w → T y w) :
    NX (Exit.then (fun a w => ∃ y, μ y < μ x ∧ Has (E y) n a ∧ T y w) Q) n e S .normal := fun a w ha hw => ⟨y, hμ, ha.weaken he, hS w hw⟩
theorem nx_round_w {σ : Type} {E : σ → Env} {T : σ → World → Prop} {μ : σ → Nat} {x : σ} (h : ∀ w, S w → ∃ y, μ y < μ x ∧ (∀ k v, look (E y) k = some v → look e k = some v) ∧ T y w) :
    NX (Exit.then (fun a w => ∃ y, μ y < μ x ∧ Has (E y) n a ∧ T y w) Q) n e S .normal := fun a w ha hw => by
  obtain ⟨y, h1, h2, h3⟩ := h w hw
  exact ⟨y, h1, ha.weaken h2, h3⟩
/-- a condition on the world laid open -/
theorem nx_open {x : Exit} (h : ∀ w, S w → NX Q n e (· = w) x) : NX Q n e S x := fun a w ha hw => h w hw a w ha rfl
theorem wc_open {c : Code} (h : ∀ w, S w → WC P Q n e (· = w) c) : WC P Q n e S c := fun a w ha hw => h w hw a w ha rfl
theorem wl_open {l : List Oper} (h : ∀ w, S w → WL P ops Q n e (· = w) l) : WL P ops Q n e S l := fun a w ha hw => h w hw a w ha rfl

/-- a frame's entries, of which fewer or other ones are asked for: decided by looking each up -/
def subEnv (e' e : Env) : Prop := ∀ k v, look e' k = some v → look e k = some v
theorem subEnv_nil (e : Env) : subEnv [] e := fun k v h => by simp [look] at h
theorem subEnv_cons {k : Nat} {v : Value} {e' e : Env} (h : look e k = some v) (r : subEnv e' e) : subEnv ((k, v) :: e') e := fun j u hj => by
  by_cases hkj : k = j
  · subst hkj; rw [look_cons_same] at hj; rw [h]; exact hj
  · rw [look_cons_other _ _ _ _ hkj] at hj; exact r j u hj
end

/-! ### The forms that a program prints -/
section
variable {P : Program} {ops : Array Oper} {Q : Exit → Act → World → Prop} {n : Nat} {e : Env} {S : World → Prop}

def stepsEnv (P : Program) (ops : Array Oper) (n : Nat) : Nat → Env → List Oper → Option Env
  | 0, e, _ => some e
  | _ + 1, _, [] => none
  | m + 1, e, o :: l => match stepPure P ops n e o with
    | some e' => stepsEnv P ops n m e' l
    | none => none

theorem wl_go (m : Nat) (new : Env) {l : List Oper} (h : stepsEnv P ops n m e l = some (new ++ e)) (k : WL P ops Q n (new ++ e) S (l.drop m)) : WL P ops Q n e S l := by
  have key : ∀ (m : Nat) (e e' : Env) (l : List Oper), stepsEnv P ops n m e l = some e' → WL P ops Q n e' S (l.drop m) → WL P ops Q n e S l := by
    intro m
    induction m with
    | zero => intro e e' l h k; simp only [stepsEnv, Option.some.injEq] at h; subst h; exact k
    | succ m ih =>
      intro e e' l h k
      cases l with
      | nil => simp [stepsEnv] at h
      | cons o l =>
        simp only [stepsEnv] at h
        split at h
        · rename_i e1 h1
          exact wl_step h1 (ih e1 e' l h k)
        · cases h
  exact key m e _ l h k

theorem yl_pure {o : Oper} {v : Value} (h : pureVal P (execOp (rho e) o) = some (.value v)) : Yl P S e o v := fun w _ => pureVal_run _ _ h w

theorem i64w {t : Int} (h1 : -9223372036854775808 ≤ t) (h2 : t ≤ 9223372036854775807) : IntKind.i64.wrap t = t := IntWalk.i64_in t ⟨h1, h2⟩

/-- a sum, a difference, a product that fits -/
theorem yl_int {o : Oper} {t r : Int} (h : pureVal P (execOp (rho e) o) = some (.value (.int .i64 (IntKind.i64.wrap t)))) (hw : IntKind.i64.wrap t = r) : Yl P S e o (.int .i64 r) := by
  rw [← hw]; exact yl_pure h

theorem wl_cast {l l' : List Oper} (h : l = l') (k : WL P ops Q n e S l') : WL P ops Q n e S l := h ▸ k

theorem wd_go (is : List Nat) (new : Env) (listed' : Array Bool) {m f F : Nat} {T : World → Prop} {listed : Array Bool} (hF : F = is.length + f) (h : takes P ops n m is e listed = some (new ++ e, listed'))
    (hT : ∀ w, T w → S w) (k : WD P ops Q n m S T f listed' (new ++ e)) : WD P ops Q n m S T F listed e := by
  subst hF; exact wd_takes is h hT k

/-- a call whose contract leaves the world as it was -/
theorem wl_callS {o : Oper} {rest : List Oper} {d : Nat} {f : FuncId} {args : Array Value} {v : Value} (hf : fit ops n e o (some d) = true) (hv : pureVal P (execOp (rho e) o) = some (.enter f args))
    (h : ∀ w, S w → Calls P f args w (fun x w' => x = .returned v ∧ w = w')) (k : WL P ops Q n ((d, v) :: e) S rest) : WL P ops Q n e S (o :: rest) := by
  obtain ⟨h1, h2, h3, h4⟩ := fit_some hf
  refine wl_call h1 h2 h3 h4 hv (R := fun w x w' => x = .returned v ∧ w = w') h (fun w x w' hw hR => ⟨v, hR.1, ?_⟩)
  obtain ⟨_, rfl⟩ := hR
  exact fun a w ha hww => k a w ha (hww ▸ hw)

/-- a call by its contract: what it hands back is one of a kind, and so is the world behind it -/
theorem wl_callB {X : Type} (V : X → Value) (Rel : World → X → World → Prop) {o : Oper} {rest : List Oper} {d : Nat} {f : FuncId} {args : Array Value} (hf : fit ops n e o (some d) = true) (hv : pureVal P (execOp (rho e) o) = some (.enter f args))
    (h : ∀ w, S w → Calls P f args w (fun z w' => ∃ x, z = .returned (V x) ∧ Rel w x w')) (k : ∀ w x w', S w → Rel w x w' → WL P ops Q n ((d, V x) :: e) (· = w') rest) : WL P ops Q n e S (o :: rest) := by
  obtain ⟨h1, h2, h3, h4⟩ := fit_some hf
  refine wl_call h1 h2 h3 h4 hv (R := fun w z w' => ∃ x, z = .returned (V x) ∧ Rel w x w') h (fun w z w' hw hR => ?_)
  obtain ⟨x, hz, hr⟩ := hR
  exact ⟨V x, hz, k w x w' hw hr⟩

theorem wd_callB (i : Nat) {X : Type} (V : X → Value) (Rel : World → X → World → Prop) {m fu d : Nat} {oi : Oper} {T : World → Prop} {listed : Array Bool} {f : FuncId} {args : Array Value}
    (hi : ops[i]? = some oi) (him : i < m) (hr : Region.ready .any ops listed = [i]) (hf : fit ops n e oi (some d) = true) (hv : pureVal P (execOp (rho e) oi) = some (.enter f args))
    (h : ∀ w, T w → Calls P f args w (fun z w' => ∃ x, z = .returned (V x) ∧ Rel w x w'))
    (k : ∀ w x w', T w → Rel w x w' → S w' ∧ WD P ops Q n m S (· = w') fu (listed.setIfInBounds i true) ((d, V x) :: e)) : WD P ops Q n m S T (fu + 1) listed e := by
  refine wd_call i hi him hr hf hv (R := fun w z w' => ∃ x, z = .returned (V x) ∧ Rel w x w') h (fun w z w' hw hR => ?_)
  obtain ⟨x, hz, hr⟩ := hR
  exact ⟨V x, hz, k w x w' hw hr⟩

theorem wl_eq {l : List Oper} {w0 : World} (h : S w0) (k : WL P ops Q n e S l) : WL P ops Q n e (· = w0) l := fun a w ha hw => k a w ha (hw ▸ h)
theorem wc_eq {c : Code} {w0 : World} (h : S w0) (k : WC P Q n e S c) : WC P Q n e (· = w0) c := fun a w ha hw => k a w ha (hw ▸ h)
theorem wd_eq {m f : Nat} {T : World → Prop} {listed : Array Bool} {w0 : World} (h : T w0) (k : WD P ops Q n m S T f listed e) : WD P ops Q n m S (· = w0) f listed e := fun a w inv ha hw => k a w inv ha (hw ▸ h)
end
end Go.Sx

namespace Go.Sx
open Go.RowKit
set_option linter.unusedVariables false

structure Blk where
  b : Nat
  c : Array Value
  t : TypeId

/-- the world w: the blocks of L are known, every other block of wb is as it was in wb -/
structure SH (wb : World) (L : List Blk) (w : World) : Prop where
  os : w.os = wb.os
  tape : w.tape = wb.tape
  output : w.output = wb.output
  size : wb.heap.size ≤ w.heap.size
  kept : ∀ k, k < wb.heap.size → (∀ x ∈ L, x.b ≠ k) → w.heap[k]? = wb.heap[k]?
  blk : ∀ x ∈ L, w.heap[x.b]? = some (.cells x.c x.t (0, 0))
  dis : ∀ (i j : Nat) (x y : Blk), L[i]? = some x → L[j]? = some y → x.b = y.b → i = j

/-- a block that stands still -/
def Im (wb : World) (L : List Blk) (k : Nat) : Prop := k < wb.heap.size ∧ ∀ x ∈ L, x.b ≠ k

theorem SH.refl (w : World) : SH w [] w := ⟨rfl, rfl, rfl, Nat.le_refl _, fun _ _ _ => rfl, by simp, by simp⟩

theorem SH.drew {wb : World} {L : List Blk} {w : World} (h : SH wb L w) : SH wb L w.drew := ⟨h.os, h.tape, h.output, h.size, h.kept, h.blk, h.dis⟩

theorem SH.lt {wb : World} {L : List Blk} {w : World} (h : SH wb L w) {x : Blk} (hx : x ∈ L) : x.b < w.heap.size := (Array.getElem?_eq_some_iff.1 (h.blk x hx)).1

theorem SH.alloc {wb : World} {L : List Blk} {w : World} (h : SH wb L w) (C : Array Value) (T : TypeId) : SH wb (⟨w.heap.size, C, T⟩ :: L) (w.alloc (.cells C T)) := by
  refine ⟨h.os, h.tape, h.output, Nat.le_trans h.size (by simp), fun k hk hx => ?_, fun x hx => ?_, ?_⟩
  · rw [Below.heap_alloc w _ k (Nat.lt_of_lt_of_le hk h.size)]
    exact h.kept k hk (fun x hx' => hx x (List.mem_cons_of_mem _ hx'))
  · rcases List.mem_cons.1 hx with rfl | hx
    · exact heap_alloc_new w _
    · rw [Below.heap_alloc w _ _ (h.lt hx)]; exact h.blk x hx
  · intro i j x y hi hj he
    cases i with
    | zero =>
      simp at hi
      cases j with
      | zero => rfl
      | succ j =>
        simp at hj
        have := h.lt (List.mem_of_getElem? hj)
        rw [← he, ← hi] at this
        exact absurd this (Nat.lt_irrefl _)
    | succ i =>
      simp at hi
      cases j with
      | zero =>
        simp at hj
        have := h.lt (List.mem_of_getElem? hi)
        rw [he, ← hj] at this
        exact absurd this (Nat.lt_irrefl _)
      | succ j => simp at hj; rw [h.dis i j x y hi hj he]

theorem SH.setRow {wb : World} {L : List Blk} {w : World} (h : SH wb L w) (p : Nat) {b : Nat} {c : Array Value} {t : TypeId} (hp : L[p]? = some ⟨b, c, t⟩) (c' : Array Value) :
    SH wb (L.set p ⟨b, c', t⟩) (w.setRow b c') := by
  have hpl : p < L.length := (List.getElem?_eq_some_iff.1 hp).1
  have hmem : (⟨b, c, t⟩ : Blk) ∈ L := List.mem_of_getElem? hp
  have hset : ∀ (i : Nat) (x : Blk), (L.set p ⟨b, c', t⟩)[i]? = some x → ∃ y, L[i]? = some y ∧ y.b = x.b := fun i x hi => by
    by_cases hpi : p = i
    · subst hpi; simp [hpl] at hi; exact ⟨_, hp, by rw [← hi]⟩
    · rw [List.getElem?_set_ne hpi] at hi; exact ⟨x, hi, rfl⟩
  refine ⟨h.os, h.tape, h.output, by simpa using h.size, fun k hk hx => ?_, fun x hx => ?_, fun i j x y hi hj he => ?_⟩
  · have hkb : k ≠ b := fun e => by
      subst e
      have : (⟨k, c', t⟩ : Blk) ∈ L.set p ⟨k, c', t⟩ := List.mem_of_getElem? (i := p) (by simp [hpl])
      exact hx _ this rfl
    rw [setRow_other w b k c' hkb]
    refine h.kept k hk (fun x hx' hxe => ?_)
    obtain ⟨i, hi⟩ := List.getElem?_of_mem hx'
    by_cases hpi : p = i
    · subst hpi; rw [hp] at hi; cases hi; exact hkb hxe.symm
    · exact hx x (List.mem_of_getElem? (i := i) (by rw [List.getElem?_set_ne hpi]; exact hi)) hxe
  · obtain ⟨i, hi⟩ := List.getElem?_of_mem hx
    by_cases hpi : p = i
    · subst hpi
      simp [hpl] at hi
      subst hi
      exact setRow_heap w b c c' t _ (h.blk _ hmem)
    · rw [List.getElem?_set_ne hpi] at hi
      have hne : x.b ≠ b := fun e => by
        exact hpi (h.dis p i _ _ hp hi e.symm)
      rw [setRow_other w b _ c' hne]
      exact h.blk x (List.mem_of_getElem? hi)
  · obtain ⟨x', hx', ex⟩ := hset i x hi
    obtain ⟨y', hy', ey⟩ := hset j y hj
    exact h.dis i j x' y' hx' hy' (by rw [ex, ey, he])

theorem SH.cell {wb : World} {L : List Blk} {w : World} (h : SH wb L w) (p : Nat) {b : Nat} {c : Array Value} {t : TypeId} (hp : L[p]? = some ⟨b, c, t⟩) (i : Nat) : w.cell? ⟨b, i, none⟩ = c[i]? :=
  cell_of_row w b i c t (0, 0) (h.blk _ (List.mem_of_getElem? hp))

theorem SH.frozen {wb : World} {L : List Blk} {w : World} (h : SH wb L w) (p : Nat) {b : Nat} {c : Array Value} {t : TypeId} (hp : L[p]? = some ⟨b, c, t⟩) (i : Nat) : w.frozen? ⟨b, i, none⟩ = false :=
  frozen_of_row w b i c t (h.blk _ (List.mem_of_getElem? hp))

theorem SH.still {wb : World} {L : List Blk} {w : World} (h : SH wb L w) {k : Nat} (hk : Im wb L k) : w.heap[k]? = wb.heap[k]? := h.kept k hk.1 hk.2

theorem SH.cellIm {wb : World} {L : List Blk} {w : World} (h : SH wb L w) {k : Nat} (hk : Im wb L k) (i : Nat) : w.cell? ⟨k, i, none⟩ = wb.cell? ⟨k, i, none⟩ :=
  World.cell?_of_block (w := wb) (w' := w) (a := ⟨k, i, none⟩) (h.still hk)

/-! ### Types -/
/-- how a variable of the type is read: one cell, or so many -/
def kindOf (P : Program) (T : TypeId) : Option (Option Nat) :=
  match P.underlying T, P.info? T with
  | some (.struct _), some i | some (.array _ _), some i => some (some i.size)
  | some _, some i => if i.size = 1 then some none else none
  | _, _ => none

section
variable {P : Program} {ops : Array Oper} {Q : Exit → Act → World → Prop} {n : Nat}

theorem run_load_one (w : World) (T : TypeId) (a : Addr) (v : Value) (hk : kindOf P T = some none) (hc : w.cell? a = some v) : (loadVar T a).run P w = .ok v w := by
  unfold kindOf at hk
  split at hk
  · simp at hk
  · simp at hk
  · rename_i d i hns hna hu hi
    have hagg : (isAgg T).run P w = .ok false w := by
      unfold isAgg
      rw [Sem.run_bind, run_underlying hu w]
      cases d <;> simp_all
    simp [loadVar, hagg, load, Sem.run, hc]
  · cases hk

theorem run_load_many (w : World) (T : TypeId) (b o : Nat) (cs : List Value) (hk : kindOf P T = some (some cs.length)) (hc : w.rangeAt b o cs) : (loadVar T ⟨b, o, none⟩).run P w = .ok (.agg cs.toArray) w := by
  unfold kindOf at hk
  split at hk
  · rename_i fs i hu hi
    exact run_loadVar_mid w b o T cs _ hc hu rfl (by rw [hi]; simpa using hk)
  · rename_i m e i hu hi
    exact run_loadVar_mid w b o T cs _ hc hu rfl (by rw [hi]; simpa using hk)
  · split at hk <;> simp at hk
  · cases hk

/-- a variable read out of a known row of cells -/
def readAt (P : Program) (T : TypeId) (c : Array Value) (off : Nat) : Option Value :=
  match kindOf P T with
  | some none => c[off]?
  | some (some s) => if off + s ≤ c.size then some (.agg (c.extract off (off + s))) else none
  | none => none

theorem rangeAt_row {w : World} {b : Nat} {c : Array Value} (hc : ∀ i, w.cell? ⟨b, i, none⟩ = c[i]?) (o s : Nat) : w.rangeAt b o (c.extract o (o + s)).toList := fun j v hv => by
  rw [hc]
  simp only [Array.getElem?_toList, Array.getElem?_extract] at hv
  split at hv
  · exact hv
  · cases hv

theorem run_readAt (w : World) (T : TypeId) (b off : Nat) (c : Array Value) (v : Value) (hc : ∀ i, w.cell? ⟨b, i, none⟩ = c[i]?) (hv : readAt P T c off = some v) :
    (loadVar T ⟨b, off, none⟩).run P w = .ok v w := by
  unfold readAt at hv
  split at hv
  · rename_i hk
    exact run_load_one w T _ v hk (by rw [hc]; exact hv)
  · rename_i s hk
    split at hv
    · rename_i hle
      cases hv
      have hlen : (c.extract off (off + s)).toList.length = s := by simp; omega
      have := run_load_many (P := P) w T b off (c.extract off (off + s)).toList (by rw [hlen]; exact hk) (rangeAt_row hc off s)
      rwa [Array.toArray_toList] at this
    · cases hv
  · cases hv

theorem yl_load {e : Env} {wb : World} {L : List Blk} {o : Oper} {T : TypeId} {x : Operand} {b off : Nat} {c : Array Value} {t : TypeId} {v : Value} (p : Nat) (ho : o.op = .load T x)
    (hx : rho e x = .pointer (some ⟨b, off, none⟩)) (hp : L[p]? = some ⟨b, c, t⟩) (hv : readAt P T c off = some v) : Yl P (SH wb L) e o v := fun w hw => by
  unfold execOp
  simp only [ho, hx, Instr.loadAt, Instr.sureAddr, Sem.run_bind, Sem.run_pure, Result.andThen_ok, run_readAt w T b off c v (fun i => hw.cell p hp i) hv]

theorem yl_load_im {e : Env} {wb : World} {L : List Blk} {o : Oper} {T : TypeId} {x : Operand} {b off : Nat} {v : Value} (ho : o.op = .load T x)
    (hx : rho e x = .pointer (some ⟨b, off, none⟩)) (hI : Im wb L b) (hk : kindOf P T = some none) (hv : wb.cell? ⟨b, off, none⟩ = some v) : Yl P (SH wb L) e o v := fun w hw => by
  unfold execOp
  simp only [ho, hx, Instr.loadAt, Instr.sureAddr, Sem.run_bind, Sem.run_pure, Result.andThen_ok, run_load_one w T _ v hk (by rw [hw.cellIm hI]; exact hv)]

theorem yl_loads_im {e : Env} {wb : World} {L : List Blk} {o : Oper} {T : TypeId} {x : Operand} {b off : Nat} {cs : List Value} (ho : o.op = .load T x)
    (hx : rho e x = .pointer (some ⟨b, off, none⟩)) (hI : Im wb L b) (hk : kindOf P T = some (some cs.length)) (hv : wb.rangeAt b off cs) : Yl P (SH wb L) e o (.agg cs.toArray) := fun w hw => by
  unfold execOp
  simp only [ho, hx, Instr.loadAt, Instr.sureAddr, Sem.run_bind, Sem.run_pure, Result.andThen_ok, run_load_many w T b off cs hk (fun j v hj => by rw [hw.cellIm hI]; exact hv j v hj)]

/-- a variable written into a known row of cells -/
def writeAt (P : Program) (T : TypeId) (c : Array Value) (off : Nat) (v : Value) : Option (Array Value) :=
  match P.info? T with
  | some i => if i.size = v.cells.size ∧ off + v.cells.size ≤ c.size ∧ v.cells.all (·.oneCell') = true
      then some (c.toList.take off ++ v.cells.toList ++ c.toList.drop (off + v.cells.size)).toArray else none
  | none => none

theorem run_writeAt (w : World) (T : TypeId) (b off : Nat) (c c' : Array Value) (t : TypeId) (v : Value) (hb : w.heap[b]? = some (.cells c t (0, 0))) (hv : writeAt P T c off v = some c') :
    (storeVar T ⟨b, off, none⟩ v).run P w = .ok () (w.setRow b c') := by
  unfold writeAt at hv
  split at hv
  · rename_i i hi
    split at hv
    · rename_i h
      obtain ⟨h1, h2, h3⟩ := h
      cases hv
      have := run_storeCells_at P b off t v.cells.toList 0 c w hb (by simpa using h2) (fun u hu => (Array.all_eq_true_iff_forall_mem.1 h3) u (by simpa using hu))
      simp only [Nat.add_zero, Array.length_toList] at this
      simp [storeVar, sizeOf, typeInfo, hi, h1, this]
    · cases hv
  · cases hv

theorem wl_store {e : Env} {wb : World} {L L' : List Blk} {o : Oper} {rest : List Oper} {T : TypeId} {x y : Operand} {b off : Nat} {c c' : Array Value} {t : TypeId} {v : Value} (p : Nat)
    (hf : fit ops n e o none = true) (ho : o.op = .store T x y) (hx : rho e x = .pointer (some ⟨b, off, none⟩)) (hy : rho e y = v) (hp : L[p]? = some ⟨b, c, t⟩)
    (hv : writeAt P T c off v = some c') (hL : L.set p ⟨b, c', t⟩ = L')
    (k : WL P ops Q n e (SH wb L') rest) : WL P ops Q n e (SH wb L) (o :: rest) := by
  obtain ⟨h1, h2, h3⟩ := fit_none hf
  refine wl_skip (SH wb L') h1 h2 h3 (fun w hw => ⟨w.setRow b c', ?_, hL ▸ hw.setRow p hp c'⟩) k
  unfold execOp
  simp only [ho, hx, hy, Instr.storeAt, Instr.sureAddr, Sem.run_bind, Sem.run_pure, Result.andThen_ok, run_writeAt w T b off c c' t v (hw.blk _ (List.mem_of_getElem? hp)) hv]

/-- an operation that makes one block -/
def newAt (P : Program) (r : Nat) : Sem Next → Option (Obj × Next)
  | .new o k => (pureVal P (k r)).map fun x => (o, x)
  | .program k => newAt P r (k P)
  | .mark _ k => newAt P r k
  | _ => none

theorem newAt_run (s : Sem Next) (w : World) (o : Obj) (x : Next) (h : newAt P w.heap.size s = some (o, x)) : s.run P w = .ok x (w.alloc o) := by
  induction s with
  | new ob k ih =>
    simp only [newAt, Option.map_eq_some_iff] at h
    obtain ⟨y, hy, he⟩ := h
    cases he
    simp only [Sem.run]
    exact pureVal_run _ _ hy _
  | program k ih => simp only [newAt] at h; simp only [Sem.run]; exact ih P h
  | mark m k ih => simp only [newAt] at h; simp only [Sem.run]; exact ih h
  | _ => simp [newAt] at h

theorem wl_new {e : Env} {wb : World} {L : List Blk} {o : Oper} {rest : List Oper} {d : Nat} (C : Array Value) (T : TypeId) (V : Nat → Value)
    (hf : fit ops n e o (some d) = true) (hn : ∀ r, newAt P r (execOp (rho e) o) = some (.cells C T (0, 0), .value (V r)))
    (k : ∀ r, wb.heap.size ≤ r → WL P ops Q n ((d, V r) :: e) (SH wb (⟨r, C, T⟩ :: L)) rest) : WL P ops Q n e (SH wb L) (o :: rest) := by
  obtain ⟨h1, h2, h3, h4⟩ := fit_some hf
  refine wl_run (σ := { r : Nat // wb.heap.size ≤ r }) (fun r => V r.1) (fun r => SH wb (⟨r.1, C, T⟩ :: L)) h1 h2 h3 h4 (fun w hw => ⟨⟨w.heap.size, hw.size⟩, w.alloc (.cells C T), newAt_run _ w _ _ (hn _), hw.alloc C T⟩) (fun r => k r.1 r.2)

/-- the same where it is the one operation that may come up in a region that draws -/
theorem wd_new {m f : Nat} {e : Env} {wb : World} {L L0 : List Blk} {listed : Array Bool} {oi : Oper} {d : Nat} (i : Nat) (C : Array Value) (T : TypeId) (V : Nat → Value)
    (hi : ops[i]? = some oi) (him : i < m) (hr : Region.ready .any ops listed = [i]) (hf : fit ops n e oi (some d) = true)
    (hn : ∀ r, newAt P r (execOp (rho e) oi) = some (.cells C T (0, 0), .value (V r))) (hS : ∀ r w, SH wb (⟨r, C, T⟩ :: L) w → SH wb L0 w)
    (k : ∀ r, wb.heap.size ≤ r → WD P ops Q n m (SH wb L0) (SH wb (⟨r, C, T⟩ :: L)) f (listed.setIfInBounds i true) ((d, V r) :: e)) : WD P ops Q n m (SH wb L0) (SH wb L) (f + 1) listed e :=
  wd_one i (σ := { r : Nat // wb.heap.size ≤ r }) (fun r => V r.1) (fun r => SH wb (⟨r.1, C, T⟩ :: L)) hi him hr hf
    (fun w hw => ⟨⟨w.heap.size, hw.size⟩, w.alloc (.cells C T), newAt_run _ w _ _ (hn _), hw.alloc C T⟩) (fun r w h => hS r.1 w h) (fun r => k r.1 r.2)

/-! ### Bases -/
theorem SH.tail {wb : World} {x : Blk} {L : List Blk} {w : World} (h : SH wb (x :: L) w) (hx : wb.heap.size ≤ x.b) : SH wb L w :=
  ⟨h.os, h.tape, h.output, h.size, fun k hk hL => h.kept k hk (fun y hy => by
    rcases List.mem_cons.1 hy with rfl | hy
    · omega
    · exact hL y hy), fun y hy => h.blk y (List.mem_cons_of_mem _ hy),
   fun i j y z hi hj he => by have := h.dis (i + 1) (j + 1) y z (by simpa using hi) (by simpa using hj) he; omega⟩

/-- behind a call that leaves every old block alone -/
theorem SH.after {wb : World} {L : List Blk} {w w' : World} (h : SH wb L w) (hb : Below w.heap.size w w') : SH w' L w' :=
  ⟨rfl, rfl, rfl, Nat.le_refl _, fun _ _ _ => rfl, fun x hx => by rw [hb.block _ (h.lt hx)]; exact h.blk x hx, h.dis⟩

/-- ditto, the elder base kept -/
theorem SH.keep {wb : World} {L : List Blk} {w w' : World} (h : SH wb L w) (hb : Below w.heap.size w w') : SH wb L w' :=
  ⟨hb.os.trans h.os, hb.tape.trans h.tape, hb.output.trans h.output, Nat.le_trans h.size hb.size, fun k hk hx => by rw [hb.block _ (Nat.lt_of_lt_of_le hk h.size)]; exact h.kept k hk hx,
   fun x hx => by rw [hb.block _ (h.lt hx)]; exact h.blk x hx, h.dis⟩

/-- what is known of the still blocks of one base holds of another -/
structure Tr (wb : World) (L : List Blk) (wb' : World) (L' : List Blk) : Prop where
  os : wb'.os = wb.os
  tape : wb'.tape = wb.tape
  output : wb'.output = wb.output
  size : wb.heap.size ≤ wb'.heap.size
  im : ∀ k, Im wb L k → Im wb' L' k
  same : ∀ k, Im wb L k → wb'.heap[k]? = wb.heap[k]?

theorem Tr.refl (wb : World) (L : List Blk) : Tr wb L wb L := ⟨rfl, rfl, rfl, Nat.le_refl _, fun _ h => h, fun _ _ => rfl⟩
theorem Tr.trans {a b c : World} {L M N : List Blk} (h : Tr a L b M) (k : Tr b M c N) : Tr a L c N :=
  ⟨k.os.trans h.os, k.tape.trans h.tape, k.output.trans h.output, Nat.le_trans h.size k.size, fun i hi => k.im i (h.im i hi), fun i hi => (k.same i (h.im i hi)).trans (h.same i hi)⟩
/-- what was there below B when the call began, where the known blocks lie from B on -/
theorem Tr.below {wb wb' : World} {L L' : List Blk} (h : Tr wb L wb' L') {B : Nat} (hB : B ≤ wb.heap.size) (hL : ∀ x ∈ L, B ≤ x.b) : Below B wb wb' :=
  ⟨h.os, h.tape, h.output, h.size, fun k hk => h.same k ⟨by omega, fun x hx => by have := hL x hx; omega⟩⟩

theorem SH.tr {wb : World} {L : List Blk} {w w' : World} (h : SH wb L w) (hb : Below w.heap.size w w') : Tr wb L w' L :=
  ⟨hb.os.trans h.os, hb.tape.trans h.tape, hb.output.trans h.output, Nat.le_trans h.size hb.size, fun k hk => ⟨Nat.lt_of_lt_of_le hk.1 (Nat.le_trans h.size hb.size), hk.2⟩, fun k hk => by rw [hb.block _ (Nat.lt_of_lt_of_le hk.1 h.size)]; exact h.still hk⟩

theorem SH.here {wb : World} {L : List Blk} {w : World} (h : SH wb L w) : SH w L w :=
  ⟨rfl, rfl, rfl, Nat.le_refl _, fun _ _ _ => rfl, h.blk, h.dis⟩

theorem SH.trHere {wb : World} {L : List Blk} {w : World} (h : SH wb L w) : Tr wb L w L :=
  ⟨h.os, h.tape, h.output, h.size, fun k hk => ⟨Nat.lt_of_lt_of_le hk.1 h.size, hk.2⟩, fun k hk => h.still hk⟩

/-- all that was there when the call began is as it was, where the known blocks are new -/
theorem SH.below {wb : World} {L : List Blk} {w : World} (h : SH wb L w) {B : Nat} {w0 : World} (h0 : Below B w0 wb) (hB : B ≤ wb.heap.size) (hL : ∀ x ∈ L, B ≤ x.b) : Below B w0 w :=
  h0.trans ⟨h.os, h.tape, h.output, h.size, fun k hk => h.kept k (by omega) (fun x hx => by have := hL x hx; omega)⟩


theorem ret_cell {fn : Func} {R : Ending → World → Prop} {e : Env} {wb : World} {L : List Blk} {a T : Nat} {b off : Nat} {c : Array Value} {t : TypeId} {v : Value} (p : Nat) (hr : fn.results = #[.cell a T])
    (ha : look e a = some (.pointer (some ⟨b, off, none⟩))) (hp : L[p]? = some ⟨b, c, t⟩) (hv : readAt P T c off = some v) (hR : ∀ w, SH wb L w → R (.returned v) w) :
    ∀ x w, Has e n x → SH wb L w → bodyPost P fn R .ret x w := fun x w hx hw => by
  refine bodyPost_ret (v := v) ?_ hx.defers (hR w hw)
  have h1 := hx.at_ a _ ha
  have h2 := run_readAt w T b off c v (fun i => hw.cell p hp i) hv
  simp [results, hr, h1, asAddr, h2]

/-- the address of a slice's element -/
theorem yl_index {e : Env} {S : World → Prop} {o : Oper} {T E : TypeId} {x y : Operand} {b off len cap k es : Nat} (ho : o.op = .indexAddr T x y)
    (hT : (P.underlying T, (P.info? E).map (·.size)) = (some (.slice E), some es)) (hx : rho e x = .slice (some ⟨b, off, none⟩) len cap) (hy : rho e y = .int .i64 (k : Int)) (hk : k < len) :
    Yl P S e o (.pointer (some ⟨b, off + k * es, none⟩)) := fun w _ => by
  simp only [Prod.mk.injEq] at hT
  obtain ⟨hu, hi⟩ := hT
  cases hq : P.info? E with
  | none => simp [hq] at hi
  | some i =>
    have hs : i.size = es := by simpa [hq] using hi
    have hadd : (⟨b, off, none⟩ : Addr).add (k * es) = ⟨b, off + k * es, none⟩ := by unfold Addr.add; split <;> simp_all
    unfold execOp
    simp [ho, hx, hy, Instr.indexAt, asIntOf, run_underlying hu, hk, sizeOf, typeInfo, hq, hs, hadd]
end
end Go.Sx

namespace Go.Sx
open Go.RowKit
set_option linter.unusedVariables false

/-- the slice v of n elements (of type E, 'size' cells each) owns the cells xs; R: its block, if it has one -/
def Own (E size : Nat) (v : Value) (n : Nat) (xs : List Value) (R : List Blk) : Prop :=
  xs.length = n * size ∧ ((v = .slice none 0 0 ∧ n = 0 ∧ R = []) ∨
    ∃ g cap c, v = .slice (some ⟨g, 0, none⟩) n cap ∧ R = [⟨g, c, E⟩] ∧ n ≤ cap ∧ cap ≤ maxLen ∧ c.size = cap * size ∧ c.toList.take (n * size) = xs)

theorem Own.nil (E size : Nat) : Own E size (.slice none 0 0) 0 [] [] := ⟨by simp, .inl ⟨rfl, rfl, rfl⟩⟩

theorem Tr.drewAlloc {wb : World} {L R R' : List Blk} {w : World} (h : SH wb (R ++ L) w) (C : Array Value) (T : TypeId) :
    SH (w.drew.alloc (.cells C T)) ([⟨w.heap.size, C, T⟩] ++ L) (w.drew.alloc (.cells C T)) ∧ Tr wb (R ++ L) (w.drew.alloc (.cells C T)) ([⟨w.heap.size, C, T⟩] ++ L) := by
  have hL : SH w L w := ⟨rfl, rfl, rfl, Nat.le_refl _, fun _ _ _ => rfl, fun x hx => h.blk x (List.mem_append_right _ hx), fun i j x y hi hj he => by
    have := h.dis (R.length + i) (R.length + j) x y (by rw [List.getElem?_append_right (by omega)]; simpa using hi) (by rw [List.getElem?_append_right (by omega)]; simpa using hj) he
    omega⟩
  have ha := (hL.drew).alloc C T
  refine ⟨ha.here, ?_⟩
  refine ⟨h.os, h.tape, h.output, Nat.le_trans h.size (show w.heap.size ≤ (w.drew.alloc (.cells C T)).heap.size by rw [World.size_alloc]; exact Nat.le_succ _), fun k hk => ⟨Nat.lt_of_lt_of_le hk.1 (Nat.le_trans h.size (show w.heap.size ≤ (w.drew.alloc (.cells C T)).heap.size by rw [World.size_alloc]; exact Nat.le_succ _)), fun x hx => ?_⟩, fun k hk => ?_⟩
  · rcases List.mem_append.1 hx with hx | hx
    · simp only [List.mem_singleton] at hx
      subst hx
      have := hk.1
      have := h.size
      show w.heap.size ≠ k
      omega
    · exact hk.2 x (List.mem_append_right _ hx)
  · rw [Below.heap_alloc _ _ _ (show k < w.drew.heap.size from Nat.lt_of_lt_of_le hk.1 h.size)]
    exact h.still hk

section
variable {P : Program} {ops : Array Oper} {Q : Exit → Act → World → Prop} {n : Nat}

theorem append_sh {wb : World} {L R : List Blk} {w : World} (t ty E : TypeId) (z : Value) (size bytes : Nat)
    (hT : (P.underlying t, (P.info? E).map (fun i => (i.zero, i.size, i.bytes))) = (some (.slice E), some (some z, size, bytes))) (hz : z.cells.size = size) (hs0 : 0 < size)
    (v : Value) (k : Nat) (xs : List Value) (hown : Own E size v k xs R) (h : SH wb (R ++ L) w)
    (a : Addr) (m c : Nat) (news : List Value) (hl : news.length = m * size) (hnews : ∀ j u, news[j]? = some u → w.cell? (a.add j) = some u) (h1 : ∀ u ∈ news, u.oneCell' = true)
    (h63 : k + m ≤ maxLen) (hby : (k + m) * bytes ≤ 140737488355328) :
    ∃ v' R' w', (Builtin.append_ #[t, t] ty #[v, .slice (some a) m c]).run P w = .ok v' w' ∧ Own E size v' (k + m) (xs ++ news) R' ∧ SH w' (R' ++ L) w' ∧ Tr wb (R ++ L) w' (R' ++ L) ∧ ∃ R1, R1.map (·.b) = R.map (·.b) ∧ SH wb (R1 ++ L) w' := by
  simp only [Prod.mk.injEq] at hT
  obtain ⟨ht, hi0⟩ := hT
  cases hi : P.info? E with
  | none => simp [hi] at hi0
  | some i =>
    simp only [hi, Option.map_some, Option.some.injEq, Prod.mk.injEq] at hi0
    obtain ⟨hzi, hsz, hbz⟩ := hi0
    subst hsz
    subst hbz
    have hsmall : k + m ≤ 9223372036854775807 := by simp only [maxLen] at h63; omega
    have hlen : (xs ++ news).length = (k + m) * i.size := by rw [List.length_append, hown.1, hl, Nat.add_mul]
    have grown : ∀ old, Own E i.size (.slice (some ⟨w.heap.size, 0, none⟩) (k + m) (grownCap w (k + m) old E)) (k + m) (xs ++ news)
        [⟨w.heap.size, xs.toArray ++ news.toArray ++ Builtin.zeroCells z.cells (grownCap w (k + m) old E - (k + m)), E⟩] := by
      intro old
      have hge := grownCap_ge w (k + m) old E
      refine ⟨hlen, .inr ⟨_, _, _, rfl, rfl, hge, grownCap_le_maxLen w (k + m) old E h63, ?_, ?_⟩⟩
      · simp only [Array.size_append, List.size_toArray, size_zeroCells, hz, hown.1, hl, ← Nat.add_mul]
        congr 1
        omega
      · simp only [Array.toList_append, List.append_assoc]
        rw [← List.append_assoc, ← hlen]
        exact List.take_left
    rcases hown.2 with ⟨rfl, rfl, rfl⟩ | ⟨g, cap, cur, rfl, rfl, hnc, hcm, hcs, htake⟩
    · have hx : xs = [] := List.eq_nil_of_length_eq_zero (by simpa using hown.1)
      subst hx
      by_cases hm : m = 0
      · subst hm
        have hn : news = [] := List.eq_nil_of_length_eq_zero (by simpa using hl)
        subst hn
        refine ⟨.slice none 0 0, [], w, ?_, Own.nil E i.size, h.here, h.trHere, [], rfl, h⟩
        simp [Builtin.append_, run_underlying ht, sizeOf, typeInfo, hi, Builtin.lenOf, Builtin.firstCells, loadCells, loadCellsFrom]
      · have hr := run_append_nil (P := P) w t ty E i z ht hi hzi a m c news hl hnews (by omega) (by omega) (by simp only [Nat.zero_add] at hby; omega)
        have hg := grown 0
        have hd := Tr.drewAlloc (R' := []) h (news.toArray ++ Builtin.zeroCells z.cells (grownCap w m 0 E - m)) E
        simp only [Nat.zero_add, List.nil_append, Array.empty_append] at hg ⊢
        exact ⟨_, _, _, hr, hg, hd.1, hd.2, [], rfl, (h.drew.alloc _ _).tail h.size⟩
    · have hb : w.heap[g]? = some (.cells cur E (0, 0)) := h.blk ⟨g, cur, E⟩ (by simp)
      by_cases hroom : k + m ≤ cap
      · have hfit : k * i.size + news.length ≤ cur.size := by rw [hl, hcs, ← Nat.add_mul]; exact Nat.mul_le_mul_right _ hroom
        have hr := run_append_room (P := P) w t ty E i ht hi g k cap cur hb a m c news hl hnews h1 hroom hfit
        have hs := h.setRow 0 (b := g) (c := cur) (t := E) rfl (cur.toList.take (k * i.size) ++ news ++ cur.toList.drop (k * i.size + news.length)).toArray
        refine ⟨_, [⟨g, (cur.toList.take (k * i.size) ++ news ++ cur.toList.drop (k * i.size + news.length)).toArray, E⟩], _, hr, ⟨hlen, .inr ⟨g, cap, _, rfl, rfl, hroom, hcm, ?_, ?_⟩⟩, hs.here, ?_, [⟨g, (cur.toList.take (k * i.size) ++ news ++ cur.toList.drop (k * i.size + news.length)).toArray, E⟩], rfl, hs⟩
        · simp only [List.size_toArray, List.length_append, List.length_take, List.length_drop, Array.length_toList]
          omega
        · rw [htake, ← hlen]
          exact List.take_left
        · have := hs.trHere
          refine ⟨this.os, this.tape, this.output, this.size, fun j hj => this.im j ⟨hj.1, fun x hx => ?_⟩, fun j hj => this.same j ⟨hj.1, fun x hx => ?_⟩⟩
          all_goals
            have hx' : x ∈ ({ b := g, c := _, t := E } : Blk) :: L := hx
            rcases List.mem_cons.1 hx' with rfl | hx'
            · exact hj.2 ⟨g, cur, E⟩ (by simp)
            · exact hj.2 x (List.mem_append_right _ hx')
      · have holds : ∀ j u, xs[j]? = some u → w.cell? ((⟨g, 0, none⟩ : Addr).add j) = some u := fun j u hu => by
          have hadd : (⟨g, 0, none⟩ : Addr).add j = ⟨g, j, none⟩ := by unfold Addr.add; split <;> simp_all
          rw [hadd, cell_of_row w g j cur E (0, 0) hb]
          rw [← htake, List.getElem?_take] at hu
          split at hu
          · simpa using hu
          · cases hu
        have hr := run_append_grow (P := P) w t ty E i z ht hi hzi ⟨g, 0, none⟩ k cap xs hown.1 holds a m c news hl hnews (by omega) (by omega) (growslice_fits (by omega) hby)
        have hd := Tr.drewAlloc (R' := []) h (xs.toArray ++ news.toArray ++ Builtin.zeroCells z.cells (grownCap w (k + m) cap E - (k + m))) E
        exact ⟨_, _, _, hr, grown cap, hd.1, hd.2, _, rfl, (h.drew.alloc _ _).tail h.size⟩

theorem wl_append {e : Env} {wb : World} {L R : List Blk} {o : Oper} {rest : List Oper} {d : Nat} {s x : Operand} {t : TypeId} (E : TypeId) (z : Value) (size bytes : Nat) {v : Value} {k : Nat} {xs : List Value} {a : Addr} {m c : Nat} (news : List Value)
    (hf : fit ops n e o (some d) = true) (ho : o.op = .call { callee := .builtin .append, args := #[s, x], argTypes := #[t, t] })
    (hT : (P.underlying t, (P.info? E).map (fun i => (i.zero, i.size, i.bytes))) = (some (.slice E), some (some z, size, bytes))) (hz : z.cells.size = size) (hs0 : 0 < size)
    (hs : rho e s = v) (hown : Own E size v k xs R) (hx : rho e x = .slice (some a) m c) (hl : news.length = m * size)
    (hnews : ∀ w, SH wb (R ++ L) w → ∀ j u, news[j]? = some u → w.cell? (a.add j) = some u) (h1 : ∀ u ∈ news, u.oneCell' = true)
    (h63 : k + m ≤ maxLen) (hby : (k + m) * bytes ≤ 140737488355328)
    (kk : ∀ w' v' R', Own E size v' (k + m) (xs ++ news) R' → Tr wb (R ++ L) w' (R' ++ L) → WL P ops Q n ((d, v') :: e) (SH w' (R' ++ L)) rest) : WL P ops Q n e (SH wb (R ++ L)) (o :: rest) := by
  obtain ⟨h1', h2, h3, h4⟩ := fit_some hf
  refine wl_run (σ := { x : World × Value × List Blk // Own E size x.2.1 (k + m) (xs ++ news) x.2.2 ∧ Tr wb (R ++ L) x.1 (x.2.2 ++ L) }) (fun x => x.1.2.1) (fun x => SH x.1.1 (x.1.2.2 ++ L)) h1' h2 h3 h4 (fun w hw => ?_) (fun x => kk x.1.1 x.1.2.1 x.1.2.2 x.2.1 x.2.2)
  obtain ⟨v', R', w', hr, ho', hsh, htr, _⟩ := append_sh (P := P) t o.type E z size bytes hT hz hs0 v k xs hown hw a m c news hl (hnews w hw) h1 h63 hby
  refine ⟨⟨(w', v', R'), ho', htr⟩, w', ?_, hsh⟩
  unfold execOp
  simp only [ho, resolve, invoke, builtin, Sem.run_bind, Sem.run_pure, Result.andThen_ok, List.map_toArray, List.map_cons, List.map_nil, hs, hx, hr]


/-- the order of the known blocks is of no account -/
theorem SH.perm {wb : World} {L L' : List Blk} {w : World} (h : SH wb L w) (hm : ∀ x, x ∈ L' ↔ x ∈ L) (hd : ∀ (i j : Nat) (x y : Blk), L'[i]? = some x → L'[j]? = some y → x.b = y.b → i = j) : SH wb L' w :=
  ⟨h.os, h.tape, h.output, h.size, fun k hk hx => h.kept k hk (fun x hL => hx x ((hm x).2 hL)), fun x hx => h.blk x ((hm x).1 hx), hd⟩
theorem SH.swap {wb : World} {A R : List Blk} {w : World} (h : SH wb (A ++ R) w) : SH wb (R ++ A) w := by
  refine h.perm (fun x => by simp only [List.mem_append]; exact or_comm) (fun i j x y hi hj he => ?_)
  have look : ∀ (i : Nat) (x : Blk), (R ++ A)[i]? = some x → ∃ i', (A ++ R)[i']? = some x ∧ ((i < R.length ∧ i' = A.length + i) ∨ (R.length ≤ i ∧ i' = i - R.length ∧ i' < A.length)) := fun i x hi => by
    by_cases hl : i < R.length
    · rw [List.getElem?_append_left hl] at hi
      exact ⟨A.length + i, by rw [List.getElem?_append_right (by omega)]; simpa using hi, .inl ⟨hl, rfl⟩⟩
    · rw [List.getElem?_append_right (by omega)] at hi
      have hA := (List.getElem?_eq_some_iff.1 hi).1
      exact ⟨i - R.length, by rw [List.getElem?_append_left hA]; exact hi, .inr ⟨by omega, rfl, hA⟩⟩
  obtain ⟨i', hi', e1⟩ := look i x hi
  obtain ⟨j', hj', e2⟩ := look j y hj
  have := h.dis i' j' x y hi' hj' he
  rcases e1 with ⟨a1, a2⟩ | ⟨a1, a2, a3⟩ <;> rcases e2 with ⟨b1, b2⟩ | ⟨b1, b2, b3⟩ <;> omega
theorem Tr.swap {wb w' : World} {A R A' R' : List Blk} (h : Tr wb (R ++ A) w' (R' ++ A')) : Tr wb (A ++ R) w' (A' ++ R') :=
  ⟨h.os, h.tape, h.output, h.size, fun k hk => by
    have := h.im k ⟨hk.1, fun x hx => hk.2 x (by simp only [List.mem_append] at hx ⊢; exact hx.symm)⟩
    exact ⟨this.1, fun x hx => this.2 x (by simp only [List.mem_append] at hx ⊢; exact hx.symm)⟩,
   fun k hk => h.same k ⟨hk.1, fun x hx => hk.2 x (by simp only [List.mem_append] at hx ⊢; exact hx.symm)⟩⟩

/-- append, the row's block behind the others -/
theorem wl_append' {e : Env} {wb : World} {L R : List Blk} {o : Oper} {rest : List Oper} {d : Nat} {s x : Operand} {t : TypeId} (E : TypeId) (z : Value) (size bytes : Nat) {v : Value} {k : Nat} {xs : List Value} {a : Addr} {m c : Nat} (news : List Value)
    (hf : fit ops n e o (some d) = true) (ho : o.op = .call { callee := .builtin .append, args := #[s, x], argTypes := #[t, t] })
    (hT : (P.underlying t, (P.info? E).map (fun i => (i.zero, i.size, i.bytes))) = (some (.slice E), some (some z, size, bytes))) (hz : z.cells.size = size) (hs0 : 0 < size)
    (hs : rho e s = v) (hown : Own E size v k xs R) (hx : rho e x = .slice (some a) m c) (hl : news.length = m * size)
    (hnews : ∀ w, SH wb (L ++ R) w → ∀ j u, news[j]? = some u → w.cell? (a.add j) = some u) (h1 : ∀ u ∈ news, u.oneCell' = true)
    (h63 : k + m ≤ maxLen) (hby : (k + m) * bytes ≤ 140737488355328)
    (kk : ∀ w' v' R', Own E size v' (k + m) (xs ++ news) R' → Tr wb (L ++ R) w' (L ++ R') → WL P ops Q n ((d, v') :: e) (SH w' (L ++ R')) rest) : WL P ops Q n e (SH wb (L ++ R)) (o :: rest) := by
  obtain ⟨h1', h2, h3, h4⟩ := fit_some hf
  refine wl_run (σ := { x : World × Value × List Blk // Own E size x.2.1 (k + m) (xs ++ news) x.2.2 ∧ Tr wb (L ++ R) x.1 (L ++ x.2.2) }) (fun x => x.1.2.1) (fun x => SH x.1.1 (L ++ x.1.2.2)) h1' h2 h3 h4 (fun w hw => ?_) (fun x => kk x.1.1 x.1.2.1 x.1.2.2 x.2.1 x.2.2)
  obtain ⟨v', R', w', hr, ho', hsh, htr, _⟩ := append_sh (P := P) t o.type E z size bytes hT hz hs0 v k xs hown hw.swap a m c news hl (hnews w hw) h1 h63 hby
  refine ⟨⟨(w', v', R'), ho', htr.swap⟩, w', ?_, hsh.swap⟩
  unfold execOp
  simp only [ho, resolve, invoke, builtin, Sem.run_bind, Sem.run_pure, Result.andThen_ok, List.map_toArray, List.map_cons, List.map_nil, hs, hx, hr]

/-- what a region with an append keeps: all but the contents of the row's block -/
def SX (wb : World) (L R : List Blk) (w : World) : Prop := ∃ R1 : List Blk, R1.map (·.b) = R.map (·.b) ∧ SH wb (L ++ R1) w
theorem SX.of {wb : World} {L R : List Blk} {w : World} (h : SH wb (L ++ R) w) : SX wb L R w := ⟨R, rfl, h⟩
theorem SX.yl {e : Env} {wb : World} {L R : List Blk} {o : Oper} {v : Value} (h : ∀ R1, Yl P (SH wb (L ++ R1)) e o v) : Yl P (SX wb L R) e o v := fun w hw => by
  obtain ⟨R1, _, hs⟩ := hw
  exact h R1 w hs

/-- append as the one operation that may come up in a region that draws; L0: the known blocks that the region's head keeps; news: in a block that the region has made -/
theorem wd_append {e : Env} {wb : World} {L0 L R : List Blk} {mm f : Nat} {listed : Array Bool} {o : Oper} {d : Nat} {s x : Operand} {t : TypeId} (i : Nat) (E : TypeId) (z : Value) (size bytes : Nat) {v : Value} {k : Nat} {xs : List Value} {a : Addr} {m c : Nat} (news : List Value)
    (hi : ops[i]? = some o) (him : i < mm) (hrd : Region.ready .any ops listed = [i]) (hf : fit ops n e o (some d) = true) (ho : o.op = .call { callee := .builtin .append, args := #[s, x], argTypes := #[t, t] })
    (hT : (P.underlying t, (P.info? E).map (fun i => (i.zero, i.size, i.bytes))) = (some (.slice E), some (some z, size, bytes))) (hz : z.cells.size = size) (hs0 : 0 < size)
    (hs : rho e s = v) (hown : Own E size v k xs R) (hx : rho e x = .slice (some a) m c) (hl : news.length = m * size)
    (hnews : ∀ w, SH wb (L ++ R) w → ∀ j u, news[j]? = some u → w.cell? (a.add j) = some u) (h1 : ∀ u ∈ news, u.oneCell' = true)
    (h63 : k + m ≤ maxLen) (hby : (k + m) * bytes ≤ 140737488355328) (hkeep : ∀ R1 w, SH wb (L ++ R1) w → SH wb (L0 ++ R1) w)
    (kk : ∀ w' v' R', Own E size v' (k + m) (xs ++ news) R' → Tr wb (L ++ R) w' (L ++ R') → WD P ops Q n mm (SX wb L0 R) (SH w' (L ++ R')) f (listed.setIfInBounds i true) ((d, v') :: e)) :
    WD P ops Q n mm (SX wb L0 R) (SH wb (L ++ R)) (f + 1) listed e := by
  intro ac w inv ha hw
  obtain ⟨e1, e2, e3, e4⟩ := fit_some hf
  have him' : i ∈ Region.ready .any ops listed := by rw [hrd]; simp
  refine ⟨by rw [hrd]; simp, fun j hj => ?_⟩
  rw [hrd] at hj
  have : j = i := by simpa using hj
  subst this
  refine ⟨him, ?_⟩
  unfold wpOp
  simp only [hi, guardOf_wanted ha e3, if_true]
  refine .inl ?_
  obtain ⟨v', R', w', hr, ho', hsh, htr, R1, hR1, hs1⟩ := append_sh (P := P) t o.type E z size bytes hT hz hs0 v k xs hown hw.swap a m c news hl (hnews w hw) h1 h63 hby
  unfold Oper.wp
  rw [ha.exec e4]
  have hrun : (execOp (rho e) o).run P w = .ok (.value v') w' := by
    unfold execOp
    simp only [ho, resolve, invoke, builtin, Sem.run_bind, Sem.run_pure, Result.andThen_ok, List.map_toArray, List.map_cons, List.map_nil, hs, hx, hr]
  rw [hrun]
  simp only [Oper.upon, e1]
  exact ⟨⟨R1, hR1, hkeep R1 w' hs1.swap⟩, kk w' v' R' ho' htr.swap _ w' (inv.set him' him) (ha.put d _ e2) hsh.swap⟩

/-- a contract's blocks beside the caller's own -/
theorem SH.frame {wb w w' : World} {A A' L : List Blk} (h : SH wb (A ++ L) w) (ha : SH w' A' w') (ht : Tr w A w' A') : SH w' (A' ++ L) w' ∧ Tr wb (A ++ L) w' (A' ++ L) := by
  have hIm : ∀ x ∈ L, Im w A x.b := fun x hx => ⟨h.lt (List.mem_append_right _ hx), fun y hy he => by
    obtain ⟨i, hi⟩ := List.getElem?_of_mem hy
    obtain ⟨j, hj⟩ := List.getElem?_of_mem hx
    have hil := (List.getElem?_eq_some_iff.1 hi).1
    have := h.dis i (A.length + j) y x (by rw [List.getElem?_append_left hil]; exact hi) (by rw [List.getElem?_append_right (by omega)]; simpa using hj) he
    omega⟩
  have hL : ∀ x ∈ L, w'.heap[x.b]? = some (.cells x.c x.t (0, 0)) := fun x hx => by rw [ht.same x.b (hIm x hx)]; exact h.blk x (List.mem_append_right _ hx)
  refine ⟨⟨rfl, rfl, rfl, Nat.le_refl _, fun _ _ _ => rfl, fun x hx => ?_, fun i j x y hi hj he => ?_⟩, ⟨ht.os.trans h.os, ht.tape.trans h.tape, ht.output.trans h.output, Nat.le_trans h.size ht.size, fun k hk => ?_, fun k hk => ?_⟩⟩
  · rcases List.mem_append.1 hx with hx | hx
    · exact ha.blk x hx
    · exact hL x hx
  · have look : ∀ (i : Nat) (x : Blk), (A' ++ L)[i]? = some x → (i < A'.length ∧ A'[i]? = some x) ∨ (A'.length ≤ i ∧ L[i - A'.length]? = some x) := fun i x hi => by
      by_cases hl : i < A'.length
      · rw [List.getElem?_append_left hl] at hi; exact .inl ⟨hl, hi⟩
      · rw [List.getElem?_append_right (by omega)] at hi; exact .inr ⟨by omega, hi⟩
    rcases look i x hi with ⟨a1, a2⟩ | ⟨a1, a2⟩ <;> rcases look j y hj with ⟨b1, b2⟩ | ⟨b1, b2⟩
    · exact ha.dis i j x y a2 b2 he
    · exact absurd he ((ht.im y.b (hIm y (List.mem_of_getElem? b2))).2 x (List.mem_of_getElem? a2))
    · exact absurd he.symm ((ht.im x.b (hIm x (List.mem_of_getElem? a2))).2 y (List.mem_of_getElem? b2))
    · have := h.dis (A.length + (i - A'.length)) (A.length + (j - A'.length)) x y (by rw [List.getElem?_append_right (by omega)]; simpa using a2) (by rw [List.getElem?_append_right (by omega)]; simpa using b2) he
      omega
  · have h1 := ht.im k ⟨Nat.lt_of_lt_of_le hk.1 h.size, fun x hx => hk.2 x (List.mem_append_left _ hx)⟩
    exact ⟨h1.1, fun x hx => by
      rcases List.mem_append.1 hx with hx | hx
      · exact h1.2 x hx
      · exact hk.2 x (List.mem_append_right _ hx)⟩
  · rw [ht.same k ⟨Nat.lt_of_lt_of_le hk.1 h.size, fun x hx => hk.2 x (List.mem_append_left _ hx)⟩]
    exact h.still hk
theorem SH.part {wb w : World} {A L : List Blk} (h : SH wb (A ++ L) w) : SH w A w :=
  ⟨rfl, rfl, rfl, Nat.le_refl _, fun _ _ _ => rfl, fun x hx => h.blk x (List.mem_append_left _ hx), fun i j x y hi hj he =>
    h.dis i j x y (by rw [List.getElem?_append_left (List.getElem?_eq_some_iff.1 hi).1]; exact hi) (by rw [List.getElem?_append_left (List.getElem?_eq_some_iff.1 hj).1]; exact hj) he⟩
end
end Go.Sx

namespace Go.Sx
open Go.RowKit
set_option linter.unusedVariables false

inductive D where
  | int (n : Int)
  | bool (b : Bool)
  | str (s : ByteArray)
  | sl (rows : List (List D))
  | u8 (n : Nat)
  | pt (rows : List (List D))

mutual
/-- the value v reads as d, out of blocks of S alone -/
def Rd (S : Nat → Prop) (w : World) : D → Value → Prop
  | .int n, v => v = .int .i64 n
  | .bool b, v => v = .bool b
  | .str s, v => v = .string s
  | .sl rows, v => ∃ a cap, v = .slice a rows.length (cap + rows.length) ∧ (rows = [] ∨ ∃ g off, a = some ⟨g, off, none⟩ ∧ S g ∧ g < w.heap.size ∧ RdRows S w rows g off)
  | .u8 n, v => v = .int .u8 n
  | .pt rows, v => (rows = [] ∧ v = .pointer none) ∨ ∃ g off, rows.length = 1 ∧ v = .pointer (some ⟨g, off, none⟩) ∧ S g ∧ g < w.heap.size ∧ RdRows S w rows g off
def RdRows (S : Nat → Prop) (w : World) : List (List D) → Nat → Nat → Prop
  | [], _, _ => True
  | r :: rs, g, off => RdCells S w r g off ∧ RdRows S w rs g (off + r.length)
def RdCells (S : Nat → Prop) (w : World) : List D → Nat → Nat → Prop
  | [], _, _ => True
  | d :: ds, g, off => (∃ v, w.cell? ⟨g, off, none⟩ = some v ∧ Rd S w d v) ∧ RdCells S w ds g (off + 1)
end

theorem Rd.mkSl {S : Nat → Prop} {w : World} {rows : List (List D)} {a : Option Addr} {n cap : Nat} (hn : n = rows.length) (hc : rows.length ≤ cap) (h : rows = [] ∨ ∃ g off, a = some ⟨g, off, none⟩ ∧ S g ∧ g < w.heap.size ∧ RdRows S w rows g off) : Rd S w (.sl rows) (.slice a n cap) := by
  rw [Rd]; exact ⟨a, cap - rows.length, by rw [Nat.sub_add_cancel hc, hn], h⟩
theorem Rd.caps {S : Nat → Prop} {w : World} {rows : List (List D)} {v : Value} (h : Rd S w (.sl rows) v) : ∃ a cap, v = .slice a rows.length cap ∧ rows.length ≤ cap ∧ (rows = [] ∨ ∃ g off, a = some ⟨g, off, none⟩ ∧ S g ∧ g < w.heap.size ∧ RdRows S w rows g off) := by
  rw [Rd] at h; obtain ⟨a, c, rfl, h⟩ := h; exact ⟨a, _, rfl, Nat.le_add_left _ _, h⟩
theorem Rd.cap {S : Nat → Prop} {w : World} {rows : List (List D)} {a : Option Addr} {n c : Nat} (h : Rd S w (.sl rows) (.slice a n c)) : rows.length ≤ c := by
  obtain ⟨_, _, he, hc, _⟩ := h.caps; cases he; exact hc
/-- a list of values reads as a list of data -/
def RdL (S : Nat → Prop) (w : World) : List D → List Value → Prop
  | [], [] => True
  | d :: ds, v :: vs => Rd S w d v ∧ RdL S w ds vs
  | _, _ => False

theorem RdL.length {S : Nat → Prop} {w : World} : ∀ {ds : List D} {vs : List Value}, RdL S w ds vs → ds.length = vs.length
  | [], [], _ => rfl
  | _ :: _, _ :: _, h => by simp [RdL.length h.2]
  | [], _ :: _, h => h.elim
  | _ :: _, [], h => h.elim

theorem RdL.append {S : Nat → Prop} {w : World} : ∀ {ds ds' : List D} {vs vs' : List Value}, RdL S w ds vs → RdL S w ds' vs' → RdL S w (ds ++ ds') (vs ++ vs')
  | [], _, [], _, _, h' => h'
  | _ :: _, _, _ :: _, _, h, h' => ⟨h.1, RdL.append h.2 h'⟩
  | [], _, _ :: _, _, h, _ => h.elim
  | _ :: _, _, [], _, h, _ => h.elim

theorem RdL.split {S : Nat → Prop} {w : World} : ∀ {ds ds' : List D} {vs : List Value}, RdL S w (ds ++ ds') vs → ∃ u u', vs = u ++ u' ∧ RdL S w ds u ∧ RdL S w ds' u'
  | [], _, vs, h => ⟨[], vs, rfl, trivial, h⟩
  | d :: ds, ds', [], h => h.elim
  | d :: ds, ds', v :: vs, h => by
    obtain ⟨u, u', rfl, h1, h2⟩ := RdL.split (ds := ds) (ds' := ds') h.2
    exact ⟨v :: u, u', rfl, ⟨h.1, h1⟩, h2⟩

/-- the cells of a row, out of memory -/
theorem RdCells.vals {S : Nat → Prop} {w : World} : ∀ {ds : List D} {g off : Nat}, RdCells S w ds g off → ∃ vs, RdL S w ds vs ∧ w.rangeAt g off vs
  | [], _, _, _ => ⟨[], trivial, fun j v h => by simp at h⟩
  | d :: ds, g, off, h => by
    obtain ⟨v, hv, hd⟩ := h.1
    obtain ⟨vs, h1, h2⟩ := RdCells.vals (ds := ds) h.2
    refine ⟨v :: vs, ⟨hd, h1⟩, fun j u hj => ?_⟩
    cases j with
    | zero => simp at hj; subst hj; exact hv
    | succ j => simp at hj; have := h2 j u hj; rwa [show off + (j + 1) = off + 1 + j by omega]

theorem RdCells.mk {S : Nat → Prop} {w : World} : ∀ {ds : List D} {vs : List Value} {g off : Nat}, RdL S w ds vs → w.rangeAt g off vs → RdCells S w ds g off
  | [], _, _, _, _, _ => trivial
  | d :: ds, [], _, _, h, _ => h.elim
  | d :: ds, v :: vs, g, off, h, hr => ⟨⟨v, by have := hr 0 v rfl; simpa using this, h.1⟩, RdCells.mk (vs := vs) h.2 (fun j u hj => by have := hr (j + 1) u (by simpa using hj); rwa [show off + 1 + j = off + (j + 1) by omega])⟩

theorem RdCells.lt {S : Nat → Prop} {w : World} {ds : List D} {g off : Nat} (h : RdCells S w ds g off) (hd : ds ≠ []) : g < w.heap.size := by
  cases ds with
  | nil => exact absurd rfl hd
  | cons d ds => obtain ⟨v, hv, _⟩ := h.1; exact block_lt_of_cell hv

/-- reading stays where the blocks that are read stay -/
structure Stays (S : Nat → Prop) (w : World) (S' : Nat → Prop) (w' : World) : Prop where
  size : w.heap.size ≤ w'.heap.size
  sub : ∀ k, k < w.heap.size → S k → S' k
  same : ∀ k, k < w.heap.size → S k → w'.heap[k]? = w.heap[k]?

theorem Stays.cell {S S' : Nat → Prop} {w w' : World} (h : Stays S w S' w') {g off : Nat} {v : Value} (hS : S g) (hc : w.cell? ⟨g, off, none⟩ = some v) : w'.cell? ⟨g, off, none⟩ = some v := by
  rw [World.cell?_of_block (w := w) (w' := w') (a := ⟨g, off, none⟩) (h.same g (block_lt_of_cell hc) hS)]; exact hc

mutual
theorem Rd.stays {S S' : Nat → Prop} {w w' : World} (h : Stays S w S' w') : ∀ (d : D) (v : Value), Rd S w d v → Rd S' w' d v
  | .int _, _, hr => by simpa [Rd] using hr
  | .bool _, _, hr => by simpa [Rd] using hr
  | .str _, _, hr => by simpa [Rd] using hr
  | .sl rows, v, hr => by
    rw [Rd] at hr ⊢
    obtain ⟨a, cap, hv, hrows⟩ := hr
    refine ⟨a, cap, hv, ?_⟩
    rcases hrows with hn | ⟨g, off, ha, hS, hg, hR⟩
    · exact .inl hn
    · exact .inr ⟨g, off, ha, h.sub g hg hS, Nat.lt_of_lt_of_le hg h.size, RdRows.stays h rows g off hS hR⟩
  | .u8 _, _, hr => by simpa [Rd] using hr
  | .pt rows, v, hr => by
    rw [Rd] at hr ⊢
    rcases hr with hn | ⟨g, off, hl, ha, hS, hg, hR⟩
    · exact .inl hn
    · exact .inr ⟨g, off, hl, ha, h.sub g hg hS, Nat.lt_of_lt_of_le hg h.size, RdRows.stays h rows g off hS hR⟩
theorem RdRows.stays {S S' : Nat → Prop} {w w' : World} (h : Stays S w S' w') : ∀ (rows : List (List D)) (g off : Nat), S g → RdRows S w rows g off → RdRows S' w' rows g off
  | [], _, _, _, _ => by simp [RdRows]
  | r :: rs, g, off, hS, hR => by
    rw [RdRows] at hR ⊢
    exact ⟨RdCells.stays h r g off hS hR.1, RdRows.stays h rs g _ hS hR.2⟩
theorem RdCells.stays {S S' : Nat → Prop} {w w' : World} (h : Stays S w S' w') : ∀ (ds : List D) (g off : Nat), S g → RdCells S w ds g off → RdCells S' w' ds g off
  | [], _, _, _, _ => by simp [RdCells]
  | d :: ds, g, off, hS, hR => by
    rw [RdCells] at hR ⊢
    obtain ⟨⟨v, hv, hd⟩, hr⟩ := hR
    exact ⟨⟨v, h.cell hS hv, Rd.stays h d v hd⟩, RdCells.stays h ds g _ hS hr⟩
end

theorem RdL.stays {S S' : Nat → Prop} {w w' : World} (h : Stays S w S' w') : ∀ {ds : List D} {vs : List Value}, RdL S w ds vs → RdL S' w' ds vs
  | [], [], _ => trivial
  | _ :: _, _ :: _, hr => ⟨Rd.stays h _ _ hr.1, RdL.stays h hr.2⟩
  | [], _ :: _, hr => hr.elim
  | _ :: _, [], hr => hr.elim

/-- a new base -/
theorem Tr.stays {wb wb' : World} {L L' : List Blk} (h : Tr wb L wb' L') : Stays (Im wb L) wb (Im wb' L') wb' := ⟨h.size, fun k _ hk => h.im k hk, fun k _ hk => h.same k hk⟩

/-- out of new blocks: they are still ones of the base behind the call -/
theorem stays_new {B : Nat} {w' : World} {L : List Blk} (hL : ∀ x ∈ L, x.b < B) : Stays (fun k => B ≤ k) w' (Im w' L) w' :=
  ⟨Nat.le_refl _, fun k hk hB => ⟨hk, fun x hx => by have := hL x hx; omega⟩, fun _ _ _ => rfl⟩

/-- every value that reads is one cell -/
theorem Rd.oneCell {S : Nat → Prop} {w : World} {d : D} {v : Value} (h : Rd S w d v) : v.oneCell' = true := by
  cases d with
  | int n => rw [Rd] at h; subst h; rfl
  | bool n => rw [Rd] at h; subst h; rfl
  | str n => rw [Rd] at h; subst h; rfl
  | sl rows => rw [Rd] at h; obtain ⟨a, cap, rfl, _⟩ := h; rfl
  | u8 n => rw [Rd] at h; subst h; rfl
  | pt rows => rw [Rd] at h; rcases h with ⟨_, rfl⟩ | ⟨g, off, _, rfl, _⟩ <;> rfl

theorem RdL.oneCell {S : Nat → Prop} {w : World} : ∀ {ds : List D} {vs : List Value}, RdL S w ds vs → ∀ v ∈ vs, v.oneCell' = true
  | [], [], _ => by simp
  | _ :: _, _ :: _, h => by
    intro v hv
    rcases List.mem_cons.1 hv with rfl | hv
    · exact h.1.oneCell
    · exact RdL.oneCell h.2 v hv
  | [], _ :: _, h => h.elim
  | _ :: _, [], h => h.elim

/-! ### Rows of one length -/
/-- each row reads -/
def RdR (S : Nat → Prop) (w : World) : List (List D) → List (List Value) → Prop
  | [], [] => True
  | r :: rs, v :: vs => RdL S w r v ∧ RdR S w rs vs
  | _, _ => False

theorem RdR.length {S : Nat → Prop} {w : World} : ∀ {rs : List (List D)} {vs : List (List Value)}, RdR S w rs vs → rs.length = vs.length
  | [], [], _ => rfl
  | _ :: _, _ :: _, h => by simp [RdR.length h.2]
  | [], _ :: _, h => h.elim
  | _ :: _, [], h => h.elim

theorem RdR.stays {S S' : Nat → Prop} {w w' : World} (h : Stays S w S' w') : ∀ {rs : List (List D)} {vs : List (List Value)}, RdR S w rs vs → RdR S' w' rs vs
  | [], [], _ => trivial
  | _ :: _, _ :: _, hr => ⟨RdL.stays h hr.1, RdR.stays h hr.2⟩
  | [], _ :: _, hr => hr.elim
  | _ :: _, [], hr => hr.elim

theorem RdR.get {S : Nat → Prop} {w : World} : ∀ {rs : List (List D)} {vs : List (List Value)}, RdR S w rs vs → ∀ (i : Nat) (r : List D), rs[i]? = some r → ∃ v, vs[i]? = some v ∧ RdL S w r v
  | [], [], _, i, r, h => by simp at h
  | _ :: _, v :: _, hr, 0, r, h => by simp at h; subst h; exact ⟨v, rfl, hr.1⟩
  | _ :: _, _ :: _, hr, i + 1, r, h => by simp at h; simpa using RdR.get hr.2 i r h
  | [], _ :: _, h, _, _, _ => h.elim
  | _ :: _, [], h, _, _, _ => h.elim

theorem RdR.set {S : Nat → Prop} {w : World} : ∀ {rs : List (List D)} {vs : List (List Value)}, RdR S w rs vs → ∀ (i : Nat) (r : List D) (v : List Value), rs[i]? = some r → RdL S w r v → RdR S w rs (vs.set i v)
  | [], [], _, i, r, v, h, _ => by simp at h
  | _ :: _, u :: _, hr, 0, r, v, h, hv => by simp at h; subst h; exact ⟨hv, hr.2⟩
  | _ :: _, _ :: _, hr, i + 1, r, v, h, hv => by simp at h; exact ⟨hr.1, RdR.set hr.2 i r v h hv⟩
  | [], _ :: _, h, _, _, _, _, _ => h.elim
  | _ :: _, [], h, _, _, _, _, _ => h.elim

theorem RdRows.vals {S : Nat → Prop} {w : World} : ∀ {rs : List (List D)} {g off : Nat}, RdRows S w rs g off → ∃ vs, RdR S w rs vs ∧ w.rangeAt g off vs.flatten
  | [], _, _, _ => ⟨[], trivial, fun j v h => by simp at h⟩
  | r :: rs, g, off, h => by
    rw [RdRows] at h
    obtain ⟨v, h1, h2⟩ := RdCells.vals h.1
    obtain ⟨vs, h3, h4⟩ := RdRows.vals (rs := rs) h.2
    refine ⟨v :: vs, ⟨h1, h3⟩, fun j u hj => ?_⟩
    have hl := h1.length
    rw [List.flatten_cons] at hj
    by_cases hjl : j < v.length
    · rw [List.getElem?_append_left hjl] at hj
      exact h2 j u hj
    · rw [List.getElem?_append_right (by omega)] at hj
      have := h4 (j - v.length) u hj
      rwa [show off + r.length + (j - v.length) = off + j by omega] at this

theorem RdRows.mk {S : Nat → Prop} {w : World} : ∀ {rs : List (List D)} {vs : List (List Value)} {g off : Nat}, RdR S w rs vs → w.rangeAt g off vs.flatten → RdRows S w rs g off
  | [], _, _, _, _, _ => by rw [RdRows]; trivial
  | r :: rs, [], _, _, h, _ => h.elim
  | r :: rs, v :: vs, g, off, h, hr => by
    rw [RdRows]
    have hl := h.1.length
    refine ⟨RdCells.mk h.1 (fun j u hj => hr j u ?_), RdRows.mk (vs := vs) h.2 (fun j u hj => ?_)⟩
    · rw [List.flatten_cons, List.getElem?_append_left (List.getElem?_eq_some_iff.1 hj).1]; exact hj
    · have := hr (v.length + j) u (by rw [List.flatten_cons, List.getElem?_append_right (by omega)]; simpa using hj)
      rwa [show off + (v.length + j) = off + r.length + j by omega] at this


/-! ### A variable in the middle of a row -/
section
variable {P : Program}

theorem readAt_mid {T : TypeId} {X mid Y : List Value} {off : Nat} (ho : off = X.length) (hk : kindOf P T = some (some mid.length)) : readAt P T (X ++ mid ++ Y).toArray off = some (.agg mid.toArray) := by
  subst ho
  unfold readAt
  rw [hk]
  simp only
  rw [if_pos (by simp)]
  congr 2
  apply Array.toList_inj.1
  simp

theorem readAt_mid1 {T : TypeId} {X Y : List Value} {v : Value} {off : Nat} (ho : off = X.length) (hk : kindOf P T = some none) : readAt P T (X ++ [v] ++ Y).toArray off = some v := by
  subst ho
  unfold readAt
  rw [hk]
  simp

theorem writeAt_mid {T : TypeId} {X mid Y : List Value} {off : Nat} {v : Value} (mid' : List Value) (ho : off = X.length) (hv : v.cells = mid'.toArray) (hl : mid'.length = mid.length)
    (hi : (P.info? T).map (·.size) = some mid'.length) (h1 : ∀ u ∈ mid', u.oneCell' = true) : writeAt P T (X ++ mid ++ Y).toArray off v = some (X ++ mid' ++ Y).toArray := by
  subst ho
  unfold writeAt
  cases hq : P.info? T with
  | none => simp [hq] at hi
  | some i =>
    simp only [hq, Option.map_some, Option.some.injEq] at hi
    simp only
    rw [if_pos ⟨by rw [hv]; simpa using hi, by rw [hv]; simp; omega, by rw [hv]; exact all_oneCell_toArray h1⟩]
    congr 2
    rw [hv]
    simp only [List.size_toArray, hl]
    rw [show List.take X.length (X ++ mid ++ Y) = X by rw [List.append_assoc]; exact List.take_left]
    rw [show List.drop (X.length + mid.length) (X ++ mid ++ Y) = Y by rw [← List.length_append]; exact List.drop_left]

theorem split_row {es : Nat} : ∀ {rv : List (List Value)} {i : Nat} {r : List Value}, (∀ x ∈ rv, x.length = es) → rv[i]? = some r →
    rv.flatten = (rv.take i).flatten ++ r ++ (rv.drop (i + 1)).flatten ∧ (rv.take i).flatten.length = i * es ∧ ∀ r', (rv.set i r').flatten = (rv.take i).flatten ++ r' ++ (rv.drop (i + 1)).flatten
  | [], i, r, _, h => by simp at h
  | x :: rv, 0, r, _, h => by simp at h; subst h; simp
  | x :: rv, i + 1, r, hl, h => by
    simp at h
    obtain ⟨h1, h2, h3⟩ := split_row (es := es) (rv := rv) (i := i) (r := r) (fun y hy => hl y (List.mem_cons_of_mem _ hy)) h
    have hx : x.length = es := hl x (List.mem_cons_self ..)
    refine ⟨by simp [h1], ?_, fun r' => by simp [h3]⟩
    simp only [List.take_succ_cons, List.flatten_cons, List.length_append, h2, hx, Nat.add_mul, Nat.one_mul]
    omega

/-- the part 'mid' of row i -/
theorem readAt_row {T : TypeId} {es i off : Nat} {rv : List (List Value)} {sp pre mid post : List Value} (hl : ∀ x ∈ rv, x.length = es) (hi : rv[i]? = some (pre ++ mid ++ post)) (ho : off = i * es + pre.length)
    (hk : kindOf P T = some (some mid.length)) : readAt P T (rv.flatten ++ sp).toArray off = some (.agg mid.toArray) := by
  obtain ⟨h1, h2, _⟩ := split_row hl hi
  rw [h1, show (rv.take i).flatten ++ (pre ++ mid ++ post) ++ (rv.drop (i + 1)).flatten ++ sp = ((rv.take i).flatten ++ pre) ++ mid ++ (post ++ (rv.drop (i + 1)).flatten ++ sp) by simp]
  exact readAt_mid (by simp [h2, ho]) hk

theorem readAt_row1 {T : TypeId} {es i off : Nat} {rv : List (List Value)} {sp pre post : List Value} {v : Value} (hl : ∀ x ∈ rv, x.length = es) (hi : rv[i]? = some (pre ++ [v] ++ post)) (ho : off = i * es + pre.length)
    (hk : kindOf P T = some none) : readAt P T (rv.flatten ++ sp).toArray off = some v := by
  obtain ⟨h1, h2, _⟩ := split_row hl hi
  rw [h1, show (rv.take i).flatten ++ (pre ++ [v] ++ post) ++ (rv.drop (i + 1)).flatten ++ sp = ((rv.take i).flatten ++ pre) ++ [v] ++ (post ++ (rv.drop (i + 1)).flatten ++ sp) by simp]
  exact readAt_mid1 (by simp [h2, ho]) hk

theorem writeAt_row {T : TypeId} {es i off : Nat} {rv : List (List Value)} {sp pre mid post : List Value} {v : Value} (mid' : List Value) (hl : ∀ x ∈ rv, x.length = es) (hi : rv[i]? = some (pre ++ mid ++ post)) (ho : off = i * es + pre.length)
    (hv : v.cells = mid'.toArray) (hml : mid'.length = mid.length) (hs : (P.info? T).map (·.size) = some mid'.length) (h1 : ∀ u ∈ mid', u.oneCell' = true) :
    writeAt P T (rv.flatten ++ sp).toArray off v = some ((rv.set i (pre ++ mid' ++ post)).flatten ++ sp).toArray := by
  obtain ⟨e1, e2, e3⟩ := split_row hl hi
  rw [e1, e3, show (rv.take i).flatten ++ (pre ++ mid ++ post) ++ (rv.drop (i + 1)).flatten ++ sp = ((rv.take i).flatten ++ pre) ++ mid ++ (post ++ (rv.drop (i + 1)).flatten ++ sp) by simp,
    show (rv.take i).flatten ++ (pre ++ mid' ++ post) ++ (rv.drop (i + 1)).flatten ++ sp = ((rv.take i).flatten ++ pre) ++ mid' ++ (post ++ (rv.drop (i + 1)).flatten ++ sp) by simp]
  exact writeAt_mid mid' (by simp [e2, ho]) hv hml hs h1

theorem set_len {es : Nat} {rv : List (List Value)} (hl : ∀ x ∈ rv, x.length = es) (i : Nat) {r : List Value} (hr : r.length = es) : ∀ x ∈ rv.set i r, x.length = es := fun x hx => by
  rcases List.mem_or_eq_of_mem_set hx with h | rfl
  · exact hl x h
  · exact hr
end

theorem Tr.new {wb w' : World} {L L' : List Blk} (h : Tr wb L w' L') {x : Blk} (hx : x ∈ L') : wb.heap.size ≤ x.b ∨ ∃ y ∈ L, y.b = x.b := by
  by_cases h1 : wb.heap.size ≤ x.b
  · exact .inl h1
  · by_cases h2 : ∃ y ∈ L, y.b = x.b
    · exact .inr h2
    · exact absurd rfl ((h.im x.b ⟨by omega, fun y hy e => h2 ⟨y, hy, e⟩⟩).2 x hx)

/-- what a shallow copy of a slice hands back: R its block (none where there are no rows) -/
def Cl (E : TypeId) (S : Nat → Prop) (w : World) (rows : List (List D)) (v' : Value) (w' : World) (R : List Blk) (rv : List (List Value)) : Prop :=
  Below w.heap.size w w' ∧ RdR S w rows rv ∧ (∃ a cap, v' = .slice a rows.length cap ∧ ((rows = [] ∧ R = []) ∨ ∃ g sp, a = some ⟨g, 0, none⟩ ∧ w.heap.size ≤ g ∧ R = [⟨g, (rv.flatten ++ sp).toArray, E⟩])) ∧
  ∀ x ∈ R, w'.heap[x.b]? = some (.cells x.c x.t (0, 0))

theorem RdR.oneCell {S : Nat → Prop} {w : World} : ∀ {rs : List (List D)} {vs : List (List Value)}, RdR S w rs vs → ∀ v ∈ vs.flatten, v.oneCell' = true
  | [], [], _ => by simp
  | _ :: _, v :: vs, h => by
    intro u hu
    rw [List.flatten_cons] at hu
    rcases List.mem_append.1 hu with hu | hu
    · exact h.1.oneCell u hu
    · exact RdR.oneCell h.2 u hu
  | [], _ :: _, h => h.elim
  | _ :: _, [], h => h.elim

theorem RdR.flat {S : Nat → Prop} {w : World} {es : Nat} : ∀ {rs : List (List D)} {vs : List (List Value)}, RdR S w rs vs → (∀ r ∈ rs, r.length = es) → (∀ v ∈ vs, v.length = es) ∧ vs.flatten.length = rs.length * es
  | [], [], _, _ => by simp
  | r :: rs, v :: vs, h, hl => by
    obtain ⟨h1, h2⟩ := RdR.flat (es := es) h.2 (fun x hx => hl x (List.mem_cons_of_mem _ hx))
    have h3 := h.1.length
    have h4 := hl r (List.mem_cons_self ..)
    refine ⟨fun x hx => ?_, ?_⟩
    · rcases List.mem_cons.1 hx with rfl | hx
      · omega
      · exact h1 x hx
    · rw [List.flatten_cons, List.length_append, h2, List.length_cons, Nat.add_mul]; omega
  | [], _ :: _, h, _ => h.elim
  | _ :: _, [], h, _ => h.elim

/-- the end of 'append([]E{}, s...)' -/
theorem cl_of_own {E es : Nat} {S : Nat → Prop} {w w' : World} {rows : List (List D)} {rv : List (List Value)} {v' : Value} {r1 : Nat} {R' : List Blk} (hr1 : w.heap.size ≤ r1) (hrv : RdR S w rows rv)
    (hown : Own E es v' (0 + rows.length) ([] ++ rv.flatten) R') (htr : Tr w [⟨r1, #[], E⟩] w' R') (hsh : SH w' R' w') : Cl E S w rows v' w' R' rv := by
  refine ⟨htr.below (Nat.le_refl _) (by simp; exact hr1), hrv, ?_, hsh.blk⟩
  rw [Nat.zero_add, List.nil_append] at hown
  rcases hown.2 with ⟨rfl, hn, rfl⟩ | ⟨g, cap, c, rfl, rfl, _, _, _, htake⟩
  · exact ⟨none, 0, by rw [hn], .inl ⟨List.eq_nil_of_length_eq_zero hn, rfl⟩⟩
  · refine ⟨_, cap, rfl, .inr ⟨g, c.toList.drop (rows.length * es), rfl, ?_, ?_⟩⟩
    · rcases htr.new (x := ⟨g, c, E⟩) (by simp) with h | ⟨y, hy, he⟩
      · exact h
      · simp only [List.mem_singleton] at hy; subst hy; show w.heap.size ≤ g; have : r1 = g := he; omega
    · rw [← htake, List.take_append_drop, Array.toArray_toList]
end Go.Sx

namespace Go.Sx
open Go.RowKit
set_option linter.unusedVariables false

/-! ### Shapes -/
inductive K where
  | int | bool | str
  | sl (t : Nat)
  | u8
  | pt (t : Nat)

/-- a number of bytes for which append and make always have room -/
def room : Nat := 140737488355328

mutual
/-- d has the kind k; sh: the cells of each type of element; by_: its bytes -/
def Fit (sh : Nat → List K) (by_ : Nat → Nat) : D → K → Prop
  | .int n, k => k = .int ∧ -9223372036854775808 ≤ n ∧ n ≤ 9223372036854775807
  | .bool _, k => k = .bool
  | .str s, k => k = .str ∧ s.size ≤ 140737488355328
  | .sl rows, k => ∃ t, k = .sl t ∧ rows.length * by_ t ≤ 140737488355328 ∧ FitR sh by_ rows (sh t)
  | .u8 n, k => k = .u8 ∧ n < 256
  | .pt rows, k => ∃ t, k = .pt t ∧ rows.length ≤ 1 ∧ FitR sh by_ rows (sh t)
def FitR (sh : Nat → List K) (by_ : Nat → Nat) : List (List D) → List K → Prop
  | [], _ => True
  | r :: rs, ks => FitL sh by_ r ks ∧ FitR sh by_ rs ks
def FitL (sh : Nat → List K) (by_ : Nat → Nat) : List D → List K → Prop
  | [], ks => ks = []
  | d :: ds, ks => ∃ k ks', ks = k :: ks' ∧ Fit sh by_ d k ∧ FitL sh by_ ds ks'
end

mutual
def D.sz : D → Nat
  | .int _ => 1
  | .bool _ => 1
  | .str s => s.size + 1
  | .sl rows => szR rows + 1
  | .u8 _ => 1
  | .pt rows => szR rows + 1
def szR : List (List D) → Nat
  | [] => 0
  | r :: rs => szL r + szR rs + 1
def szL : List D → Nat
  | [] => 0
  | d :: ds => d.sz + szL ds
end

theorem szL_append (a b : List D) : szL (a ++ b) = szL a + szL b := by
  induction a with
  | nil => simp [szL]
  | cons d a ih => simp only [List.cons_append, szL, ih]; omega

theorem szR_get {rs : List (List D)} {i : Nat} {r : List D} (h : rs[i]? = some r) : szL r < szR rs := by
  induction rs generalizing i with
  | nil => simp at h
  | cons x rs ih =>
    cases i with
    | zero => simp at h; subst h; simp only [szR]; omega
    | succ i => simp at h; have := ih h; simp only [szR]; omega

section
variable {sh : Nat → List K} {by_ : Nat → Nat}

theorem FitL.length : ∀ {ds : List D} {ks : List K}, FitL sh by_ ds ks → ds.length = ks.length
  | [], _, h => by rw [FitL] at h; subst h; rfl
  | d :: ds, _, h => by rw [FitL] at h; obtain ⟨k, ks', rfl, _, h2⟩ := h; simp [FitL.length h2]

theorem FitL.split : ∀ {ds : List D} {ks ks' : List K}, FitL sh by_ ds (ks ++ ks') → ∃ u u', ds = u ++ u' ∧ FitL sh by_ u ks ∧ FitL sh by_ u' ks'
  | ds, [], ks', h => ⟨[], ds, rfl, by rw [FitL], h⟩
  | [], k :: ks, ks', h => by rw [FitL] at h; cases h
  | d :: ds, k :: ks, ks', h => by
    rw [FitL] at h
    obtain ⟨k1, ks1, he, h1, h2⟩ := h
    simp only [List.cons_append, List.cons.injEq] at he
    obtain ⟨rfl, rfl⟩ := he
    obtain ⟨u, u', rfl, h3, h4⟩ := FitL.split h2
    refine ⟨d :: u, u', rfl, ?_, h4⟩
    rw [FitL]
    exact ⟨_, _, rfl, h1, h3⟩

theorem FitL.cons {ds : List D} {k : K} {ks : List K} (h : FitL sh by_ ds (k :: ks)) : ∃ d ds', ds = d :: ds' ∧ Fit sh by_ d k ∧ FitL sh by_ ds' ks := by
  cases ds with
  | nil => rw [FitL] at h; cases h
  | cons d ds => rw [FitL] at h; obtain ⟨k1, ks1, he, h1, h2⟩ := h; cases he; exact ⟨d, ds, rfl, h1, h2⟩

theorem FitL.nil {ds : List D} (h : FitL sh by_ ds []) : ds = [] := by
  cases ds with
  | nil => rfl
  | cons d ds => rw [FitL] at h; obtain ⟨k1, ks1, he, _⟩ := h; cases he

theorem Fit.int {d : D} (h : Fit sh by_ d .int) : ∃ n, d = .int n ∧ -9223372036854775808 ≤ n ∧ n ≤ 9223372036854775807 := by
  cases d with
  | int n => rw [Fit] at h; exact ⟨n, rfl, h.2⟩
  | bool b => rw [Fit] at h; cases h
  | str s => rw [Fit] at h; cases h.1
  | sl r => rw [Fit] at h; obtain ⟨t, h, _⟩ := h; cases h
  | u8 n => rw [Fit] at h; cases h.1
  | pt r => rw [Fit] at h; obtain ⟨t, h, _⟩ := h; cases h
theorem Fit.bool {d : D} (h : Fit sh by_ d .bool) : ∃ b, d = .bool b := by
  cases d with
  | int n => rw [Fit] at h; cases h.1
  | bool b => exact ⟨b, rfl⟩
  | str s => rw [Fit] at h; cases h.1
  | sl r => rw [Fit] at h; obtain ⟨t, h, _⟩ := h; cases h
  | u8 n => rw [Fit] at h; cases h.1
  | pt r => rw [Fit] at h; obtain ⟨t, h, _⟩ := h; cases h
theorem Fit.str {d : D} (h : Fit sh by_ d .str) : ∃ s, d = .str s ∧ s.size ≤ 140737488355328 := by
  cases d with
  | int n => rw [Fit] at h; cases h.1
  | bool b => rw [Fit] at h; cases h
  | str s => rw [Fit] at h; exact ⟨s, rfl, h.2⟩
  | sl r => rw [Fit] at h; obtain ⟨t, h, _⟩ := h; cases h
  | u8 n => rw [Fit] at h; cases h.1
  | pt r => rw [Fit] at h; obtain ⟨t, h, _⟩ := h; cases h
theorem Fit.sl {d : D} {t : Nat} (h : Fit sh by_ d (.sl t)) : ∃ rows, d = .sl rows ∧ rows.length * by_ t ≤ 140737488355328 ∧ FitR sh by_ rows (sh t) := by
  cases d with
  | int n => rw [Fit] at h; cases h.1
  | bool b => rw [Fit] at h; cases h
  | str s => rw [Fit] at h; cases h.1
  | sl r => rw [Fit] at h; obtain ⟨t', h, h2⟩ := h; cases h; exact ⟨r, rfl, h2⟩
  | u8 n => rw [Fit] at h; cases h.1
  | pt r => rw [Fit] at h; obtain ⟨t, h, _⟩ := h; cases h
theorem Fit.u8 {d : D} (h : Fit sh by_ d .u8) : ∃ n, d = .u8 n ∧ n < 256 := by
  cases d with
  | int n => rw [Fit] at h; cases h.1
  | bool b => rw [Fit] at h; cases h
  | str s => rw [Fit] at h; cases h.1
  | sl r => rw [Fit] at h; obtain ⟨t, h, _⟩ := h; cases h
  | u8 n => rw [Fit] at h; exact ⟨n, rfl, h.2⟩
  | pt r => rw [Fit] at h; obtain ⟨t, h, _⟩ := h; cases h
theorem Fit.pt {d : D} {t : Nat} (h : Fit sh by_ d (.pt t)) : ∃ rows, d = .pt rows ∧ rows.length ≤ 1 ∧ FitR sh by_ rows (sh t) := by
  cases d with
  | int n => rw [Fit] at h; cases h.1
  | bool b => rw [Fit] at h; cases h
  | str s => rw [Fit] at h; cases h.1
  | sl r => rw [Fit] at h; obtain ⟨t, h, _⟩ := h; cases h
  | u8 n => rw [Fit] at h; cases h.1
  | pt r => rw [Fit] at h; obtain ⟨t', h, h2⟩ := h; cases h; exact ⟨r, rfl, h2⟩

theorem FitR.get : ∀ {rs : List (List D)} {ks : List K}, FitR sh by_ rs ks → ∀ (i : Nat) (r : List D), rs[i]? = some r → FitL sh by_ r ks
  | [], _, _, i, r, h => by simp at h
  | x :: rs, ks, hf, 0, r, h => by simp at h; subst h; rw [FitR] at hf; exact hf.1
  | x :: rs, ks, hf, i + 1, r, h => by simp at h; rw [FitR] at hf; exact FitR.get hf.2 i r h

theorem FitR.length {rs : List (List D)} {ks : List K} (h : FitR sh by_ rs ks) : ∀ r ∈ rs, r.length = ks.length := fun r hr => by
  obtain ⟨i, hi⟩ := List.getElem?_of_mem hr
  exact (h.get i r hi).length
end

/-- no memory is read -/
def D.bare : D → Bool
  | .sl _ => false
  | .pt _ => false
  | _ => true

theorem Rd.bare {S S' : Nat → Prop} {w w' : World} {d : D} {v : Value} (hb : d.bare = true) (h : Rd S w d v) : Rd S' w' d v := by
  cases d with
  | int n => rw [Rd] at h ⊢; exact h
  | bool n => rw [Rd] at h ⊢; exact h
  | str n => rw [Rd] at h ⊢; exact h
  | sl r => cases hb
  | u8 n => rw [Rd] at h ⊢; exact h
  | pt r => cases hb
theorem RdL.bare {S S' : Nat → Prop} {w w' : World} : ∀ {ds : List D} {vs : List Value}, ds.all D.bare = true → RdL S w ds vs → RdL S' w' ds vs
  | [], [], _, _ => trivial
  | d :: ds, v :: vs, hb, h => by simp only [List.all_cons, Bool.and_eq_true] at hb; exact ⟨h.1.bare hb.1, RdL.bare hb.2 h.2⟩
  | [], _ :: _, _, h => h.elim
  | _ :: _, [], _, h => h.elim

/-! ### Facts across calls -/
/-- a still block that is not older than B -/
abbrev Nw (B : Nat) (wb : World) (L : List Blk) : Nat → Prop := fun k => B ≤ k ∧ Im wb L k

theorem im_cong {wb : World} {L L' : List Blk} (h : L.map (·.b) = L'.map (·.b)) {k : Nat} (hk : Im wb L k) : Im wb L' k := ⟨hk.1, fun x hx => by
  have : x.b ∈ L.map (·.b) := by rw [h]; exact List.mem_map.2 ⟨x, hx, rfl⟩
  obtain ⟨y, hy, he⟩ := List.mem_map.1 this
  rw [← he]; exact hk.2 y hy⟩

theorem Tr.cong {wb wb' : World} {L L' L0 : List Blk} (h : Tr wb L wb' L') (hL : L0.map (·.b) = L.map (·.b)) : Tr wb L0 wb' L' :=
  ⟨h.os, h.tape, h.output, h.size, fun k hk => h.im k (im_cong hL hk), fun k hk => h.same k (im_cong hL hk)⟩

theorem Tr.staysN {wb wb' : World} {L L' : List Blk} {B : Nat} (h : Tr wb L wb' L') : Stays (Nw B wb L) wb (Nw B wb' L') wb' := ⟨h.size, fun k _ hk => ⟨hk.1, h.im k hk.2⟩, fun k _ hk => h.same k hk.2⟩

/-- at a world of the base: the list of known blocks may have turned, not their numbers -/
theorem SH.staysC {wb : World} {L L0 : List Blk} {w : World} (h : SH wb L w) (hL : L0.map (·.b) = L.map (·.b)) : Stays (Im wb L0) wb (Im wb L) w := ⟨h.size, fun _ _ hk => im_cong hL hk, fun k _ hk => h.still (im_cong hL hk)⟩
theorem SH.staysN {wb : World} {L L0 : List Blk} {w : World} {B : Nat} (h : SH wb L w) (hL : L0.map (·.b) = L.map (·.b)) : Stays (Nw B wb L0) wb (fun k => B ≤ k) w := ⟨h.size, fun _ _ hk => hk.1, fun k _ hk => h.still (im_cong hL hk.2)⟩
theorem SH.staysNC {wb : World} {L L0 : List Blk} {w : World} {B : Nat} (h : SH wb L w) (hL : L0.map (·.b) = L.map (·.b)) : Stays (Nw B wb L0) wb (Im wb L) w := ⟨h.size, fun _ _ hk => im_cong hL hk.2, fun k _ hk => h.still (im_cong hL hk.2)⟩

/-- what a call has made anew -/
theorem stays_newN {wb w w' : World} {L : List Blk} {B : Nat} (h : SH wb L w) (hB : B ≤ w.heap.size) : Stays (fun k => w.heap.size ≤ k) w' (Nw B w' L) w' :=
  ⟨Nat.le_refl _, fun k hk hn => ⟨Nat.le_trans hB hn, hk, fun x hx => by have := h.lt hx; omega⟩, fun _ _ _ => rfl⟩

theorem SH.belowCall {wb w w' w0 : World} {L : List Blk} (h : SH wb L w) (h0 : Below w0.heap.size w0 wb) (hL : ∀ x ∈ L, w0.heap.size ≤ x.b) (hb : Below w.heap.size w w') : Below w0.heap.size w0 w' :=
  (h.below h0 h0.size hL).trans (hb.mono (Nat.le_trans h0.size h.size))

theorem ge_nil (B : Nat) : ∀ x ∈ ([] : List Blk), B ≤ x.b := by simp
theorem ge_cons {B : Nat} {x : Blk} {L : List Blk} (h : B ≤ x.b) (hL : ∀ x ∈ L, B ≤ x.b) : ∀ y ∈ x :: L, B ≤ y.b := fun y hy => by
  rcases List.mem_cons.1 hy with rfl | hy
  · exact h
  · exact hL y hy

theorem Tr.congR {wb wb' : World} {L L' L0 : List Blk} (h : Tr wb L wb' L') (hL : L'.map (·.b) = L0.map (·.b)) : Tr wb L wb' L0 :=
  ⟨h.os, h.tape, h.output, h.size, fun k hk => im_cong hL (h.im k hk), fun k hk => h.same k hk⟩

theorem SH.trans {wb w1 : World} {L : List Blk} {w : World} (h1 : SH wb L w1) (h : SH w1 L w) : SH wb L w :=
  ⟨h.os.trans h1.os, h.tape.trans h1.tape, h.output.trans h1.output, Nat.le_trans h1.size h.size, fun k hk hL => (h.kept k (Nat.lt_of_lt_of_le hk h1.size) hL).trans (h1.kept k hk hL), h.blk, h.dis⟩
theorem im_more {wb : World} {L : List Blk} {b : Nat} {c : Array Value} {t : TypeId} (hb : wb.heap.size ≤ b) : Stays (Im wb L) wb (Im wb (⟨b, c, t⟩ :: L)) wb := ⟨Nat.le_refl _, fun k hk hI => ⟨hk, fun x hx => by
  rcases List.mem_cons.1 hx with rfl | hx
  · show b ≠ k; omega
  · exact hI.2 x hx⟩, fun _ _ _ => rfl⟩
theorem nw_more {wb : World} {L : List Blk} {B b : Nat} {c : Array Value} {t : TypeId} (hb : wb.heap.size ≤ b) : Stays (Nw B wb L) wb (Nw B wb (⟨b, c, t⟩ :: L)) wb := ⟨Nat.le_refl _, fun k hk hI => ⟨hI.1, (im_more hb).sub k hk hI.2⟩, fun _ _ _ => rfl⟩

/-- a new base of which the known blocks are the elder ones and a copy's own -/
theorem Cl.tr {E : TypeId} {S : Nat → Prop} {wb w w' : World} {rows : List (List D)} {v : Value} {L L0 R : List Blk} {rv : List (List Value)} (hsh : SH wb L w) (hcl : Cl E S w rows v w' R rv) (hL : L0.map (·.b) = L.map (·.b)) : Tr wb L0 w' (L ++ R) := by
  have h := (hsh.tr hcl.1).cong hL
  refine ⟨h.os, h.tape, h.output, h.size, fun k hk => ⟨(h.im k hk).1, fun x hx => ?_⟩, h.same⟩
  rcases List.mem_append.1 hx with hx | hx
  · exact (h.im k hk).2 x hx
  · obtain ⟨a', cap', he, h3⟩ := hcl.2.2.1
    rcases h3 with h3 | ⟨g, sp, ha, hg, hR⟩
    · rw [h3.2] at hx; cases hx
    · rw [hR] at hx; simp only [List.mem_singleton] at hx; subst hx
      have := hk.1; have := hsh.size
      show g ≠ k
      omega

/-! ### A loop that copies a part of each row -/
/-- its state: i rows are done; the known blocks: L and R (the copy's own, if there are rows) -/
structure Cp (E es : Nat) (w0 ws : World) (Ls : List Blk) (rows : List (List D)) (a : Option Addr) (L : List Blk) where
  i : Nat
  wb : World
  rv : List (List Value)
  R : List Blk
  hi : i ≤ rows.length
  hcnt : rv.length = rows.length
  hlen : ∀ x ∈ rv, x.length = es
  hR : (rows = [] ∧ R = []) ∨ ∃ g sp, a = some ⟨g, 0, none⟩ ∧ w0.heap.size ≤ g ∧ R = [⟨g, (rv.flatten ++ sp).toArray, E⟩]
  hnew : ∀ j r v, j < i → rows[j]? = some r → rv[j]? = some v → RdL (Nw w0.heap.size wb (L ++ R)) wb r v
  hold : ∀ j r v, i ≤ j → rows[j]? = some r → rv[j]? = some v → RdL (Im wb (L ++ R)) wb r v
  hbel : Below w0.heap.size w0 wb
  hL : ∀ x ∈ L ++ R, w0.heap.size ≤ x.b
  htr : Tr ws Ls wb (L ++ R)

/-- the state at the loop's beginning, behind the shallow copy -/
def Cp.start {E es : Nat} {w0 wb w w' : World} {rows : List (List D)} {a : Option Addr} {cap : Nat} {L R : List Blk} {rv : List (List Value)} (h0 : Below w0.heap.size w0 wb) (hL : ∀ x ∈ L, w0.heap.size ≤ x.b)
    (hsh : SH wb L w) (hcl : Cl E (Im wb L) w rows (.slice a rows.length cap) w' R rv) (hes : ∀ r ∈ rows, r.length = es) (Ls : List Blk) (hLs : Ls.map (·.b) = L.map (·.b)) : Cp E es w0 wb Ls rows a L where
  i := 0
  wb := w'
  rv := rv
  R := R
  hi := Nat.zero_le _
  hcnt := hcl.2.1.length.symm
  hlen := (hcl.2.1.flat hes).1
  hR := by
    obtain ⟨a', cap', he, h⟩ := hcl.2.2.1
    cases he
    rcases h with h | ⟨g, sp, ha, hg, hR⟩
    · exact .inl h
    · exact .inr ⟨g, sp, ha, Nat.le_trans (Nat.le_trans h0.size hsh.size) hg, hR⟩
  hnew := fun j r v hj => absurd hj (Nat.not_lt_zero _)
  hold := fun j r v _ hr hv => by
    obtain ⟨u, hu, hd⟩ := hcl.2.1.get j r hr
    rw [hv] at hu
    cases hu
    refine hd.stays ⟨hcl.1.size, fun k hk hI => ⟨Nat.lt_of_lt_of_le hk hcl.1.size, fun x hx => ?_⟩, fun k hk _ => hcl.1.block k hk⟩
    rcases List.mem_append.1 hx with hx | hx
    · exact hI.2 x hx
    · obtain ⟨a', cap', he, h⟩ := hcl.2.2.1
      rcases h with h | ⟨g, sp, ha, hg, hR⟩
      · rw [h.2] at hx; cases hx
      · rw [hR] at hx; simp only [List.mem_singleton] at hx; subst hx; show g ≠ k; omega
  hbel := (hsh.below h0 h0.size hL).trans (hcl.1.mono (Nat.le_trans h0.size hsh.size))
  hL := fun x hx => by
    rcases List.mem_append.1 hx with hx | hx
    · exact hL x hx
    · obtain ⟨a', cap', he, h⟩ := hcl.2.2.1
      rcases h with h | ⟨g, sp, ha, hg, hR⟩
      · rw [h.2] at hx; cases hx
      · rw [hR] at hx; simp only [List.mem_singleton] at hx; subst hx; exact Nat.le_trans (Nat.le_trans h0.size hsh.size) hg
  htr := Cl.tr hsh hcl hLs

theorem nw_cong {wb : World} {L L' : List Blk} {B : Nat} (h : L.map (·.b) = L'.map (·.b)) : Stays (Nw B wb L) wb (Nw B wb L') wb := ⟨Nat.le_refl _, fun k _ hk => ⟨hk.1, im_cong h hk.2⟩, fun _ _ _ => rfl⟩
theorem im_congS {wb : World} {L L' : List Blk} (h : L.map (·.b) = L'.map (·.b)) : Stays (Im wb L) wb (Im wb L') wb := ⟨Nat.le_refl _, fun k _ hk => im_cong h hk, fun _ _ _ => rfl⟩

/-- the same where the contents of the known blocks L have turned -/
def Cp.cast {E es : Nat} {w0 ws : World} {Ls : List Blk} {rows : List (List D)} {a : Option Addr} {L : List Blk} (x : Cp E es w0 ws Ls rows a L) {L1 : List Blk} (h : L.map (·.b) = L1.map (·.b)) : Cp E es w0 ws Ls rows a L1 where
  i := x.i
  wb := x.wb
  rv := x.rv
  R := x.R
  hi := x.hi
  hcnt := x.hcnt
  hlen := x.hlen
  hR := x.hR
  hnew := fun j r v h1 h2 h3 => (x.hnew j r v h1 h2 h3).stays (nw_cong (by simp [h]))
  hold := fun j r v h1 h2 h3 => (x.hold j r v h1 h2 h3).stays (im_congS (by simp [h]))
  hbel := x.hbel
  hL := fun y hy => by
    rcases List.mem_append.1 hy with hy | hy
    · have : y.b ∈ L.map (·.b) := by rw [h]; exact List.mem_map.2 ⟨y, hy, rfl⟩
      obtain ⟨z, hz, he⟩ := List.mem_map.1 this
      have h2 := x.hL z (List.mem_append_left _ hz)
      have h3 : z.b = y.b := he
      omega
    · exact x.hL y (List.mem_append_right _ hy)
  htr := x.htr.congR (by simp [h])

theorem Cp.startSH {E : Nat} {wb w w' : World} {rows : List (List D)} {v : Value} {L R : List Blk} {rv : List (List Value)} {S : Nat → Prop} (hsh : SH wb L w) (hcl : Cl E S w rows v w' R rv) : SH w' (L ++ R) w' := by
  refine ⟨rfl, rfl, rfl, Nat.le_refl _, fun _ _ _ => rfl, fun x hx => ?_, ?_⟩
  · rcases List.mem_append.1 hx with hx | hx
    · rw [hcl.1.block _ (hsh.lt hx)]; exact hsh.blk x hx
    · exact hcl.2.2.2 x hx
  · obtain ⟨a', cap', he, h⟩ := hcl.2.2.1
    rcases h with h | ⟨g, sp, ha, hg, hR⟩
    · rw [h.2, List.append_nil]; exact hsh.dis
    · rw [hR]
      have hin : ∀ (i : Nat) (x : Blk), (L ++ [⟨g, (rv.flatten ++ sp).toArray, E⟩])[i]? = some x → (i < L.length ∧ L[i]? = some x ∧ x.b < w.heap.size) ∨ (i = L.length ∧ x.b = g) := fun i x hi => by
        by_cases hl : i < L.length
        · rw [List.getElem?_append_left hl] at hi
          exact .inl ⟨hl, hi, hsh.lt (List.mem_of_getElem? hi)⟩
        · rw [List.getElem?_append_right (by omega)] at hi
          have h0 : i - L.length = 0 := by
            have := (List.getElem?_eq_some_iff.1 hi).1
            simp at this
            omega
          rw [h0] at hi
          simp at hi
          exact .inr ⟨by omega, by rw [← hi]⟩
      intro i j x y hi hj he
      rcases hin i x hi with ⟨h1, h2, h3⟩ | ⟨h1, h2⟩ <;> rcases hin j y hj with ⟨h4, h5, h6⟩ | ⟨h4, h5⟩
      · exact hsh.dis i j x y h2 h5 he
      · omega
      · omega
      · omega

/-- one row more: 'dm' of it is copied by a call from w to w1 -/
def Cp.next {E es : Nat} {w0 ws : World} {Ls : List Blk} {rows : List (List D)} {g : Nat} {L : List Blk} (x : Cp E es w0 ws Ls rows (some ⟨g, 0, none⟩) L) {w w1 : World} {sp : List Value} {dp dm dq : List D} {p m q m' : List Value}
    (hlt : x.i < rows.length) (hrow : rows[x.i]? = some (dp ++ dm ++ dq)) (hval : x.rv[x.i]? = some (p ++ m ++ q)) (hxR : x.R = [⟨g, (x.rv.flatten ++ sp).toArray, E⟩])
    (hp : RdL (Im x.wb (L ++ x.R)) x.wb dp p) (hq : RdL (Im x.wb (L ++ x.R)) x.wb dq q) (hbp : dp.all D.bare = true) (hbq : dq.all D.bare = true) (hml : m.length = m'.length)
    (hsh : SH x.wb (L ++ x.R) w) (hb : Below w.heap.size w w1) (hm : RdL (fun k => w.heap.size ≤ k) w1 dm m') : Cp E es w0 ws Ls rows (some ⟨g, 0, none⟩) L where
  i := x.i + 1
  wb := w1
  rv := x.rv.set x.i (p ++ m' ++ q)
  R := [⟨g, ((x.rv.set x.i (p ++ m' ++ q)).flatten ++ sp).toArray, E⟩]
  hi := hlt
  hcnt := by simp [x.hcnt]
  hlen := set_len x.hlen _ (by have := x.hlen _ (List.mem_of_getElem? hval); simp at this ⊢; omega)
  hR := .inr ⟨g, sp, rfl, x.hL ⟨g, (x.rv.flatten ++ sp).toArray, E⟩ (by rw [hxR]; simp), rfl⟩
  hnew := fun j r v hj hr hv => by
    have hcg : (L ++ x.R).map Blk.b = (L ++ [(⟨g, ((x.rv.set x.i (p ++ m' ++ q)).flatten ++ sp).toArray, E⟩ : Blk)]).map Blk.b := by rw [hxR]; simp
    have hT := (hsh.tr hb).congR hcg
    by_cases hji : j = x.i
    · subst hji
      rw [hrow] at hr
      cases hr
      rw [List.getElem?_set_self (by rw [x.hcnt]; exact hlt)] at hv
      cases hv
      refine RdL.append (RdL.append (hp.bare hbp) ?_) (hq.bare hbq)
      exact (hm.stays (stays_newN hsh (Nat.le_trans x.hbel.size hsh.size))).stays (nw_cong hcg)
    · rw [List.getElem?_set_ne (Ne.symm hji)] at hv
      exact (x.hnew j r v (by omega) hr hv).stays hT.staysN
  hold := fun j r v hj hr hv => by
    have hcg : (L ++ x.R).map Blk.b = (L ++ [(⟨g, ((x.rv.set x.i (p ++ m' ++ q)).flatten ++ sp).toArray, E⟩ : Blk)]).map Blk.b := by rw [hxR]; simp
    rw [List.getElem?_set_ne (by omega)] at hv
    exact (x.hold j r v (by omega) hr hv).stays ((hsh.tr hb).congR hcg).stays
  hbel := hsh.belowCall x.hbel x.hL hb
  hL := fun y hy => by
    rcases List.mem_append.1 hy with hy | hy
    · exact x.hL y (List.mem_append_left _ hy)
    · simp only [List.mem_singleton] at hy; subst hy
      exact x.hL ⟨g, (x.rv.flatten ++ sp).toArray, E⟩ (by rw [hxR]; simp)
  htr := (x.htr.trans (hsh.tr hb)).congR (by rw [hxR]; simp)

theorem SH.drop {wb : World} {R L : List Blk} {w : World} (h : SH wb (L ++ R) w) : SH w L w :=
  ⟨rfl, rfl, rfl, Nat.le_refl _, fun _ _ _ => rfl, fun x hx => h.blk x (List.mem_append_left _ hx), fun i j x y hi hj he =>
    h.dis i j x y (by rw [List.getElem?_append_left (List.getElem?_eq_some_iff.1 hi).1]; exact hi) (by rw [List.getElem?_append_left (List.getElem?_eq_some_iff.1 hj).1]; exact hj) he⟩
theorem SH.trDrop {wb : World} {R L : List Blk} {w : World} (h : SH wb (L ++ R) w) : Tr wb (L ++ R) w L :=
  ⟨h.os, h.tape, h.output, h.size, fun k hk => ⟨Nat.lt_of_lt_of_le hk.1 h.size, fun x hx => hk.2 x (List.mem_append_left _ hx)⟩, fun k hk => h.still hk⟩

theorem RdR.of {S : Nat → Prop} {w : World} : ∀ (rs : List (List D)) (vs : List (List Value)), rs.length = vs.length → (∀ (j : Nat) (r : List D) (v : List Value), rs[j]? = some r → vs[j]? = some v → RdL S w r v) → RdR S w rs vs
  | [], [], _, _ => trivial
  | [], _ :: _, hl, _ => by simp at hl
  | _ :: _, [], hl, _ => by simp at hl
  | r :: rs, v :: vs, hl, h => ⟨h 0 r v rfl rfl, RdR.of rs vs (by simpa using hl) (fun j r' v' hr hv => h (j + 1) r' v' (by simpa using hr) (by simpa using hv))⟩

/-- the loop's end: the copy reads as the rows do, out of new blocks -/
theorem Cp.done {E es : Nat} {w0 ws : World} {Ls : List Blk} {rows : List (List D)} {a : Option Addr} {L : List Blk} (x : Cp E es w0 ws Ls rows a L) (hi : rows.length ≤ x.i) {w : World} (hsh : SH x.wb (L ++ x.R) w) (cap : Nat) (hcap : rows.length ≤ cap) :
    Rd (Nw w0.heap.size w L) w (.sl rows) (.slice a rows.length cap) := by
  rw [Rd]
  refine ⟨a, cap - rows.length, by rw [Nat.sub_add_cancel hcap], ?_⟩
  rcases x.hR with h | ⟨g, sp, ha, hg, hR⟩
  · exact .inl h.1
  · have hmem : (⟨g, (x.rv.flatten ++ sp).toArray, E⟩ : Blk) ∈ L ++ x.R := by rw [hR]; simp
    have hlt := hsh.lt hmem
    have hb := hsh.blk _ hmem
    refine .inr ⟨g, 0, ha, ⟨hg, hlt, fun y hy he => ?_⟩, hlt, RdRows.mk (vs := x.rv) ?_ (fun j v hj => ?_)⟩
    · obtain ⟨i, hi'⟩ := List.getElem?_of_mem hy
      have hil := (List.getElem?_eq_some_iff.1 hi').1
      have := hsh.dis L.length i ⟨g, (x.rv.flatten ++ sp).toArray, E⟩ y (by rw [hR]; simp) (by rw [List.getElem?_append_left hil]; exact hi') he.symm
      omega
    · refine RdR.of rows x.rv x.hcnt.symm (fun j r v hr hv => ?_)
      have hj : j < rows.length := (List.getElem?_eq_some_iff.1 hr).1
      exact (x.hnew j r v (by omega) hr hv).stays ⟨hsh.size, fun k _ hk => ⟨hk.1, (hsh.trDrop.im k hk.2)⟩, fun k _ hk => hsh.still hk.2⟩
    · rw [cell_of_row w g (0 + j) _ E (0, 0) hb, Nat.zero_add]
      have hjl := (List.getElem?_eq_some_iff.1 hj).1
      simp only [List.getElem?_toArray]
      rw [List.getElem?_append_left hjl]
      exact hj

theorem Cp.row {E es : Nat} {w0 ws : World} {Ls : List Blk} {rows : List (List D)} {a : Option Addr} {L : List Blk} (x : Cp E es w0 ws Ls rows a L) (hlt : x.i < rows.length) :
    ∃ g sp r v, a = some ⟨g, 0, none⟩ ∧ x.R = [⟨g, (x.rv.flatten ++ sp).toArray, E⟩] ∧ rows[x.i]? = some r ∧ x.rv[x.i]? = some v ∧ RdL (Im x.wb (L ++ x.R)) x.wb r v := by
  rcases x.hR with h | ⟨g, sp, ha, hg, hR⟩
  · have h0 := congrArg List.length h.1
    simp only [List.length_nil] at h0
    omega
  · have h1 : rows[x.i]? = some rows[x.i] := List.getElem?_eq_getElem hlt
    have h2 : x.rv[x.i]? = some (x.rv[x.i]'(by rw [x.hcnt]; exact hlt)) := List.getElem?_eq_getElem _
    exact ⟨g, sp, _, _, ha, hR, h1, h2, x.hold _ _ _ (Nat.le_refl _) h1 h2⟩

/-! ### Cells in segments -/
section
variable {P : Program}

theorem split_seg : ∀ {segs : List (List Value)} {j : Nat} {r : List Value}, segs[j]? = some r →
    segs.flatten = (segs.take j).flatten ++ r ++ (segs.drop (j + 1)).flatten ∧ (segs.take j).flatten.length = ((segs.take j).map List.length).sum ∧ ∀ r', (segs.set j r').flatten = (segs.take j).flatten ++ r' ++ (segs.drop (j + 1)).flatten
  | [], j, r, h => by simp at h
  | x :: segs, 0, r, h => by simp at h; subst h; simp
  | x :: segs, j + 1, r, h => by
    simp at h
    obtain ⟨h1, h2, h3⟩ := split_seg (segs := segs) (j := j) (r := r) h
    exact ⟨by simp [h1], by simp [List.take_succ_cons, List.flatten_cons, h2], fun r' => by simp [h3]⟩

theorem readAt_seg {T : TypeId} {segs : List (List Value)} {mid : List Value} {off : Nat} (j : Nat) (hj : segs[j]? = some mid) (ho : ((segs.take j).map List.length).sum = off) (hk : kindOf P T = some (some mid.length)) :
    readAt P T segs.flatten.toArray off = some (.agg mid.toArray) := by
  obtain ⟨h1, h2, _⟩ := split_seg hj
  rw [h1]; exact readAt_mid (by rw [h2, ho]) hk

theorem readAt_seg1 {T : TypeId} {segs : List (List Value)} {v : Value} {off : Nat} (j : Nat) (hj : segs[j]? = some [v]) (ho : ((segs.take j).map List.length).sum = off) (hk : kindOf P T = some none) :
    readAt P T segs.flatten.toArray off = some v := by
  obtain ⟨h1, h2, _⟩ := split_seg hj
  rw [h1]; exact readAt_mid1 (by rw [h2, ho]) hk

theorem writeAt_seg {T : TypeId} {segs segs' : List (List Value)} {mid : List Value} {off : Nat} {v : Value} (j : Nat) (mid' : List Value) (hj : segs[j]? = some mid) (ho : ((segs.take j).map List.length).sum = off)
    (hv : v.cells = mid'.toArray) (hl : mid'.length = mid.length) (hi : (P.info? T).map (·.size) = some mid'.length) (h1 : ∀ u ∈ mid', u.oneCell' = true) (hs : segs.set j mid' = segs') :
    writeAt P T segs.flatten.toArray off v = some segs'.flatten.toArray := by
  obtain ⟨e1, e2, e3⟩ := split_seg hj
  rw [← hs, e3, e1]
  exact writeAt_mid mid' (by rw [e2, ho]) hv hl hi h1

theorem readAt_all {T : TypeId} {l : List Value} (hk : kindOf P T = some (some l.length)) : readAt P T l.toArray 0 = some (.agg l.toArray) := by
  have := readAt_mid (P := P) (T := T) (X := []) (mid := l) (Y := []) (off := 0) rfl hk
  simpa using this

theorem writeAt_all {T : TypeId} {c : Array Value} {l : List Value} (hi : (P.info? T).map (·.size) = some l.length) (hc : c.size = l.length) (h1 : ∀ u ∈ l, u.oneCell' = true) : writeAt P T c 0 (.agg l.toArray) = some l.toArray := by
  have hc' : c = ([] ++ c.toList ++ []).toArray := by simp
  rw [hc']
  have := writeAt_mid (P := P) (T := T) (X := []) (mid := c.toList) (Y := []) (off := 0) (v := .agg l.toArray) l rfl rfl (by simp [hc]) hi h1
  simpa using this

theorem RdL.cons {S : Nat → Prop} {w : World} {d : D} {ds : List D} {vs : List Value} (h : RdL S w (d :: ds) vs) : ∃ v vs', vs = v :: vs' ∧ Rd S w d v ∧ RdL S w ds vs' := by
  cases vs with
  | nil => exact h.elim
  | cons v vs => exact ⟨v, vs, rfl, h.1, h.2⟩
theorem RdL.nil {S : Nat → Prop} {w : World} {vs : List Value} (h : RdL S w [] vs) : vs = [] := by
  cases vs with
  | nil => rfl
  | cons v vs => exact h.elim
end

/-- a function that copies a struct whose cells read as ds -/
def CopyS (P : Program) (f : FuncId) (ds : List D) : Prop := ∀ (w : World) (S : Nat → Prop) (cs : List Value), RdL S w ds cs →
  Calls P f #[.agg cs.toArray] w (fun e w' => ∃ cs', e = .returned (.agg cs'.toArray) ∧ RdL (fun k => w.heap.size ≤ k) w' ds cs' ∧ Below w.heap.size w w')
/-- a function that copies a slice -/
def CopyV (P : Program) (f : FuncId) (rows : List (List D)) : Prop := ∀ (w : World) (S : Nat → Prop) (v : Value), Rd S w (.sl rows) v →
  Calls P f #[v] w (fun e w' => ∃ v', e = .returned v' ∧ Rd (fun k => w.heap.size ≤ k) w' (.sl rows) v' ∧ Below w.heap.size w w')

/-- any blocks will do to begin with -/
theorem Rd.im {S : Nat → Prop} {w : World} {d : D} {v : Value} (h : Rd S w d v) : Rd (Im w []) w d v := h.stays ⟨Nat.le_refl _, fun k hk _ => ⟨hk, by simp⟩, fun _ _ _ => rfl⟩
theorem RdL.im {S : Nat → Prop} {w : World} {ds : List D} {vs : List Value} (h : RdL S w ds vs) : RdL (Im w []) w ds vs := h.stays ⟨Nat.le_refl _, fun k hk _ => ⟨hk, by simp⟩, fun _ _ _ => rfl⟩
/-- at a world of the base -/
theorem SH.stays {wb : World} {L : List Blk} {w : World} (h : SH wb L w) : Stays (Im wb L) wb (Im wb L) w := ⟨h.size, fun _ _ hk => hk, fun k _ hk => h.still hk⟩
/-- a shallow copy of strings, numbers: all of it is new -/
theorem Cl.rd {E es : Nat} {S : Nat → Prop} {w : World} {rows : List (List D)} {v' : Value} {w' : World} {R : List Blk} {rv : List (List Value)} (h : Cl E S w rows v' w' R rv) (hb : ∀ r ∈ rows, r.all D.bare = true) (hc : ∀ a cap, v' = .slice a rows.length cap → rows.length ≤ cap) :
    Rd (fun k => w.heap.size ≤ k) w' (.sl rows) v' := by
  obtain ⟨h1, h2, ⟨a, cap, rfl, h3⟩, h4⟩ := h
  rw [Rd]
  refine ⟨a, cap - rows.length, by rw [Nat.sub_add_cancel (hc a cap rfl)], ?_⟩
  rcases h3 with h3 | ⟨g, sp, ha, hg, hR⟩
  · exact .inl h3.1
  · have hblk := h4 ⟨g, (rv.flatten ++ sp).toArray, E⟩ (by rw [hR]; simp)
    refine .inr ⟨g, 0, ha, hg, (Array.getElem?_eq_some_iff.1 hblk).1, RdRows.mk (vs := rv) ?_ (fun j v hj => ?_)⟩
    · have key : ∀ (rs : List (List D)) (vs : List (List Value)), (∀ r ∈ rs, r.all D.bare = true) → RdR S w rs vs → RdR (fun k => w.heap.size ≤ k) w' rs vs := by
        intro rs
        induction rs with
        | nil => intro vs _ h; cases vs with
          | nil => trivial
          | cons v vs => exact h.elim
        | cons r rs ih => intro vs hb h; cases vs with
          | nil => exact h.elim
          | cons v vs => exact ⟨h.1.bare (hb r (List.mem_cons_self ..)), ih vs (fun r hr => hb r (List.mem_cons_of_mem _ hr)) h.2⟩
      exact key rows rv hb h2
    · rw [cell_of_row w' g (0 + j) _ E (0, 0) hblk, Nat.zero_add]
      simp only [List.getElem?_toArray]
      rw [List.getElem?_append_left (List.getElem?_eq_some_iff.1 hj).1]
      exact hj


theorem RdL.mk {S : Nat → Prop} {w : World} {d : D} {ds : List D} {v : Value} {vs : List Value} (h : Rd S w d v) (hs : RdL S w ds vs) : RdL S w (d :: ds) (v :: vs) := ⟨h, hs⟩
theorem RdL.none {S : Nat → Prop} {w : World} : RdL S w [] [] := trivial
theorem oc_nil : ∀ u ∈ List.flatten ([] : List (List Value)), u.oneCell' = true := by simp
theorem oc_cons {x : List Value} {xs : List (List Value)} (h : ∀ u ∈ x, u.oneCell' = true) (hs : ∀ u ∈ List.flatten xs, u.oneCell' = true) : ∀ u ∈ List.flatten (x :: xs), u.oneCell' = true := fun u hu => by
  rw [List.flatten_cons] at hu
  rcases List.mem_append.1 hu with hu | hu
  · exact h u hu
  · exact hs u hu
theorem Rd.cells {S : Nat → Prop} {w : World} {d : D} {v : Value} (h : Rd S w d v) : v.cells = [v].toArray := by
  cases d with
  | int n => rw [Rd] at h; subst h; rfl
  | bool n => rw [Rd] at h; subst h; rfl
  | str n => rw [Rd] at h; subst h; rfl
  | sl rows => rw [Rd] at h; obtain ⟨a, cap, rfl, _⟩ := h; rfl
  | u8 n => rw [Rd] at h; subst h; rfl
  | pt rows => rw [Rd] at h; rcases h with ⟨_, rfl⟩ | ⟨g, off, _, rfl, _⟩ <;> rfl
end Go.Sx

namespace Go.Sx

/-- 0 Value, 1 Field, 2 string, 3 int, 4 Point, 5 Expr, 6 Pred, 7 Order, 8 Index, 9 Schema, 10 Prop, 11 Space, 12 Write, 13 Entry, 14 Message, 15 Op (docstorelaw46), 16 Trial, 17 path ([]string), 18 Slice, 19 Computed, 20 Query, 21 row of Interval ([]Interval), 22 Interval -/
def shV : List K := [.int, .int, .str, .sl 0, .sl 1]
def shExpr : List K := [.int, .sl 2, .str, .sl 2] ++ shV ++ [.int, .sl 5]
def shPred : List K := [.int, .sl 2] ++ shV ++ [.sl 0, .int, .int, .int, .sl 4, .int] ++ shExpr ++ [.sl 6]
def shIndex : List K := [.str, .int, .sl 7, .bool, .bool, .bool] ++ shPred
def shSchema : List K := [.int, .bool] ++ shV ++ [.bool] ++ shV ++ [.sl 0, .int, .int, .sl 2, .sl 10, .bool, .sl 9, .bool]
def shSpace : List K := [.str, .sl 8] ++ shSchema ++ [.int, .int]
def shWrite : List K := [.int, .str] ++ shV ++ shV ++ shV ++ shSpace ++ shIndex ++ [.str, .int, .sl 12, .sl 3, .bool]
def shMsg : List K := [.int, .int, .int, .int, .int, .int, .int, .sl 13, .bool]
def sh : Nat → List K
  | 0 => shV
  | 1 => .str :: shV
  | 2 => [.str]
  | 3 => [.int]
  | 4 => [.int, .int]
  | 5 => shExpr
  | 6 => shPred
  | 7 => [.sl 2, .bool]
  | 8 => shIndex
  | 9 => shSchema
  | 10 => .str :: shSchema
  | 11 => shSpace
  | 12 => shWrite
  | 13 => [.int, .int, .str, .int] ++ shWrite
  | 14 => shMsg
  | 15 => [.int] ++ shMsg ++ [.int, .int]
  | 16 => [.sl 0, .int, .int, .int, .bool]
  | 17 => [.sl 2]
  | 18 => [.sl 2, .int, .int]
  | 19 => [.sl 2] ++ shExpr
  | 20 => shPred ++ [.sl 7, .int, .int, .bool, .sl 17, .bool, .sl 18, .sl 19, .str]
  | 21 => [.sl 22]
  | 22 => shV ++ shV ++ [.bool, .bool]
  | 23 => [.sl 0]
  | 24 => [.str, .bool]
  | 25 => [.sl 0] ++ shV
  | 26 => [.bool]
  | 27 => [.u8]
  | 28 => .str :: (shV ++ [.pt 28])
  | 29 => [.u8]
  | _ => []
def by_ : Nat → Nat
  | 0 => 80
  | 1 => 96
  | 2 => 16
  | 3 => 8
  | 4 => 16
  | 5 => 184
  | 6 => 400
  | 7 => 32
  | 8 => 456
  | 9 => 312
  | 10 => 328
  | 11 => 368
  | 12 => 1168
  | 13 => 1208
  | 14 => 88
  | 15 => 112
  | 16 => 56
  | 17 => 24
  | 18 => 40
  | 19 => 208
  | 20 => 0
  | 21 => 24
  | 22 => 168
  | 23 => 24
  | 24 => 24
  | 25 => 104
  | 26 => 1
  | 27 => 1
  | 28 => 104
  | 29 => 1
  | _ => 0

theorem bare_of_fit {ds : List D} : ∀ {ks : List K}, FitL sh by_ ds ks → (∀ k ∈ ks, k = .int ∨ k = .bool ∨ k = .str) → ds.all D.bare = true := by
  induction ds with
  | nil => intros; rfl
  | cons d ds ih =>
    intro ks h hk
    rw [FitL] at h
    obtain ⟨k, ks', rfl, h1, h2⟩ := h
    simp only [List.all_cons, Bool.and_eq_true]
    refine ⟨?_, ih h2 (fun x hx => hk x (List.mem_cons_of_mem _ hx))⟩
    rcases hk k (List.mem_cons_self ..) with rfl | rfl | rfl
    · obtain ⟨n, rfl, _⟩ := h1.int; rfl
    · obtain ⟨n, rfl⟩ := h1.bool; rfl
    · obtain ⟨n, rfl, _⟩ := h1.str; rfl
theorem bareR_of_fit {rows : List (List D)} {ks : List K} (h : FitR sh by_ rows ks) (hk : ∀ k ∈ ks, k = .int ∨ k = .bool ∨ k = .str) : ∀ r ∈ rows, r.all D.bare = true := fun r hr => by
  obtain ⟨i, hi⟩ := List.getElem?_of_mem hr
  exact bare_of_fit (h.get i r hi) hk
end Go.Sx

namespace Go.Sx
open Go.RowKit
set_option linter.unusedVariables false

/-! ### Transport, more -/
theorem Tr.more {w0 wb : World} {A L : List Blk} {b : Nat} {c : Array Value} {t : TypeId} (h : Tr w0 A wb L) (hb : wb.heap.size ≤ b) : Tr w0 A wb (⟨b, c, t⟩ :: L) :=
  ⟨h.os, h.tape, h.output, h.size, fun k hk => (im_more hb).sub k (h.im k hk).1 (h.im k hk), h.same⟩
theorem Tr.drop1 {w0 wb : World} {A L : List Blk} {x : Blk} (h : Tr w0 A wb (x :: L)) : Tr w0 A wb L :=
  ⟨h.os, h.tape, h.output, h.size, fun k hk => ⟨(h.im k hk).1, fun y hy => (h.im k hk).2 y (List.mem_cons_of_mem _ hy)⟩, h.same⟩
theorem SH.drop1 {wb : World} {L : List Blk} {x : Blk} {w : World} (h : SH wb (x :: L) w) : SH w L w :=
  ⟨rfl, rfl, rfl, Nat.le_refl _, fun _ _ _ => rfl, fun y hy => h.blk y (List.mem_cons_of_mem _ hy), fun i j y z hi hj he => by
    have := h.dis (i + 1) (j + 1) y z (by simpa using hi) (by simpa using hj) he; omega⟩
theorem nw_drop1 {wb : World} {L : List Blk} {x : Blk} {B : Nat} : Stays (Nw B wb (x :: L)) wb (Nw B wb L) wb := ⟨Nat.le_refl _, fun k hk h => ⟨h.1, hk, fun y hy => h.2.2 y (List.mem_cons_of_mem _ hy)⟩, fun _ _ _ => rfl⟩
/-- cells that lie in a known block from its head on -/
theorem SH.news {wb : World} {L : List Blk} {w : World} (h : SH wb L w) (p : Nat) {r : Nat} {t : TypeId} {news : List Value} (hp : L[p]? = some ⟨r, news.toArray, t⟩) : ∀ j u, news[j]? = some u → w.cell? ((⟨r, 0, none⟩ : Addr).add j) = some u := fun j u hu => by
  rw [Addr.add_mid, Nat.zero_add, h.cell p hp j]
  simpa using hu
theorem Own.val {E size : Nat} {v : Value} {n : Nat} {xs : List Value} {R : List Blk} (h : Own E size v n xs R) : ∃ a cap, v = .slice a n cap := by
  rcases h.2 with ⟨rfl, rfl, _⟩ | ⟨g, cap, c, rfl, _⟩
  · exact ⟨none, 0, rfl⟩
  · exact ⟨_, cap, rfl⟩
section
variable {P : Program} {ops : Array Oper} {Q : Exit → Act → World → Prop} {n : Nat}
/-- a new block in a region that draws, whatever the region keeps -/
theorem wd_newX {m f : Nat} {e : Env} {wb : World} {L : List Blk} {S : World → Prop} {listed : Array Bool} {oi : Oper} {d : Nat} (i : Nat) (C : Array Value) (T : TypeId) (V : Nat → Value)
    (hi : ops[i]? = some oi) (him : i < m) (hr : Region.ready .any ops listed = [i]) (hf : fit ops n e oi (some d) = true)
    (hn : ∀ r, newAt P r (execOp (rho e) oi) = some (.cells C T (0, 0), .value (V r))) (hS : ∀ r w, wb.heap.size ≤ r → SH wb (⟨r, C, T⟩ :: L) w → S w)
    (k : ∀ r, wb.heap.size ≤ r → WD P ops Q n m S (SH wb (⟨r, C, T⟩ :: L)) f (listed.setIfInBounds i true) ((d, V r) :: e)) : WD P ops Q n m S (SH wb L) (f + 1) listed e :=
  wd_one i (σ := { r : Nat // wb.heap.size ≤ r }) (fun r => V r.1) (fun r => SH wb (⟨r.1, C, T⟩ :: L)) hi him hr hf
    (fun w hw => ⟨⟨w.heap.size, hw.size⟩, w.alloc (.cells C T), newAt_run _ w _ _ (hn _), hw.alloc C T⟩) (fun r w h => hS r.1 w r.2 h) (fun r => k r.1 r.2)
end
theorem Rd.slv {S : Nat → Prop} {w : World} {rows : List (List D)} {v : Value} (h : Rd S w (.sl rows) v) : ∃ a c, v = .slice a rows.length c := by
  rw [Rd] at h
  obtain ⟨a, c, h, _⟩ := h
  exact ⟨a, _, h⟩

theorem SH.rot {wb : World} {A R S : List Blk} {w : World} (h : SH wb ((A ++ R) ++ S) w) : SH wb ((A ++ S) ++ R) w := by
  refine h.perm (fun x => by simp only [List.mem_append]; constructor <;> (rintro ((h | h) | h) <;> simp [h])) (fun i j x y hi hj he => ?_)
  have look : ∀ (i : Nat) (x : Blk), ((A ++ S) ++ R)[i]? = some x → ∃ i', ((A ++ R) ++ S)[i']? = some x ∧ ((i < A.length ∧ i' = i) ∨ (A.length ≤ i ∧ i < A.length + S.length ∧ i' = i + R.length) ∨ (A.length + S.length ≤ i ∧ i < A.length + S.length + R.length ∧ i' + S.length = i)) := fun i x hi => by
    by_cases h1 : i < A.length
    · rw [List.append_assoc, List.getElem?_append_left h1] at hi
      exact ⟨i, by rw [List.append_assoc, List.getElem?_append_left h1]; exact hi, .inl ⟨h1, rfl⟩⟩
    · by_cases h2 : i < A.length + S.length
      · rw [List.getElem?_append_left (by simp; omega), List.getElem?_append_right (by omega)] at hi
        exact ⟨i + R.length, by rw [List.getElem?_append_right (by simp; omega)]; simpa [show i + R.length - (A.length + R.length) = i - A.length by omega] using hi, .inr (.inl ⟨by omega, h2, rfl⟩)⟩
      · rw [List.getElem?_append_right (by simp; omega)] at hi
        have hl := (List.getElem?_eq_some_iff.1 hi).1
        simp only [List.length_append] at hi hl
        refine ⟨i - S.length, ?_, .inr (.inr ⟨by omega, by omega, by omega⟩)⟩
        rw [List.getElem?_append_left (by simp; omega), List.getElem?_append_right (by omega), show i - S.length - A.length = i - (A.length + S.length) by omega]
        exact hi
  obtain ⟨i', hi', e1⟩ := look i x hi
  obtain ⟨j', hj', e2⟩ := look j y hj
  have := h.dis i' j' x y hi' hj' he
  rcases e1 with e1 | e1 | e1 <;> rcases e2 with e2 | e2 | e2 <;> omega
theorem Tr.rotR {w0 wb : World} {L A R S : List Blk} (h : Tr w0 L wb ((A ++ R) ++ S)) : Tr w0 L wb ((A ++ S) ++ R) :=
  ⟨h.os, h.tape, h.output, h.size, fun k hk => ⟨(h.im k hk).1, fun x hx => (h.im k hk).2 x (by simp only [List.mem_append] at hx ⊢; rcases hx with (h | h) | h <;> simp [h])⟩, h.same⟩
theorem Tr.rotL {w0 wb : World} {L A R S : List Blk} (h : Tr w0 ((A ++ R) ++ S) wb L) : Tr w0 ((A ++ S) ++ R) wb L :=
  ⟨h.os, h.tape, h.output, h.size, fun k hk => h.im k ⟨hk.1, fun x hx => hk.2 x (by simp only [List.mem_append] at hx ⊢; rcases hx with (h | h) | h <;> simp [h])⟩, fun k hk => h.same k ⟨hk.1, fun x hx => hk.2 x (by simp only [List.mem_append] at hx ⊢; rcases hx with (h | h) | h <;> simp [h])⟩⟩
/-- fewer known blocks to begin with -/
theorem Tr.wide {w0 wb : World} {A A' L : List Blk} (h : Tr w0 A wb L) (hA : ∀ x ∈ A, x ∈ A') : Tr w0 A' wb L :=
  ⟨h.os, h.tape, h.output, h.size, fun k hk => h.im k ⟨hk.1, fun x hx => hk.2 x (hA x hx)⟩, fun k hk => h.same k ⟨hk.1, fun x hx => hk.2 x (hA x hx)⟩⟩
/-- fewer known blocks in the end -/
theorem Tr.less {w0 wb : World} {A L L' : List Blk} (h : Tr w0 A wb L) (hL : ∀ x ∈ L', x ∈ L) : Tr w0 A wb L' :=
  ⟨h.os, h.tape, h.output, h.size, fun k hk => ⟨(h.im k hk).1, fun x hx => (h.im k hk).2 x (hL x hx)⟩, h.same⟩
theorem Tr.range {w0 wb : World} {A L : List Blk} (h : Tr w0 A wb L) {g o : Nat} {cs : List Value} (hI : Im w0 A g) (hr : w0.rangeAt g o cs) : wb.rangeAt g o cs := fun j v hj => by
  rw [World.cell?_of_block (w := w0) (w' := wb) (a := ⟨g, o + j, none⟩) (h.same g hI)]; exact hr j v hj
theorem SH.sub {wb : World} {L L' : List Blk} {w : World} (h : SH wb L w) (hL : ∀ x ∈ L', x ∈ L) (hd : ∀ (i j : Nat) (x y : Blk), L'[i]? = some x → L'[j]? = some y → x.b = y.b → i = j) : SH w L' w :=
  ⟨rfl, rfl, rfl, Nat.le_refl _, fun _ _ _ => rfl, fun x hx => h.blk x (hL x hx), hd⟩

/-- the rows of a slice that stands still: rv its rows -/
def RowV (wb : World) (L : List Blk) (B : Nat) (v : Value) (rv : List (List Value)) : Prop :=
  ∃ a cap, v = .slice a rv.length cap ∧ (rv = [] ∨ ∃ g, a = some ⟨g, 0, none⟩ ∧ B ≤ g ∧ Im wb L g ∧ wb.rangeAt g 0 rv.flatten)
theorem RowV.tr {wb wb' : World} {L L' : List Blk} {B : Nat} {v : Value} {rv : List (List Value)} (h : RowV wb L B v rv) (ht : Tr wb L wb' L') : RowV wb' L' B v rv := by
  obtain ⟨a, cap, rfl, h⟩ := h
  refine ⟨a, cap, rfl, ?_⟩
  rcases h with h | ⟨g, ha, hB, hI, hr⟩
  · exact .inl h
  · exact .inr ⟨g, ha, hB, ht.im g hI, ht.range hI hr⟩
/-- a row that the call owns, beside the blocks that it keeps -/
theorem RowV.of_own {wb w : World} {L R : List Blk} {E es B : Nat} {v : Value} {rv : List (List Value)} (ho : Own E es v rv.length rv.flatten R) (hsh : SH wb (L ++ R) w) (hB : ∀ x ∈ R, B ≤ x.b) : RowV w L B v rv := by
  rcases ho.2 with ⟨rfl, hn, rfl⟩ | ⟨g, cap, c, rfl, rfl, _, _, _, ht⟩
  · exact ⟨none, 0, by rw [hn], .inl (List.eq_nil_of_length_eq_zero hn)⟩
  · refine ⟨_, cap, rfl, .inr ⟨g, rfl, hB ⟨g, c, E⟩ (by simp), ⟨hsh.lt (x := ⟨g, c, E⟩) (by simp), fun x hx he => ?_⟩, fun j u hj => ?_⟩⟩
    · obtain ⟨i, hi⟩ := List.getElem?_of_mem hx
      have hil := (List.getElem?_eq_some_iff.1 hi).1
      have := hsh.dis i L.length x ⟨g, c, E⟩ (by rw [List.getElem?_append_left hil]; exact hi) (by simp) he
      omega
    · rw [Nat.zero_add, cell_of_row w g j c E (0, 0) (hsh.blk ⟨g, c, E⟩ (by simp))]
      rw [← ht, List.getElem?_take] at hj
      split at hj
      · simpa using hj
      · cases hj
end Go.Sx

namespace Go.Sx
open Go.ChangeShapes Go.WideShapes Go.ChangeAt Go.RowKit
section
variable {H : Type} {enc : TypeId × Value → H} {P : Program}
/-- the end of a call that was handed no memory: what the world held is as it was -/
theorem post_bare {f : Func} {s : ChangeSpec} {apart fresh handsOn again : Bool} {W W' : World} {args : Array Value} {v : Value} {ds gs : List (DataW H)}
    (hW : DataW.Whole enc P f.params.toList s.vars apart W args.toList ds gs [])
    (hres : ∀ (b : Nat) (sp : Nat → Bool) (hd : Bool), DataW.TrodAll enc P W' b sp hd f.resultTypes.toList (v.resultList f.resultTypes.size) (s.fn H (ds ++ gs)).results [])
    (hargs : ∀ sp : Nat → Bool, DataW.TrodAll enc P W' 0 sp true f.params.toList args.toList (s.fn H (ds ++ gs)).args [])
    (hvars : ∀ sp : Nat → Bool, DataW.TrodVars enc P W' sp s.vars (s.fn H (ds ++ gs)).vars [])
    (hb : Below W.heap.size W W')
    (hok : ∀ (j : Nat) (t : TypeId) (r : Value), f.resultTypes[j]? = some t → (v.resultList f.resultTypes.size)[j]? = some r → Value.okWide P W' .any 0 t r) :
    s.post enc P f apart fresh handsOn again W args v W' := by
  refine ⟨ds, gs, [], [], [], [], hW, hres _ _ _, hargs _, hvars _, hb.frame _, fun _ => ?_⟩
  obtain ⟨_, _, _, _, _, _, hn⟩ := hW
  refine ⟨hok, _, _, [], ⟨[], [], trodAll_append (hargs _) (hres _ _ _), hvars _, rfl, fun b off hp => ?_, fun ha => ?_⟩, fun p hp => ?_⟩
  · cases hp
  · exact hn ha
  · cases hp
end
/-- the bounds of an integer argument -/
theorem i64_wf {a : Int} (h : (Lit.int .i64 a).wf = true) : -9223372036854775808 ≤ a ∧ a ≤ 9223372036854775807 := by
  have m1 : IntKind.i64.min = -9223372036854775808 := by decide
  have m2 : IntKind.i64.max = 9223372036854775807 := by decide
  simp only [Lit.wf, Bool.and_eq_true, decide_eq_true_eq] at h
  omega
theorem u8_wf {a : Int} (h : (Lit.int .u8 a).wf = true) : ∃ n : Nat, a = (n : Int) ∧ n < 256 := by
  have m1 : IntKind.u8.min = 0 := by decide
  have m2 : IntKind.u8.max = 255 := by decide
  simp only [Lit.wf, Bool.and_eq_true, decide_eq_true_eq] at h
  exact ⟨a.toNat, by omega, by omega⟩
end Go.Sx

namespace Go.Sx
open Go.RowKit
set_option linter.unusedVariables false

/-! ### a table of types and their cells' kinds, checked -/
def eqK : K → K → Bool
  | .int, .int => true
  | .bool, .bool => true
  | .str, .str => true
  | .sl a, .sl b => a == b
  | .u8, .u8 => true
  | .pt a, .pt b => a == b
  | _, _ => false
theorem eqK_eq : ∀ {a b : K}, eqK a b = true → a = b := fun {a b} h => by
  cases a <;> cases b <;> simp_all [eqK]
def eqKs : List K → List K → Bool
  | [], [] => true
  | a :: l, b :: r => eqK a b && eqKs l r
  | _, _ => false
theorem eqKs_eq : ∀ {a b : List K}, eqKs a b = true → a = b
  | [], [], _ => rfl
  | a :: l, b :: r, h => by
    simp only [eqKs, Bool.and_eq_true] at h
    rw [eqK_eq h.1, eqKs_eq h.2]
  | [], _ :: _, h | _ :: _, [], h => by cases h
def tabAt : List (TypeId × List K) → TypeId → Option (List K)
  | [], _ => none
  | x :: xs, t => bif Nat.beq x.1 t then some x.2 else tabAt xs t
theorem tabAt_mem : ∀ {tab : List (TypeId × List K)} {t : TypeId} {ks : List K}, tabAt tab t = some ks → (t, ks) ∈ tab
  | [], _, _, h => by cases h
  | x :: xs, t, ks, h => by
    simp only [tabAt] at h
    cases hb : Nat.beq x.1 t with
    | true =>
      rw [hb] at h
      simp only [cond_true, Option.some.injEq] at h
      have e := Nat.eq_of_beq_eq_true hb
      have hx : x = (t, ks) := Prod.ext e h
      rw [hx]
      exact List.mem_cons_self ..
    | false =>
      rw [hb] at h
      exact List.mem_cons_of_mem _ (tabAt_mem h)
def fldsAt (P : Program) (tab : List (TypeId × List K)) : List Field → Nat → Option (List K)
  | [], _ => some []
  | f :: fs, o => bif Nat.beq f.offset o then (match tabAt tab f.type with
      | some k => bif Nat.beq (P.cellsOf f.type) k.length then (match fldsAt P tab fs (o + k.length) with | some r => some (k ++ r) | none => none) else none
      | none => none) else none
def oneAt (P : Program) (sh : Nat → List K) (by_ : Nat → Nat) (tab : List (TypeId × List K)) (x : TypeId × List K) : Bool :=
  Nat.beq (P.cellsOf x.1) x.2.length && match P.underlying x.1 with
    | some .bool => eqKs x.2 [.bool]
    | some (.int .i64) => eqKs x.2 [.int]
    | some .string => eqKs x.2 [.str]
    | some (.slice e) => (match x.2 with
      | [.sl t] => (match tabAt tab e with | some ks => eqKs ks (sh t) && Nat.blt 0 ks.length && Nat.beq (P.cellsOf e) ks.length && Nat.beq (P.bytesOf e) (by_ t) | none => false)
      | _ => false)
    | some (.struct fs) => (match fldsAt P tab fs.toList 0 with | some ks' => eqKs ks' x.2 | none => false)
    | _ => false

/-! ### how much is read -/
mutual
def bulk {H : Type} : DataW H → Nat
  | .lit (.string bytes) => bytes.length + 1
  | .lit _ => 1
  | .nil => 1
  | .ptr d => bulk d + 1
  | .slice elems spare => bulkAll elems + bulkAll spare + 1
  | .agg parts => bulkAll parts + 1
  | .iface _ d => bulk d + 1
  | .map entries => 1
  | .held _ => 1
def bulkAll {H : Type} : List (DataW H) → Nat
  | [] => 0
  | d :: r => bulk d + bulkAll r
end

section
variable {H : Type} {enc : TypeId × Value → H} {P : Program} {w : World} {spare : Nat → Bool} {held : Bool} {tab : List (TypeId × List K)} {sh : Nat → List K} {by_ : Nat → Nat}

/-- what is shown of one value -/
def Opened (sh : Nat → List K) (by_ : Nat → Nat) (w : World) (ks : List K) (cs : List Value) (d : DataW H) : Prop := ∃ ds, RdL (Im w []) w ds cs ∧ FitL sh by_ ds ks ∧ szL ds + 1 ≤ 2 * bulk d

theorem FitL.app : ∀ {ds ds' : List D} {ks ks' : List K}, FitL sh by_ ds ks → FitL sh by_ ds' ks' → FitL sh by_ (ds ++ ds') (ks ++ ks')
  | [], _, ks, _, h, h' => by rw [FitL] at h; subst h; exact h'
  | d :: ds, ds', ks, ks', h, h' => by
    rw [FitL] at h
    obtain ⟨k, kr, rfl, h1, h2⟩ := h
    rw [List.cons_append, List.cons_append, FitL]
    exact ⟨k, _, rfl, h1, FitL.app h2 h'⟩

theorem FitL.one {d : D} {k : K} (h : Fit sh by_ d k) : FitL sh by_ [d] [k] := by
  rw [FitL]; exact ⟨k, [], rfl, h, by rw [FitL]⟩

def Wt (P : Program) (t : TypeId) (d : DataW H) : Prop := ∀ x ∈ d.weights P t, x ≤ reachBytes
def WtAll (P : Program) (t : TypeId) (ds : List (DataW H)) : Prop := ∀ x ∈ DataW.weightsAll P t ds, x ≤ reachBytes
def WtEach (P : Program) (ts : List TypeId) (ds : List (DataW H)) : Prop := ∀ x ∈ DataW.weightsEach P ts ds, x ≤ reachBytes
theorem WtEach.cons {t : TypeId} {ts : List TypeId} {d : DataW H} {ds : List (DataW H)} (h : WtEach P (t :: ts) (d :: ds)) : Wt P t d ∧ WtEach P ts ds :=
  ⟨fun x hx => h x (by simp [DataW.weightsEach, hx]), fun x hx => h x (by simp [DataW.weightsEach, hx])⟩
theorem WtAll.cons {t : TypeId} {d : DataW H} {ds : List (DataW H)} (h : WtAll P t (d :: ds)) : Wt P t d ∧ WtAll P t ds :=
  ⟨fun x hx => h x (by simp [DataW.weightsAll, hx]), fun x hx => h x (by simp [DataW.weightsAll, hx])⟩

theorem open_flds {fuel : Nat} (ih : ∀ t ks cs d ps, DataW.trod enc P w 0 spare held fuel t cs = some (d, ps) → tabAt tab t = some ks → Wt P t d → Opened sh by_ w ks cs d) {cs : List Value} :
    ∀ (fs : List Field) (o : Nat) (ks : List K) (xs : List (DataW H × List MemPlace)), fldsAt P tab fs o = some ks → xs.length = fs.length →
      (∀ (i : Nat) (f : Field), fs[i]? = some f → DataW.trod enc P w 0 spare held fuel f.type ((cs.drop f.offset).take (P.cellsOf f.type)) = xs[i]?) → WtEach P (fs.map (·.type)) (xs.map (·.1)) →
      ∃ ds, RdL (Im w []) w ds ((cs.drop o).take ks.length) ∧ FitL sh by_ ds ks ∧ szL ds ≤ 2 * bulkAll (xs.map (·.1))
  | [], o, ks, xs, h, hl, hx, _ => by
    simp only [fldsAt, Option.some.injEq] at h
    subst h
    refine ⟨[], ?_, by simp [FitL], by simp [szL]⟩
    simp [RdL]
  | f :: fs, o, ks, [], h, hl, hx, _ => by simp at hl
  | f :: fs, o, ks, y :: xs, h, hl, hx, hw => by
    simp only [fldsAt] at h
    cases hb : Nat.beq f.offset o with
    | false => rw [hb] at h; cases h
    | true =>
      rw [hb, cond_true] at h
      have ho := Nat.eq_of_beq_eq_true hb
      cases hk : tabAt tab f.type with
      | none => rw [hk] at h; cases h
      | some k =>
        simp only [hk] at h
        cases hc : Nat.beq (P.cellsOf f.type) k.length with
        | false => rw [hc] at h; cases h
        | true =>
          rw [hc, cond_true] at h
          have hcl := Nat.eq_of_beq_eq_true hc
          cases hr : fldsAt P tab fs (o + k.length) with
          | none => rw [hr] at h; cases h
          | some kr =>
            simp only [hr, Option.some.injEq] at h
            subst h
            have hw' : WtEach P (f.type :: fs.map (·.type)) (y.1 :: xs.map (·.1)) := hw
            obtain ⟨w1, w2⟩ := hw'.cons
            have h0 := hx 0 f rfl
            obtain ⟨d1, r1, f1, s1⟩ := ih f.type k _ y.1 y.2 h0 hk w1
            obtain ⟨d2, r2, f2, s2⟩ := open_flds ih fs (o + k.length) kr xs hr (by simpa using hl) (fun i g hg => by simpa using hx (i + 1) g (by simpa using hg)) w2
            refine ⟨d1 ++ d2, ?_, FitL.app f1 f2, by rw [szL_append]; simp only [List.map_cons, bulkAll]; omega⟩
            have h1 := r1.append r2
            have e : (cs.drop o).take ((k ++ kr).length) = (cs.drop f.offset).take (P.cellsOf f.type) ++ (cs.drop (o + k.length)).take kr.length := by
              rw [ho, hcl, List.length_append, List.take_add, List.drop_drop]
            rw [e]
            exact h1

theorem cells_range {a : Addr} {n : Nat} {cs : List Value} (h : w.cells? 0 a n = some cs) (hn : 0 < n) : ∃ g off, a = ⟨g, off, none⟩ ∧ cs.length = n ∧ w.rangeAt g off cs := by
  obtain ⟨_, hl, hc⟩ := World.cells?_some h
  have h0 := hc 0 hn
  have hcs : cs[0]? = some (cs[0]'(by omega)) := List.getElem?_eq_getElem (by omega)
  rw [hcs] at h0
  obtain ⟨g, off, spot⟩ := a
  have hsp : spot = none := by
    simp only [Addr.add, if_true] at h0
    unfold World.cell? at h0
    split at h0
    · split at h0
      · cases h0
      · rename_i hs; simpa using hs
    · cases h0
  subst hsp
  refine ⟨g, off, rfl, hl, fun j v hj => ?_⟩
  have hjl : j < n := by have := (List.getElem?_eq_some_iff.1 hj).1; omega
  have := hc j hjl
  rw [Addr.add_mid] at this
  rw [this]; exact hj

theorem open_rows {fuel : Nat} (ih : ∀ t ks cs d ps, DataW.trod enc P w 0 spare held fuel t cs = some (d, ps) → tabAt tab t = some ks → Wt P t d → Opened sh by_ w ks cs d) {a : Addr} {e : TypeId} {ks : List K} (hk : tabAt tab e = some ks)
    (hlen : P.cellsOf e = ks.length) (hpos : 0 < ks.length) :
    ∀ (xs : List (DataW H × List MemPlace)) (s : Nat), (∀ i, i < xs.length → (w.cells? 0 (a.add ((s + i) * P.cellsOf e)) (P.cellsOf e)).bind (DataW.trod enc P w 0 spare held fuel e) = xs[i]?) → WtAll P e (xs.map (·.1)) →
      ∃ rows vs, RdR (Im w []) w rows vs ∧ rows.length = xs.length ∧ FitR sh by_ rows ks ∧ szR rows ≤ 2 * bulkAll (xs.map (·.1)) ∧ (∀ v ∈ vs, v.length = ks.length) ∧
        ∀ (i : Nat) (v : List Value), vs[i]? = some v → ∃ g off, a.add ((s + i) * P.cellsOf e) = ⟨g, off, none⟩ ∧ w.rangeAt g off v
  | [], s, h, _ => ⟨[], [], trivial, rfl, by simp [FitR], by simp [szR], by simp, by simp⟩
  | y :: xs, s, h, hw => by
    have hw' : WtAll P e (y.1 :: xs.map (·.1)) := hw
    obtain ⟨w1, w2⟩ := hw'.cons
    have h0 := h 0 (by simp)
    simp only [Nat.add_zero, List.getElem?_cons_zero] at h0
    cases hc : w.cells? 0 (a.add (s * P.cellsOf e)) (P.cellsOf e) with
    | none => rw [hc] at h0; cases h0
    | some cs =>
      rw [hc, Option.bind_some] at h0
      obtain ⟨d1, r1, f1, s1⟩ := ih e ks cs y.1 y.2 h0 hk w1
      obtain ⟨rows, vs, r2, l2, f2, s2, v2, c2⟩ := open_rows ih hk hlen hpos xs (s + 1) (fun i hi => by
        have := h (i + 1) (by simpa using hi)
        rw [show s + 1 + i = s + (i + 1) by omega]
        simpa using this) w2
      obtain ⟨g, off, hg, hcl, hr⟩ := cells_range hc (by omega)
      refine ⟨d1 :: rows, cs :: vs, ⟨r1, r2⟩, by simp [l2], by rw [FitR]; exact ⟨f1, f2⟩, by simp only [szR, List.map_cons, bulkAll]; omega, ?_, fun j v hv => ?_⟩
      · intro v hv
        rcases List.mem_cons.1 hv with rfl | hv
        · omega
        · exact v2 v hv
      · cases j with
        | zero =>
          simp only [List.getElem?_cons_zero, Option.some.injEq] at hv
          subst hv
          exact ⟨g, off, by simpa using hg, hr⟩
        | succ j =>
          have := c2 j v (by simpa using hv)
          rwa [show s + 1 + j = s + (j + 1) by omega] at this

theorem lenR_le : ∀ (rows : List (List D)), rows.length ≤ szR rows
  | [] => by simp
  | r :: rs => by have := lenR_le rs; simp only [szR, List.length_cons]; omega

theorem rows_range {g off es : Nat} : ∀ (vs : List (List Value)) (s : Nat), (∀ v ∈ vs, v.length = es) → (∀ (i : Nat) (v : List Value), vs[i]? = some v → w.rangeAt g (off + (s + i) * es) v) → w.rangeAt g (off + s * es) vs.flatten
  | [], _, _, _ => fun j u h => by simp at h
  | v :: vs, s, hl, h => fun j u hj => by
    have hv : v.length = es := hl v (List.mem_cons_self ..)
    rw [List.flatten_cons] at hj
    by_cases hjl : j < v.length
    · rw [List.getElem?_append_left hjl] at hj
      have := h 0 v rfl j u hj
      simpa using this
    · rw [List.getElem?_append_right (by omega)] at hj
      have h1 := rows_range vs (s + 1) (fun x hx => hl x (List.mem_cons_of_mem _ hx)) (fun i x hx => by
        have := h (i + 1) x (by simpa using hx)
        rwa [show s + (i + 1) = s + 1 + i by omega] at this) (j - v.length) u hj
      rw [Nat.add_mul, Nat.one_mul] at h1
      rwa [show off + (s * es + es) + (j - v.length) = off + s * es + j by omega] at h1

theorem open_trod (hT : tab.all (oneAt P sh by_ tab) = true) : ∀ (fuel : Nat) (t : TypeId) (ks : List K) (cs : List Value) (d : DataW H) (ps : List MemPlace),
    DataW.trod enc P w 0 spare held fuel t cs = some (d, ps) → tabAt tab t = some ks → Wt P t d → Opened sh by_ w ks cs d
  | 0, _, _, _, _, _, h, _, _ => by simp [DataW.trod] at h
  | fuel + 1, t, ks, cs, d, ps, h, ht, hb => by
    have ih := open_trod hT fuel
    have hone := List.all_eq_true.1 hT _ (tabAt_mem ht)
    simp only [oneAt, Bool.and_eq_true] at hone
    obtain ⟨hcell0, hone⟩ := hone
    have hcell := Nat.eq_of_beq_eq_true hcell0
    split at hone
    · rename_i hu
      obtain rfl := eqKs_eq hone
      obtain ⟨b, rfl, hx⟩ := DataW.trod_bool hu h
      simp only [Prod.mk.injEq] at hx
      obtain ⟨rfl, _⟩ := hx
      exact ⟨[.bool b], ⟨by simp [Rd], trivial⟩, FitL.one (by simp [Fit]), by simp [szL, D.sz, bulk]⟩
    · rename_i hu
      obtain rfl := eqKs_eq hone
      obtain ⟨n, rfl, hx, hwf⟩ := DataW.trod_int hu h
      simp only [Prod.mk.injEq] at hx
      obtain ⟨rfl, _⟩ := hx
      have m1 : IntKind.i64.min = -9223372036854775808 := by decide
      have m2 : IntKind.i64.max = 9223372036854775807 := by decide
      simp only [Lit.wf, Bool.and_eq_true, decide_eq_true_eq] at hwf
      exact ⟨[.int n], ⟨by simp [Rd], trivial⟩, FitL.one (by rw [Fit]; exact ⟨rfl, by omega, by omega⟩), by simp [szL, D.sz, bulk]⟩
    · rename_i hu
      obtain rfl := eqKs_eq hone
      obtain ⟨s, rfl, hx, hs⟩ := DataW.trod_string hu h
      simp only [Prod.mk.injEq] at hx
      obtain ⟨rfl, _⟩ := hx
      have := hb s.data.toList.length (by simp [DataW.weights])
      have hsz : s.data.toList.length = s.size := by simp
      refine ⟨[.str s], ⟨by simp [Rd], trivial⟩, FitL.one (by rw [Fit]; refine ⟨rfl, ?_⟩; simp only [reachBytes] at this; omega), ?_⟩
      simp only [szL, D.sz, bulk]
      omega
    · rename_i e hu
      split at hone
      · rename_i x1 t1
        cases hk : tabAt tab e with
        | none => rw [hk] at hone; cases hone
        | some kk =>
          simp only [hk, Bool.and_eq_true] at hone
          obtain ⟨⟨⟨e1, e2⟩, e3⟩, e4⟩ := hone
          have hkk := eqKs_eq e1
          have hpos : 0 < kk.length := by simpa [Nat.blt_eq] using e2
          have hce := Nat.eq_of_beq_eq_true e3
          have hby := Nat.eq_of_beq_eq_true e4
          rcases DataW.trod_slice hu h with ⟨rfl, hx⟩ | ⟨a, len, cap, elems, rest, n, hn, rfl, hx, hb0, hl, hm, hlen, hel, hsp, hns⟩
          · simp only [Prod.mk.injEq] at hx
            obtain ⟨rfl, _⟩ := hx
            exact ⟨[.sl []], ⟨by rw [Rd]; exact ⟨none, 0, rfl, .inl rfl⟩, trivial⟩, FitL.one (by rw [Fit]; exact ⟨t1, rfl, by simp, by simp [FitR]⟩), by simp [szL, D.sz, szR, bulk]⟩
          · simp only [Prod.mk.injEq] at hx
            obtain ⟨rfl, _⟩ := hx
            have hn' : n = fuel := by omega
            subst hn'
            have hwl := hb ((elems.map (·.1)).length + (rest.map (·.1)).length |> fun q => q * P.bytesOf e) (by simp [DataW.weights, hu])
            simp only [List.length_map, reachBytes] at hwl
            have hwa : WtAll P e (elems.map (·.1)) := fun x hx => hb x (by simp only [DataW.weights, hu]; exact List.mem_cons_of_mem _ (List.mem_append_left _ hx))
            obtain ⟨rows, vs, r1, r2, r3, r4, r5, r6⟩ := open_rows ih hk hce hpos (a := a) elems 0 (fun i hi => by rw [Nat.zero_add]; exact hel i (by omega)) hwa
            refine ⟨[.sl rows], ⟨?_, trivial⟩, FitL.one ?_, ?_⟩
            · rw [Rd]
              refine ⟨some a, cap - rows.length, by rw [Nat.sub_add_cancel (by rw [r2, hlen]; exact hl), r2, hlen], ?_⟩
              have hlv := r1.length
              cases hvs : vs with
              | nil => left; rw [hvs] at hlv; exact List.eq_nil_of_length_eq_zero (by simpa using hlv)
              | cons v0 vr =>
                right
                obtain ⟨g, off, hg, hr0⟩ := r6 0 v0 (by rw [hvs]; rfl)
                have ha : a = ⟨g, off, none⟩ := by simpa [Addr.add] using hg
                subst ha
                have hr : w.rangeAt g (off + 0 * kk.length) vs.flatten := rows_range vs 0 r5 (fun i v hv => by
                  obtain ⟨g', off', hg', hr'⟩ := r6 i v hv
                  rw [Addr.add_mid, hce] at hg'
                  simp only [Addr.mk.injEq] at hg'
                  obtain ⟨rfl, rfl, _⟩ := hg'
                  exact hr')
                simp only [Nat.zero_mul, Nat.add_zero] at hr
                have hv0 : v0.length = kk.length := r5 v0 (by rw [hvs]; simp)
                have hcell0 : w.cell? ⟨g, off, none⟩ = some (v0[0]'(by omega)) := by
                  have := hr0 0 (v0[0]'(by omega)) (List.getElem?_eq_getElem (by omega))
                  simpa using this
                have hlt := block_lt_of_cell hcell0
                exact ⟨g, off, rfl, ⟨hlt, by simp⟩, hlt, RdRows.mk r1 hr⟩
            · rw [Fit]
              refine ⟨t1, rfl, ?_, hkk ▸ r3⟩
              rw [r2, ← hby]
              rw [Nat.add_mul] at hwl
              omega
            · simp only [szL, D.sz, bulk]
              omega
      · cases hone
    · rename_i fs hu
      cases hf : fldsAt P tab fs.toList 0 with
      | none => rw [hf] at hone; cases hone
      | some ks' =>
        simp only [hf] at hone
        have hkk := eqKs_eq hone
        have hkk' : ks' = ks := hkk
        subst hkk'
        obtain ⟨xs, n, hn, hx, hcl, hxl, hfi⟩ := DataW.trod_struct hu h
        simp only [Prod.mk.injEq] at hx
        obtain ⟨rfl, _⟩ := hx
        have hn' : n = fuel := by omega
        subst hn'
        obtain ⟨ds, r1, r2, r3⟩ := open_flds ih (cs := cs) fs.toList 0 ks' xs hf (by simpa using hxl) (fun i f hi => hfi i f (by simpa using hi)) (fun x hx => hb x (by simp only [DataW.weights, hu]; exact hx))
        refine ⟨ds, ?_, r2, ?_⟩
        · have hc2 : cs.length = ks'.length := by rw [hcl]; exact hcell
          rw [List.drop_zero, ← hc2, List.take_length] at r1
          exact r1
        · simp only [bulk]; omega
    · cases hone
end

/-- a value that is one cell -/
theorem open_cell {H : Type} {enc : TypeId × Value → H} {P : Program} {w : World} {spare : Nat → Bool} {held : Bool} {tab : List (TypeId × List K)} {sh : Nat → List K} {by_ : Nat → Nat} (hT : tab.all (oneAt P sh by_ tab) = true) {t : TypeId} {k : K} {v : Value} {d : DataW H} {ps : List MemPlace}
    (h : DataW.Trod enc P w 0 spare held t v d ps) (ht : tabAt tab t = some [k]) (hw : Wt P t d) (hv : v.cells = #[v]) : ∃ x, Rd (Im w []) w x v ∧ Fit sh by_ x k ∧ x.sz + 1 ≤ 2 * bulk d := by
  obtain ⟨fuel, h⟩ := h
  rw [hv] at h
  obtain ⟨ds, r, f, s⟩ := open_trod hT fuel t [k] _ d ps h ht hw
  obtain ⟨x, ds', rfl, f1, f2⟩ := f.cons
  obtain rfl := f2.nil
  exact ⟨x, r.1, f1, by simpa [szL] using s⟩
end Go.Sx

namespace Go.Sx
open Go.ChangeShapes Go.WideShapes Go.ChangeAt Go.RowKit
set_option linter.unusedVariables false

section
variable {H : Type} {enc : TypeId × Value → H} {P : Program}

theorem trodAll_stays (hl : laidOutB P = true) {W W' : World} {sp : Nat → Bool} : ∀ {ts : List TypeId} {vs : List Value} {ds : List (DataW H)} {p : List MemPlace}, (ts.all fun t => P.readableRec t && decide (t < P.types.size)) = true →
    DataW.TrodAll enc P W 0 (fun _ => true) true ts vs ds p → (∀ q ∈ p, W.sameAt W' q) → (∀ q ∈ p, sp q.block = true) → DataW.TrodAll enc P W' 0 sp true ts vs ds p
  | [], [], [], p, _, h, _, _ => h
  | t :: ts, v :: vs, d :: ds, p, hr, h, h1, h2 => by
    obtain ⟨p1, p2, ha, hb, rfl⟩ := h
    simp only [List.all_cons, Bool.and_eq_true, decide_eq_true_eq] at hr
    exact ⟨p1, p2, Go.WideElems.Trod_stays hl hr.1.1 hr.1.2 ha (fun q hq => h1 q (List.mem_append_left _ hq)) (fun q hq => h2 q (List.mem_append_left _ hq)),
      trodAll_stays hl hr.2 hb (fun q hq => h1 q (List.mem_append_right _ hq)) (fun q hq => h2 q (List.mem_append_right _ hq)), rfl⟩
  | [], _ :: _, _, _, _, h, _, _ | [], [], _ :: _, _, _, h, _, _ | _ :: _, [], _, _, _, h, _, _ | _ :: _, _ :: _, [], _, _, h, _, _ => h.elim

/-- the end of a call that leaves all that was there as it was -/
theorem post_law {f : Func} {s : ChangeSpec} {apart fresh handsOn again : Bool} {W W' : World} {args : Array Value} {ds : List (DataW H)} {before : List MemPlace} {tb : TypeId}
    (hW : DataW.Whole enc P f.params.toList s.vars apart W args.toList ds [] before) (hvars : s.vars = []) (hfn : s.fn H (ds ++ []) = { results := [.lit (.bool true)], args := ds })
    (hrt : f.resultTypes = #[tb]) (hb : P.underlying tb = some .bool) (hl : laidOutB P = true) (hr : (f.params.toList.all fun t => P.readableRec t && decide (t < P.types.size)) = true) (hbel : Below W.heap.size W W') :
    s.post enc P f apart fresh handsOn again W args (.bool true) W' := by
  have hW0 := hW
  have hlt : ∀ p ∈ before, p.block < W.heap.size := fun p hp => hW.lt p hp
  have hold : ∀ p ∈ before, (fun b => decide (b < W.heap.size)) p.block = true := fun p hp => by simpa using hlt p hp
  obtain ⟨p, q, hA, hV, rfl, hz, hn⟩ := hW
  rw [hvars] at hV
  have hq : q = [] := hV
  subst hq
  simp only [List.append_nil] at *
  have hargs : ∀ sp : Nat → Bool, (∀ x ∈ p, sp x.block = true) → DataW.TrodAll enc P W' 0 sp true f.params.toList args.toList (s.fn H ds).args p := fun sp hsp => by
    rw [hfn]; exact trodAll_stays hl hr hA (fun x hx => hbel.same (hlt x hx)) hsp
  have hvs : ∀ sp : Nat → Bool, DataW.TrodVars enc P W' sp s.vars (s.fn H ds).vars [] := fun sp => by rw [hvars, hfn]; rfl
  have hres : ∀ (b : Nat) (sp : Nat → Bool) (hd : Bool), DataW.TrodAll enc P W' b sp hd f.resultTypes.toList ((Value.bool true).resultList f.resultTypes.size) (s.fn H ds).results [] := fun b sp hd => by
    rw [hfn, hrt]; exact trodAll_cons_mk (shut_bool hb true) trodAll_mk0
  have hok : ∀ (j : Nat) (t : TypeId) (r : Value), f.resultTypes[j]? = some t → ((Value.bool true).resultList f.resultTypes.size)[j]? = some r → Value.okWide P W' .any 0 t r := ok_one (by rw [hrt]) rfl (okWide_bool_mk hb _)
  refine ⟨ds, [], p, [], p, [], hW0, by simpa using hres _ _ _, by simpa using hargs _ hold, by simpa using hvs _, World.keptBut_mono (fun x hx => ⟨hx, ?_⟩) (hbel.frame (· ∈ p)), fun _ => ?_⟩
  · exact Or.inr (by simpa using hx)
  · refine ⟨hok, _, _, ([] ++ p) ++ [], ⟨[] ++ p, [], trodAll_append (hargs _ (fun _ _ => rfl)) (hres _ _ _), hvs _, rfl, ?_, ?_⟩, ?_⟩
    · intro b off hp
      have hin : MemPlace.cell b off ∈ p := by simpa using hp
      rw [hbel.frozen (hlt _ hin)]
      exact hz b off hin
    · intro ha
      simpa using hn ha
    · intro x hx _
      simpa using hx
end
/-- what is read of a slice -/
theorem Rd.slice_len {S : Nat → Prop} {w : World} {rows : List (List D)} {a : Option Addr} {len cap : Nat} (h : Rd S w (.sl rows) (.slice a len cap)) : len = rows.length := by
  rw [Rd] at h
  obtain ⟨a', c', he, _⟩ := h
  cases he; rfl
end Go.Sx

namespace Go.Sx
open Go.RowKit
set_option linter.unusedVariables false

/-- all that w0 held is as it was -/
abbrev Bl (w0 : World) (w : World) : Prop := Below w0.heap.size w0 w
theorem Bl.drew {w0 w : World} (h : Bl w0 w) : Bl w0 w.drew := ⟨h.os, h.tape, h.output, h.size, h.block⟩
theorem Bl.call {w0 w w' : World} (h : Bl w0 w) (hb : Below w.heap.size w w') : Bl w0 w' := h.trans (hb.mono h.size)
theorem Bl.cell {w0 w : World} (h : Bl w0 w) {g o : Nat} {v : Value} (hv : w0.cell? ⟨g, o, none⟩ = some v) : w.cell? ⟨g, o, none⟩ = some v := by
  rw [World.cell?_of_block (w := w0) (w' := w) (a := ⟨g, o, none⟩) (h.block g (block_lt_of_cell hv))]; exact hv
theorem Bl.stays {w0 w : World} (h : Bl w0 w) : Stays (fun _ => True) w0 (fun _ => True) w := ⟨h.size, fun _ _ _ => trivial, fun k hk _ => h.block k hk⟩
theorem RdL.any {S : Nat → Prop} {w : World} {ds : List D} {vs : List Value} (h : RdL S w ds vs) : RdL (fun _ => True) w ds vs := h.stays ⟨Nat.le_refl _, fun _ _ _ => trivial, fun _ _ _ => rfl⟩
theorem Rd.any {S : Nat → Prop} {w : World} {d : D} {v : Value} (h : Rd S w d v) : Rd (fun _ => True) w d v := h.stays ⟨Nat.le_refl _, fun _ _ _ => trivial, fun _ _ _ => rfl⟩

section
variable {P : Program} {ops : Array Oper} {Q : Exit → Act → World → Prop} {n : Nat} {e : Env} {w0 : World}

theorem yl_loadB {o : Oper} {T : TypeId} {x : Operand} {b off : Nat} {v : Value} (ho : o.op = .load T x) (hx : rho e x = .pointer (some ⟨b, off, none⟩)) (hk : kindOf P T = some none) (hv : w0.cell? ⟨b, off, none⟩ = some v) : Yl P (Bl w0) e o v := fun w hw => by
  unfold execOp
  simp only [ho, hx, Instr.loadAt, Instr.sureAddr, Sem.run_bind, Sem.run_pure, Result.andThen_ok, run_load_one w T _ v hk (hw.cell hv)]
theorem yl_loadsB {o : Oper} {T : TypeId} {x : Operand} {b off : Nat} {cs : List Value} (ho : o.op = .load T x) (hx : rho e x = .pointer (some ⟨b, off, none⟩)) (hk : kindOf P T = some (some cs.length)) (hv : w0.rangeAt b off cs) : Yl P (Bl w0) e o (.agg cs.toArray) := fun w hw => by
  unfold execOp
  simp only [ho, hx, Instr.loadAt, Instr.sureAddr, Sem.run_bind, Sem.run_pure, Result.andThen_ok, run_load_many w T b off cs hk (fun j v hj => hw.cell (hv j v hj))]
/-- a call that leaves all that was there alone -/
theorem wl_callQ {o : Oper} {rest : List Oper} {d : Nat} {f : FuncId} {args : Array Value} {v : Value} (hf : fit ops n e o (some d) = true) (hv : pureVal P (execOp (rho e) o) = some (.enter f args))
    (h : ∀ w, Bl w0 w → Calls P f args w (fun x w' => x = .returned v ∧ Below w.heap.size w w')) (k : WL P ops Q n ((d, v) :: e) (Bl w0) rest) : WL P ops Q n e (Bl w0) (o :: rest) := by
  obtain ⟨h1, h2, h3, h4⟩ := fit_some hf
  refine wl_call h1 h2 h3 h4 hv (R := fun w x w' => x = .returned v ∧ Below w.heap.size w w') h (fun w x w' hw hR => ⟨v, hR.1, ?_⟩)
  exact fun a w2 ha hww => k a w2 ha (by subst hww; exact Bl.call hw hR.2)
theorem wd_callQ (i : Nat) {m fu d : Nat} {oi : Oper} {listed : Array Bool} {f : FuncId} {args : Array Value} {v : Value} (hi : ops[i]? = some oi) (him : i < m) (hr : Region.ready .any ops listed = [i]) (hf : fit ops n e oi (some d) = true) (hv : pureVal P (execOp (rho e) oi) = some (.enter f args))
    (h : ∀ w, Bl w0 w → Calls P f args w (fun x w' => x = .returned v ∧ Below w.heap.size w w')) (k : WD P ops Q n m (Bl w0) (Bl w0) fu (listed.setIfInBounds i true) ((d, v) :: e)) : WD P ops Q n m (Bl w0) (Bl w0) (fu + 1) listed e := by
  refine wd_call i hi him hr hf hv (R := fun w x w' => x = .returned v ∧ Below w.heap.size w w') h (fun w x w' hw hR => ⟨v, hR.1, Bl.call hw hR.2, ?_⟩)
  exact fun a w2 inv ha hww => k a w2 inv ha (by subst hww; exact Bl.call hw hR.2)
/-- an index that is reckoned -/
theorem yl_indexI {S : World → Prop} {o : Oper} {T E : TypeId} {x y : Operand} {b off len cap es : Nat} (k : Nat) {i : Int} (ho : o.op = .indexAddr T x y)
    (hT : (P.underlying T, (P.info? E).map (·.size)) = (some (.slice E), some es)) (hx : rho e x = .slice (some ⟨b, off, none⟩) len cap) (hy : rho e y = .int .i64 i) (hi : i = (k : Int)) (hk : k < len) :
    Yl P S e o (.pointer (some ⟨b, off + k * es, none⟩)) := yl_index ho hT hx (by rw [hy, hi]) hk
end

/-- the rows of a slice that was there -/
theorem Rd.rows {S : Nat → Prop} {w : World} {rows : List (List D)} {v : Value} (h : Rd S w (.sl rows) v) (hne : rows ≠ []) : ∃ g off cap rv, v = .slice (some ⟨g, off, none⟩) rows.length cap ∧ RdR S w rows rv ∧ w.rangeAt g off rv.flatten := by
  rw [Rd] at h
  obtain ⟨a, cap, rfl, h⟩ := h
  rcases h with h | ⟨g, off, rfl, _, _, h⟩
  · exact absurd h hne
  · obtain ⟨rv, h1, h2⟩ := RdRows.vals h
    exact ⟨g, off, _, rv, rfl, h1, h2⟩
theorem range_row {w : World} {g off es : Nat} {rv : List (List Value)} (h : w.rangeAt g off rv.flatten) (hl : ∀ x ∈ rv, x.length = es) {i : Nat} {r : List Value} (hi : rv[i]? = some r) : w.rangeAt g (off + i * es) r := fun j u hj => by
  obtain ⟨h1, h2, _⟩ := split_row hl hi
  have hjl := (List.getElem?_eq_some_iff.1 hj).1
  have := h (i * es + j) u (by
    rw [h1, List.append_assoc, List.getElem?_append_right (by omega), h2, List.getElem?_append_left (by omega)]
    rw [show i * es + j - i * es = j by omega]; exact hj)
  rwa [show off + (i * es + j) = off + i * es + j by omega] at this
end Go.Sx
