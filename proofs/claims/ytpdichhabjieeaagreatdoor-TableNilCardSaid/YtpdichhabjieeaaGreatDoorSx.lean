/- A small calculus of symbolic execution over the walk's own 'wpList' and 'Code.wp': frames as association lists, worlds as predicates. No statement is proved here. -/
import Derived.WalkKit
import Derived.OrdersHeld
import Derived.StillTail
import Derived.Deep.MidRow
namespace Go.Sx
open Go.RowKit
set_option linter.unusedVariables false

/-! ### Frames -/
abbrev Env := List (Nat × Value)

def look (e : Env) (k : Nat) : Option Value := match e with
  | [] => none
  | (j, v) :: r => bif Nat.beq j k then some v else look r k

def rho (e : Env) : Operand → Value
  | .tmp t => (look e t).getD undef
  | .const v => v
  | .global g => .pointer (some ⟨g, 0, none⟩)
  | .func f => .func (.func f) #[] #[]

structure Has (e : Env) (n : Nat) (a : Act) : Prop where
  defers : a.defers = []
  size : a.tmps.size = n
  at_ : ∀ k v, look e k = some v → a.tmps[k]? = some v

theorem look_cons_same (e : Env) (k : Nat) (v : Value) : look ((k, v) :: e) k = some v := by simp [look]
theorem look_cons_other (e : Env) (j k : Nat) (v : Value) (h : j ≠ k) : look ((j, v) :: e) k = look e k := by
  have : Nat.beq j k = false := by rw [Bool.eq_false_iff]; exact fun hh => h (Nat.eq_of_beq_eq_true hh)
  simp [look, this]

theorem Has.put {e : Env} {n : Nat} {a : Act} (h : Has e n a) (d : Nat) (v : Value) (hd : d < n) : Has ((d, v) :: e) n (a.put (some d) v) := by
  refine ⟨by simp [Act.put, h.defers], by simp [Act.put, h.size], fun k u hk => ?_⟩
  by_cases hkd : d = k
  · subst hkd
    rw [look_cons_same] at hk
    cases hk
    simp [Act.put, h.size, hd]
  · rw [look_cons_other _ _ _ _ hkd] at hk
    simp only [Act.put, Array.getElem?_setIfInBounds_ne hkd]
    exact h.at_ k u hk

theorem Has.weaken {e e' : Env} {n : Nat} {a : Act} (h : Has e n a) (hs : ∀ k v, look e' k = some v → look e k = some v) : Has e' n a :=
  ⟨h.defers, h.size, fun k v hk => h.at_ k v (hs k v hk)⟩

def known (e : Env) : Operand → Bool
  | .tmp t => (look e t).isSome
  | _ => true

def noSel : Op → Bool
  | .select _ _ => false
  | _ => true

def covers (e : Env) (o : Oper) : Bool := noSel o.op && o.op.operands.all (known e)

theorem Has.eval {e : Env} {n : Nat} {a : Act} (h : Has e n a) {x : Operand} (hx : known e x = true) : a.eval x = rho e x := by
  cases x with
  | tmp t =>
    simp only [known] at hx
    obtain ⟨v, hv⟩ := Option.isSome_iff_exists.1 hx
    have := h.at_ t v hv
    simp [Act.eval, rho, hv, this]
  | const v => rfl
  | global g => rfl
  | func f => rfl

theorem Has.exec {e : Env} {n : Nat} {a : Act} (h : Has e n a) {o : Oper} (hc : covers e o = true) : execOp a.eval o = execOp (rho e) o := by
  simp only [covers, Bool.and_eq_true] at hc
  refine execOp_congr o (fun cs b hb => ?_) (fun x hx => h.eval ?_)
  · rw [hb] at hc; simp [noSel] at hc
  · exact (Array.all_eq_true_iff_forall_mem.1 hc.2) x hx

/-! ### Lists of operations -/
section
variable {P : Program} {ops : Array Oper} {Q : Exit → Act → World → Prop} {n : Nat}

def WL (P : Program) (ops : Array Oper) (Q : Exit → Act → World → Prop) (n : Nat) (e : Env) (S : World → Prop) (rest : List Oper) : Prop :=
  ∀ a w, Has e n a → S w → wpList P ops Q rest a w

def WC (P : Program) (Q : Exit → Act → World → Prop) (n : Nat) (e : Env) (S : World → Prop) (c : Code) : Prop :=
  ∀ a w, Has e n a → S w → c.wp P Q a w

/-- what the guard of an operation says in a frame: wanted, not wanted, or not known -/
def guardOf (ops : Array Oper) (e : Env) (o : Oper) : Option Bool :=
  match o.guard with
  | none => some true
  | some (j, want) => match ((ops[j]?).bind (·.dst)).bind (look e) with
    | some (.bool b) => some (b == want)
    | _ => none

theorem guardOf_wanted {e : Env} {a : Act} {o : Oper} {b : Bool} (h : Has e n a) (hg : guardOf ops e o = some b) : Region.wanted o (yielded ops a.tmps) = b := by
  unfold guardOf at hg
  unfold Region.wanted
  split at hg
  · rename_i hn; rw [hn]; simpa using hg
  · rename_i j want hj
    rw [hj]
    simp only
    split at hg
    · rename_i c hc
      obtain ⟨t, ht, htl⟩ := Option.bind_eq_some_iff.1 hc
      have := h.at_ t _ htl
      simp only [yielded, ht, Option.bind_some, this]
      simp only [Option.some.injEq] at hg
      rw [← hg]
      cases c <;> cases want <;> rfl
    · cases hg

/-- what an operation that leaves the world alone yields -/
def pureVal {α : Type} (P : Program) : Sem α → Option α
  | .pure a => some a
  | .program k => pureVal P (k P)
  | .mark _ k => pureVal P k
  | _ => none

theorem pureVal_run {α : Type} (s : Sem α) (x : α) (h : pureVal P s = some x) (w : World) : s.run P w = .ok x w := by
  induction s with
  | pure a => simp [pureVal] at h; subst h; rfl
  | program k ih => simp only [pureVal] at h; simp only [Sem.run]; exact ih P h
  | mark m k ih => simp only [pureVal] at h; simp only [Sem.run]; exact ih h
  | _ => simp [pureVal] at h

def stepPure (P : Program) (ops : Array Oper) (n : Nat) (e : Env) (o : Oper) : Option Env :=
  match o.dst, guardOf ops e o with
  | some d, some true =>
    if covers e o && decide (d < n) then
      match pureVal P (execOp (rho e) o) with
      | some (.value v) => some ((d, v) :: e)
      | _ => none
    else none
  | some d, some false => if d < n then some ((d, undef) :: e) else none
  | none, some false => some e
  | _, _ => none

theorem wl_step {e e' : Env} {S : World → Prop} {o : Oper} {rest : List Oper} (h : stepPure P ops n e o = some e') (k : WL P ops Q n e' S rest) : WL P ops Q n e S (o :: rest) := by
  intro a w ha hw
  unfold stepPure at h
  unfold wpList
  split at h
  · rename_i d hd hg
    rw [guardOf_wanted ha hg]
    split at h
    · rename_i hc
      simp only [Bool.and_eq_true, decide_eq_true_eq] at hc
      split at h
      · rename_i v hv
        cases h
        simp only [if_true]
        refine .inl ?_
        unfold Oper.wp
        rw [ha.exec hc.1, pureVal_run _ _ hv w]
        simp only [Oper.upon, hd]
        exact k _ _ (ha.put d v hc.2) hw
      · cases h
    · cases h
  · rename_i d hd hg
    rw [guardOf_wanted ha hg]
    split at h
    · rename_i hdn
      cases h
      simp only [Bool.false_eq_true, if_false, hd]
      exact k _ _ (ha.put d undef hdn) hw
    · cases h
  · rename_i hd hg
    rw [guardOf_wanted ha hg]
    cases h
    simp only [Bool.false_eq_true, if_false, hd]
    exact k _ _ ha hw
  · cases h

/-- so many operations that leave the world alone -/
def stepsPure (P : Program) (ops : Array Oper) (n : Nat) : Nat → Env → List Oper → Option (Env × List Oper)
  | 0, e, l => some (e, l)
  | _ + 1, _, [] => none
  | m + 1, e, o :: l => match stepPure P ops n e o with
    | some e' => stepsPure P ops n m e' l
    | none => none

theorem wl_steps (m : Nat) {e e' : Env} {S : World → Prop} {l rest : List Oper} (h : stepsPure P ops n m e l = some (e', rest)) (k : WL P ops Q n e' S rest) : WL P ops Q n e S l := by
  induction m generalizing e l with
  | zero => simp only [stepsPure, Option.some.injEq, Prod.mk.injEq] at h; obtain ⟨rfl, rfl⟩ := h; exact k
  | succ m ih =>
    cases l with
    | nil => simp [stepsPure] at h
    | cons o l =>
      simp only [stepsPure] at h
      split at h
      · rename_i e1 h1
        exact wl_step h1 (ih h)
      · cases h

theorem wl_nil {e : Env} {S : World → Prop} (h : ∀ a w, Has e n a → S w → Q .normal a w) : WL P ops Q n e S [] := h

theorem wl_weaken {e e' : Env} {S S' : World → Prop} {l : List Oper} (he : ∀ k v, look e' k = some v → look e k = some v) (hS : ∀ w, S w → S' w) (k : WL P ops Q n e' S' l) : WL P ops Q n e S l :=
  fun a w ha hw => k a w (ha.weaken he) (hS w hw)

/-- an operation that yields a value and may change the world -/
theorem wl_run {σ : Type} {e : Env} {S : World → Prop} {o : Oper} {rest : List Oper} {d : Nat} (V : σ → Value) (S' : σ → World → Prop)
    (hd : o.dst = some d) (hdn : d < n) (hg : guardOf ops e o = some true) (hc : covers e o = true)
    (h : ∀ w, S w → ∃ x w', (execOp (rho e) o).run P w = .ok (.value (V x)) w' ∧ S' x w')
    (k : ∀ x, WL P ops Q n ((d, V x) :: e) (S' x) rest) : WL P ops Q n e S (o :: rest) := by
  intro a w ha hw
  unfold wpList
  rw [guardOf_wanted ha hg, if_pos rfl]
  refine .inl ?_
  obtain ⟨x, w', hr, hS⟩ := h w hw
  unfold Oper.wp
  rw [ha.exec hc, hr]
  simp only [Oper.upon, hd]
  exact k x _ _ (ha.put d _ hdn) hS

/-- an operation that yields nothing (a store) -/
theorem wl_skip {e : Env} {S : World → Prop} {o : Oper} {rest : List Oper} (S' : World → Prop)
    (hd : o.dst = none) (hg : guardOf ops e o = some true) (hc : covers e o = true)
    (h : ∀ w, S w → ∃ w', (execOp (rho e) o).run P w = .ok .skip w' ∧ S' w')
    (k : WL P ops Q n e S' rest) : WL P ops Q n e S (o :: rest) := by
  intro a w ha hw
  unfold wpList
  rw [guardOf_wanted ha hg, if_pos rfl]
  refine .inl ?_
  obtain ⟨w', hr, hS⟩ := h w hw
  unfold Oper.wp
  rw [ha.exec hc, hr]
  simp only [Oper.upon, hd, Act.put]
  exact k _ _ ha hS

/-- a call of a function by its contract -/
theorem wl_call {e : Env} {S : World → Prop} {o : Oper} {rest : List Oper} {d : Nat} {f : FuncId} {args : Array Value} {R : World → Ending → World → Prop}
    (hd : o.dst = some d) (hdn : d < n) (hg : guardOf ops e o = some true) (hc : covers e o = true)
    (hv : pureVal P (execOp (rho e) o) = some (.enter f args))
    (h : ∀ w, S w → Calls P f args w (R w))
    (k : ∀ w ending w', S w → R w ending w' → ∃ v, ending = .returned v ∧ WL P ops Q n ((d, v) :: e) (· = w') rest) : WL P ops Q n e S (o :: rest) := by
  intro a w ha hw
  unfold wpList
  rw [guardOf_wanted ha hg, if_pos rfl]
  refine .inl ?_
  unfold Oper.wp
  rw [ha.exec hc, pureVal_run _ _ hv w]
  simp only [Oper.upon]
  refine (h w hw).mono fun ending w' hR => ?_
  obtain ⟨v, rfl, hk⟩ := k w ending w' hw hR
  simp only [hd]
  exact hk _ _ (ha.put d _ hdn) rfl

/-! ### Code -/
theorem wc_seq {e : Env} {S : World → Prop} {x y : Code} (h : WC P (Exit.then (y.wp P Q) Q) n e S x) : WC P Q n e S (.seq x y) :=
  fun a w ha hw => wp_seq (h a w ha hw)
theorem wc_skip {e : Env} {S : World → Prop} (h : ∀ a w, Has e n a → S w → Q .normal a w) : WC P Q n e S .skip := fun a w ha hw => wp_skip (h a w ha hw)
theorem wc_exit {e : Env} {S : World → Prop} {id : Nat} (h : ∀ a w, Has e n a → S w → Q (.exit id) a w) : WC P Q n e S (.exit id) := fun a w ha hw => wp_exit (h a w ha hw)
theorem wc_ret {e : Env} {S : World → Prop} (h : ∀ a w, Has e n a → S w → Q .ret a w) : WC P Q n e S .ret := fun a w ha hw => wp_ret (h a w ha hw)
theorem wc_block {e : Env} {S : World → Prop} {id : Nat} {c : Code} (h : WC P (Exit.inBlock id Q) n e S c) : WC P Q n e S (.block id c) := fun a w ha hw => wp_block (h a w ha hw)
theorem wc_region {e : Env} {S : World → Prop} {id : Nat} {l : List Oper} (h : WL P l.toArray Q n e S l) : WC P Q n e S (.region id l.toArray false) :=
  fun a w ha hw => wp_region_lit (h a w ha hw)
theorem wc_cond {e : Env} {S : World → Prop} {c : Operand} {x y : Code} (t : Bool) (hk : known e c = true) (hc : rho e c = .bool t)
    (ht : t = true → WC P Q n e S x) (hf : t = false → WC P Q n e S y) : WC P Q n e S (.cond c x y) := by
  intro a w ha hw
  refine wp_cond_split (t := t) (by rw [ha.eval hk, hc]) (fun h => ht h a w ha hw) (fun h => hf h a w ha hw)

theorem wc_weaken {e e' : Env} {S S' : World → Prop} {c : Code} (he : ∀ k v, look e' k = some v → look e k = some v) (hS : ∀ w, S w → S' w) (k : WC P Q n e' S' c) : WC P Q n e S c :=
  fun a w ha hw => k a w (ha.weaken he) (hS w hw)

theorem wc_mono {e : Env} {S : World → Prop} {c : Code} {Q' : Exit → Act → World → Prop} (h : WC P Q' n e S c) (hq : ∀ x a w, Q' x a w → Q x a w) : WC P Q n e S c :=
  fun a w ha hw => wp_mono (h a w ha hw) hq

/-- a loop: states are numbered by σ; each has a frame and a condition on the world -/
theorem wc_loop {σ : Type} {e : Env} {S : World → Prop} {c : Code} (E : σ → Env) (T : σ → World → Prop) (μ : σ → Nat)
    (h₀ : ∀ w, S w → ∃ x, T x w ∧ ∀ k v, look (E x) k = some v → look e k = some v)
    (round : ∀ x, WC P (Exit.then (fun a w => ∃ y, μ y < μ x ∧ Has (E y) n a ∧ T y w) Q) n (E x) (T x) c) : WC P Q n e S (.loop c) := by
  intro a w ha hw
  obtain ⟨x0, hT0, hE0⟩ := h₀ w hw
  have key : ∀ (m : Nat) (x : σ), μ x = m → ∀ a w, Has (E x) n a → T x w → ∀ (b : Frame) (k : List Item) (cs : List Frame),
      ∃ e a' w', Q e a' w' ∧ Arrives P (lone (b.at a (.code c :: .inLoop c :: k)) cs w) b k cs e a' w' := by
    intro m
    induction m using Nat.strongRecOn with
    | _ m ih =>
      intro x hm a w ha hT b k cs
      obtain ⟨e, a₁, w₁, hq, harr⟩ := round x a w ha hT b (.inLoop c :: k) cs
      cases e with
      | normal =>
        obtain ⟨y, hlt, hy, hTy⟩ := hq
        obtain ⟨e₂, a₂, w₂, hq₂, harr₂⟩ := ih (μ y) (hm ▸ hlt) y rfl a₁ w₁ hy hTy b k cs
        exact ⟨e₂, a₂, w₂, hq₂, .of_steps (Steps.trans harr (.one step_inLoop)) harr₂⟩
      | exit id => exact ⟨_, a₁, w₁, hq, .pass (x := .inLoop c) rfl (fun _ _ => .inl (by simp)) harr⟩
      | goto l => exact ⟨_, a₁, w₁, hq, .pass (x := .inLoop c) rfl (fun _ _ => .inl (by simp)) harr⟩
      | ret => exact ⟨_, a₁, w₁, hq, .pass (x := .inLoop c) rfl (fun _ _ => .inl (by simp)) harr⟩
      | panic ch => exact ⟨_, a₁, w₁, hq, .pass (x := .inLoop c) rfl (fun _ _ => .inl (by simp)) harr⟩
      | outgrown => exact ⟨_, a₁, w₁, hq, .pass (x := .inLoop c) rfl (fun _ _ => .inl (by simp)) harr⟩
  intro b k cs
  obtain ⟨e', a', w', hq, harr⟩ := key _ x0 rfl a w (ha.weaken hE0) hT0 b k cs
  exact ⟨e', a', w', hq, .of_steps (.one step_loop) harr⟩

/-! ### A call's beginning and end -/
def argEnv : Nat → List Value → Env
  | _, [] => []
  | k, v :: r => (k, v) :: argEnv (k + 1) r

theorem look_argEnv : ∀ (l : List Value) (k j : Nat) (v : Value), look (argEnv k l) j = some v → k ≤ j ∧ l[j - k]? = some v
  | [], _, _, _, h => by simp [argEnv, look] at h
  | x :: r, k, j, v, h => by
    by_cases hkj : k = j
    · subst hkj
      simp only [argEnv, look_cons_same] at h
      exact ⟨Nat.le_refl _, by simpa using h⟩
    · simp only [argEnv, look_cons_other _ _ _ _ hkj] at h
      obtain ⟨h1, h2⟩ := look_argEnv r (k + 1) j v h
      refine ⟨by omega, ?_⟩
      rw [show j - k = (j - (k + 1)) + 1 by omega]
      simpa using h2

theorem enter {f : FuncId} {fn : Func} {c : Code} {l : List Value} {w : World} {R : Ending → World → Prop} (hf : P.funcs[f]? = some fn) (hb : fn.body = some c) (hn : fn.ntmps = n) (hl : l.length ≤ n)
    (h : WC P (bodyPost P fn R) n (argEnv 0 l) (· = w) c) : Calls P f l.toArray w R := by
  refine calls_of_wp hf hb (h _ _ ⟨rfl, ?_, fun k v hk => ?_⟩ rfl)
  · simp [hn]; omega
  · obtain ⟨_, h2⟩ := look_argEnv l 0 k v hk
    have hlt : k < l.length := by simpa using (List.getElem?_eq_some_iff.1 h2).1
    rw [Array.getElem?_append_left (by simpa using hlt)]
    simpa using h2

/-- the results' value, out of a frame and a condition on the world -/
theorem ret_tmp {fn : Func} {R : Ending → World → Prop} {e : Env} {S : World → Prop} {t : Nat} {v : Value} (hr : fn.results = #[.tmp t]) (hv : look e t = some v) (hR : ∀ w, S w → R (.returned v) w) :
    ∀ a w, Has e n a → S w → bodyPost P fn R .ret a w := fun a w ha hw => by
  refine bodyPost_ret (results_tmp hr _ _ _) ha.defers ?_
  have := ha.at_ t v hv
  simp only [Array.getD_eq_getD_getElem?, this, Option.getD_some]
  exact hR w hw

theorem ret_tmp2 {fn : Func} {R : Ending → World → Prop} {e : Env} {S : World → Prop} {t u : Nat} {v v' : Value} (hr : fn.results = #[.tmp t, .tmp u]) (hv : look e t = some v) (hv' : look e u = some v') (hR : ∀ w, S w → R (.returned (.tuple #[v, v'])) w) :
    ∀ a w, Has e n a → S w → bodyPost P fn R .ret a w := fun a w ha hw => by
  refine bodyPost_ret (results_tmp2 hr _ _ _) ha.defers ?_
  have := ha.at_ t v hv
  have h2 := ha.at_ u v' hv'
  simp only [Array.getD_eq_getD_getElem?, this, h2, Option.getD_some]
  exact hR w hw

theorem end_none {fn : Func} {R : Ending → World → Prop} {e : Env} {S : World → Prop} (hr : fn.results = #[]) (hR : ∀ w, S w → R (.returned (.tuple #[])) w) :
    ∀ a w, Has e n a → S w → bodyPost P fn R .normal a w := fun a w ha hw =>
  bodyPost_end (results_none hr _ _ _) ha.defers (hR w hw)

theorem ret_none {fn : Func} {R : Ending → World → Prop} {e : Env} {S : World → Prop} (hr : fn.results = #[]) (hR : ∀ w, S w → R (.returned (.tuple #[])) w) :
    ∀ a w, Has e n a → S w → bodyPost P fn R .ret a w := fun a w ha hw =>
  bodyPost_ret (results_none hr _ _ _) ha.defers (hR w hw)

end

/-! ### What an operation yields in every world of a kind -/
section
variable {P : Program} {ops : Array Oper} {Q : Exit → Act → World → Prop} {n : Nat}

def Yl (P : Program) (S : World → Prop) (e : Env) (o : Oper) (v : Value) : Prop := ∀ w, S w → (execOp (rho e) o).run P w = .ok (.value v) w

/-- the operation may be carried out: it is wanted, its operands are known, its slot is there -/
def fit (ops : Array Oper) (n : Nat) (e : Env) (o : Oper) (d : Option Nat) : Bool :=
  (match o.dst, d with
   | some x, some y => Nat.beq x y && decide (y < n)
   | none, none => true
   | _, _ => false) && (match guardOf ops e o with | some true => true | _ => false) && covers e o

theorem fit_some {e : Env} {o : Oper} {d : Nat} (h : fit ops n e o (some d) = true) : o.dst = some d ∧ d < n ∧ guardOf ops e o = some true ∧ covers e o = true := by
  unfold fit at h
  simp only [Bool.and_eq_true] at h
  obtain ⟨⟨h1, h2⟩, h3⟩ := h
  split at h1
  · rename_i x y hx hy
    simp only [Bool.and_eq_true, decide_eq_true_eq] at h1
    cases hy
    refine ⟨by rw [hx, Nat.eq_of_beq_eq_true h1.1], h1.2, ?_, h3⟩
    split at h2
    · assumption
    · cases h2
  · rename_i hx hy; cases hy
  · cases h1

theorem fit_none {e : Env} {o : Oper} (h : fit ops n e o none = true) : o.dst = none ∧ guardOf ops e o = some true ∧ covers e o = true := by
  unfold fit at h
  simp only [Bool.and_eq_true] at h
  obtain ⟨⟨h1, h2⟩, h3⟩ := h
  split at h1
  · rename_i x y hx hy; cases hy
  · rename_i hx hy
    refine ⟨hx, ?_, h3⟩
    split at h2
    · assumption
    · cases h2
  · cases h1

theorem wl_yl {e : Env} {S : World → Prop} {o : Oper} {rest : List Oper} {d : Nat} {v : Value} (hf : fit ops n e o (some d) = true) (hy : Yl P S e o v)
    (k : WL P ops Q n ((d, v) :: e) S rest) : WL P ops Q n e S (o :: rest) := by
  obtain ⟨h1, h2, h3, h4⟩ := fit_some hf
  exact wl_run (σ := Unit) (fun _ => v) (fun _ => S) h1 h2 h3 h4 (fun w hw => ⟨(), w, hy w hw, hw⟩) (fun _ => k)

/-! ### A region whose order is drawn: a head, whose operations keep S, and a tail in one order -/
def ON (Q : Exit → Act → World → Prop) : Exit → Act → World → Prop
  | .normal, a, w => Q .normal a w
  | _, _, _ => False

def wpHead (P : Program) (ops : Array Oper) (Q : Exit → Act → World → Prop) (m : Nat) (S : World → Prop) (Z : Array Bool → Act → World → Prop) : Nat → Array Bool → Act → World → Prop
  | 0, listed, a, w => Z listed a w
  | f + 1, listed, a, w =>
    Region.ready .any ops listed ≠ [] ∧ ∀ i ∈ Region.ready .any ops listed, i < m ∧ wpOp P ops Q i (fun a' w' => S w' ∧ wpHead P ops Q m S Z f (listed.setIfInBounds i true) a' w') a w

def tailOk (ops : Array Oper) (m : Nat) : Bool :=
  Nat.beq m ops.size || (decide (m < ops.size) && Region.sinkB .any ops m && Region.chainB .any ops m)

theorem head_lt {m i j : Nat} {listed : Array Bool} (ht : tailOk ops m = true) (inv : HeadInv .any ops m listed) (him : i < m) (hun : listed.getD i true = false)
    (hj : j ∈ Region.ready .any ops listed) : j < m := by
  simp only [tailOk, Bool.or_eq_true, Bool.and_eq_true, decide_eq_true_eq] at ht
  rcases ht with ht | ⟨⟨hn, hs⟩, hc⟩
  · have := Nat.eq_of_beq_eq_true ht
    obtain ⟨_, oj, hoj, _⟩ := mem_ready.1 hj
    have := (Array.getElem?_eq_some_iff.1 hoj).1
    omega
  · rcases Nat.lt_or_ge j m with h | h
    · exact h
    · exact absurd hj (tail_waits hs hc hn inv _ i rfl him hun j h)

theorem head_first {m i : Nat} {oi : Oper} {v : Value} {S : World → Prop} {Z : Array Bool → Act → World → Prop} (hi : ops[i]? = some oi) (hsel : Region.noSelect ops = true)
    (ht : tailOk ops m = true) (him : i < m) (hdone : ∀ listed a w, Z listed a w → ∀ j ∈ Region.ready .any ops listed, m ≤ j) :
    ∀ (f : Nat) (listed : Array Bool) (a : Act) (w : World), HeadInv .any ops m listed →
      (∀ j oj, ops[j]? = some oj → j ≠ i → listed.getD j true = false → (∀ e ∈ oj.after, Region.binds .any e = true → e.on ≠ i) → oi.apart ops oj = true) →
      i ∈ Region.ready .any ops listed → YieldsIf P ops S oi v a → S w →
      wpHead P ops (ON Q) m S Z f (listed.setIfInBounds i true) (a.put oi.dst v) w → wpHead P ops (ON Q) m S Z (f + 1) listed a w := by
  intro f
  induction f with
  | zero =>
    intro listed a w inv _ hr hy hS H
    have hun := (mem_ready.1 hr).1
    refine ⟨fun h => (by rw [h] at hr; cases hr), fun j hj => ?_⟩
    have hjm := head_lt ht inv him hun hj
    refine ⟨hjm, ?_⟩
    by_cases hji : j = i
    · subst hji; exact hy.wpOp hi hS ⟨hS, H⟩
    · have := hdone _ _ _ H j (ready_mono hj hji)
      omega
  | succ f ih =>
    intro listed a w inv hfree hr hy hS H
    have hun := (mem_ready.1 hr).1
    refine ⟨fun h => (by rw [h] at hr; cases hr), fun j hj => ?_⟩
    have hjm := head_lt ht inv him hun hj
    refine ⟨hjm, ?_⟩
    by_cases hji : j = i
    · subst hji; exact hy.wpOp hi hS ⟨hS, H⟩
    · have h1 := (H.2 j (ready_mono hj hji)).2
      obtain ⟨hjun, oj, hoj, hall⟩ := mem_ready.1 hj
      have hnot : ∀ e ∈ oj.after, Region.binds .any e = true → e.on ≠ i := fun e he hb heq => by
        have h1 := hall e he hb
        rw [heq, getD_both hun] at h1
        cases h1
      have h2 := wpOp_putIf hoj (hfree j oj hoj hji hjun hnot) (fun cs b => Region.noSelect_spec hsel i oi cs b hi) (fun cs b => Region.noSelect_spec hsel j oj cs b hoj) (fun _ _ _ h => h) hy h1
      have hfree' : ∀ k ok, ops[k]? = some ok → k ≠ i → (listed.setIfInBounds j true).getD k true = false →
          (∀ e ∈ ok.after, Region.binds .any e = true → e.on ≠ i) → oi.apart ops ok = true := fun k ok hk hki hun hno => by
        refine hfree k ok hk hki ?_ hno
        by_cases hjk : j = k
        · subst hjk; exact hjun
        · rw [getD_set_ne true hjk] at hun; exact hun
      refine wpOp_mono (fun a' w' h3 => ⟨h3.2.1, ih (listed.setIfInBounds j true) a' w' (inv.set hj hjm) hfree' (ready_mono hr (Ne.symm hji)) h3.1 h3.2.1 ?_⟩) h2
      rw [Array.setIfInBounds_comm _ _ hji]
      exact h3.2.2

theorem wpAny_of_wpHead {m g : Nat} {S : World → Prop} {Z : Array Bool → Act → World → Prop} (hZ : ∀ listed a w, Z listed a w → wpAny P .any ops Q g listed a w) :
    ∀ (f : Nat) (listed : Array Bool) (a : Act) (w : World), wpHead P ops Q m S Z f listed a w → wpAny P .any ops Q (f + g) listed a w
  | 0, listed, a, w, h => by rw [Nat.zero_add]; exact hZ _ _ _ h
  | f + 1, listed, a, w, h => by
    rw [show f + 1 + g = (f + g) + 1 by omega]
    exact ⟨fun h0 => absurd h0 h.1, fun i hi => wpOp_mono (fun a' w' h' => wpAny_of_wpHead hZ f _ a' w' h'.2) (h.2 i hi).2⟩

/-- the tail, in its one order -/
def Zt (P : Program) (ops : Array Oper) (Q : Exit → Act → World → Prop) (m : Nat) (listed : Array Bool) (a : Act) (w : World) : Prop :=
  Region.seqB .any ops (ops.size - m) m listed = true ∧ wpList P ops Q (ops.toList.drop m) a w

/-- the head: S is kept by all of it; T is what is known now -/
def WD (P : Program) (ops : Array Oper) (Q : Exit → Act → World → Prop) (n m : Nat) (S T : World → Prop) (f : Nat) (listed : Array Bool) (e : Env) : Prop :=
  ∀ a w, HeadInv .any ops m listed → Has e n a → T w → wpHead P ops (ON Q) m S (Zt P ops (ON Q) m) f listed a w

theorem wc_draw {e : Env} {T : World → Prop} {id : Nat} {l : List Oper} (m : Nat) (S : World → Prop) (hm : P.follows .mixedOrders = true) (hml : m ≤ l.length)
    (hT : ∀ w, T w → T w.drew)
    (h : WD P l.toArray Q n m S T m (Array.replicate l.toArray.size false) e) : WC P Q n e T (.region id l.toArray true) := by
  intro a w ha hw
  refine wp_mono (Q := ON Q) ?_ (fun x a w h => by cases x <;> first | exact h | exact h.elim)
  refine wp_region_any hm ?_
  have inv0 : HeadInv .any l.toArray m (Array.replicate l.toArray.size false) :=
    ⟨by simp, fun j oj _ hl => (by rw [getD_replicate_false] at hl; cases hl), fun t _ ht => getD_in (by simpa using ht) (getD_replicate_false _ _)⟩
  have := wpAny_of_wpHead (g := l.toArray.size - m) (fun listed a w hZ => by
    obtain ⟨hs, hl⟩ := hZ
    have hdl : (l.toArray.toList.drop m).length = l.toArray.size - m := by simp
    have := wpAny_of_seq (md := .any) (Q' := ON Q) (l.toArray.toList.drop m) m listed a w (fun j => by simp [List.getElem?_drop]) (by rw [hdl]; exact hs) hl
    rwa [hdl] at this) _ _ _ _ (h a w.drew inv0 ha (hT w hw))
  rw [show m + (l.toArray.size - m) = l.toArray.size by simp; omega] at this
  exact this

theorem wd_done {m : Nat} {e : Env} {S T : World → Prop} {listed : Array Bool} (hs : Region.seqB .any ops (ops.size - m) m listed = true)
    (k : WL P ops (ON Q) n e T (ops.toList.drop m)) : WD P ops Q n m S T 0 listed e :=
  fun a w _ ha hw => ⟨hs, k a w ha hw⟩

theorem zt_done {m : Nat} (listed : Array Bool) (a : Act) (w : World) (h : Zt P ops (ON Q) m listed a w) : ∀ j ∈ Region.ready .any ops listed, m ≤ j := seqB_ready h.1

/-- may number i be taken first? -/
def takeOk (ops : Array Oper) (m : Nat) (listed : Array Bool) (i : Nat) : Bool :=
  decide (i < m) && tailOk ops m && Region.noSelect ops && Region.free .any ops listed i && (Region.ready .any ops listed).contains i

theorem wd_first {m i f : Nat} {oi : Oper} {v : Value} {e e' : Env} {S T : World → Prop} {listed : Array Bool} (hi : ops[i]? = some oi) (hk : takeOk ops m listed i = true)
    (hT : ∀ w, T w → S w) (hy : ∀ a, Has e n a → YieldsIf P ops S oi v a ∧ Has e' n (a.put oi.dst v))
    (k : WD P ops Q n m S T f (listed.setIfInBounds i true) e') : WD P ops Q n m S T (f + 1) listed e := by
  intro a w inv ha hw
  simp only [takeOk, Bool.and_eq_true, decide_eq_true_eq] at hk
  obtain ⟨⟨⟨⟨him, ht⟩, hsel⟩, hf⟩, hr⟩ := hk
  have hr' : i ∈ Region.ready .any ops listed := by simpa using hr
  exact head_first hi hsel ht him zt_done f listed a w inv (Region.free_spec hi hf) hr' (hy a ha).1 (hT w hw) (k _ w (inv.set hr' him) (hy a ha).2 hw)

theorem stepPure_yields {e e' : Env} {S : World → Prop} {o : Oper} (h : stepPure P ops n e o = some e') : ∃ v, ∀ a, Has e n a → YieldsIf P ops S o v a ∧ Has e' n (a.put o.dst v) := by
  unfold stepPure at h
  split at h
  · rename_i d hd hg
    split at h
    · rename_i hc
      simp only [Bool.and_eq_true, decide_eq_true_eq] at hc
      split at h
      · rename_i v hv
        cases h
        exact ⟨v, fun a ha => ⟨.inl ⟨guardOf_wanted ha hg, fun w _ => by rw [ha.exec hc.1, pureVal_run _ _ hv w]⟩, by rw [hd]; exact ha.put d v hc.2⟩⟩
      · cases h
    · cases h
  · rename_i d hd hg
    split at h
    · rename_i hdn
      cases h
      exact ⟨undef, fun a ha => ⟨.inr ⟨guardOf_wanted ha hg, rfl⟩, by rw [hd]; exact ha.put d undef hdn⟩⟩
    · cases h
  · rename_i hd hg
    cases h
    exact ⟨undef, fun a ha => ⟨.inr ⟨guardOf_wanted ha hg, rfl⟩, by rw [hd]; exact ha⟩⟩
  · cases h

/-- several operations that leave the world alone, taken first one after the other -/
def takes (P : Program) (ops : Array Oper) (n m : Nat) : List Nat → Env → Array Bool → Option (Env × Array Bool)
  | [], e, listed => some (e, listed)
  | i :: r, e, listed => match ops[i]? with
    | some o => if takeOk ops m listed i then (match stepPure P ops n e o with | some e' => takes P ops n m r e' (listed.setIfInBounds i true) | none => none) else none
    | none => none

theorem wd_takes (is : List Nat) {m f : Nat} {e e' : Env} {S T : World → Prop} {listed listed' : Array Bool} (h : takes P ops n m is e listed = some (e', listed'))
    (hT : ∀ w, T w → S w) (k : WD P ops Q n m S T f listed' e') : WD P ops Q n m S T (is.length + f) listed e := by
  induction is generalizing e listed with
  | nil => simp only [takes, Option.some.injEq, Prod.mk.injEq] at h; obtain ⟨rfl, rfl⟩ := h; rw [show ([] : List Nat).length + f = f by simp]; exact k
  | cons i r ih =>
    simp only [takes] at h
    split at h
    · rename_i o ho
      split at h
      · rename_i hk
        split at h
        · rename_i e1 h1
          obtain ⟨v, hv⟩ := stepPure_yields (S := S) h1
          rw [show (i :: r).length + f = (r.length + f) + 1 by simp; omega]
          exact wd_first ho hk hT hv (ih h)
        · cases h
      · cases h
    · cases h

/-- one operation that yields its value in every world of S -/
theorem wd_yl (i : Nat) {m f d : Nat} {oi : Oper} {v : Value} {e : Env} {S T : World → Prop} {listed : Array Bool} (hi : ops[i]? = some oi) (hk : takeOk ops m listed i = true)
    (hf : fit ops n e oi (some d) = true) (hT : ∀ w, T w → S w) (hy : Yl P S e oi v)
    (k : WD P ops Q n m S T f (listed.setIfInBounds i true) ((d, v) :: e)) : WD P ops Q n m S T (f + 1) listed e := by
  obtain ⟨h1, h2, h3, h4⟩ := fit_some hf
  refine wd_first (v := v) hi hk hT (fun a ha => ⟨.inl ⟨guardOf_wanted ha h3, fun w hw => by rw [ha.exec h4]; exact hy w hw⟩, ?_⟩) k
  rw [h1]; exact ha.put d v h2

/-- the one operation that may come up now, whatever it does to the world -/
theorem wd_one (i : Nat) {m f d : Nat} {oi : Oper} {e : Env} {S T : World → Prop} {listed : Array Bool} {σ : Type} (V : σ → Value) (T' : σ → World → Prop)
    (hi : ops[i]? = some oi) (him : i < m) (hr : Region.ready .any ops listed = [i]) (hf : fit ops n e oi (some d) = true)
    (h : ∀ w, T w → ∃ x w', (execOp (rho e) oi).run P w = .ok (.value (V x)) w' ∧ T' x w') (hS : ∀ x w, T' x w → S w)
    (k : ∀ x, WD P ops Q n m S (T' x) f (listed.setIfInBounds i true) ((d, V x) :: e)) : WD P ops Q n m S T (f + 1) listed e := by
  intro a w inv ha hw
  obtain ⟨h1, h2, h3, h4⟩ := fit_some hf
  have him' : i ∈ Region.ready .any ops listed := by rw [hr]; simp
  refine ⟨by rw [hr]; simp, fun j hj => ?_⟩
  rw [hr] at hj
  have : j = i := by simpa using hj
  subst this
  refine ⟨him, ?_⟩
  unfold wpOp
  simp only [hi, guardOf_wanted ha h3, if_true]
  refine .inl ?_
  obtain ⟨x, w', hrun, hT'⟩ := h w hw
  unfold Oper.wp
  rw [ha.exec h4, hrun]
  simp only [Oper.upon, h1]
  exact ⟨hS x w' hT', k x _ w' (inv.set him' him) (ha.put d _ h2) hT'⟩

/-- a call of a function by its contract, the one operation that may come up now -/
theorem wd_call (i : Nat) {m f d : Nat} {oi : Oper} {e : Env} {S T : World → Prop} {listed : Array Bool} {g : FuncId} {args : Array Value} {R : World → Ending → World → Prop}
    (hi : ops[i]? = some oi) (him : i < m) (hr : Region.ready .any ops listed = [i]) (hf : fit ops n e oi (some d) = true)
    (hv : pureVal P (execOp (rho e) oi) = some (.enter g args))
    (h : ∀ w, T w → Calls P g args w (R w))
    (k : ∀ w ending w', T w → R w ending w' → ∃ v, ending = .returned v ∧ S w' ∧ WD P ops Q n m S (· = w') f (listed.setIfInBounds i true) ((d, v) :: e)) : WD P ops Q n m S T (f + 1) listed e := by
  intro a w inv ha hw
  obtain ⟨h1, h2, h3, h4⟩ := fit_some hf
  have him' : i ∈ Region.ready .any ops listed := by rw [hr]; simp
  refine ⟨by rw [hr]; simp, fun j hj => ?_⟩
  rw [hr] at hj
  have : j = i := by simpa using hj
  subst this
  refine ⟨him, ?_⟩
  unfold wpOp
  simp only [hi, guardOf_wanted ha h3, if_true]
  refine .inl ?_
  unfold Oper.wp
  rw [ha.exec h4, pureVal_run _ _ hv w]
  simp only [Oper.upon]
  refine (h w hw).mono fun ending w' hR => ?_
  obtain ⟨v, rfl, hS, hk⟩ := k w ending w' hw hR
  simp only [h1]
  exact ⟨hS, hk _ w' (inv.set him' him) (ha.put d _ h2) rfl⟩

theorem wd_weaken {m f : Nat} {e e' : Env} {S T T' : World → Prop} {listed : Array Bool} (he : ∀ k v, look e' k = some v → look e k = some v) (hT : ∀ w, T w → T' w)
    (k : WD P ops Q n m S T' f listed e') : WD P ops Q n m S T f listed e :=
  fun a w inv ha hw => k a w inv (ha.weaken he) (hT w hw)

end

/-! ### Ways out -/
section
variable {P : Program} {ops : Array Oper} {Q : Exit → Act → World → Prop} {n : Nat} {e : Env} {S : World → Prop}

def NX (Q : Exit → Act → World → Prop) (n : Nat) (e : Env) (S : World → Prop) (x : Exit) : Prop := ∀ a w, Has e n a → S w → Q x a w

theorem nx_list (h : NX Q n e S .normal) : WL P ops Q n e S [] := h
theorem nx_skip (h : NX Q n e S .normal) : WC P Q n e S .skip := wc_skip h
theorem nx_exit {id : Nat} (h : NX Q n e S (.exit id)) : WC P Q n e S (.exit id) := wc_exit h
theorem nx_ret (h : NX Q n e S .ret) : WC P Q n e S .ret := wc_ret h
theorem nx_then {y : Code} (h : WC P Q n e S y) : NX (Exit.then (y.wp P Q) Q) n e S .normal := h
theorem nx_then_exit {id : Nat} {K : Act → World → Prop} (h : NX Q n e S (.exit id)) : NX (Exit.then K Q) n e S (.exit id) := h
theorem nx_then_ret {K : Act → World → Prop} (h : NX Q n e S .ret) : NX (Exit.then K Q) n e S .ret := h
theorem nx_block {id : Nat} (h : NX Q n e S .normal) : NX (Exit.inBlock id Q) n e S .normal := h
theorem nx_block_ret {id : Nat} (h : NX Q n e S .ret) : NX (Exit.inBlock id Q) n e S .ret := h
theorem nx_block_here {id : Nat} (h : NX Q n e S .normal) : NX (Exit.inBlock id Q) n e S (.exit id) := fun a w ha hw => by simp only [Exit.inBlock, if_true]; exact h a w ha hw
theorem nx_block_on {id id' : Nat} (hne : id' ≠ id) (h : NX Q n e S (.exit id')) : NX (Exit.inBlock id Q) n e S (.exit id') := fun a w ha hw => by simp only [Exit.inBlock, if_neg hne]; exact h a w ha hw
theorem nx_on (h : NX Q n e S .normal) : NX (ON Q) n e S .normal := h
/-- the end of a loop's round -/
theorem nx_round {σ : Type} {E : σ → Env} {T : σ → World → Prop} {μ : σ → Nat} {x : σ} (y : σ) (hμ : μ y < μ x) (he : ∀ k v, look (E y) k = some v → look e k = some v) (hS : ∀ w, S w → T y w) :
    NX (Exit.then (fun a w => ∃ y, μ y < μ x ∧ Has (E y) n a ∧ T y w) Q) n e S .normal := fun a w ha hw => ⟨y, hμ, ha.weaken he, hS w hw⟩
theorem nx_round_w {σ : Type} {E : σ → Env} {T : σ → World → Prop} {μ : σ → Nat} {x : σ} (h : ∀ w, S w → ∃ y, μ y < μ x ∧ (∀ k v, look (E y) k = some v → look e k = some v) ∧ T y w) :
    NX (Exit.then (fun a w => ∃ y, μ y < μ x ∧ Has (E y) n a ∧ T y w) Q) n e S .normal := fun a w ha hw => by
  obtain ⟨y, h1, h2, h3⟩ := h w hw
  exact ⟨y, h1, ha.weaken h2, h3⟩
/-- a condition on the world laid open -/
theorem nx_open {x : Exit} (h : ∀ w, S w → NX Q n e (· = w) x) : NX Q n e S x := fun a w ha hw => h w hw a w ha rfl
theorem wc_open {c : Code} (h : ∀ w, S w → WC P Q n e (· = w) c) : WC P Q n e S c := fun a w ha hw => h w hw a w ha rfl
theorem wl_open {l : List Oper} (h : ∀ w, S w → WL P ops Q n e (· = w) l) : WL P ops Q n e S l := fun a w ha hw => h w hw a w ha rfl

/-- a frame's entries, of which fewer or other ones are asked for: decided by looking each up -/
def subEnv (e' e : Env) : Prop := ∀ k v, look e' k = some v → look e k = some v
theorem subEnv_nil (e : Env) : subEnv [] e := fun k v h => by simp [look] at h
theorem subEnv_cons {k : Nat} {v : Value} {e' e : Env} (h : look e k = some v) (r : subEnv e' e) : subEnv ((k, v) :: e') e := fun j u hj => by
  by_cases hkj : k = j
  · subst hkj; rw [look_cons_same] at hj; rw [h]; exact hj
  · rw [look_cons_other _ _ _ _ hkj] at hj; exact r j u hj
end

/-! ### The forms that a program prints -/
section
variable {P : Program} {ops : Array Oper} {Q : Exit → Act → World → Prop} {n : Nat} {e : Env} {S : World → Prop}

def stepsEnv (P : Program) (ops : Array Oper) (n : Nat) : Nat → Env → List Oper → Option Env
  | 0, e, _ => some e
  | _ + 1, _, [] => none
  | m + 1, e, o :: l => match stepPure P ops n e o with
    | some e' => stepsEnv P ops n m e' l
    | none => none

theorem wl_go (m : Nat) (new : Env) {l : List Oper} (h : stepsEnv P ops n m e l = some (new ++ e)) (k : WL P ops Q n (new ++ e) S (l.drop m)) : WL P ops Q n e S l := by
  have key : ∀ (m : Nat) (e e' : Env) (l : List Oper), stepsEnv P ops n m e l = some e' → WL P ops Q n e' S (l.drop m) → WL P ops Q n e S l := by
    intro m
    induction m with
    | zero => intro e e' l h k; simp only [stepsEnv, Option.some.injEq] at h; subst h; exact k
    | succ m ih =>
      intro e e' l h k
      cases l with
      | nil => simp [stepsEnv] at h
      | cons o l =>
        simp only [stepsEnv] at h
        split at h
        · rename_i e1 h1
          exact wl_step h1 (ih e1 e' l h k)
        · cases h
  exact key m e _ l h k

theorem yl_pure {o : Oper} {v : Value} (h : pureVal P (execOp (rho e) o) = some (.value v)) : Yl P S e o v := fun w _ => pureVal_run _ _ h w

theorem i64w {t : Int} (h1 : -9223372036854775808 ≤ t) (h2 : t ≤ 9223372036854775807) : IntKind.i64.wrap t = t := IntWalk.i64_in t ⟨h1, h2⟩

/-- a sum, a difference, a product that fits -/
theorem yl_int {o : Oper} {t r : Int} (h : pureVal P (execOp (rho e) o) = some (.value (.int .i64 (IntKind.i64.wrap t)))) (hw : IntKind.i64.wrap t = r) : Yl P S e o (.int .i64 r) := by
  rw [← hw]; exact yl_pure h

theorem wl_cast {l l' : List Oper} (h : l = l') (k : WL P ops Q n e S l') : WL P ops Q n e S l := h ▸ k

theorem wd_go (is : List Nat) (new : Env) (listed' : Array Bool) {m f F : Nat} {T : World → Prop} {listed : Array Bool} (hF : F = is.length + f) (h : takes P ops n m is e listed = some (new ++ e, listed'))
    (hT : ∀ w, T w → S w) (k : WD P ops Q n m S T f listed' (new ++ e)) : WD P ops Q n m S T F listed e := by
  subst hF; exact wd_takes is h hT k

/-- a call whose contract leaves the world as it was -/
theorem wl_callS {o : Oper} {rest : List Oper} {d : Nat} {f : FuncId} {args : Array Value} {v : Value} (hf : fit ops n e o (some d) = true) (hv : pureVal P (execOp (rho e) o) = some (.enter f args))
    (h : ∀ w, S w → Calls P f args w (fun x w' => x = .returned v ∧ w = w')) (k : WL P ops Q n ((d, v) :: e) S rest) : WL P ops Q n e S (o :: rest) := by
  obtain ⟨h1, h2, h3, h4⟩ := fit_some hf
  refine wl_call h1 h2 h3 h4 hv (R := fun w x w' => x = .returned v ∧ w = w') h (fun w x w' hw hR => ⟨v, hR.1, ?_⟩)
  obtain ⟨_, rfl⟩ := hR
  exact fun a w ha hww => k a w ha (hww ▸ hw)

/-- a call by its contract: what it hands back is one of a kind, and so is the world behind it -/
theorem wl_callB {X : Type} (V : X → Value) (Rel : World → X → World → Prop) {o : Oper} {rest : List Oper} {d : Nat} {f : FuncId} {args : Array Value} (hf : fit ops n e o (some d) = true) (hv : pureVal P (execOp (rho e) o) = some (.enter f args))
    (h : ∀ w, S w → Calls P f args w (fun z w' => ∃ x, z = .returned (V x) ∧ Rel w x w')) (k : ∀ w x w', S w → Rel w x w' → WL P ops Q n ((d, V x) :: e) (· = w') rest) : WL P ops Q n e S (o :: rest) := by
  obtain ⟨h1, h2, h3, h4⟩ := fit_some hf
  refine wl_call h1 h2 h3 h4 hv (R := fun w z w' => ∃ x, z = .returned (V x) ∧ Rel w x w') h (fun w z w' hw hR => ?_)
  obtain ⟨x, hz, hr⟩ := hR
  exact ⟨V x, hz, k w x w' hw hr⟩

theorem wd_callB (i : Nat) {X : Type} (V : X → Value) (Rel : World → X → World → Prop) {m fu d : Nat} {oi : Oper} {T : World → Prop} {listed : Array Bool} {f : FuncId} {args : Array Value}
    (hi : ops[i]? = some oi) (him : i < m) (hr : Region.ready .any ops listed = [i]) (hf : fit ops n e oi (some d) = true) (hv : pureVal P (execOp (rho e) oi) = some (.enter f args))
    (h : ∀ w, T w → Calls P f args w (fun z w' => ∃ x, z = .returned (V x) ∧ Rel w x w'))
    (k : ∀ w x w', T w → Rel w x w' → S w' ∧ WD P ops Q n m S (· = w') fu (listed.setIfInBounds i true) ((d, V x) :: e)) : WD P ops Q n m S T (fu + 1) listed e := by
  refine wd_call i hi him hr hf hv (R := fun w z w' => ∃ x, z = .returned (V x) ∧ Rel w x w') h (fun w z w' hw hR => ?_)
  obtain ⟨x, hz, hr⟩ := hR
  exact ⟨V x, hz, k w x w' hw hr⟩

theorem wl_eq {l : List Oper} {w0 : World} (h : S w0) (k : WL P ops Q n e S l) : WL P ops Q n e (· = w0) l := fun a w ha hw => k a w ha (hw ▸ h)
theorem wc_eq {c : Code} {w0 : World} (h : S w0) (k : WC P Q n e S c) : WC P Q n e (· = w0) c := fun a w ha hw => k a w ha (hw ▸ h)
theorem wd_eq {m f : Nat} {T : World → Prop} {listed : Array Bool} {w0 : World} (h : T w0) (k : WD P ops Q n m S T f listed e) : WD P ops Q n m S (· = w0) f listed e := fun a w inv ha hw => k a w inv ha (hw ▸ h)
end
end Go.Sx
