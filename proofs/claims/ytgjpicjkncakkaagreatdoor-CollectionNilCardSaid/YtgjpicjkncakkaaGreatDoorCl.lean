/- Closed facts of great programs, piece by piece: what a call can come to, by a table of what each function leads to; facts over all functions in parts. No statement is proved here. -/
import Derived.Test.YtgjpicjkncakkaaGreatDoorEvm
import GoSem.ClaimFn
import GoSem.ClaimGoes
import GoSem.ClaimSevenParts
import GoSem.ClaimJoined
import GoSem.ClaimDataLaid
namespace Go.Cl
open Go.Ev
set_option linter.unusedVariables false

def leadsE (P : Program) (f : FuncId) : List FuncId := (P.funcs[f]?).elim [] P.leadsTo

/-! ### What a call can come to -/
def tabL : List (Nat × List Nat) → T (List Nat) → T (List Nat)
  | [], t => t
  | (i, l) :: r, t => tabL r (t.set i (some l))
theorem tabL_get : ∀ {l : List (Nat × List Nat)} {t : T (List Nat)} {i : Nat} {x : List Nat}, (tabL l t).get i = some x → (i, x) ∈ l ∨ t.get i = some x
  | [], t, i, x, h => .inr h
  | (j, y) :: r, t, i, x, h => by
    rcases tabL_get (l := r) h with h | h
    · exact .inl (List.mem_cons_of_mem _ h)
    · rcases T.get_set h with ⟨rfl, e⟩ | ⟨_, e⟩
      · cases e; exact .inl List.mem_cons_self
      · exact .inr e

def run (tb : T (List Nat)) : Nat → List Nat → T Unit → List Nat → Option (List Nat)
  | _, [], _, seen => some seen.reverse
  | 0, _ :: _, _, _ => none
  | n + 1, f :: todo, s, seen => match s.get f with
    | some _ => run tb n todo s seen
    | none => match tb.get f with
      | none => none
      | some l => match (s.set f (some ())).get f with
        | none => none
        | some _ => run tb n (l ++ todo) (s.set f (some ())) (f :: seen)

theorem run_ok {P : Program} {tb : T (List Nat)} (ht : ∀ f l, tb.get f = some l → leadsE P f = l) : ∀ (n : Nat) (todo : List Nat) (s : T Unit) (seen r : List Nat), (∀ f, s.get f = some () ↔ f ∈ seen) → run tb n todo s seen = some r → ∀ m, n ≤ m → P.closureVia m todo seen = r
  | n, [], s, seen, r, hs, h, m, hm => by
    simp only [run, Option.some.injEq] at h
    cases m <;> simpa [Program.closureVia] using h
  | 0, _ :: _, s, seen, r, hs, h, m, hm => by simp [run] at h
  | n + 1, f :: todo, s, seen, r, hs, h, m, hm => by
    obtain ⟨m, rfl⟩ : ∃ k, m = k + 1 := ⟨m - 1, by omega⟩
    simp only [run] at h
    rw [Program.closureVia]
    cases hg : s.get f with
    | some u =>
      rw [hg] at h
      have : seen.contains f = true := List.contains_iff_mem.2 ((hs f).1 hg)
      rw [if_pos this]
      exact run_ok ht n todo s seen r hs h m (by omega)
    | none =>
      rw [hg] at h
      have hn : f ∉ seen := fun e => by have := (hs f).2 e; rw [hg] at this; cases this
      rw [if_neg (by simpa using hn)]
      cases hl : tb.get f with
      | none => rw [hl] at h; cases h
      | some l =>
        rw [hl] at h
        simp only at h
        cases he : (s.set f (some ())).get f with
        | none => rw [he] at h; cases h
        | some u =>
          rw [he] at h
          have e := ht f l hl
          unfold leadsE at e
          rw [e]
          refine run_ok ht n (l ++ todo) _ (f :: seen) r (fun g => ?_) h m (by omega)
          by_cases hgf : f = g
          · subst hgf; exact ⟨fun _ => List.mem_cons_self, fun _ => he⟩
          · rw [T.get_set_ne _ _ hgf, hs g]
            exact ⟨List.mem_cons_of_mem _, fun h => (List.mem_cons.1 h).resolve_left fun e => hgf e.symm⟩

def wt (P : Program) (seen : List Nat) (i : Nat) : Nat := if seen.contains i then 0 else (leadsE P i).length + 1
def W (P : Program) (seen : List Nat) : Nat := ((List.range P.funcs.size).map (wt P seen)).sum

theorem sum_le {F G : Nat → Nat} : ∀ n, (∀ i, i < n → F i ≤ G i) → ((List.range n).map F).sum ≤ ((List.range n).map G).sum
  | 0, _ => by simp
  | n + 1, h => by
    rw [List.range_succ, List.map_append, List.map_append, List.sum_append, List.sum_append]
    have := sum_le n fun i hi => h i (by omega)
    have := h n (by omega)
    simp; omega
theorem sum_drop {F G : Nat → Nat} {f k : Nat} : ∀ n, f < n → (∀ i, i < n → F i ≤ G i) → F f + k ≤ G f → ((List.range n).map F).sum + k ≤ ((List.range n).map G).sum
  | 0, h, _, _ => by omega
  | n + 1, h, hl, hk => by
    rw [List.range_succ, List.map_append, List.map_append, List.sum_append, List.sum_append]
    by_cases e : f = n
    · subst e
      have := sum_le f fun i hi => hl i (by omega)
      simp; omega
    · have := sum_drop n (by omega) (fun i hi => hl i (by omega)) hk
      have := hl n (by omega)
      simp; omega

theorem wt_le (P : Program) (seen : List Nat) (f i : Nat) : wt P (f :: seen) i ≤ wt P seen i := by
  unfold wt
  by_cases h : seen.contains i = true
  · have : (f :: seen).contains i = true := by simp at h ⊢; exact .inr h
    rw [if_pos h, if_pos this]; exact Nat.le_refl 0
  · rw [if_neg h]; split <;> omega

theorem W_step {P : Program} {seen : List Nat} {f : Nat} (hn : ¬ seen.contains f = true) : (leadsE P f).length + W P (f :: seen) ≤ W P seen := by
  by_cases hf : f < P.funcs.size
  · have := sum_drop (F := wt P (f :: seen)) (G := wt P seen) (f := f) (k := (leadsE P f).length) P.funcs.size hf (fun i _ => wt_le P seen f i) (by
      have e1 : wt P (f :: seen) f = 0 := by unfold wt; rw [if_pos (by simp)]
      have e2 : wt P seen f = (leadsE P f).length + 1 := by unfold wt; rw [if_neg hn]
      omega)
    unfold W; omega
  · have : leadsE P f = [] := by unfold leadsE; rw [Array.getElem?_eq_none (by omega)]; rfl
    rw [this]
    have := sum_le (F := wt P (f :: seen)) (G := wt P seen) P.funcs.size fun i _ => wt_le P seen f i
    unfold W; simpa using this

theorem via_stable {P : Program} : ∀ (m m' : Nat) (todo seen : List Nat), todo.length + W P seen ≤ m → todo.length + W P seen ≤ m' → P.closureVia m todo seen = P.closureVia m' todo seen
  | m, m', [], seen, _, _ => by cases m <;> cases m' <;> simp [Program.closureVia]
  | 0, m', f :: todo, seen, h, _ => by simp at h
  | m + 1, 0, f :: todo, seen, _, h => by simp at h
  | m + 1, m' + 1, f :: todo, seen, h, h' => by
    rw [Program.closureVia, Program.closureVia]
    simp only [List.length_cons] at h h'
    by_cases hc : seen.contains f = true
    · rw [if_pos hc, if_pos hc]
      exact via_stable m m' todo seen (by omega) (by omega)
    · rw [if_neg hc, if_neg hc]
      have := W_step (P := P) hc
      exact via_stable m m' _ _ (by rw [List.length_append]; unfold leadsE at this; omega) (by rw [List.length_append]; unfold leadsE at this; omega)

theorem fuel_eq (P : Program) : (P.funcs.toList.map fun g => (P.leadsTo g).length + 1).sum = W P [] := by
  unfold W
  congr 1
  apply List.ext_getElem
  · simp
  · intro i h1 h2
    have hi : i < P.funcs.size := by simpa using h1
    simp [wt, leadsE, hi]

theorem closure_eq {P : Program} {tb : T (List Nat)} (ht : ∀ f l, tb.get f = some l → leadsE P f = l) {n f : Nat} {r : List Nat} (hr : run tb n [f] .l [] = some r) : P.closure f = r := by
  unfold Program.closure
  rw [fuel_eq, via_stable (1 + W P []) (max n (1 + W P [])) [f] [] (by simp) (by simp only [List.length_singleton]; omega)]
  exact run_ok ht n [f] .l [] r (fun g => by rw [T.get_l]; simp) hr _ (by omega)

/-! ### A list in parts -/
theorem fm_app {α β : Type} {q : α → Option β} {a b : List α} {la lb : List β} (h1 : a.filterMap q = la) (h2 : b.filterMap q = lb) : (a ++ b).filterMap q = la ++ lb := by rw [List.filterMap_append, h1, h2]
theorem bm_app {α β : Type} {q : α → List β} {a b : List α} {la lb : List β} (h1 : a.flatMap q = la) (h2 : b.flatMap q = lb) : (a ++ b).flatMap q = la ++ lb := by rw [List.flatMap_append, h1, h2]

def leadsAll (P : Program) (l : List (Nat × List Nat)) : Bool := l.all fun x => leadsE P x.1 == x.2
theorem leadsAll_ok {P : Program} {l : List (Nat × List Nat)} (h : leadsAll P l = true) : ∀ x ∈ l, leadsE P x.1 = x.2 := fun x hx => by
  have := List.all_eq_true.1 h x hx
  simpa using this
theorem leads_app {P : Program} {a b : List (Nat × List Nat)} (ha : ∀ x ∈ a, leadsE P x.1 = x.2) (hb : ∀ x ∈ b, leadsE P x.1 = x.2) : ∀ x ∈ a ++ b, leadsE P x.1 = x.2 := fun x hx => (List.mem_append.1 hx).elim (ha x) (hb x)
theorem leads_tab {P : Program} {l : List (Nat × List Nat)} (h : ∀ x ∈ l, leadsE P x.1 = x.2) : ∀ f r, (tabL l .l).get f = some r → leadsE P f = r := fun f r e => by
  rcases tabL_get e with e | e
  · exact h _ e
  · rw [T.get_l] at e; cases e

/-! ### The row's cells -/
def inP (P : Program) (g : FuncId) : Option String := (P.funcs[g]?).bind fun fn => if fn.ours || fn.body.isNone || fn.name == "runtime.NumGoroutine" then some fn.name else none
theorem inPlace_of {P : Program} {f : FuncId} {r : List FuncId} {l : List String} (hc : P.closure f = r) (h : r.filterMap (inP P) = l) : P.inPlace f = l := by
  unfold Program.inPlace; rw [hc]; exact h
def unF (P : Program) (g : FuncId) : Bool := (P.funcs[g]?).any fun fn => match fn.body with | some c => c.unfollowed | none => entryCalls fn
theorem unfollowed_of {P : Program} {f g : FuncId} {r : List FuncId} (hc : P.closure f = r) (hg : r.contains g = true) (h : unF P g = true) : P.unfollowed f = true := by
  unfold Program.unfollowed; rw [hc]
  exact List.any_eq_true.2 ⟨g, List.contains_iff_mem.1 hg, h⟩
theorem recurses_of {P : Program} {f : FuncId} (h : P.unfollowed f = true) : P.recurses f = true := by unfold Program.recurses; rw [h]; rfl
def glN (P : Program) (g : FuncId) : List Nat := ((P.funcs[g]?).bind (·.body)).elim [] Code.globalsNamed
def enR (P : Program) (g : FuncId) : Option String := (P.funcs[g]?).bind fun fn => if fn.body.isNone then entryReads.lookup fn.name else none
def glE (P : Program) (g : Nat) : Option String := (P.globals[g]?).map (·.name)
theorem varsNamed_of {P : Program} {f : FuncId} {r : List FuncId} {l : List Nat} {e : List String} {v : List String} (hc : P.closure f = r) (h1 : r.flatMap (glN P) = l) (h2 : r.filterMap (enR P) = e) (h3 : (l.eraseDups.filterMap (glE P) ++ e).eraseDups = v) : P.varsNamed f = v := by
  unfold Program.varsNamed; rw [hc]
  show ((r.flatMap (glN P)).eraseDups.filterMap (glE P) ++ r.filterMap (enR P)).eraseDups = v
  rw [h1, h2, h3]

/-! ### Facts over all -/
def rAll (p : Nat → Bool) : (a n : Nat) → Bool
  | _, 0 => true
  | a, n + 1 => p a && rAll p (a + 1) n
theorem rAll_ok {p : Nat → Bool} : ∀ {a n : Nat}, rAll p a n = true → ∀ i, a ≤ i → i < a + n → p i = true
  | a, 0, _, i, h1, h2 => by omega
  | a, n + 1, h, i, h1, h2 => by
    simp only [rAll, Bool.and_eq_true] at h
    by_cases e : a = i
    · subst e; exact h.1
    · exact rAll_ok h.2 i (by omega) (by omega)
theorem rAll_app {p : Nat → Bool} {a n b : Nat} (h : ∀ i, i < a → p i = true) (h2 : rAll p a n = true) (e : a + n = b) : ∀ i, i < b → p i = true := fun i hi => by
  by_cases h3 : i < a
  · exact h i h3
  · exact rAll_ok h2 i (by omega) (by omega)
theorem rAll_none {p : Nat → Bool} : ∀ i, i < 0 → p i = true := fun i h => by omega

def goF (P : Program) (i : Nat) : Bool := (P.funcs[i]?).all fun fn => !fn.goes
theorem goes_of {P : Program} {n : Nat} (hn : P.funcs.size = n) (h : ∀ i, i < n → goF P i = true) (f : FuncId) : P.goes f = false := by
  have key : ∀ (g : Nat) (fn : Func), P.funcs[g]? = some fn → Func.goes fn = false := fun g fn e => by
    have hg : g < P.funcs.size := by rw [Array.getElem?_eq_some_iff] at e; exact e.1
    have := h g (hn ▸ hg)
    unfold goF at this
    rw [e] at this
    simpa using this
  unfold Program.goes
  rw [Bool.or_eq_false_iff]
  refine ⟨?_, ?_⟩
  · rw [List.any_eq_false]
    intro g _
    cases e : P.funcs[g]? with
    | none => simp
    | some fn => simp only [Option.any_some, key g fn e]; exact Bool.false_ne_true
  · have : P.funcs.any Func.goes = false := by
      rw [Array.any_eq_false]
      intro i hi
      rw [key i _ (Array.getElem?_eq_getElem hi)]; exact Bool.false_ne_true
    rw [this, Bool.and_false]
theorem goesBy_of {P : Program} {c : OpenClaim} {n : Nat} (hn : P.funcs.size = n) (h : ∀ i, i < n → goF P i = true) (hs : c.start = .entering) : false = c.goesBy P := by
  unfold OpenClaim.goesBy Program.goesAt Program.goesFrom
  rw [hs]
  cases e : P.funcNamed c.func with
  | none => rfl
  | some f => simp [goes_of hn h f]

def loF (P : Program) (i : Nat) : Bool := (P.funcs[i]?).all fun fn => match fn.body with | some c => !c.looks P | none => true
theorem looks_of {P : Program} {n : Nat} (hn : P.funcs.size = n) (h : ∀ i, i < n → loF P i = true) : false = P.looks [] := by
  unfold Program.looks
  symm
  rw [List.any_eq_false]
  intro g hg
  have := h g (hn ▸ List.mem_range.1 hg)
  unfold loF at this
  cases e : P.funcs[g]? with
  | none => simp
  | some fn =>
    rw [e] at this
    cases hb : fn.body with
    | none => simp [hb]
    | some c => simp [hb] at this ⊢; exact this

theorem range_of {p : Nat → Bool} {n m : Nat} (hn : m = n) (h : ∀ i, i < n → p i = true) : (List.range m).all p = true := by
  rw [List.all_eq_true]; intro i hi; exact h i (hn ▸ List.mem_range.1 hi)
end Go.Cl
