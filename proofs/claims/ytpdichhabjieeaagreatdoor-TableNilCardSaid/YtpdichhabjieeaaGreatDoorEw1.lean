/- An evaluator of functions that are handed known data: values with names for new blocks, memory as a table of known blocks, whatever the order of evaluation and the capacities that Go leaves open. First part: the data. No statement is proved here. -/
import Derived.Test.YtpdichhabjieeaaGreatDoorMem
import Derived.Deep.AppendSrc
namespace Go.Ev
open Go.RowKit Go.Sx
set_option linter.unusedVariables false

/-! ### Tables -/
inductive T (α : Type) where
  | l
  | n (x : Option α) (a b : T α)

def T.getF {α : Type} : Nat → T α → Nat → Option α
  | 0, _, _ => none
  | f + 1, t, k => match t with
    | .l => none
    | .n x a b => bif Nat.beq k 0 then x else bif Nat.beq (k % 2) 0 then T.getF f a (k / 2 - 1) else T.getF f b (k / 2)
def T.setF {α : Type} : Nat → T α → Nat → Option α → T α
  | 0, t, _, _ => t
  | f + 1, t, k, v => match t with
    | .l => bif Nat.beq k 0 then .n v .l .l else bif Nat.beq (k % 2) 0 then .n none (T.setF f .l (k / 2 - 1) v) .l else .n none .l (T.setF f .l (k / 2) v)
    | .n x a b => bif Nat.beq k 0 then .n v a b else bif Nat.beq (k % 2) 0 then .n x (T.setF f a (k / 2 - 1) v) b else .n x a (T.setF f b (k / 2) v)
def T.get {α : Type} (t : T α) (k : Nat) : Option α := T.getF 40 t k
def T.set {α : Type} (t : T α) (k : Nat) (v : Option α) : T α := T.setF 40 t k v

theorem T.getF_set_ne {α : Type} (v : Option α) : ∀ (f : Nat) (t : T α) (k j : Nat), k ≠ j → T.getF f (T.setF f t k v) j = T.getF f t j
  | 0, _, _, _, _ => rfl
  | f + 1, t, k, j, h => by
    have e0 : ∀ n : Nat, Nat.beq n 0 = decide (n = 0) := fun n => by cases n <;> simp [Nat.beq]
    cases t with
    | l =>
      simp only [T.setF, e0]
      by_cases hk : k = 0 <;> by_cases hj : j = 0 <;> by_cases hk2 : k % 2 = 0 <;> by_cases hj2 : j % 2 = 0 <;> simp [hk, hj, hk2, hj2, T.getF, e0]
      all_goals first | omega | skip
      all_goals first
        | (rw [T.getF_set_ne v f .l _ _ (by omega)]; cases f <;> rfl)
        | (cases f <;> rfl)
    | n x a b =>
      simp only [T.setF, e0]
      by_cases hk : k = 0 <;> by_cases hj : j = 0 <;> by_cases hk2 : k % 2 = 0 <;> by_cases hj2 : j % 2 = 0 <;> simp [hk, hj, hk2, hj2, T.getF, e0]
      all_goals first | omega | skip
      all_goals first
        | exact T.getF_set_ne v f _ _ _ (by omega)
        | rfl
theorem T.getF_set_same {α : Type} (v : Option α) : ∀ (f : Nat) (t : T α) (k : Nat) (x : α), T.getF f (T.setF f t k v) k = some x → v = some x
  | 0, _, _, _, h => by cases h
  | f + 1, t, k, x, h => by
    cases t with
    | l =>
      simp only [T.setF] at h
      cases hk : Nat.beq k 0 <;> cases hk2 : Nat.beq (k % 2) 0 <;> simp [hk, hk2, T.getF] at h
      · exact T.getF_set_same v f _ _ x h
      · exact T.getF_set_same v f _ _ x h
      · exact h
      · exact h
    | n y a b =>
      simp only [T.setF] at h
      cases hk : Nat.beq k 0 <;> cases hk2 : Nat.beq (k % 2) 0 <;> simp [hk, hk2, T.getF] at h
      · exact T.getF_set_same v f _ _ x h
      · exact T.getF_set_same v f _ _ x h
      · exact h
      · exact h
theorem T.get_set_ne {α : Type} (t : T α) (v : Option α) {k j : Nat} (h : k ≠ j) : (t.set k v).get j = t.get j := T.getF_set_ne v 40 t k j h
theorem T.get_set {α : Type} {t : T α} {v : Option α} {k j : Nat} {x : α} (h : (t.set k v).get j = some x) : (j = k ∧ v = some x) ∨ (j ≠ k ∧ t.get j = some x) := by
  by_cases hj : k = j
  · subst hj; exact .inl ⟨rfl, T.getF_set_same v 40 t k x h⟩
  · rw [T.get_set_ne t v hj] at h; exact .inr ⟨fun e => hj e.symm, h⟩

/-! ### Values -/
/-- a capacity: known, or what the block has beyond so many elements -/
inductive Cap where
  | k (n : Nat)
  | u (d : Nat)
def CapOk : Cap → Nat → Nat → Prop
  | .k n, _, c => c = n
  | .u d, cp, c => c + d = cp
inductive AV where
  | pl (v : Value)
  | ptr (id off : Nat)
  | sl (id off len : Nat) (cap : Cap)
  | agg (l : List AV)
  | tup (l : List AV)
  | fn (f : Fn) (first cap : List AV)
  | ifc (t : TypeId) (v : AV)
  | mp (id : Nat)
  | yl (id : Nat)
  | em
  | o1
  | ik (l : List Int)
  | vv (v : Value)
  | un

/-- names of blocks: their numbers, and how many elements each has room for -/
abbrev Names := List (Nat × Nat)

mutual
/-- the value u is what is known as the first -/
def VR (ρ : Names) : AV → Value → Prop
  | .pl v, u => u = v
  | .ptr id off, u => ∃ b, ρ[id]? = some b ∧ u = .pointer (some ⟨b.1, off, none⟩)
  | .sl id off len cap, u => ∃ b c, ρ[id]? = some b ∧ u = .slice (some ⟨b.1, off, none⟩) len c ∧ len ≤ c ∧ c ≤ maxLen ∧ CapOk cap b.2 c
  | .agg l, u => ∃ vs : List Value, u = .agg vs.toArray ∧ VRL ρ l vs
  | .tup l, u => ∃ vs : List Value, u = .tuple vs.toArray ∧ VRL ρ l vs
  | .fn f a c, u => ∃ vs us : List Value, u = .func f vs.toArray us.toArray ∧ VRL ρ a vs ∧ VRL ρ c us
  | .ifc t a, u => ∃ v, u = .iface t v ∧ VR ρ a v
  | .mp id, u => ∃ b, ρ[id]? = some b ∧ u = .map (some b.1)
  | .yl id, u => ∃ b, ρ[id]? = some b ∧ u = .func (.yield b.1) #[] #[]
  | .em, u => ∃ a c, u = .slice (some a) 0 c ∧ c ≤ maxLen
  | .o1, u => u.oneCell' = true
  | .ik l, u => ∃ k : Int, u = .int .i64 k ∧ l.contains k = false
  | .vv v, u => u = v ∧ v.oneCell' = true
  | .un, _ => True
def VRL (ρ : Names) : List AV → List Value → Prop
  | [], l => l = []
  | a :: r, l => ∃ v vs, l = v :: vs ∧ VR ρ a v ∧ VRL ρ r vs
end

def Ext (ρ ρ' : Names) : Prop := ∀ (i : Nat) (b : Nat × Nat), ρ[i]? = some b → ρ'[i]? = some b
theorem Ext.refl (ρ : Names) : Ext ρ ρ := fun _ _ h => h
theorem Ext.trans {a b c : Names} (h : Ext a b) (k : Ext b c) : Ext a c := fun i x hx => k i x (h i x hx)
theorem Ext.snoc (ρ : Names) (b : Nat × Nat) : Ext ρ (ρ ++ [b]) := fun i x h => by rw [List.getElem?_append_left (List.getElem?_eq_some_iff.1 h).1]; exact h

mutual
theorem VR.ext {ρ ρ' : Names} (h : Ext ρ ρ') : ∀ (a : AV) (v : Value), VR ρ a v → VR ρ' a v
  | .pl _, _, hv => by rw [VR] at hv ⊢; exact hv
  | .ptr _ _, _, hv => by rw [VR] at hv ⊢; obtain ⟨b, hb, e⟩ := hv; exact ⟨b, h _ _ hb, e⟩
  | .sl _ _ _ _, _, hv => by rw [VR] at hv ⊢; obtain ⟨b, c, hb, e⟩ := hv; exact ⟨b, c, h _ _ hb, e⟩
  | .agg l, _, hv => by rw [VR] at hv ⊢; obtain ⟨vs, e, hl⟩ := hv; exact ⟨vs, e, VRL.ext h l vs hl⟩
  | .tup l, _, hv => by rw [VR] at hv ⊢; obtain ⟨vs, e, hl⟩ := hv; exact ⟨vs, e, VRL.ext h l vs hl⟩
  | .fn _ a c, _, hv => by rw [VR] at hv ⊢; obtain ⟨vs, us, e, h1, h2⟩ := hv; exact ⟨vs, us, e, VRL.ext h a vs h1, VRL.ext h c us h2⟩
  | .ifc _ a, _, hv => by rw [VR] at hv ⊢; obtain ⟨v, e, h1⟩ := hv; exact ⟨v, e, VR.ext h a v h1⟩
  | .mp _, _, hv => by rw [VR] at hv ⊢; obtain ⟨b, hb, e⟩ := hv; exact ⟨b, h _ _ hb, e⟩
  | .yl _, _, hv => by rw [VR] at hv ⊢; obtain ⟨b, hb, e⟩ := hv; exact ⟨b, h _ _ hb, e⟩
  | .em, _, hv => by rw [VR] at hv ⊢; exact hv
  | .o1, _, hv => by rw [VR] at hv ⊢; exact hv
  | .ik _, _, hv => by rw [VR] at hv ⊢; exact hv
  | .vv _, _, hv => by rw [VR] at hv ⊢; exact hv
  | .un, _, _ => by rw [VR]; trivial
theorem VRL.ext {ρ ρ' : Names} (h : Ext ρ ρ') : ∀ (l : List AV) (vs : List Value), VRL ρ l vs → VRL ρ' l vs
  | [], _, hv => by rw [VRL] at hv ⊢; exact hv
  | a :: r, _, hv => by rw [VRL] at hv ⊢; obtain ⟨v, vs, e, h1, h2⟩ := hv; exact ⟨v, vs, e, VR.ext h a v h1, VRL.ext h r vs h2⟩
end

theorem VRL.nil {ρ : Names} {vs : List Value} (h : VRL ρ [] vs) : vs = [] := by rw [VRL] at h; exact h
theorem VRL.cons {ρ : Names} {a : AV} {l : List AV} {vs : List Value} (h : VRL ρ (a :: l) vs) : ∃ v r, vs = v :: r ∧ VR ρ a v ∧ VRL ρ l r := by rw [VRL] at h; exact h
theorem VRL.mk0 {ρ : Names} : VRL ρ [] [] := by rw [VRL]
theorem VRL.mk {ρ : Names} {a : AV} {l : List AV} {v : Value} {vs : List Value} (h : VR ρ a v) (hs : VRL ρ l vs) : VRL ρ (a :: l) (v :: vs) := by rw [VRL]; exact ⟨v, vs, rfl, h, hs⟩
theorem VRL.length {ρ : Names} : ∀ {l : List AV} {vs : List Value}, VRL ρ l vs → vs.length = l.length
  | [], _, h => by rw [h.nil]; rfl
  | _ :: l, _, h => by obtain ⟨v, r, rfl, _, hr⟩ := h.cons; simp [VRL.length hr]
theorem VRL.app {ρ : Names} : ∀ {l m : List AV} {vs us : List Value}, VRL ρ l vs → VRL ρ m us → VRL ρ (l ++ m) (vs ++ us)
  | [], _, _, _, h, k => by rw [h.nil]; exact k
  | _ :: l, _, _, _, h, k => by obtain ⟨v, r, rfl, h1, hr⟩ := h.cons; exact VRL.mk h1 (VRL.app hr k)
theorem VRL.take {ρ : Names} : ∀ (n : Nat) {l : List AV} {vs : List Value}, VRL ρ l vs → VRL ρ (l.take n) (vs.take n)
  | 0, _, _, _ => by simpa using VRL.mk0
  | n + 1, [], _, h => by rw [h.nil]; simpa using VRL.mk0
  | n + 1, _ :: l, _, h => by obtain ⟨v, r, rfl, h1, hr⟩ := h.cons; simpa using VRL.mk h1 (VRL.take n hr)
theorem VRL.drop {ρ : Names} : ∀ (n : Nat) {l : List AV} {vs : List Value}, VRL ρ l vs → VRL ρ (l.drop n) (vs.drop n)
  | 0, _, _, h => by simpa using h
  | n + 1, [], _, h => by rw [h.nil]; simpa using VRL.mk0
  | n + 1, _ :: l, _, h => by obtain ⟨v, r, rfl, h1, hr⟩ := h.cons; simpa using VRL.drop n hr
theorem VRL.get {ρ : Names} : ∀ {l : List AV} {vs : List Value} (i : Nat) (a : AV), VRL ρ l vs → l[i]? = some a → ∃ v, vs[i]? = some v ∧ VR ρ a v
  | [], _, i, a, _, h => by simp at h
  | _ :: l, _, 0, a, h, hi => by obtain ⟨v, r, rfl, h1, hr⟩ := h.cons; simp at hi; subst hi; exact ⟨v, rfl, h1⟩
  | _ :: l, _, i + 1, a, h, hi => by obtain ⟨v, r, rfl, h1, hr⟩ := h.cons; simpa using VRL.get i a hr (by simpa using hi)

/-! ### Values without memory -/
mutual
def plain : AV → Option Value
  | .pl v => some v
  | .agg l => match plainL l with | some vs => some (.agg vs.toArray) | none => none
  | .tup l => match plainL l with | some vs => some (.tuple vs.toArray) | none => none
  | .fn f a c => match plainL a, plainL c with | some vs, some us => some (.func f vs.toArray us.toArray) | _, _ => none
  | .ifc t a => match plain a with | some v => some (.iface t v) | none => none
  | _ => none
def plainL : List AV → Option (List Value)
  | [] => some []
  | a :: r => match plain a, plainL r with | some v, some vs => some (v :: vs) | _, _ => none
end
mutual
theorem VR.plain {ρ : Names} : ∀ (a : AV) (v u : Value), Ev.plain a = some v → VR ρ a u → u = v
  | .pl _, v, u, h, hv => by rw [Ev.plain] at h; rw [VR] at hv; cases h; exact hv
  | .ptr _ _, _, _, h, _ => by simp [Ev.plain] at h
  | .sl _ _ _ _, _, _, h, _ => by simp [Ev.plain] at h
  | .agg l, v, u, h, hv => by
    rw [Ev.plain] at h; rw [VR] at hv
    obtain ⟨vs, rfl, hl⟩ := hv
    split at h
    · rename_i us hu; cases h; rw [VRL.plain l us vs hu hl]
    · cases h
  | .tup l, v, u, h, hv => by
    rw [Ev.plain] at h; rw [VR] at hv
    obtain ⟨vs, rfl, hl⟩ := hv
    split at h
    · rename_i us hu; cases h; rw [VRL.plain l us vs hu hl]
    · cases h
  | .fn f a c, v, u, h, hv => by
    rw [Ev.plain] at h; rw [VR] at hv
    obtain ⟨vs, us, rfl, h1, h2⟩ := hv
    split at h
    · rename_i xs ys hx hy; cases h; rw [VRL.plain a xs vs hx h1, VRL.plain c ys us hy h2]
    · cases h
  | .ifc t a, v, u, h, hv => by
    rw [Ev.plain] at h; rw [VR] at hv
    obtain ⟨x, rfl, h1⟩ := hv
    split at h
    · rename_i y hy; cases h; rw [VR.plain a y x hy h1]
    · cases h
  | .mp _, _, _, h, _ => by simp [Ev.plain] at h
  | .yl _, _, _, h, _ => by simp [Ev.plain] at h
  | .em, _, _, h, _ => by simp [Ev.plain] at h
  | .o1, _, _, h, _ => by simp [Ev.plain] at h
  | .ik _, _, _, h, _ => by simp [Ev.plain] at h
  | .vv _, _, _, h, _ => by simp [Ev.plain] at h
  | .un, _, _, h, _ => by simp [Ev.plain] at h
theorem VRL.plain {ρ : Names} : ∀ (l : List AV) (vs us : List Value), plainL l = some vs → VRL ρ l us → us = vs
  | [], vs, us, h, hv => by rw [plainL] at h; cases h; exact hv.nil
  | a :: r, vs, us, h, hv => by
    rw [plainL] at h
    obtain ⟨v, w, rfl, h1, h2⟩ := hv.cons
    split at h
    · rename_i x xs hx hxs; cases h; rw [VR.plain a x v hx h1, VRL.plain r xs w hxs h2]
    · cases h
end
theorem VR.pl {ρ : Names} {v : Value} : VR ρ (.pl v) v := by rw [VR]

def plMap (vs : List Value) : List AV := vs.map .pl
theorem VRL.plMap {ρ : Names} : ∀ (vs : List Value), VRL ρ (Ev.plMap vs) vs
  | [] => VRL.mk0
  | v :: vs => VRL.mk VR.pl (VRL.plMap vs)

/-- one cell -/
def isOne : AV → Bool
  | .pl v => v.oneCell'
  | .ptr _ _ | .sl _ _ _ _ | .fn _ _ _ | .ifc _ _ | .mp _ | .yl _ | .em | .o1 | .ik _ | .vv _ => true
  | _ => false
theorem VR.one {ρ : Names} {a : AV} {v : Value} (h : VR ρ a v) (ho : isOne a = true) : v.oneCell' = true := by
  cases a with
  | pl u => rw [VR] at h; subst h; exact ho
  | ptr _ _ => rw [VR] at h; obtain ⟨_, _, rfl⟩ := h; rfl
  | sl _ _ _ _ => rw [VR] at h; obtain ⟨_, _, _, rfl, _⟩ := h; rfl
  | agg _ => cases ho
  | tup _ => cases ho
  | fn _ _ _ => rw [VR] at h; obtain ⟨_, _, rfl, _⟩ := h; rfl
  | ifc _ _ => rw [VR] at h; obtain ⟨_, rfl, _⟩ := h; rfl
  | mp _ => rw [VR] at h; obtain ⟨_, _, rfl⟩ := h; rfl
  | yl _ => rw [VR] at h; obtain ⟨_, _, rfl⟩ := h; rfl
  | em => rw [VR] at h; obtain ⟨_, _, rfl, _⟩ := h; rfl
  | o1 => rw [VR] at h; exact h
  | ik _ => rw [VR] at h; obtain ⟨_, rfl, _⟩ := h; rfl
  | vv _ => rw [VR] at h; obtain ⟨rfl, h⟩ := h; exact h
  | un => cases ho
theorem VRL.one {ρ : Names} : ∀ {l : List AV} {vs : List Value}, VRL ρ l vs → l.all isOne = true → ∀ u ∈ vs, u.oneCell' = true
  | [], _, h, _ => by rw [h.nil]; simp
  | _ :: l, _, h, ho => by
    obtain ⟨v, r, rfl, h1, hr⟩ := h.cons
    simp only [List.all_cons, Bool.and_eq_true] at ho
    intro u hu
    rcases List.mem_cons.1 hu with rfl | hu
    · exact h1.one ho.1
    · exact VRL.one hr ho.2 u hu

/-- the cells of a value; none: not known -/
def cellsA : AV → Option (List AV)
  | .pl (.agg cs) => some (plMap cs.toList)
  | .agg l => some l
  | .un => none
  | a => some [a]
theorem VR.cells {ρ : Names} {a : AV} {v : Value} {l : List AV} (h : VR ρ a v) (hl : cellsA a = some l) (ho : l.all isOne = true) : VRL ρ l v.cells.toList := by
  cases a with
  | pl u =>
    rw [VR] at h
    subst h
    cases v <;> simp only [cellsA, Option.some.injEq] at hl <;> subst hl <;> first | exact VRL.plMap _ | exact VRL.mk VR.pl VRL.mk0
  | agg m =>
    rw [VR] at h
    obtain ⟨vs, rfl, hv⟩ := h
    simp only [cellsA, Option.some.injEq] at hl
    subst hl
    simpa [Value.cells] using hv
  | ptr _ _ => simp only [cellsA, Option.some.injEq] at hl; subst hl; have h' := h; rw [VR] at h; obtain ⟨_, _, rfl⟩ := h; exact VRL.mk h' VRL.mk0
  | sl _ _ _ _ => simp only [cellsA, Option.some.injEq] at hl; subst hl; have h' := h; rw [VR] at h; obtain ⟨_, _, _, rfl, _⟩ := h; exact VRL.mk h' VRL.mk0
  | tup m => simp only [cellsA, Option.some.injEq] at hl; subst hl; simp [isOne] at ho
  | fn _ _ _ => simp only [cellsA, Option.some.injEq] at hl; subst hl; have h' := h; rw [VR] at h; obtain ⟨_, _, rfl, _⟩ := h; exact VRL.mk h' VRL.mk0
  | ifc _ _ => simp only [cellsA, Option.some.injEq] at hl; subst hl; have h' := h; rw [VR] at h; obtain ⟨_, rfl, _⟩ := h; exact VRL.mk h' VRL.mk0
  | mp _ => simp only [cellsA, Option.some.injEq] at hl; subst hl; have h' := h; rw [VR] at h; obtain ⟨_, _, rfl⟩ := h; exact VRL.mk h' VRL.mk0
  | yl _ => simp only [cellsA, Option.some.injEq] at hl; subst hl; have h' := h; rw [VR] at h; obtain ⟨_, _, rfl⟩ := h; exact VRL.mk h' VRL.mk0
  | em => simp only [cellsA, Option.some.injEq] at hl; subst hl; have h' := h; rw [VR] at h; obtain ⟨_, _, rfl, _⟩ := h; exact VRL.mk h' VRL.mk0
  | o1 => simp only [cellsA, Option.some.injEq] at hl; subst hl; have h' := h; rw [VR] at h; cases v <;> first | exact VRL.mk h' VRL.mk0 | cases h
  | ik _ => simp only [cellsA, Option.some.injEq] at hl; subst hl; have h' := h; rw [VR] at h; obtain ⟨_, rfl, _⟩ := h; exact VRL.mk h' VRL.mk0
  | vv _ => simp only [cellsA, Option.some.injEq] at hl; subst hl; have h' := h; rw [VR] at h; obtain ⟨rfl, h⟩ := h; cases v <;> first | exact VRL.mk h' VRL.mk0 | cases h
  | un => cases hl

/-! ### Memory -/
/-- kinds of blocks: cells; a map; a string's iterator; a loop over a function; what its rounds defer -/
inductive BK where
  | c
  | m (es : List (AV × AV × Nat)) (clock : Nat)
  | it (s : ByteArray) (pos : Nat)
  | lp (st : LoopState) (pend : Option Code) (n : Nat) (E : T AV) (ps : Array Tmp) (assign body : Code) (df : Nat)
  | df (op : Bool)
def ER (ρ : Names) : List (AV × AV × Nat) → List MapEntry → Prop
  | [], l => l = []
  | (k, v, b) :: r, l => ∃ e es, l = e :: es ∧ VR ρ k e.key ∧ VR ρ v e.val ∧ e.born = b ∧ ER ρ r es
theorem ER.ext {ρ ρ' : Names} (h : Ext ρ ρ') : ∀ {l : List (AV × AV × Nat)} {es : List MapEntry}, ER ρ l es → ER ρ' l es
  | [], _, he => he
  | (k, v, b) :: r, _, he => by
    obtain ⟨e, es, h1, h2, h3, h4, h5⟩ := he
    exact ⟨e, es, h1, VR.ext h _ _ h2, VR.ext h _ _ h3, h4, ER.ext h h5⟩
structure ABlk where
  cells : List AV
  ty : TypeId
  more : Bool      -- further cells follow: the block has room for so many elements of 'es' cells
  es : Nat
  frz : Nat        -- below it a cell may be one that a string shares
  k : BK

/-- what is noted: blocks that are written, calls that are taken as given -/
inductive Wr where
  | b (i : Nat)
  | c (f : FuncId) (l : List AV)
structure AH where
  t : T ABlk
  next : Nat
  wr : List Wr
def AH.get (H : AH) (i : Nat) : Option ABlk := H.t.get i

def unfrozen (fr : Nat × Nat) (j : Nat) : Prop := (decide (fr.1 ≤ j) && decide (j < fr.2)) = false
theorem unfrozen_of {fr : Nat × Nat} {m j : Nat} (h : fr.1 = fr.2 ∨ fr.2 ≤ m) (hj : m ≤ j) : unfrozen fr j := by
  unfold unfrozen
  rw [Bool.and_eq_false_iff]
  by_cases h1 : fr.1 ≤ j
  · right; simp; omega
  · left; simpa using h1

def BRc (ρ : Names) (k : ABlk) (cp : Nat) (o : Option Obj) : Prop := ∃ (vs rest : List Value) (fr : Nat × Nat), o = some (.cells (vs ++ rest).toArray k.ty fr) ∧ VRL ρ k.cells vs ∧ (k.more = false → rest = []) ∧ (k.more = true → (vs ++ rest).length = cp * k.es) ∧ (fr.1 = fr.2 ∨ fr.2 ≤ k.frz)
/-- a block that holds no cells -/
def BO (ρ : Names) : BK → Option Obj → Prop
  | .c, _ => False
  | .m es cl, o => ∃ en : List MapEntry, o = some (.map en.toArray cl) ∧ ER ρ es en
  | .it s p, o => o = some (.stringIter s p)
  | .lp st pd n E ps ag bd df, o => ∃ (fn : FuncId) (tmps : Array Value) (b : Nat × Nat), o = some (.loop ⟨st, pd, fn, tmps, ps, ag, bd, b.1⟩) ∧ ρ[df]? = some b ∧ tmps.size = n ∧ ∀ (k : Nat) (x : AV), E.get k = some x → ∃ v, tmps[k]? = some v ∧ VR ρ x v
  | .df op, o => o = some (.deferred (bif op then some [] else none))
def BR (ρ : Names) (k : ABlk) (cp : Nat) (o : Option Obj) : Prop := (k.k = .c ∧ BRc ρ k cp o) ∨ (k.cells = [] ∧ k.more = false ∧ BO ρ k.k o)
theorem BR.c {ρ : Names} {k : ABlk} {cp : Nat} {o : Option Obj} (h : BR ρ k cp o) (hk : k.k = .c) : BRc ρ k cp o := by
  rcases h with h | ⟨_, _, h⟩
  · exact h.2
  · rw [hk] at h; exact h.elim
theorem BR.o {ρ : Names} {k : ABlk} {cp : Nat} {o : Option Obj} (h : BR ρ k cp o) (hk : k.k ≠ .c) : k.cells = [] ∧ k.more = false ∧ BO ρ k.k o := by
  rcases h with h | h
  · exact absurd h.1 hk
  · exact h

structure HR (w0 : World) (ρ : Names) (H : AH) (w : World) : Prop where
  bel : Below w0.heap.size w0 w
  len : ρ.length = H.next
  rng : ∀ (i : Nat) (b : Nat × Nat), ρ[i]? = some b → w0.heap.size ≤ b.1 ∧ b.1 < w.heap.size
  inj : ∀ (i j : Nat) (b c : Nat × Nat) (x y : ABlk), H.get i = some x → H.get j = some y → ρ[i]? = some b → ρ[j]? = some c → b.1 = c.1 → i = j
  blk : ∀ (i : Nat) (k : ABlk), H.get i = some k → ∃ b, ρ[i]? = some b ∧ BR ρ k b.2 w.heap[b.1]?

structure Post (w0 : World) (ρ : Names) (H : AH) (w : World) (ρ' : Names) (H' : AH) (w' : World) : Prop where
  ext : Ext ρ ρ'
  hr : HR w0 ρ' H' w'
  wr : ∀ i ∈ H.wr, i ∈ H'.wr
  same : ∀ (i : Nat) (k : ABlk), H.get i = some k → Wr.b i ∉ H'.wr → H'.get i = some k
  kept : ∀ (i : Nat) (b : Nat × Nat) (k : ABlk), H.get i = some k → Wr.b i ∉ H'.wr → ρ[i]? = some b → w'.heap[b.1]? = w.heap[b.1]?
  size : w.heap.size ≤ w'.heap.size
  frame : ∀ b, b < w.heap.size → (∀ (i : Nat) (c : Nat × Nat) (k : ABlk), H.get i = some k → ρ[i]? = some c → c.1 ≠ b) → w'.heap[b]? = w.heap[b]?
  fresh : ∀ (i : Nat) (c : Nat × Nat) (k : ABlk), H'.get i = some k → ρ'[i]? = some c → w.heap.size ≤ c.1 ∨ ∃ (j : Nat) (e : Nat × Nat) (x : ABlk), H.get j = some x ∧ ρ[j]? = some e ∧ e.1 = c.1

theorem Post.refl {w0 : World} {ρ : Names} {H : AH} {w : World} (h : HR w0 ρ H w) : Post w0 ρ H w ρ H w := ⟨Ext.refl _, h, fun _ h => h, fun _ _ h _ => h, fun _ _ _ _ _ _ => rfl, Nat.le_refl _, fun _ _ _ => rfl, fun i c k hi hc => .inr ⟨i, c, k, hi, hc, rfl⟩⟩
theorem Post.trans {w0 : World} {ρ ρ1 ρ2 : Names} {H H1 H2 : AH} {w w1 w2 : World} (h : Post w0 ρ H w ρ1 H1 w1) (k : Post w0 ρ1 H1 w1 ρ2 H2 w2) : Post w0 ρ H w ρ2 H2 w2 :=
  ⟨h.ext.trans k.ext, k.hr, fun i hi => k.wr i (h.wr i hi), fun i x hx hn => k.same i x (h.same i x hx (fun hi => hn (k.wr _ hi))) hn,
   fun i b x hx hn hb => (k.kept i b x (h.same i x hx (fun hi => hn (k.wr _ hi))) hn (h.ext i b hb)).trans (h.kept i b x hx (fun hi => hn (k.wr _ hi)) hb), Nat.le_trans h.size k.size,
   fun b hb hu => (k.frame b (Nat.lt_of_lt_of_le hb h.size) (fun i c x hi hc he => by
     rcases h.fresh i c x hi hc with h1 | ⟨j, e, y, h1, h2, h3⟩
     · omega
     · exact hu j e y h1 h2 (h3.trans he))).trans (h.frame b hb hu),
   fun i c x hi hc => by
     rcases k.fresh i c x hi hc with h1 | ⟨j, e, y, h1, h2, h3⟩
     · exact .inl (Nat.le_trans h.size h1)
     · rcases h.fresh j e y h1 h2 with h4 | ⟨l, e', z, h4, h5, h6⟩
       · exact .inl (by rw [← h3]; exact h4)
       · exact .inr ⟨l, e', z, h4, h5, h6.trans h3⟩⟩

theorem BO.ext {ρ ρ' : Names} (h : Ext ρ ρ') : ∀ {k : BK} {o : Option Obj}, BO ρ k o → BO ρ' k o
  | .c, _, hb => hb
  | .m _ _, _, hb => by obtain ⟨en, h1, h2⟩ := hb; exact ⟨en, h1, h2.ext h⟩
  | .it _ _, _, hb => hb
  | .lp _ _ _ _ _ _ _ _, _, hb => by
    obtain ⟨fn, tmps, b, h1, h2, h3, h4⟩ := hb
    exact ⟨fn, tmps, b, h1, h _ _ h2, h3, fun k x hk => by obtain ⟨v, h5, h6⟩ := h4 k x hk; exact ⟨v, h5, VR.ext h _ _ h6⟩⟩
  | .df _, _, hb => hb
theorem BR.ext {ρ ρ' : Names} (h : Ext ρ ρ') {k : ABlk} {cp : Nat} {o : Option Obj} (hb : BR ρ k cp o) : BR ρ' k cp o := by
  rcases hb with ⟨hk, vs, rest, fr, h1, h2, h3⟩ | ⟨h1, h2, h3⟩
  · exact .inl ⟨hk, vs, rest, fr, h1, VRL.ext h _ _ h2, h3⟩
  · exact .inr ⟨h1, h2, h3.ext h⟩

theorem HR.drew {w0 : World} {ρ : Names} {H : AH} {w : World} (h : HR w0 ρ H w) : HR w0 ρ H w.drew :=
  ⟨⟨h.bel.os, h.bel.tape, h.bel.output, h.bel.size, h.bel.block⟩, h.len, h.rng, h.inj, h.blk⟩
theorem Post.drew {w0 : World} {ρ : Names} {H : AH} {w : World} {ρ' : Names} {H' : AH} {w' : World} (h : Post w0 ρ H w ρ' H' w') : Post w0 ρ H w ρ' H' w'.drew :=
  ⟨h.ext, h.hr.drew, h.wr, h.same, h.kept, h.size, h.frame, h.fresh⟩

/-- a new block -/
def AH.new (H : AH) (k : ABlk) : AH := ⟨H.t.set H.next (some k), H.next + 1, H.wr⟩
theorem HR.fresh {w0 : World} {ρ : Names} {H : AH} {w : World} (h : HR w0 ρ H w) {i : Nat} {k : ABlk} (hi : H.get i = some k) : i < H.next := by
  obtain ⟨b, hb, _⟩ := h.blk i k hi
  rw [← h.len]; exact (List.getElem?_eq_some_iff.1 hb).1
theorem AH.get_new {H : AH} {k x : ABlk} {i : Nat} (hi : (H.new k).get i = some x) : (i = H.next ∧ x = k) ∨ (i ≠ H.next ∧ H.get i = some x) := by
  rcases T.get_set hi with ⟨h1, h2⟩ | h2
  · cases h2; exact .inl ⟨h1, rfl⟩
  · exact .inr h2
theorem snoc_case {ρ : Names} {b c : Nat × Nat} {i : Nat} (h : (ρ ++ [b])[i]? = some c) : (i < ρ.length ∧ ρ[i]? = some c) ∨ (i = ρ.length ∧ c = b) := by
  by_cases hl : i < ρ.length
  · rw [List.getElem?_append_left hl] at h; exact .inl ⟨hl, h⟩
  · rw [List.getElem?_append_right (by omega)] at h
    have h0 : i - ρ.length = 0 := by
      have := (List.getElem?_eq_some_iff.1 h).1
      simp at this; omega
    rw [h0] at h
    simp at h
    exact .inr ⟨by omega, h.symm⟩
theorem AH.new_same {w0 : World} {ρ : Names} {H : AH} {w : World} (h : HR w0 ρ H w) (k : ABlk) {i : Nat} {x : ABlk} (hi : H.get i = some x) : (H.new k).get i = some x := by
  have := h.fresh hi
  have hne : H.next ≠ i := by omega
  show (H.t.set H.next (some k)).get i = some x
  rw [T.get_set_ne _ _ hne]; exact hi
/-- a name more, for a block that no name of the table has -/
theorem HR.name {w0 : World} {ρ : Names} {H : AH} {w w' : World} (h : HR w0 ρ H w) (k : ABlk) (b cp : Nat) (hbel : Below w0.heap.size w0 w') (hsz : w.heap.size ≤ w'.heap.size) (hb : w0.heap.size ≤ b ∧ b < w'.heap.size)
    (hne : ∀ (i : Nat) (c : Nat × Nat) (x : ABlk), H.get i = some x → ρ[i]? = some c → c.1 ≠ b) (hkeep : ∀ (i : Nat) (c : Nat × Nat) (x : ABlk), H.get i = some x → ρ[i]? = some c → w'.heap[c.1]? = w.heap[c.1]?)
    (hB : BR ρ k cp w'.heap[b]?) : HR w0 (ρ ++ [(b, cp)]) (H.new k) w' ∧ (ρ ++ [(b, cp)])[H.next]? = some (b, cp) := by
  have hnew : (ρ ++ [(b, cp)])[H.next]? = some (b, cp) := by rw [← h.len]; simp
  have hext := Ext.snoc ρ (b, cp)
  refine ⟨⟨hbel, by simp [AH.new, h.len], fun i c hc => ?_, fun i j c d x y hi hj hc hd he => ?_, fun i x hi => ?_⟩, hnew⟩
  · rcases snoc_case hc with ⟨_, h1⟩ | ⟨_, rfl⟩
    · have := h.rng i c h1
      exact ⟨this.1, by omega⟩
    · exact hb
  · rcases AH.get_new hi with ⟨rfl, _⟩ | ⟨hi1, hi2⟩ <;> rcases AH.get_new hj with ⟨rfl, _⟩ | ⟨hj1, hj2⟩
    · rfl
    · rw [hnew] at hc; cases hc
      rcases snoc_case hd with ⟨_, h1⟩ | ⟨h1, _⟩
      · exact absurd he.symm (hne j d y hj2 h1)
      · exact absurd (h1.trans h.len) hj1
    · rw [hnew] at hd; cases hd
      rcases snoc_case hc with ⟨_, h1⟩ | ⟨h1, _⟩
      · exact absurd he (hne i c x hi2 h1)
      · exact absurd (h1.trans h.len) hi1
    · rcases snoc_case hc with ⟨_, h1⟩ | ⟨h1, _⟩
      · rcases snoc_case hd with ⟨_, h2⟩ | ⟨h2, _⟩
        · exact h.inj i j c d x y hi2 hj2 h1 h2 he
        · exact absurd (h2.trans h.len) hj1
      · exact absurd (h1.trans h.len) hi1
  · rcases AH.get_new hi with ⟨rfl, rfl⟩ | ⟨hi1, hi2⟩
    · exact ⟨(b, cp), hnew, hB.ext hext⟩
    · obtain ⟨c, hc, hBc⟩ := h.blk i x hi2
      exact ⟨c, hext i c hc, by rw [hkeep i c x hi2 hc]; exact hBc.ext hext⟩
theorem name_fresh {w0 : World} {ρ : Names} {H : AH} {w : World} (h : HR w0 ρ H w) {k : ABlk} {b cp i : Nat} {c : Nat × Nat} {x : ABlk} (hi : (H.new k).get i = some x) (hc : (ρ ++ [(b, cp)])[i]? = some c) : c.1 = b ∨ (H.get i = some x ∧ ρ[i]? = some c) := by
  rcases AH.get_new hi with ⟨rfl, _⟩ | ⟨hi1, hi2⟩
  · rw [show (ρ ++ [(b, cp)])[H.next]? = some (b, cp) by rw [← h.len]; simp] at hc
    cases hc; exact .inl rfl
  · rcases snoc_case hc with ⟨_, h1⟩ | ⟨h1, _⟩
    · exact .inr ⟨hi2, h1⟩
    · exact absurd (h1.trans h.len) hi1
theorem Post.allocG {w0 : World} {ρ : Names} {H : AH} {w : World} (h : HR w0 ρ H w) (k : ABlk) (cp : Nat) (o : Obj) (hB : BR ρ k cp (some o)) :
    Post w0 ρ H w (ρ ++ [(w.heap.size, cp)]) (H.new k) (w.alloc o) ∧ (ρ ++ [(w.heap.size, cp)])[H.next]? = some (w.heap.size, cp) := by
  have hN := HR.name h k w.heap.size cp (w' := w.alloc o) (h.bel.trans ((Below.refl _ _).alloc h.bel.size _)) (by rw [World.size_alloc]; omega) ⟨h.bel.size, by rw [World.size_alloc]; omega⟩
    (fun i c x _ hc => by have := (h.rng i c hc).2; omega) (fun i c x _ hc => Below.heap_alloc w _ c.1 (h.rng i c hc).2)
    (by rw [heap_alloc_new]; exact hB)
  refine ⟨⟨Ext.snoc _ _, hN.1, fun _ hi => hi, fun i x hi _ => AH.new_same h k hi, fun i c x _ _ hc => Below.heap_alloc w _ c.1 (h.rng i c hc).2, by rw [World.size_alloc]; omega, fun b hb _ => Below.heap_alloc w _ b hb, fun i c x hi hc => ?_⟩, hN.2⟩
  rcases name_fresh h hi hc with h1 | ⟨h1, h2⟩
  · exact .inl (by omega)
  · exact .inr ⟨i, c, x, h1, h2, rfl⟩
theorem Post.alloc {w0 : World} {ρ : Names} {H : AH} {w : World} (h : HR w0 ρ H w) (k : ABlk) (cp : Nat) (vs rest : List Value) (hk : k.k = .c) (hv : VRL ρ k.cells vs) (hm : k.more = false → rest = []) (hc : k.more = true → (vs ++ rest).length = cp * k.es) :
    Post w0 ρ H w (ρ ++ [(w.heap.size, cp)]) (H.new k) (w.alloc (.cells (vs ++ rest).toArray k.ty)) ∧ (ρ ++ [(w.heap.size, cp)])[H.next]? = some (w.heap.size, cp) :=
  Post.allocG h k cp _ (.inl ⟨hk, vs, rest, (0, 0), rfl, hv, hm, hc, .inl rfl⟩)

/-- a block's cells have turned -/
def AH.put (H : AH) (i : Nat) (k : ABlk) : AH := ⟨H.t.set i (some k), H.next, .b i :: H.wr⟩
theorem Post.put {w0 : World} {ρ : Names} {H : AH} {w w' : World} (h : HR w0 ρ H w) {i : Nat} {b : Nat × Nat} {k k' : ABlk} (hi : H.get i = some k) (hb : ρ[i]? = some b) (hbel : Below w0.heap.size w w') (hsz : w'.heap.size = w.heap.size)
    (hother : ∀ j, j ≠ b.1 → w'.heap[j]? = w.heap[j]?) (hB : BR ρ k' b.2 w'.heap[b.1]?) : Post w0 ρ H w ρ (H.put i k') w' := by
  have hold : ∀ (j : Nat) (x : ABlk), (H.put i k').get j = some x → (j = i ∧ x = k') ∨ (j ≠ i ∧ H.get j = some x) := fun j x hj => by
    rcases T.get_set hj with ⟨h1, h2⟩ | h2
    · cases h2; exact .inl ⟨h1, rfl⟩
    · exact .inr h2
  have hin : ∀ (j : Nat) (x : ABlk), (H.put i k').get j = some x → ∃ y, H.get j = some y := fun j x hj => by
    rcases hold j x hj with ⟨rfl, _⟩ | ⟨_, h2⟩
    · exact ⟨k, hi⟩
    · exact ⟨x, h2⟩
  refine ⟨Ext.refl _, ⟨h.bel.trans hbel, h.len, fun j c hc => by rw [hsz]; exact h.rng j c hc, fun j l c d x y hj hl hc hd he => ?_, fun j x hj => ?_⟩, fun j hj => List.mem_cons_of_mem _ hj, fun j x hj hn => ?_, fun j c x hj hn hc => ?_, by rw [hsz]; exact Nat.le_refl _, fun c _ hu => hother c (fun e => hu i b k hi hb e.symm), fun j c x hj hc => ?_⟩
  · obtain ⟨x', hx'⟩ := hin j x hj
    obtain ⟨y', hy'⟩ := hin l y hl
    exact h.inj j l c d x' y' hx' hy' hc hd he
  · rcases hold j x hj with ⟨rfl, rfl⟩ | ⟨hji, h2⟩
    · exact ⟨b, hb, hB⟩
    · obtain ⟨c, hc, hBc⟩ := h.blk j x h2
      refine ⟨c, hc, ?_⟩
      rw [hother c.1 (fun e => hji (h.inj j i c b x k h2 hi hc hb e))]
      exact hBc
  · have hne : i ≠ j := fun e => hn (by subst e; exact List.mem_cons_self ..)
    show (H.t.set i (some k')).get j = some x
    rw [T.get_set_ne _ _ hne]; exact hj
  · have hne : j ≠ i := fun e => hn (by subst e; exact List.mem_cons_self ..)
    exact hother c.1 (fun e => hne (h.inj j i c b x k hj hi hc hb e))
  · obtain ⟨x', hx'⟩ := hin j x hj
    exact .inr ⟨j, c, x', hx', hc, rfl⟩
/-- a block is forgotten -/
def AH.del (H : AH) (i : Nat) : AH := ⟨H.t.set i none, H.next, .b i :: H.wr⟩
theorem AH.get_del {H : AH} {i j : Nat} {x : ABlk} (h : (H.del i).get j = some x) : j ≠ i ∧ H.get j = some x := by
  rcases T.get_set h with ⟨_, h2⟩ | h2
  · cases h2
  · exact h2
theorem Post.del {w0 : World} {ρ : Names} {H : AH} {w : World} (h : HR w0 ρ H w) (i : Nat) : Post w0 ρ H w ρ (H.del i) w := by
  refine ⟨Ext.refl _, ⟨h.bel, h.len, h.rng, fun j l c d x y hj hl hc hd he => h.inj j l c d x y (AH.get_del hj).2 (AH.get_del hl).2 hc hd he, fun j x hj => h.blk j x (AH.get_del hj).2⟩, fun j hj => List.mem_cons_of_mem _ hj, fun j x hj hn => ?_, fun _ _ _ _ _ _ => rfl, Nat.le_refl _, fun _ _ _ => rfl, fun j c x hj hc => .inr ⟨j, c, x, (AH.get_del hj).2, hc, rfl⟩⟩
  have hne : i ≠ j := fun e => hn (by subst e; exact List.mem_cons_self ..)
  show (H.t.set i none).get j = some x
  rw [T.get_set_ne _ _ hne]; exact hj
end Go.Ev
