/- Lemmas of this repository (Ew1 Ew2 Ew3 Ew4 Ew4m Ew5 Ew6 Ew7 Ew8 Ew8m), several texts in one. No statement is proved here. -/
import Derived.Test.YtinebnlhelfjcaaGreatDoorCalc
import Derived.Deep.AppendSrc
import Derived.Laws.MakeOwn
import Derived.Laws.BytesString
import Derived.Lib.EndianMore
import Derived.RangeFuncLeaves
import Derived.RangeFuncRecord
import Derived.Lib.AppendZerosOnto
import Derived.Maps.RangeRun
namespace Go.Ev
open Go.RowKit Go.Sx
set_option linter.unusedVariables false

/-! ### Tables -/
inductive T (α : Type) where
  | l
  | n (x : Option α) (a b : T α)

def T.getF {α : Type} : Nat → T α → Nat → Option α
  | 0, _, _ => none
  | f + 1, t, k => match t with
    | .l => none
    | .n x a b => bif Nat.beq k 0 then x else bif Nat.beq (k % 2) 0 then T.getF f a (k / 2 - 1) else T.getF f b (k / 2)
def T.setF {α : Type} : Nat → T α → Nat → Option α → T α
  | 0, t, _, _ => t
  | f + 1, t, k, v => match t with
    | .l => bif Nat.beq k 0 then .n v .l .l else bif Nat.beq (k % 2) 0 then .n none (T.setF f .l (k / 2 - 1) v) .l else .n none .l (T.setF f .l (k / 2) v)
    | .n x a b => bif Nat.beq k 0 then .n v a b else bif Nat.beq (k % 2) 0 then .n x (T.setF f a (k / 2 - 1) v) b else .n x a (T.setF f b (k / 2) v)
def T.get {α : Type} (t : T α) (k : Nat) : Option α := T.getF 40 t k
def T.set {α : Type} (t : T α) (k : Nat) (v : Option α) : T α := T.setF 40 t k v

theorem T.getF_set_ne {α : Type} (v : Option α) : ∀ (f : Nat) (t : T α) (k j : Nat), k ≠ j → T.getF f (T.setF f t k v) j = T.getF f t j
  | 0, _, _, _, _ => rfl
  | f + 1, t, k, j, h => by
    have e0 : ∀ n : Nat, Nat.beq n 0 = decide (n = 0) := fun n => by cases n <;> simp [Nat.beq]
    cases t with
    | l =>
      simp only [T.setF, e0]
      by_cases hk : k = 0 <;> by_cases hj : j = 0 <;> by_cases hk2 : k % 2 = 0 <;> by_cases hj2 : j % 2 = 0 <;> simp [hk, hj, hk2, hj2, T.getF, e0]
      all_goals first | omega | skip
      all_goals first
        | (rw [T.getF_set_ne v f .l _ _ (by omega)]; cases f <;> rfl)
        | (cases f <;> rfl)
    | n x a b =>
      simp only [T.setF, e0]
      by_cases hk : k = 0 <;> by_cases hj : j = 0 <;> by_cases hk2 : k % 2 = 0 <;> by_cases hj2 : j % 2 = 0 <;> simp [hk, hj, hk2, hj2, T.getF, e0]
      all_goals first | omega | skip
      all_goals first
        | exact T.getF_set_ne v f _ _ _ (by omega)
        | rfl
theorem T.getF_set_same {α : Type} (v : Option α) : ∀ (f : Nat) (t : T α) (k : Nat) (x : α), T.getF f (T.setF f t k v) k = some x → v = some x
  | 0, _, _, _, h => by cases h
  | f + 1, t, k, x, h => by
    cases t with
    | l =>
      simp only [T.setF] at h
      cases hk : Nat.beq k 0 <;> cases hk2 : Nat.beq (k % 2) 0 <;> simp [hk, hk2, T.getF] at h
      · exact T.getF_set_same v f _ _ x h
      · exact T.getF_set_same v f _ _ x h
      · exact h
      · exact h
    | n y a b =>
      simp only [T.setF] at h
      cases hk : Nat.beq k 0 <;> cases hk2 : Nat.beq (k % 2) 0 <;> simp [hk, hk2, T.getF] at h
      · exact T.getF_set_same v f _ _ x h
      · exact T.getF_set_same v f _ _ x h
      · exact h
      · exact h
theorem T.get_set_ne {α : Type} (t : T α) (v : Option α) {k j : Nat} (h : k ≠ j) : (t.set k v).get j = t.get j := T.getF_set_ne v 40 t k j h
theorem T.get_set {α : Type} {t : T α} {v : Option α} {k j : Nat} {x : α} (h : (t.set k v).get j = some x) : (j = k ∧ v = some x) ∨ (j ≠ k ∧ t.get j = some x) := by
  by_cases hj : k = j
  · subst hj; exact .inl ⟨rfl, T.getF_set_same v 40 t k x h⟩
  · rw [T.get_set_ne t v hj] at h; exact .inr ⟨fun e => hj e.symm, h⟩

/-! ### Values -/
/-- a capacity: known, or what the block has beyond so many elements -/
inductive Cap where
  | k (n : Nat)
  | u (d : Nat)
def CapOk : Cap → Nat → Nat → Prop
  | .k n, _, c => c = n
  | .u d, cp, c => c + d = cp
inductive AV where
  | pl (v : Value)
  | ptr (id off : Nat)
  | sl (id off len : Nat) (cap : Cap)
  | agg (l : List AV)
  | tup (l : List AV)
  | fn (f : Fn) (first cap : List AV)
  | ifc (t : TypeId) (v : AV)
  | mp (id : Nat)
  | yl (id : Nat)
  | em
  | o1
  | ik (l : List Int)
  | ge (lo : Nat)
  | bb
  | vv (v : Value)
  | un

/-- names of blocks: their numbers, and how many elements each has room for -/
abbrev Names := List (Nat × Nat)

mutual
/-- the value u is what is known as the first -/
def VR (ρ : Names) : AV → Value → Prop
  | .pl v, u => u = v
  | .ptr id off, u => ∃ b, ρ[id]? = some b ∧ u = .pointer (some ⟨b.1, off, none⟩)
  | .sl id off len cap, u => ∃ b c, ρ[id]? = some b ∧ u = .slice (some ⟨b.1, off, none⟩) len c ∧ len ≤ c ∧ c ≤ maxLen ∧ CapOk cap b.2 c
  | .agg l, u => ∃ vs : List Value, u = .agg vs.toArray ∧ VRL ρ l vs
  | .tup l, u => ∃ vs : List Value, u = .tuple vs.toArray ∧ VRL ρ l vs
  | .fn f a c, u => ∃ vs us : List Value, u = .func f vs.toArray us.toArray ∧ VRL ρ a vs ∧ VRL ρ c us
  | .ifc t a, u => ∃ v, u = .iface t v ∧ VR ρ a v
  | .mp id, u => ∃ b, ρ[id]? = some b ∧ u = .map (some b.1)
  | .yl id, u => ∃ b, ρ[id]? = some b ∧ u = .func (.yield b.1) #[] #[]
  | .em, u => ∃ a c, u = .slice (some a) 0 c ∧ c ≤ maxLen
  | .o1, u => u.oneCell' = true
  | .ik l, u => ∃ k : Int, u = .int .i64 k ∧ l.contains k = false
  | .ge lo, u => ∃ k : Int, u = .int .i64 k ∧ (lo : Int) ≤ k
  | .bb, u => ∃ b : Bool, u = .bool b
  | .vv v, u => u = v ∧ v.oneCell' = true
  | .un, _ => True
def VRL (ρ : Names) : List AV → List Value → Prop
  | [], l => l = []
  | a :: r, l => ∃ v vs, l = v :: vs ∧ VR ρ a v ∧ VRL ρ r vs
end

def Ext (ρ ρ' : Names) : Prop := ∀ (i : Nat) (b : Nat × Nat), ρ[i]? = some b → ρ'[i]? = some b
theorem Ext.refl (ρ : Names) : Ext ρ ρ := fun _ _ h => h
theorem Ext.trans {a b c : Names} (h : Ext a b) (k : Ext b c) : Ext a c := fun i x hx => k i x (h i x hx)
theorem Ext.snoc (ρ : Names) (b : Nat × Nat) : Ext ρ (ρ ++ [b]) := fun i x h => by rw [List.getElem?_append_left (List.getElem?_eq_some_iff.1 h).1]; exact h

mutual
theorem VR.ext {ρ ρ' : Names} (h : Ext ρ ρ') : ∀ (a : AV) (v : Value), VR ρ a v → VR ρ' a v
  | .pl _, _, hv => by rw [VR] at hv ⊢; exact hv
  | .ptr _ _, _, hv => by rw [VR] at hv ⊢; obtain ⟨b, hb, e⟩ := hv; exact ⟨b, h _ _ hb, e⟩
  | .sl _ _ _ _, _, hv => by rw [VR] at hv ⊢; obtain ⟨b, c, hb, e⟩ := hv; exact ⟨b, c, h _ _ hb, e⟩
  | .agg l, _, hv => by rw [VR] at hv ⊢; obtain ⟨vs, e, hl⟩ := hv; exact ⟨vs, e, VRL.ext h l vs hl⟩
  | .tup l, _, hv => by rw [VR] at hv ⊢; obtain ⟨vs, e, hl⟩ := hv; exact ⟨vs, e, VRL.ext h l vs hl⟩
  | .fn _ a c, _, hv => by rw [VR] at hv ⊢; obtain ⟨vs, us, e, h1, h2⟩ := hv; exact ⟨vs, us, e, VRL.ext h a vs h1, VRL.ext h c us h2⟩
  | .ifc _ a, _, hv => by rw [VR] at hv ⊢; obtain ⟨v, e, h1⟩ := hv; exact ⟨v, e, VR.ext h a v h1⟩
  | .mp _, _, hv => by rw [VR] at hv ⊢; obtain ⟨b, hb, e⟩ := hv; exact ⟨b, h _ _ hb, e⟩
  | .yl _, _, hv => by rw [VR] at hv ⊢; obtain ⟨b, hb, e⟩ := hv; exact ⟨b, h _ _ hb, e⟩
  | .em, _, hv => by rw [VR] at hv ⊢; exact hv
  | .o1, _, hv => by rw [VR] at hv ⊢; exact hv
  | .ik _, _, hv => by rw [VR] at hv ⊢; exact hv
  | .ge _, _, hv => by rw [VR] at hv ⊢; exact hv
  | .bb, _, hv => by rw [VR] at hv ⊢; exact hv
  | .vv _, _, hv => by rw [VR] at hv ⊢; exact hv
  | .un, _, _ => by rw [VR]; trivial
theorem VRL.ext {ρ ρ' : Names} (h : Ext ρ ρ') : ∀ (l : List AV) (vs : List Value), VRL ρ l vs → VRL ρ' l vs
  | [], _, hv => by rw [VRL] at hv ⊢; exact hv
  | a :: r, _, hv => by rw [VRL] at hv ⊢; obtain ⟨v, vs, e, h1, h2⟩ := hv; exact ⟨v, vs, e, VR.ext h a v h1, VRL.ext h r vs h2⟩
end

theorem VRL.nil {ρ : Names} {vs : List Value} (h : VRL ρ [] vs) : vs = [] := by rw [VRL] at h; exact h
theorem VRL.cons {ρ : Names} {a : AV} {l : List AV} {vs : List Value} (h : VRL ρ (a :: l) vs) : ∃ v r, vs = v :: r ∧ VR ρ a v ∧ VRL ρ l r := by rw [VRL] at h; exact h
theorem VRL.mk0 {ρ : Names} : VRL ρ [] [] := by rw [VRL]
theorem VRL.mk {ρ : Names} {a : AV} {l : List AV} {v : Value} {vs : List Value} (h : VR ρ a v) (hs : VRL ρ l vs) : VRL ρ (a :: l) (v :: vs) := by rw [VRL]; exact ⟨v, vs, rfl, h, hs⟩
theorem VRL.length {ρ : Names} : ∀ {l : List AV} {vs : List Value}, VRL ρ l vs → vs.length = l.length
  | [], _, h => by rw [h.nil]; rfl
  | _ :: l, _, h => by obtain ⟨v, r, rfl, _, hr⟩ := h.cons; simp [VRL.length hr]
theorem VRL.app {ρ : Names} : ∀ {l m : List AV} {vs us : List Value}, VRL ρ l vs → VRL ρ m us → VRL ρ (l ++ m) (vs ++ us)
  | [], _, _, _, h, k => by rw [h.nil]; exact k
  | _ :: l, _, _, _, h, k => by obtain ⟨v, r, rfl, h1, hr⟩ := h.cons; exact VRL.mk h1 (VRL.app hr k)
theorem VRL.take {ρ : Names} : ∀ (n : Nat) {l : List AV} {vs : List Value}, VRL ρ l vs → VRL ρ (l.take n) (vs.take n)
  | 0, _, _, _ => by simpa using VRL.mk0
  | n + 1, [], _, h => by rw [h.nil]; simpa using VRL.mk0
  | n + 1, _ :: l, _, h => by obtain ⟨v, r, rfl, h1, hr⟩ := h.cons; simpa using VRL.mk h1 (VRL.take n hr)
theorem VRL.drop {ρ : Names} : ∀ (n : Nat) {l : List AV} {vs : List Value}, VRL ρ l vs → VRL ρ (l.drop n) (vs.drop n)
  | 0, _, _, h => by simpa using h
  | n + 1, [], _, h => by rw [h.nil]; simpa using VRL.mk0
  | n + 1, _ :: l, _, h => by obtain ⟨v, r, rfl, h1, hr⟩ := h.cons; simpa using VRL.drop n hr
theorem VRL.get {ρ : Names} : ∀ {l : List AV} {vs : List Value} (i : Nat) (a : AV), VRL ρ l vs → l[i]? = some a → ∃ v, vs[i]? = some v ∧ VR ρ a v
  | [], _, i, a, _, h => by simp at h
  | _ :: l, _, 0, a, h, hi => by obtain ⟨v, r, rfl, h1, hr⟩ := h.cons; simp at hi; subst hi; exact ⟨v, rfl, h1⟩
  | _ :: l, _, i + 1, a, h, hi => by obtain ⟨v, r, rfl, h1, hr⟩ := h.cons; simpa using VRL.get i a hr (by simpa using hi)

/-! ### Values without memory -/
mutual
def plain : AV → Option Value
  | .pl v => some v
  | .agg l => match plainL l with | some vs => some (.agg vs.toArray) | none => none
  | .tup l => match plainL l with | some vs => some (.tuple vs.toArray) | none => none
  | .fn f a c => match plainL a, plainL c with | some vs, some us => some (.func f vs.toArray us.toArray) | _, _ => none
  | .ifc t a => match plain a with | some v => some (.iface t v) | none => none
  | _ => none
def plainL : List AV → Option (List Value)
  | [] => some []
  | a :: r => match plain a, plainL r with | some v, some vs => some (v :: vs) | _, _ => none
end
mutual
theorem VR.plain {ρ : Names} : ∀ (a : AV) (v u : Value), Ev.plain a = some v → VR ρ a u → u = v
  | .pl _, v, u, h, hv => by rw [Ev.plain] at h; rw [VR] at hv; cases h; exact hv
  | .ptr _ _, _, _, h, _ => by simp [Ev.plain] at h
  | .sl _ _ _ _, _, _, h, _ => by simp [Ev.plain] at h
  | .agg l, v, u, h, hv => by
    rw [Ev.plain] at h; rw [VR] at hv
    obtain ⟨vs, rfl, hl⟩ := hv
    split at h
    · rename_i us hu; cases h; rw [VRL.plain l us vs hu hl]
    · cases h
  | .tup l, v, u, h, hv => by
    rw [Ev.plain] at h; rw [VR] at hv
    obtain ⟨vs, rfl, hl⟩ := hv
    split at h
    · rename_i us hu; cases h; rw [VRL.plain l us vs hu hl]
    · cases h
  | .fn f a c, v, u, h, hv => by
    rw [Ev.plain] at h; rw [VR] at hv
    obtain ⟨vs, us, rfl, h1, h2⟩ := hv
    split at h
    · rename_i xs ys hx hy; cases h; rw [VRL.plain a xs vs hx h1, VRL.plain c ys us hy h2]
    · cases h
  | .ifc t a, v, u, h, hv => by
    rw [Ev.plain] at h; rw [VR] at hv
    obtain ⟨x, rfl, h1⟩ := hv
    split at h
    · rename_i y hy; cases h; rw [VR.plain a y x hy h1]
    · cases h
  | .mp _, _, _, h, _ => by simp [Ev.plain] at h
  | .yl _, _, _, h, _ => by simp [Ev.plain] at h
  | .em, _, _, h, _ => by simp [Ev.plain] at h
  | .o1, _, _, h, _ => by simp [Ev.plain] at h
  | .ik _, _, _, h, _ => by simp [Ev.plain] at h
  | .ge _, _, _, h, _ => by simp [Ev.plain] at h
  | .bb, _, _, h, _ => by simp [Ev.plain] at h
  | .vv _, _, _, h, _ => by simp [Ev.plain] at h
  | .un, _, _, h, _ => by simp [Ev.plain] at h
theorem VRL.plain {ρ : Names} : ∀ (l : List AV) (vs us : List Value), plainL l = some vs → VRL ρ l us → us = vs
  | [], vs, us, h, hv => by rw [plainL] at h; cases h; exact hv.nil
  | a :: r, vs, us, h, hv => by
    rw [plainL] at h
    obtain ⟨v, w, rfl, h1, h2⟩ := hv.cons
    split at h
    · rename_i x xs hx hxs; cases h; rw [VR.plain a x v hx h1, VRL.plain r xs w hxs h2]
    · cases h
end
theorem VR.pl {ρ : Names} {v : Value} : VR ρ (.pl v) v := by rw [VR]

def plMap (vs : List Value) : List AV := vs.map .pl
theorem VRL.plMap {ρ : Names} : ∀ (vs : List Value), VRL ρ (Ev.plMap vs) vs
  | [] => VRL.mk0
  | v :: vs => VRL.mk VR.pl (VRL.plMap vs)

/-- one cell -/
def isOne : AV → Bool
  | .pl v => v.oneCell'
  | .ptr _ _ | .sl _ _ _ _ | .fn _ _ _ | .ifc _ _ | .mp _ | .yl _ | .em | .o1 | .ik _ | .ge _ | .bb | .vv _ => true
  | _ => false
theorem VR.one {ρ : Names} {a : AV} {v : Value} (h : VR ρ a v) (ho : isOne a = true) : v.oneCell' = true := by
  cases a with
  | pl u => rw [VR] at h; subst h; exact ho
  | ptr _ _ => rw [VR] at h; obtain ⟨_, _, rfl⟩ := h; rfl
  | sl _ _ _ _ => rw [VR] at h; obtain ⟨_, _, _, rfl, _⟩ := h; rfl
  | agg _ => cases ho
  | tup _ => cases ho
  | fn _ _ _ => rw [VR] at h; obtain ⟨_, _, rfl, _⟩ := h; rfl
  | ifc _ _ => rw [VR] at h; obtain ⟨_, rfl, _⟩ := h; rfl
  | mp _ => rw [VR] at h; obtain ⟨_, _, rfl⟩ := h; rfl
  | yl _ => rw [VR] at h; obtain ⟨_, _, rfl⟩ := h; rfl
  | em => rw [VR] at h; obtain ⟨_, _, rfl, _⟩ := h; rfl
  | o1 => rw [VR] at h; exact h
  | ik _ => rw [VR] at h; obtain ⟨_, rfl, _⟩ := h; rfl
  | ge _ => rw [VR] at h; obtain ⟨_, rfl, _⟩ := h; rfl
  | bb => rw [VR] at h; obtain ⟨_, rfl⟩ := h; rfl
  | vv _ => rw [VR] at h; obtain ⟨rfl, h⟩ := h; exact h
  | un => cases ho
theorem VRL.one {ρ : Names} : ∀ {l : List AV} {vs : List Value}, VRL ρ l vs → l.all isOne = true → ∀ u ∈ vs, u.oneCell' = true
  | [], _, h, _ => by rw [h.nil]; simp
  | _ :: l, _, h, ho => by
    obtain ⟨v, r, rfl, h1, hr⟩ := h.cons
    simp only [List.all_cons, Bool.and_eq_true] at ho
    intro u hu
    rcases List.mem_cons.1 hu with rfl | hu
    · exact h1.one ho.1
    · exact VRL.one hr ho.2 u hu

/-- the cells of a value; none: not known -/
def cellsA : AV → Option (List AV)
  | .pl (.agg cs) => some (plMap cs.toList)
  | .agg l => some l
  | .un => none
  | a => some [a]
theorem VR.cells {ρ : Names} {a : AV} {v : Value} {l : List AV} (h : VR ρ a v) (hl : cellsA a = some l) (ho : l.all isOne = true) : VRL ρ l v.cells.toList := by
  cases a with
  | pl u =>
    rw [VR] at h
    subst h
    cases v <;> simp only [cellsA, Option.some.injEq] at hl <;> subst hl <;> first | exact VRL.plMap _ | exact VRL.mk VR.pl VRL.mk0
  | agg m =>
    rw [VR] at h
    obtain ⟨vs, rfl, hv⟩ := h
    simp only [cellsA, Option.some.injEq] at hl
    subst hl
    simpa [Value.cells] using hv
  | ptr _ _ => simp only [cellsA, Option.some.injEq] at hl; subst hl; have h' := h; rw [VR] at h; obtain ⟨_, _, rfl⟩ := h; exact VRL.mk h' VRL.mk0
  | sl _ _ _ _ => simp only [cellsA, Option.some.injEq] at hl; subst hl; have h' := h; rw [VR] at h; obtain ⟨_, _, _, rfl, _⟩ := h; exact VRL.mk h' VRL.mk0
  | tup m => simp only [cellsA, Option.some.injEq] at hl; subst hl; simp [isOne] at ho
  | fn _ _ _ => simp only [cellsA, Option.some.injEq] at hl; subst hl; have h' := h; rw [VR] at h; obtain ⟨_, _, rfl, _⟩ := h; exact VRL.mk h' VRL.mk0
  | ifc _ _ => simp only [cellsA, Option.some.injEq] at hl; subst hl; have h' := h; rw [VR] at h; obtain ⟨_, rfl, _⟩ := h; exact VRL.mk h' VRL.mk0
  | mp _ => simp only [cellsA, Option.some.injEq] at hl; subst hl; have h' := h; rw [VR] at h; obtain ⟨_, _, rfl⟩ := h; exact VRL.mk h' VRL.mk0
  | yl _ => simp only [cellsA, Option.some.injEq] at hl; subst hl; have h' := h; rw [VR] at h; obtain ⟨_, _, rfl⟩ := h; exact VRL.mk h' VRL.mk0
  | em => simp only [cellsA, Option.some.injEq] at hl; subst hl; have h' := h; rw [VR] at h; obtain ⟨_, _, rfl, _⟩ := h; exact VRL.mk h' VRL.mk0
  | o1 => simp only [cellsA, Option.some.injEq] at hl; subst hl; have h' := h; rw [VR] at h; cases v <;> first | exact VRL.mk h' VRL.mk0 | cases h
  | ik _ => simp only [cellsA, Option.some.injEq] at hl; subst hl; have h' := h; rw [VR] at h; obtain ⟨_, rfl, _⟩ := h; exact VRL.mk h' VRL.mk0
  | ge _ => simp only [cellsA, Option.some.injEq] at hl; subst hl; have h' := h; rw [VR] at h; obtain ⟨_, rfl, _⟩ := h; exact VRL.mk h' VRL.mk0
  | bb => simp only [cellsA, Option.some.injEq] at hl; subst hl; have h' := h; rw [VR] at h; obtain ⟨_, rfl⟩ := h; exact VRL.mk h' VRL.mk0
  | vv _ => simp only [cellsA, Option.some.injEq] at hl; subst hl; have h' := h; rw [VR] at h; obtain ⟨rfl, h⟩ := h; cases v <;> first | exact VRL.mk h' VRL.mk0 | cases h
  | un => cases hl

/-! ### Memory -/
/-- kinds of blocks: cells; a map; a string's iterator; a loop over a function; what its rounds defer -/
inductive BK where
  | c
  | m (es : List (AV × AV × Nat)) (clock : Nat)
  | it (s : ByteArray) (pos : Nat)
  | mn
  | mi (id since : Nat) (seen : List Nat) (last : Nat)
  | lp (st : LoopState) (pend : Option Code) (n : Nat) (E : T AV) (ps : Array Tmp) (assign body : Code) (df : Nat)
  | df (op : Bool)
def ER (ρ : Names) : List (AV × AV × Nat) → List MapEntry → Prop
  | [], l => l = []
  | (k, v, b) :: r, l => ∃ e es, l = e :: es ∧ VR ρ k e.key ∧ VR ρ v e.val ∧ e.born = b ∧ ER ρ r es
theorem ER.ext {ρ ρ' : Names} (h : Ext ρ ρ') : ∀ {l : List (AV × AV × Nat)} {es : List MapEntry}, ER ρ l es → ER ρ' l es
  | [], _, he => he
  | (k, v, b) :: r, _, he => by
    obtain ⟨e, es, h1, h2, h3, h4, h5⟩ := he
    exact ⟨e, es, h1, VR.ext h _ _ h2, VR.ext h _ _ h3, h4, ER.ext h h5⟩
structure ABlk where
  cells : List AV
  ty : TypeId
  more : Bool      -- further cells follow: the block has room for so many elements of 'es' cells
  es : Nat
  frz : Nat        -- below it a cell may be one that a string shares
  k : BK

/-- what is noted: blocks that are written, calls that are taken as given -/
inductive Wr where
  | b (i : Nat)
  | c (f : FuncId) (l : List AV)
structure AH where
  t : T ABlk
  next : Nat
  wr : List Wr
def AH.get (H : AH) (i : Nat) : Option ABlk := H.t.get i

def unfrozen (fr : Nat × Nat) (j : Nat) : Prop := (decide (fr.1 ≤ j) && decide (j < fr.2)) = false
theorem unfrozen_of {fr : Nat × Nat} {m j : Nat} (h : fr.1 = fr.2 ∨ fr.2 ≤ m) (hj : m ≤ j) : unfrozen fr j := by
  unfold unfrozen
  rw [Bool.and_eq_false_iff]
  by_cases h1 : fr.1 ≤ j
  · right; simp; omega
  · left; simpa using h1

def BRc (ρ : Names) (k : ABlk) (cp : Nat) (o : Option Obj) : Prop := ∃ (vs rest : List Value) (fr : Nat × Nat), o = some (.cells (vs ++ rest).toArray k.ty fr) ∧ VRL ρ k.cells vs ∧ (k.more = false → rest = []) ∧ (k.more = true → (vs ++ rest).length = cp * k.es) ∧ (fr.1 = fr.2 ∨ fr.2 ≤ k.frz)
/-- a block that holds no cells -/
def BO (ρ : Names) : BK → Option Obj → Prop
  | .c, _ => False
  | .m es cl, o => ∃ en : List MapEntry, o = some (.map en.toArray cl) ∧ ER ρ es en
  | .it s p, o => o = some (.stringIter s p)
  | .mn, o => o = some (.mapIter none 0 #[] 0)
  | .mi id since seen last, o => ∃ b : Nat × Nat, ρ[id]? = some b ∧ o = some (.mapIter (some b.1) since seen.toArray last)
  | .lp st pd n E ps ag bd df, o => ∃ (fn : FuncId) (tmps : Array Value) (b : Nat × Nat), o = some (.loop ⟨st, pd, fn, tmps, ps, ag, bd, b.1⟩) ∧ ρ[df]? = some b ∧ tmps.size = n ∧ ∀ (k : Nat) (x : AV), E.get k = some x → ∃ v, tmps[k]? = some v ∧ VR ρ x v
  | .df op, o => o = some (.deferred (bif op then some [] else none))
def BR (ρ : Names) (k : ABlk) (cp : Nat) (o : Option Obj) : Prop := (k.k = .c ∧ BRc ρ k cp o) ∨ (k.cells = [] ∧ k.more = false ∧ BO ρ k.k o)
theorem BR.c {ρ : Names} {k : ABlk} {cp : Nat} {o : Option Obj} (h : BR ρ k cp o) (hk : k.k = .c) : BRc ρ k cp o := by
  rcases h with h | ⟨_, _, h⟩
  · exact h.2
  · rw [hk] at h; exact h.elim
theorem BR.o {ρ : Names} {k : ABlk} {cp : Nat} {o : Option Obj} (h : BR ρ k cp o) (hk : k.k ≠ .c) : k.cells = [] ∧ k.more = false ∧ BO ρ k.k o := by
  rcases h with h | h
  · exact absurd h.1 hk
  · exact h

structure HR (w0 : World) (ρ : Names) (H : AH) (w : World) : Prop where
  bel : Below w0.heap.size w0 w
  len : ρ.length = H.next
  rng : ∀ (i : Nat) (b : Nat × Nat), ρ[i]? = some b → w0.heap.size ≤ b.1 ∧ b.1 < w.heap.size
  inj : ∀ (i j : Nat) (b c : Nat × Nat) (x y : ABlk), H.get i = some x → H.get j = some y → ρ[i]? = some b → ρ[j]? = some c → b.1 = c.1 → i = j
  blk : ∀ (i : Nat) (k : ABlk), H.get i = some k → ∃ b, ρ[i]? = some b ∧ BR ρ k b.2 w.heap[b.1]?

structure Post (w0 : World) (ρ : Names) (H : AH) (w : World) (ρ' : Names) (H' : AH) (w' : World) : Prop where
  ext : Ext ρ ρ'
  hr : HR w0 ρ' H' w'
  wr : ∀ i ∈ H.wr, i ∈ H'.wr
  same : ∀ (i : Nat) (k : ABlk), H.get i = some k → Wr.b i ∉ H'.wr → H'.get i = some k
  kept : ∀ (i : Nat) (b : Nat × Nat) (k : ABlk), H.get i = some k → Wr.b i ∉ H'.wr → ρ[i]? = some b → w'.heap[b.1]? = w.heap[b.1]?
  size : w.heap.size ≤ w'.heap.size
  frame : ∀ b, b < w.heap.size → (∀ (i : Nat) (c : Nat × Nat) (k : ABlk), H.get i = some k → ρ[i]? = some c → c.1 ≠ b) → w'.heap[b]? = w.heap[b]?
  fresh : ∀ (i : Nat) (c : Nat × Nat) (k : ABlk), H'.get i = some k → ρ'[i]? = some c → w.heap.size ≤ c.1 ∨ ∃ (j : Nat) (e : Nat × Nat) (x : ABlk), H.get j = some x ∧ ρ[j]? = some e ∧ e.1 = c.1

theorem Post.refl {w0 : World} {ρ : Names} {H : AH} {w : World} (h : HR w0 ρ H w) : Post w0 ρ H w ρ H w := ⟨Ext.refl _, h, fun _ h => h, fun _ _ h _ => h, fun _ _ _ _ _ _ => rfl, Nat.le_refl _, fun _ _ _ => rfl, fun i c k hi hc => .inr ⟨i, c, k, hi, hc, rfl⟩⟩
theorem Post.trans {w0 : World} {ρ ρ1 ρ2 : Names} {H H1 H2 : AH} {w w1 w2 : World} (h : Post w0 ρ H w ρ1 H1 w1) (k : Post w0 ρ1 H1 w1 ρ2 H2 w2) : Post w0 ρ H w ρ2 H2 w2 :=
  ⟨h.ext.trans k.ext, k.hr, fun i hi => k.wr i (h.wr i hi), fun i x hx hn => k.same i x (h.same i x hx (fun hi => hn (k.wr _ hi))) hn,
   fun i b x hx hn hb => (k.kept i b x (h.same i x hx (fun hi => hn (k.wr _ hi))) hn (h.ext i b hb)).trans (h.kept i b x hx (fun hi => hn (k.wr _ hi)) hb), Nat.le_trans h.size k.size,
   fun b hb hu => (k.frame b (Nat.lt_of_lt_of_le hb h.size) (fun i c x hi hc he => by
     rcases h.fresh i c x hi hc with h1 | ⟨j, e, y, h1, h2, h3⟩
     · omega
     · exact hu j e y h1 h2 (h3.trans he))).trans (h.frame b hb hu),
   fun i c x hi hc => by
     rcases k.fresh i c x hi hc with h1 | ⟨j, e, y, h1, h2, h3⟩
     · exact .inl (Nat.le_trans h.size h1)
     · rcases h.fresh j e y h1 h2 with h4 | ⟨l, e', z, h4, h5, h6⟩
       · exact .inl (by rw [← h3]; exact h4)
       · exact .inr ⟨l, e', z, h4, h5, h6.trans h3⟩⟩

theorem BO.ext {ρ ρ' : Names} (h : Ext ρ ρ') : ∀ {k : BK} {o : Option Obj}, BO ρ k o → BO ρ' k o
  | .c, _, hb => hb
  | .m _ _, _, hb => by obtain ⟨en, h1, h2⟩ := hb; exact ⟨en, h1, h2.ext h⟩
  | .it _ _, _, hb => hb
  | .mn, _, hb => hb
  | .mi _ _ _ _, _, hb => by obtain ⟨b, h1, h2⟩ := hb; exact ⟨b, h _ _ h1, h2⟩
  | .lp _ _ _ _ _ _ _ _, _, hb => by
    obtain ⟨fn, tmps, b, h1, h2, h3, h4⟩ := hb
    exact ⟨fn, tmps, b, h1, h _ _ h2, h3, fun k x hk => by obtain ⟨v, h5, h6⟩ := h4 k x hk; exact ⟨v, h5, VR.ext h _ _ h6⟩⟩
  | .df _, _, hb => hb
theorem BR.ext {ρ ρ' : Names} (h : Ext ρ ρ') {k : ABlk} {cp : Nat} {o : Option Obj} (hb : BR ρ k cp o) : BR ρ' k cp o := by
  rcases hb with ⟨hk, vs, rest, fr, h1, h2, h3⟩ | ⟨h1, h2, h3⟩
  · exact .inl ⟨hk, vs, rest, fr, h1, VRL.ext h _ _ h2, h3⟩
  · exact .inr ⟨h1, h2, h3.ext h⟩

theorem HR.drew {w0 : World} {ρ : Names} {H : AH} {w : World} (h : HR w0 ρ H w) : HR w0 ρ H w.drew :=
  ⟨⟨h.bel.os, h.bel.tape, h.bel.output, h.bel.size, h.bel.block⟩, h.len, h.rng, h.inj, h.blk⟩
theorem Post.drew {w0 : World} {ρ : Names} {H : AH} {w : World} {ρ' : Names} {H' : AH} {w' : World} (h : Post w0 ρ H w ρ' H' w') : Post w0 ρ H w ρ' H' w'.drew :=
  ⟨h.ext, h.hr.drew, h.wr, h.same, h.kept, h.size, h.frame, h.fresh⟩

/-- a new block -/
def AH.new (H : AH) (k : ABlk) : AH := ⟨H.t.set H.next (some k), H.next + 1, H.wr⟩
theorem HR.fresh {w0 : World} {ρ : Names} {H : AH} {w : World} (h : HR w0 ρ H w) {i : Nat} {k : ABlk} (hi : H.get i = some k) : i < H.next := by
  obtain ⟨b, hb, _⟩ := h.blk i k hi
  rw [← h.len]; exact (List.getElem?_eq_some_iff.1 hb).1
theorem AH.get_new {H : AH} {k x : ABlk} {i : Nat} (hi : (H.new k).get i = some x) : (i = H.next ∧ x = k) ∨ (i ≠ H.next ∧ H.get i = some x) := by
  rcases T.get_set hi with ⟨h1, h2⟩ | h2
  · cases h2; exact .inl ⟨h1, rfl⟩
  · exact .inr h2
theorem snoc_case {ρ : Names} {b c : Nat × Nat} {i : Nat} (h : (ρ ++ [b])[i]? = some c) : (i < ρ.length ∧ ρ[i]? = some c) ∨ (i = ρ.length ∧ c = b) := by
  by_cases hl : i < ρ.length
  · rw [List.getElem?_append_left hl] at h; exact .inl ⟨hl, h⟩
  · rw [List.getElem?_append_right (by omega)] at h
    have h0 : i - ρ.length = 0 := by
      have := (List.getElem?_eq_some_iff.1 h).1
      simp at this; omega
    rw [h0] at h
    simp at h
    exact .inr ⟨by omega, h.symm⟩
theorem AH.new_same {w0 : World} {ρ : Names} {H : AH} {w : World} (h : HR w0 ρ H w) (k : ABlk) {i : Nat} {x : ABlk} (hi : H.get i = some x) : (H.new k).get i = some x := by
  have := h.fresh hi
  have hne : H.next ≠ i := by omega
  show (H.t.set H.next (some k)).get i = some x
  rw [T.get_set_ne _ _ hne]; exact hi
/-- a name more, for a block that no name of the table has -/
theorem HR.name {w0 : World} {ρ : Names} {H : AH} {w w' : World} (h : HR w0 ρ H w) (k : ABlk) (b cp : Nat) (hbel : Below w0.heap.size w0 w') (hsz : w.heap.size ≤ w'.heap.size) (hb : w0.heap.size ≤ b ∧ b < w'.heap.size)
    (hne : ∀ (i : Nat) (c : Nat × Nat) (x : ABlk), H.get i = some x → ρ[i]? = some c → c.1 ≠ b) (hkeep : ∀ (i : Nat) (c : Nat × Nat) (x : ABlk), H.get i = some x → ρ[i]? = some c → w'.heap[c.1]? = w.heap[c.1]?)
    (hB : BR ρ k cp w'.heap[b]?) : HR w0 (ρ ++ [(b, cp)]) (H.new k) w' ∧ (ρ ++ [(b, cp)])[H.next]? = some (b, cp) := by
  have hnew : (ρ ++ [(b, cp)])[H.next]? = some (b, cp) := by rw [← h.len]; simp
  have hext := Ext.snoc ρ (b, cp)
  refine ⟨⟨hbel, by simp [AH.new, h.len], fun i c hc => ?_, fun i j c d x y hi hj hc hd he => ?_, fun i x hi => ?_⟩, hnew⟩
  · rcases snoc_case hc with ⟨_, h1⟩ | ⟨_, rfl⟩
    · have := h.rng i c h1
      exact ⟨this.1, by omega⟩
    · exact hb
  · rcases AH.get_new hi with ⟨rfl, _⟩ | ⟨hi1, hi2⟩ <;> rcases AH.get_new hj with ⟨rfl, _⟩ | ⟨hj1, hj2⟩
    · rfl
    · rw [hnew] at hc; cases hc
      rcases snoc_case hd with ⟨_, h1⟩ | ⟨h1, _⟩
      · exact absurd he.symm (hne j d y hj2 h1)
      · exact absurd (h1.trans h.len) hj1
    · rw [hnew] at hd; cases hd
      rcases snoc_case hc with ⟨_, h1⟩ | ⟨h1, _⟩
      · exact absurd he (hne i c x hi2 h1)
      · exact absurd (h1.trans h.len) hi1
    · rcases snoc_case hc with ⟨_, h1⟩ | ⟨h1, _⟩
      · rcases snoc_case hd with ⟨_, h2⟩ | ⟨h2, _⟩
        · exact h.inj i j c d x y hi2 hj2 h1 h2 he
        · exact absurd (h2.trans h.len) hj1
      · exact absurd (h1.trans h.len) hi1
  · rcases AH.get_new hi with ⟨rfl, rfl⟩ | ⟨hi1, hi2⟩
    · exact ⟨(b, cp), hnew, hB.ext hext⟩
    · obtain ⟨c, hc, hBc⟩ := h.blk i x hi2
      exact ⟨c, hext i c hc, by rw [hkeep i c x hi2 hc]; exact hBc.ext hext⟩
theorem name_fresh {w0 : World} {ρ : Names} {H : AH} {w : World} (h : HR w0 ρ H w) {k : ABlk} {b cp i : Nat} {c : Nat × Nat} {x : ABlk} (hi : (H.new k).get i = some x) (hc : (ρ ++ [(b, cp)])[i]? = some c) : c.1 = b ∨ (H.get i = some x ∧ ρ[i]? = some c) := by
  rcases AH.get_new hi with ⟨rfl, _⟩ | ⟨hi1, hi2⟩
  · rw [show (ρ ++ [(b, cp)])[H.next]? = some (b, cp) by rw [← h.len]; simp] at hc
    cases hc; exact .inl rfl
  · rcases snoc_case hc with ⟨_, h1⟩ | ⟨h1, _⟩
    · exact .inr ⟨hi2, h1⟩
    · exact absurd (h1.trans h.len) hi1
theorem Post.allocG {w0 : World} {ρ : Names} {H : AH} {w : World} (h : HR w0 ρ H w) (k : ABlk) (cp : Nat) (o : Obj) (hB : BR ρ k cp (some o)) :
    Post w0 ρ H w (ρ ++ [(w.heap.size, cp)]) (H.new k) (w.alloc o) ∧ (ρ ++ [(w.heap.size, cp)])[H.next]? = some (w.heap.size, cp) := by
  have hN := HR.name h k w.heap.size cp (w' := w.alloc o) (h.bel.trans ((Below.refl _ _).alloc h.bel.size _)) (by rw [World.size_alloc]; omega) ⟨h.bel.size, by rw [World.size_alloc]; omega⟩
    (fun i c x _ hc => by have := (h.rng i c hc).2; omega) (fun i c x _ hc => Below.heap_alloc w _ c.1 (h.rng i c hc).2)
    (by rw [heap_alloc_new]; exact hB)
  refine ⟨⟨Ext.snoc _ _, hN.1, fun _ hi => hi, fun i x hi _ => AH.new_same h k hi, fun i c x _ _ hc => Below.heap_alloc w _ c.1 (h.rng i c hc).2, by rw [World.size_alloc]; omega, fun b hb _ => Below.heap_alloc w _ b hb, fun i c x hi hc => ?_⟩, hN.2⟩
  rcases name_fresh h hi hc with h1 | ⟨h1, h2⟩
  · exact .inl (by omega)
  · exact .inr ⟨i, c, x, h1, h2, rfl⟩
theorem Post.alloc {w0 : World} {ρ : Names} {H : AH} {w : World} (h : HR w0 ρ H w) (k : ABlk) (cp : Nat) (vs rest : List Value) (hk : k.k = .c) (hv : VRL ρ k.cells vs) (hm : k.more = false → rest = []) (hc : k.more = true → (vs ++ rest).length = cp * k.es) :
    Post w0 ρ H w (ρ ++ [(w.heap.size, cp)]) (H.new k) (w.alloc (.cells (vs ++ rest).toArray k.ty)) ∧ (ρ ++ [(w.heap.size, cp)])[H.next]? = some (w.heap.size, cp) :=
  Post.allocG h k cp _ (.inl ⟨hk, vs, rest, (0, 0), rfl, hv, hm, hc, .inl rfl⟩)

/-- a block's cells have turned -/
def AH.put (H : AH) (i : Nat) (k : ABlk) : AH := ⟨H.t.set i (some k), H.next, .b i :: H.wr⟩
theorem Post.put {w0 : World} {ρ : Names} {H : AH} {w w' : World} (h : HR w0 ρ H w) {i : Nat} {b : Nat × Nat} {k k' : ABlk} (hi : H.get i = some k) (hb : ρ[i]? = some b) (hbel : Below w0.heap.size w w') (hsz : w'.heap.size = w.heap.size)
    (hother : ∀ j, j ≠ b.1 → w'.heap[j]? = w.heap[j]?) (hB : BR ρ k' b.2 w'.heap[b.1]?) : Post w0 ρ H w ρ (H.put i k') w' := by
  have hold : ∀ (j : Nat) (x : ABlk), (H.put i k').get j = some x → (j = i ∧ x = k') ∨ (j ≠ i ∧ H.get j = some x) := fun j x hj => by
    rcases T.get_set hj with ⟨h1, h2⟩ | h2
    · cases h2; exact .inl ⟨h1, rfl⟩
    · exact .inr h2
  have hin : ∀ (j : Nat) (x : ABlk), (H.put i k').get j = some x → ∃ y, H.get j = some y := fun j x hj => by
    rcases hold j x hj with ⟨rfl, _⟩ | ⟨_, h2⟩
    · exact ⟨k, hi⟩
    · exact ⟨x, h2⟩
  refine ⟨Ext.refl _, ⟨h.bel.trans hbel, h.len, fun j c hc => by rw [hsz]; exact h.rng j c hc, fun j l c d x y hj hl hc hd he => ?_, fun j x hj => ?_⟩, fun j hj => List.mem_cons_of_mem _ hj, fun j x hj hn => ?_, fun j c x hj hn hc => ?_, by rw [hsz]; exact Nat.le_refl _, fun c _ hu => hother c (fun e => hu i b k hi hb e.symm), fun j c x hj hc => ?_⟩
  · obtain ⟨x', hx'⟩ := hin j x hj
    obtain ⟨y', hy'⟩ := hin l y hl
    exact h.inj j l c d x' y' hx' hy' hc hd he
  · rcases hold j x hj with ⟨rfl, rfl⟩ | ⟨hji, h2⟩
    · exact ⟨b, hb, hB⟩
    · obtain ⟨c, hc, hBc⟩ := h.blk j x h2
      refine ⟨c, hc, ?_⟩
      rw [hother c.1 (fun e => hji (h.inj j i c b x k h2 hi hc hb e))]
      exact hBc
  · have hne : i ≠ j := fun e => hn (by subst e; exact List.mem_cons_self ..)
    show (H.t.set i (some k')).get j = some x
    rw [T.get_set_ne _ _ hne]; exact hj
  · have hne : j ≠ i := fun e => hn (by subst e; exact List.mem_cons_self ..)
    exact hother c.1 (fun e => hne (h.inj j i c b x k hj hi hc hb e))
  · obtain ⟨x', hx'⟩ := hin j x hj
    exact .inr ⟨j, c, x', hx', hc, rfl⟩
/-- a block is forgotten -/
def AH.del (H : AH) (i : Nat) : AH := ⟨H.t.set i none, H.next, .b i :: H.wr⟩
theorem AH.get_del {H : AH} {i j : Nat} {x : ABlk} (h : (H.del i).get j = some x) : j ≠ i ∧ H.get j = some x := by
  rcases T.get_set h with ⟨_, h2⟩ | h2
  · cases h2
  · exact h2
theorem Post.del {w0 : World} {ρ : Names} {H : AH} {w : World} (h : HR w0 ρ H w) (i : Nat) : Post w0 ρ H w ρ (H.del i) w := by
  refine ⟨Ext.refl _, ⟨h.bel, h.len, h.rng, fun j l c d x y hj hl hc hd he => h.inj j l c d x y (AH.get_del hj).2 (AH.get_del hl).2 hc hd he, fun j x hj => h.blk j x (AH.get_del hj).2⟩, fun j hj => List.mem_cons_of_mem _ hj, fun j x hj hn => ?_, fun _ _ _ _ _ _ => rfl, Nat.le_refl _, fun _ _ _ => rfl, fun j c x hj hc => .inr ⟨j, c, x, (AH.get_del hj).2, hc, rfl⟩⟩
  have hne : i ≠ j := fun e => hn (by subst e; exact List.mem_cons_self ..)
  show (H.t.set i none).get j = some x
  rw [T.get_set_ne _ _ hne]; exact hj
end Go.Ev

namespace Go.Ev
open Go.RowKit Go.Sx
set_option linter.unusedVariables false
set_option linter.unusedSimpArgs false

/-! ### Tables of types and functions -/
inductive TK where
  | st (fs : List (Nat × Nat))
  | ar (n e : Nat)
  | sl (e : Nat)
  | str
  | ifc
  | ptr (e : Nat)
  | uptr
  | fn
  | int (k : IntKind)
  | mp (k e : Nat)
  | oth
structure TI where
  k : TK
  size : Nat
  bytes : Nat
  zero : List Value
  zv : Value
def kindT : TypeDesc → TK
  | .struct fs => .st (fs.toList.map fun f => (f.offset, f.type))
  | .array n e => .ar n e
  | .slice e => .sl e
  | .string => .str
  | .interface _ => .ifc
  | .pointer e => .ptr e
  | .unsafePointer => .uptr
  | .int k => .int k
  | .func _ _ _ => .fn
  | .map k e => .mp k e
  | _ => .oth
def tiOf (P : Program) (t : TypeId) : Option TI :=
  match P.underlying t, P.info? t with
  | some d, some i => match i.zero with
    | some z => some ⟨kindT d, i.size, i.bytes, z.cells.toList, z⟩
    | none => none
  | _, _ => none

def T.listF {α : Type} : Nat → T α → List (Nat × α)
  | 0, _ => []
  | f + 1, t => match t with
    | .l => []
    | .n x a b => (match x with | some v => [(0, v)] | none => []) ++ ((T.listF f a).map (fun p => (2 * (p.1 + 1), p.2)) ++ (T.listF f b).map (fun p => (2 * p.1 + 1, p.2)))
def T.list {α : Type} (t : T α) : List (Nat × α) := T.listF 40 t
theorem T.mem_listF {α : Type} : ∀ (f : Nat) (t : T α) (k : Nat) (x : α), T.getF f t k = some x → (k, x) ∈ T.listF f t
  | 0, _, _, _, h => by cases h
  | f + 1, t, k, x, h => by
    cases t with
    | l => simp [T.getF] at h
    | n y a b =>
      simp only [T.getF] at h
      have e0 : ∀ n : Nat, Nat.beq n 0 = decide (n = 0) := fun n => by cases n <;> simp [Nat.beq]
      simp only [e0] at h
      by_cases hk : k = 0
      · simp [hk] at h; subst h; subst hk; simp [T.listF]
      · by_cases hk2 : k % 2 = 0
        · simp [hk, hk2] at h
          have := T.mem_listF f a _ x h
          simp only [T.listF, List.mem_append, List.mem_map]
          exact .inr (.inl ⟨_, this, by simp; omega⟩)
        · simp [hk, hk2] at h
          have := T.mem_listF f b _ x h
          simp only [T.listF, List.mem_append, List.mem_map]
          exact .inr (.inr ⟨_, this, by simp; omega⟩)
theorem T.mem_list {α : Type} {t : T α} {k : Nat} {x : α} (h : t.get k = some x) : (k, x) ∈ t.list := T.mem_listF 40 t k x h

/-- a call whose end is known: its arguments, the blocks that it looks at, what it hands back, the blocks that it writes or makes -/
structure Memo where
  f : FuncId
  args : List AV
  next : Nat
  pre : List (Nat × ABlk)
  res : AV
  next' : Nat
  post : List (Nat × ABlk)
  wr : List Nat
structure Tab where
  ty : T TI
  fn : T Unit
  idf : T Unit      -- functions that hand back their one argument
  orc : T Unit      -- functions whose calls on values that are not looked at are taken as given
  gl : T (List Value)      -- the cells of variables that stand still
  mnz : T TypeId      -- functions that make a row of so many bytes
  ovl : T Unit      -- functions that tell whether two rows overlap
  spl : T Unit      -- functions that ask for a capacity
  ext : T (List Value → Option Value)      -- functions of the machine on plain values
  memo : List Memo
structure TOk (P : Program) (tb : Tab) (w0 : World) : Prop where
  ty : tb.ty.list.map (fun x => tiOf P x.1) = tb.ty.list.map (fun x => some x.2)
  fn : tb.fn.list.map (fun x => match P.funcs[x.1]? with | some f => !(f.name == "runtime.NumGoroutine" || f.body.isNone) | none => false) = tb.fn.list.map (fun _ => true)
  mix : P.follows .mixedOrders = true
  idf : ∀ (g : Nat) (u : Unit), tb.idf.get g = some u → ∀ (v : Value) (w : World), (callFunc g #[v]).run P w = .ok (.value v) w
  gl : ∀ (g : Nat) (vs : List Value), tb.gl.get g = some vs → ∀ (k : Nat) (v : Value), vs[k]? = some v → w0.cell? ⟨g, k, none⟩ = some v
  mnz : ∀ (g : Nat) (e : TypeId), tb.mnz.get g = some e → ∀ (m : Nat) (w : World), m ≤ 281474976710656 → ∃ cs : Array Value, (callFunc g #[.int .i64 m]).run P w = .ok (.value (.slice (some ⟨w.heap.size, 0, none⟩) m cs.size)) (w.drew.drew.alloc (.cells cs e)) ∧ m ≤ cs.size ∧ cs.size ≤ maxLen
  ovl : ∀ (g : Nat) (u : Unit), tb.ovl.get g = some u → ∀ (w : World) (a b o p m c q d : Nat) (x y : Array Value) (tA tB : TypeId) (f1 f2 : Nat × Nat), w.heap[a]? = some (.cells x tA f1) → w.heap[b]? = some (.cells y tB f2) → a ≠ b → y.size ≠ 0 → (∀ j, w.frozen? ⟨a, j, none⟩ = false) → (callFunc g #[.slice (some ⟨a, o, none⟩) m c, .slice (some ⟨b, p, none⟩) q d]).run P w = .ok (.value (.bool false)) w
  ext : ∀ (g : Nat) (F : List Value → Option Value), tb.ext.get g = some F → ∀ (vs : List Value) (v : Value), F vs = some v → ∀ w : World, (callFunc g vs.toArray).run P w = .ok (.value v) w

theorem map_at {α β : Type} {l : List α} {f g : α → β} (h : l.map f = l.map g) {x : α} (hx : x ∈ l) : f x = g x := by
  induction l with
  | nil => cases hx
  | cons a r ih =>
    simp only [List.map_cons, List.cons.injEq] at h
    rcases List.mem_cons.1 hx with rfl | hx
    · exact h.1
    · exact ih h.2 hx

section
variable {P : Program} {tb : Tab} {w0 : World} {n : Nat} {ds : List Deferred}

theorem TOk.at_ (ok : TOk P tb w0) {t : TypeId} {i : TI} (h : tb.ty.get t = some i) : ∃ d inf z, P.underlying t = some d ∧ P.info? t = some inf ∧ inf.zero = some z ∧ i.k = kindT d ∧ i.size = inf.size ∧ i.bytes = inf.bytes ∧ i.zero = z.cells.toList := by
  have := map_at ok.ty (T.mem_list h)
  simp only at this
  unfold tiOf at this
  split at this
  · rename_i d inf hd hi
    split at this
    · rename_i z hz
      simp only [Option.some.injEq] at this
      exact ⟨d, inf, z, hd, hi, hz, by rw [← this], by rw [← this], by rw [← this], by rw [← this]⟩
    · cases this
  · cases this
theorem TOk.zv (ok : TOk P tb w0) {t : TypeId} {i : TI} (h : tb.ty.get t = some i) : ∃ inf, P.info? t = some inf ∧ inf.zero = some i.zv := by
  have := map_at ok.ty (T.mem_list h)
  simp only at this
  unfold tiOf at this
  split at this
  · rename_i d inf hd hi
    split at this
    · rename_i z hz
      simp only [Option.some.injEq] at this
      exact ⟨inf, hi, by rw [hz, ← this]⟩
    · cases this
  · cases this
theorem TOk.func (ok : TOk P tb w0) {f : FuncId} {u : Unit} (h : tb.fn.get f = some u) : ∃ fn, P.funcs[f]? = some fn ∧ (fn.name == "runtime.NumGoroutine") = false ∧ fn.body.isNone = false := by
  have := map_at ok.fn (T.mem_list h)
  simp only at this
  split at this
  · rename_i fn hfn
    simp only [Bool.not_eq_true', Bool.or_eq_false_iff] at this
    exact ⟨fn, hfn, this⟩
  · cases this

def kindA (tb : Tab) (t : TypeId) : Option (Option Nat) :=
  match tb.ty.get t with
  | some i => (match i.k with
    | .st _ | .ar _ _ => some (some i.size)
    | _ => bif Nat.beq i.size 1 then some none else none)
  | none => none
theorem kindA_ok (ok : TOk P tb w0) {t : TypeId} {x : Option Nat} (h : kindA tb t = some x) : kindOf P t = some x := by
  unfold kindA at h
  split at h
  · rename_i i hi
    obtain ⟨d, inf, z, hd, hinf, hz, hk, hs, _⟩ := ok.at_ hi
    unfold kindOf
    rw [hd, hinf]
    rw [hk, hs] at h
    have hb : ∀ y : Option (Option Nat), (bif Nat.beq inf.size 1 then some none else none) = some x → y = (if inf.size = 1 then some none else none) → y = some x := fun y h1 h2 => by
      cases hb : Nat.beq inf.size 1 with
      | true => rw [hb] at h1; rw [h2, if_pos (Nat.eq_of_beq_eq_true hb)]; exact h1
      | false => rw [hb] at h1; cases h1
    cases d <;> simp only [kindT] at h <;> first | exact h | exact hb _ h rfl
  · cases h

/-! ### Frames -/
structure FR (n : Nat) (ds : List Deferred) (ρ : Names) (E : T AV) (a : Act) : Prop where
  defers : a.defers = ds
  size : a.tmps.size = n
  at_ : ∀ (k : Nat) (x : AV), E.get k = some x → ∃ v, a.tmps[k]? = some v ∧ VR ρ x v
theorem FR.ext {ρ ρ' : Names} {E : T AV} {a : Act} (h : FR n ds ρ E a) (he : Ext ρ ρ') : FR n ds ρ' E a := ⟨h.defers, h.size, fun k x hk => by
  obtain ⟨v, h1, h2⟩ := h.at_ k x hk
  exact ⟨v, h1, h2.ext he⟩⟩
theorem FR.put {ρ : Names} {E : T AV} {a : Act} (h : FR n ds ρ E a) (d : Nat) {x : AV} {v : Value} (hd : d < n) (hv : VR ρ x v) : FR n ds ρ (E.set d (some x)) (a.put (some d) v) := by
  refine ⟨by simp [Act.put, h.defers], by simp [Act.put, h.size], fun k y hk => ?_⟩
  rcases T.get_set hk with ⟨rfl, h2⟩ | ⟨h1, h2⟩
  · cases h2
    exact ⟨v, by simp [Act.put, h.size, hd], hv⟩
  · obtain ⟨u, h3, h4⟩ := h.at_ k y h2
    exact ⟨u, by simp only [Act.put]; rw [Array.getElem?_setIfInBounds_ne (Ne.symm h1)]; exact h3, h4⟩

def opnd (E : T AV) : Operand → Option AV
  | .tmp t => E.get t
  | .const v => some (.pl v)
  | .global g => some (.pl (.pointer (some ⟨g, 0, none⟩)))
  | .func f => some (.pl (.func (.func f) #[] #[]))
theorem FR.opnd {ρ : Names} {E : T AV} {a : Act} (h : FR n ds ρ E a) {x : Operand} {y : AV} (hx : Ev.opnd E x = some y) : VR ρ y (a.eval x) := by
  cases x with
  | tmp t =>
    obtain ⟨v, h1, h2⟩ := h.at_ t y hx
    simpa [Act.eval, h1] using h2
  | const v => cases hx; exact VR.pl
  | global g => cases hx; exact VR.pl
  | func f => cases hx; exact VR.pl
/-- an operand without memory -/
def pv (E : T AV) (x : Operand) : Option Value := match opnd E x with | some y => plain y | none => none
theorem FR.pv {ρ : Names} {E : T AV} {a : Act} (h : FR n ds ρ E a) {x : Operand} {v : Value} (hx : Ev.pv E x = some v) : a.eval x = v := by
  unfold Ev.pv at hx
  split at hx
  · rename_i y hy; exact VR.plain y v _ hx (h.opnd hy)
  · cases hx
def pvs (E : T AV) : List Operand → Option (List Value)
  | [] => some []
  | x :: r => match pv E x, pvs E r with | some v, some vs => some (v :: vs) | _, _ => none
def opnds (E : T AV) : List Operand → Option (List AV)
  | [] => some []
  | x :: r => match opnd E x, opnds E r with | some v, some vs => some (v :: vs) | _, _ => none
theorem FR.opnds {ρ : Names} {E : T AV} {a : Act} (h : FR n ds ρ E a) : ∀ {l : List Operand} {ys : List AV}, Ev.opnds E l = some ys → VRL ρ ys (l.map a.eval)
  | [], _, hx => by cases hx; exact VRL.mk0
  | x :: r, _, hx => by
    simp only [Ev.opnds] at hx
    split at hx
    · rename_i v vs h1 h2; cases hx; exact VRL.mk (h.opnd h1) (h.opnds h2)
    · cases hx

/-! ### Plain operations -/
def plainOp (P : Program) (E : T AV) (o : Oper) : Option AV :=
  match noSel o.op && o.op.operands.toList.all (fun x => (pv E x).isSome) with
  | true => (match pureVal P (execOp (fun x => (pv E x).getD undef) o) with
    | some (.value v) => some (.pl v)
    | _ => none)
  | false => none
theorem plainOp_ok {ρ : Names} {E : T AV} {a : Act} (h : FR n ds ρ E a) {o : Oper} {x : AV} (hx : plainOp P E o = some x) : ∃ v, x = .pl v ∧ ∀ w, (execOp a.eval o).run P w = .ok (.value v) w := by
  unfold plainOp at hx
  split at hx
  · rename_i hc
    simp only [Bool.and_eq_true] at hc
    split at hx
    · rename_i v hv
      cases hx
      refine ⟨v, rfl, fun w => ?_⟩
      rw [execOp_congr (ρ := a.eval) (ρ' := fun x => (pv E x).getD undef) o (fun cs b hb => by rw [hb] at hc; simp [noSel] at hc) (fun y hy => ?_)]
      · exact pureVal_run _ _ hv w
      · obtain ⟨u, hu⟩ := Option.isSome_iff_exists.1 (List.all_eq_true.1 hc.2 y (by simpa using hy))
        rw [h.pv hu, hu]; rfl
    · cases hx
  · cases hx

/-! ### Parts of rows -/
def readA (c : List AV) (off : Nat) : Option Nat → Option AV
  | none => c[off]?
  | some s => let l := (c.drop off).take s; bif Nat.beq l.length s then some (.agg l) else none

theorem HR.at_ {ρ : Names} {H : AH} {w : World} (h : HR w0 ρ H w) {i : Nat} {b : Nat × Nat} {k : ABlk} (hi : H.get i = some k) (hb : ρ[i]? = some b) : BR ρ k b.2 w.heap[b.1]? := by
  obtain ⟨b', hb', hB⟩ := h.blk i k hi
  rw [hb] at hb'; cases hb'; exact hB
theorem BR.cell {ρ : Names} {k : ABlk} {w : World} {b cp : Nat} (h : BR ρ k cp w.heap[b]?) : ∃ vs : List Value, VRL ρ k.cells vs ∧ ∀ j u, vs[j]? = some u → w.cell? ⟨b, j, none⟩ = some u := by
  rcases h with ⟨_, vs, rest, fr, h1, h2, _⟩ | ⟨h1, _⟩
  · refine ⟨vs, h2, fun j u hu => ?_⟩
    rw [cell_of_row w b j _ _ fr h1]
    simp only [List.getElem?_toArray]
    rw [List.getElem?_append_left (List.getElem?_eq_some_iff.1 hu).1]
    exact hu
  · exact ⟨[], by rw [h1]; exact VRL.mk0, fun j u hu => by simp at hu⟩
theorem rangeAt_of {w : World} {b : Nat} {vs : List Value} (h : ∀ j u, vs[j]? = some u → w.cell? ⟨b, j, none⟩ = some u) (off s : Nat) : w.rangeAt b off ((vs.drop off).take s) := fun j u hu => by
  rw [List.getElem?_take] at hu
  split at hu
  · rw [List.getElem?_drop] at hu; exact h _ _ hu
  · cases hu

theorem load_ok {ρ : Names} {k : ABlk} {w : World} {b cp off : Nat} {t : TypeId} {kd : Option Nat} {x : AV} (h : BR ρ k cp w.heap[b]?) (hk : kindOf P t = some kd) (hx : readA k.cells off kd = some x) :
    ∃ v, (∀ w' : World, w'.heap[b]? = w.heap[b]? → (loadVar t ⟨b, off, none⟩).run P w' = .ok v w') ∧ VR ρ x v := by
  obtain ⟨vs, hv, hc⟩ := h.cell
  cases kd with
  | none =>
    obtain ⟨v, h1, h2⟩ := hv.get off x hx
    exact ⟨v, fun w' he => run_load_one w' t _ v hk (by rw [World.cell?_of_block (w := w) (w' := w') (a := ⟨b, off, none⟩) he]; exact hc off v h1), h2⟩
  | some s =>
    simp only [readA] at hx
    cases hb : Nat.beq ((k.cells.drop off).take s).length s with
    | false => rw [hb] at hx; cases hx
    | true =>
      rw [hb] at hx
      cases hx
      have hl := Nat.eq_of_beq_eq_true hb
      have hvv := (hv.drop off).take s
      have hlen : ((vs.drop off).take s).length = s := by rw [hvv.length]; exact hl
      refine ⟨.agg ((vs.drop off).take s).toArray, fun w' he => ?_, by rw [VR]; exact ⟨_, rfl, hvv⟩⟩
      refine run_load_many w' t b off _ (by rw [hlen]; exact hk) (fun j u hu => ?_)
      rw [World.cell?_of_block (w := w) (w' := w') (a := ⟨b, off + j, none⟩) he]
      exact rangeAt_of hc off s j u hu

theorem part_ok {ρ : Names} {l : List AV} {vs : List Value} {off : Nat} {t : TypeId} {kd : Option Nat} {x : AV} (hv : VRL ρ l vs) (hk : kindOf P t = some kd) (hx : readA l off kd = some x) :
    ∃ v, (∀ w : World, (part t vs.toArray off).run P w = .ok v w) ∧ VR ρ x v := by
  unfold kindOf at hk
  cases kd with
  | none =>
    obtain ⟨v, h1, h2⟩ := hv.get off x hx
    refine ⟨v, fun w => ?_, h2⟩
    split at hk
    · simp at hk
    · simp at hk
    · rename_i d i hns hna hu hi
      have hagg : (isAgg t).run P w = .ok false w := by
        unfold isAgg
        rw [Sem.run_bind, run_underlying hu w]
        cases d <;> simp_all
      simp [part, hagg, h1]
    · cases hk
  | some s =>
    simp only [readA] at hx
    cases hb : Nat.beq ((l.drop off).take s).length s with
    | false => rw [hb] at hx; cases hx
    | true =>
      rw [hb] at hx
      cases hx
      have hvv := (hv.drop off).take s
      refine ⟨.agg ((vs.drop off).take s).toArray, fun w => ?_, by rw [VR]; exact ⟨_, rfl, hvv⟩⟩
      have he : vs.toArray.extract off (off + s) = ((vs.drop off).take s).toArray := by
        apply Array.toList_inj.1
        simp [List.extract_eq_take_drop]
      split at hk
      · rename_i fs i hu hi
        simp only [Option.some.injEq] at hk
        have hagg : (isAgg t).run P w = .ok true w := by unfold isAgg; rw [Sem.run_bind, run_underlying hu w]; simp
        simp [part, hagg, sizeOf, typeInfo, hi, hk, he]
      · rename_i m e i hu hi
        simp only [Option.some.injEq] at hk
        have hagg : (isAgg t).run P w = .ok true w := by unfold isAgg; rw [Sem.run_bind, run_underlying hu w]; simp
        simp [part, hagg, sizeOf, typeInfo, hi, hk, he]
      · split at hk <;> simp at hk
      · cases hk
end
end Go.Ev

namespace Go.Ev
open Go.RowKit Go.Sx
set_option linter.unusedVariables false
set_option linter.unusedSimpArgs false

section
variable {P : Program} {tb : Tab} {w0 : World} {n : Nat} {ds : List Deferred}

def fldA (tb : Tab) (s : TypeId) (f : Nat) : Option (Nat × Nat) :=
  match tb.ty.get s with
  | some i => (match i.k with | .st fs => fs[f]? | _ => none)
  | none => none
theorem fldA_ok (ok : TOk P tb w0) {s : TypeId} {f : Nat} {x : Nat × Nat} (h : fldA tb s f = some x) : ∃ fs fl, P.underlying s = some (.struct fs) ∧ fs[f]? = some fl ∧ fl.offset = x.1 ∧ fl.type = x.2 := by
  unfold fldA at h
  split at h
  · rename_i i hi
    obtain ⟨d, inf, z, hd, _, _, hk, _⟩ := ok.at_ hi
    rw [hk] at h
    cases d <;> simp only [kindT] at h <;> try (cases h; done)
    rename_i fs
    rw [List.getElem?_map] at h
    cases hf : fs.toList[f]? with
    | none => rw [hf] at h; cases h
    | some fl => rw [hf] at h; cases h; exact ⟨fs, fl, hd, by simpa using hf, rfl, rfl⟩
  · cases h
def sizeA (tb : Tab) (t : TypeId) : Option Nat := match tb.ty.get t with | some i => some i.size | none => none
theorem sizeA_ok (ok : TOk P tb w0) {t : TypeId} {s : Nat} (h : sizeA tb t = some s) : ∃ inf, P.info? t = some inf ∧ inf.size = s := by
  unfold sizeA at h
  split at h
  · rename_i i hi
    obtain ⟨d, inf, z, hd, hinf, _, hk, hs, _⟩ := ok.at_ hi
    cases h
    exact ⟨inf, hinf, hs.symm⟩
  · cases h
/-- the element's type and size of a slice type -/
def slA (tb : Tab) (t : TypeId) : Option (Nat × Nat) :=
  match tb.ty.get t with
  | some i => (match i.k with | .sl e => (match sizeA tb e with | some s => some (e, s) | none => none) | _ => none)
  | none => none
theorem slA_ok (ok : TOk P tb w0) {t e s : Nat} (h : slA tb t = some (e, s)) : P.underlying t = some (.slice e) ∧ ∃ inf, P.info? e = some inf ∧ inf.size = s := by
  unfold slA at h
  split at h
  · rename_i i hi
    obtain ⟨d, inf, z, hd, _, _, hk, _⟩ := ok.at_ hi
    rw [hk] at h
    cases d <;> simp only [kindT] at h <;> try (cases h; done)
    rename_i e'
    cases hs : sizeA tb e' with
    | none => rw [hs] at h; cases h
    | some s' => rw [hs] at h; cases h; exact ⟨hd, sizeA_ok ok hs⟩
  · cases h
def arA (tb : Tab) (t : TypeId) : Option (Nat × Nat × Nat) :=
  match tb.ty.get t with
  | some i => (match i.k with | .ar m e => (match sizeA tb e with | some s => some (m, e, s) | none => none) | _ => none)
  | none => none
theorem arA_ok (ok : TOk P tb w0) {t m e s : Nat} (h : arA tb t = some (m, e, s)) : P.underlying t = some (.array m e) ∧ ∃ inf, P.info? e = some inf ∧ inf.size = s := by
  unfold arA at h
  split at h
  · rename_i i hi
    obtain ⟨d, inf, z, hd, _, _, hk, _⟩ := ok.at_ hi
    rw [hk] at h
    cases d <;> simp only [kindT] at h <;> try (cases h; done)
    rename_i m' e'
    cases hs : sizeA tb e' with
    | none => rw [hs] at h; cases h
    | some s' => rw [hs] at h; cases h; exact ⟨hd, sizeA_ok ok hs⟩
  · cases h

/-- a number that is not negative -/
def natV : Value → Option Nat
  | .int _ (.ofNat m) => some m
  | _ => none
theorem natV_ok {v : Value} {m : Nat} (h : natV v = some m) : ∃ k, v = .int k (m : Int) := by
  cases v with
  | int k i => cases i with
    | ofNat x => cases h; exact ⟨k, rfl⟩
    | negSucc x => cases h
  | _ => cases h

/-! ### Addresses -/
def indexAddrA (tb : Tab) (t : TypeId) (x : AV) (i : Nat) : Option AV :=
  match x with
  | .sl id off len _ => (match slA tb t with
    | some (_, s) => bif Nat.blt i len then some (.ptr id (off + i * s)) else none
    | none => none)
  | .ptr id off => (match arA tb t with
    | some (m, _, s) => bif Nat.blt i m then some (.ptr id (off + i * s)) else none
    | none => none)
  | .pl (.pointer (some ⟨g, off, none⟩)) => (match arA tb t with
    | some (m, _, s) => bif Nat.blt i m then some (.pl (.pointer (some ⟨g, off + i * s, none⟩))) else none
    | none => none)
  | _ => none
theorem indexAddrA_ok (ok : TOk P tb w0) {ρ : Names} {t : TypeId} {x y : AV} {i : Nat} {v u : Value} (h : indexAddrA tb t x i = some y) (hv : VR ρ x v) (hu : natV u = some i) :
    ∃ r, VR ρ y r ∧ ∀ w, (Instr.indexAt t v u).run P w = .ok r w := by
  obtain ⟨k, rfl⟩ := natV_ok hu
  unfold indexAddrA at h
  split at h
  · rename_i id off len cap
    rw [VR] at hv
    obtain ⟨b, c, hb, rfl, _⟩ := hv
    split at h
    · rename_i e s hs
      obtain ⟨hT, inf, hi, hsz⟩ := slA_ok ok hs
      cases hlt : Nat.blt i len with
      | false => rw [hlt] at h; cases h
      | true =>
        rw [hlt] at h
        cases h
        have hlt' : i < len := by simpa [Nat.blt_eq] using hlt
        refine ⟨.pointer (some ⟨b.1, off + i * s, none⟩), by rw [VR]; exact ⟨b, hb, rfl⟩, fun w => ?_⟩
        simp [Instr.indexAt, asIntOf, run_underlying hT, hlt', sizeOf, typeInfo, hi, hsz, Addr.add_mid]
    · cases h
  · rename_i id off
    rw [VR] at hv
    obtain ⟨b, hb, rfl⟩ := hv
    split at h
    · rename_i m e s hs
      obtain ⟨hT, inf, hi, hsz⟩ := arA_ok ok hs
      cases hlt : Nat.blt i m with
      | false => rw [hlt] at h; cases h
      | true =>
        rw [hlt] at h
        cases h
        have hlt' : i < m := by simpa [Nat.blt_eq] using hlt
        refine ⟨.pointer (some ⟨b.1, off + i * s, none⟩), by rw [VR]; exact ⟨b, hb, rfl⟩, fun w => ?_⟩
        simp [Instr.indexAt, Instr.sureAddr, asIntOf, run_underlying hT, hlt', sizeOf, typeInfo, hi, hsz, Addr.add_mid]
    · cases h
  · rename_i g off
    rw [VR] at hv
    subst hv
    split at h
    · rename_i m e s hs
      obtain ⟨hT, inf, hi, hsz⟩ := arA_ok ok hs
      cases hlt : Nat.blt i m with
      | false => rw [hlt] at h; cases h
      | true =>
        rw [hlt] at h
        cases h
        have hlt' : i < m := by simpa [Nat.blt_eq] using hlt
        refine ⟨.pointer (some ⟨g, off + i * s, none⟩), VR.pl, fun w => ?_⟩
        simp [Instr.indexAt, Instr.sureAddr, asIntOf, run_underlying hT, hlt', sizeOf, typeInfo, hi, hsz, Addr.add_mid]
    · cases h
  · cases h

def fieldAddrA (tb : Tab) (s : TypeId) (x : AV) (f : Nat) : Option AV :=
  match x, fldA tb s f with
  | .ptr id off, some (o, ft) => (match sizeA tb ft with | some (_ + 1) => some (.ptr id (off + o)) | _ => none)
  | _, _ => none
theorem fieldAddrA_ok (ok : TOk P tb w0) {ρ : Names} {s : TypeId} {x y : AV} {f : Nat} {v : Value} (h : fieldAddrA tb s x f = some y) (hv : VR ρ x v) :
    ∃ r, VR ρ y r ∧ ∀ w, (Instr.fieldAt s v f).run P w = .ok r w := by
  unfold fieldAddrA at h
  split at h
  · rename_i id off o ft hf
    obtain ⟨fs, fl, hu, hfl, h1, h2⟩ := fldA_ok ok hf
    simp only at h1 h2
    rw [VR] at hv
    obtain ⟨b, hb, rfl⟩ := hv
    split at h
    · rename_i sz hsz
      obtain ⟨inf, hi, hs⟩ := sizeA_ok ok hsz
      cases h
      refine ⟨.pointer (some ⟨b.1, off + o, none⟩), by rw [VR]; exact ⟨b, hb, rfl⟩, fun w => ?_⟩
      simp [Instr.fieldAt, Instr.sureAddr, run_underlying hu, hfl, fieldPlace, sizeOf, typeInfo, h2, hi, hs, h1, Addr.add_mid]
    · cases h
  · cases h

/-! ### Parts of values -/
def fieldA (tb : Tab) (s : TypeId) (x : AV) (f : Nat) : Option AV :=
  match x, fldA tb s f with
  | .agg l, some (o, ft) => (match kindA tb ft with | some kd => readA l o kd | none => none)
  | _, _ => none
theorem fieldA_ok (ok : TOk P tb w0) {ρ : Names} {s : TypeId} {x y : AV} {f : Nat} {v : Value} (h : fieldA tb s x f = some y) (hv : VR ρ x v) :
    ∃ r, VR ρ y r ∧ ∀ w, (Instr.field s v f).run P w = .ok r w := by
  unfold fieldA at h
  split at h
  · rename_i l o ft hf
    obtain ⟨fs, fl, hu, hfl, h1, h2⟩ := fldA_ok ok hf
    simp only at h1 h2
    rw [VR] at hv
    obtain ⟨vs, rfl, hl⟩ := hv
    split at h
    · rename_i kd hk
      obtain ⟨r, hr, hvr⟩ := part_ok hl (kindA_ok ok hk) h
      exact ⟨r, hvr, fun w => by simp [Instr.field, run_underlying hu, hfl, asAgg, h1, h2, hr]⟩
    · cases h
  · cases h
def indexA (tb : Tab) (t : TypeId) (x : AV) (i : Nat) : Option AV :=
  match x, arA tb t with
  | .agg l, some (m, e, s) => (match kindA tb e with | some kd => bif Nat.blt i m then readA l (i * s) kd else none | none => none)
  | _, _ => none
theorem indexA_ok (ok : TOk P tb w0) {ρ : Names} {t : TypeId} {x y : AV} {i : Nat} {v u : Value} (h : indexA tb t x i = some y) (hv : VR ρ x v) (hu : natV u = some i) :
    ∃ r, VR ρ y r ∧ ∀ w, (Instr.index t v u).run P w = .ok r w := by
  obtain ⟨k, rfl⟩ := natV_ok hu
  unfold indexA at h
  split at h
  · rename_i l m e s hs
    obtain ⟨hT, inf, hi, hsz⟩ := arA_ok ok hs
    rw [VR] at hv
    obtain ⟨vs, rfl, hl⟩ := hv
    split at h
    · rename_i kd hk
      cases hlt : Nat.blt i m with
      | false => rw [hlt] at h; cases h
      | true =>
        rw [hlt] at h
        have hlt' : i < m := by simpa [Nat.blt_eq] using hlt
        obtain ⟨r, hr, hvr⟩ := part_ok hl (kindA_ok ok hk) h
        exact ⟨r, hvr, fun w => by simp [Instr.index, asIntOf, run_underlying hT, hlt', sizeOf, typeInfo, hi, hsz, hr]⟩
    · cases h
  · cases h

def extractA (x : AV) (i : Nat) : Option AV := match x with | .tup l => l[i]? | _ => none
theorem extractA_ok {ρ : Names} {x y : AV} {i : Nat} {v : Value} (h : extractA x i = some y) (hv : VR ρ x v) : ∃ r, VR ρ y r ∧ ∀ w, (Instr.extract v i).run P w = .ok r w := by
  unfold extractA at h
  split at h
  · rename_i l
    rw [VR] at hv
    obtain ⟨vs, rfl, hl⟩ := hv
    obtain ⟨r, hr, hvr⟩ := hl.get i y h
    exact ⟨r, hvr, fun w => by simp [Instr.extract, hr]⟩
  · cases h

/-! ### Slices of slices -/
def bnd (E : T AV) (d : Nat) : Option Operand → Option Nat
  | none => some d
  | some x => (match pv E x with | some v => natV v | none => none)
def sliceA (tb : Tab) (t : TypeId) (x : AV) (l h : Nat) : Option AV :=
  match x with
  | .sl id off len cap => (match slA tb t with
    | some (_, s) => (match cap with
      | .k c => bif Nat.ble l h && Nat.ble h c then some (.sl id (bif Nat.beq c l then off else off + l * s) (h - l) (.k (c - l))) else none
      | .u d => bif Nat.ble l h && Nat.ble h len && (Nat.blt l len || Nat.beq l 0) then some (.sl id (off + l * s) (h - l) (.u (d + l))) else (bif Nat.beq l len && Nat.beq h len then some .em else none))
    | none => none)
  | .em => (match slA tb t with
    | some _ => bif Nat.beq l 0 && Nat.beq h 0 then some .em else none
    | none => none)
  | _ => none
def lenA : AV → Option Nat
  | .sl _ _ len _ => some len
  | .em => some 0
  | _ => none

theorem bounds_ok {E : T AV} {ρ : Names} {a : Act} (hF : FR n ds ρ E a) {lo hi : Option Operand} {l h len cap : Nat} (isS : Bool) (hl : bnd E 0 lo = some l) (hh : bnd E len hi = some h) (hlh : l ≤ h) (hhc : h ≤ cap) (w : World) :
    (Instr.sliceBounds isS len cap (lo.map a.eval) (hi.map a.eval) none).run P w = .ok (l, h, cap) w := by
  have hb : ∀ (x : Operand) (m : Nat) (y : Nat) (code : BoundsCode), (match pv E x with | some v => natV v | none => none) = some m → m ≤ y → (Instr.sliceBound (a.eval x) y code).run P w = .ok m w := fun x m y code hx hm => by
    split at hx
    · rename_i v hv
      obtain ⟨k, rfl⟩ := natV_ok hx
      rw [hF.pv hv]
      have : (m : Int) ≤ (y : Int) := by omega
      simp [Instr.sliceBound, asIntOf, hm]
    · cases hx
  cases lo with
  | none =>
    cases hl
    cases hi with
    | none => cases hh; simp [Instr.sliceBounds]
    | some y => simp [Instr.sliceBounds, hb y h cap _ hh hhc]
  | some x =>
    cases hi with
    | none => cases hh; simp [Instr.sliceBounds, hb x l h _ hl hlh]
    | some y => simp [Instr.sliceBounds, hb y h cap _ hh hhc, hb x l h _ hl hlh]

theorem sliceA_ok (ok : TOk P tb w0) {E : T AV} {ρ : Names} {a : Act} (hF : FR n ds ρ E a) {t : TypeId} {x y : AV} {lo hi : Option Operand} {l h len : Nat} {v : Value} (hx : sliceA tb t x l h = some y) (hlen : lenA x = some len) (hv : VR ρ x v)
    (hl : bnd E 0 lo = some l) (hh : bnd E len hi = some h) : ∃ r, VR ρ y r ∧ ∀ w, (Instr.sliceAt t v (lo.map a.eval) (hi.map a.eval) none).run P w = .ok r w := by
  unfold sliceA at hx
  split at hx
  · rename_i id off len' cap
    cases hlen
    rw [VR] at hv
    obtain ⟨b, c, hb, rfl, hlc, hcm, hcap⟩ := hv
    split at hx
    · rename_i e s hs
      obtain ⟨hT, inf, hi', hsz⟩ := slA_ok ok hs
      split at hx
      · rename_i c'
        have hc : c = c' := hcap
        subst hc
        cases hq : (Nat.ble l h && Nat.ble h c) with
        | false => rw [hq] at hx; cases hx
        | true =>
          rw [hq] at hx
          simp only [Bool.and_eq_true, Nat.ble_eq] at hq
          cases hx
          refine ⟨.slice (some (if c = l then ⟨b.1, off, none⟩ else ⟨b.1, off + l * s, none⟩)) (h - l) (c - l), ?_, fun w => ?_⟩
          · rw [VR]
            refine ⟨b, c - l, hb, ?_, by omega, by omega, rfl⟩
            congr 2
            cases hcl : Nat.beq c l with
            | true => rw [if_pos (Nat.eq_of_beq_eq_true hcl)]; rfl
            | false => rw [if_neg (fun e => by rw [e] at hcl; simp at hcl)]; rfl
          · have hbd := bounds_ok hF (P := P) true hl hh hq.1 hq.2 w
            simp only [Instr.sliceAt, Sem.run_bind, run_underlying hT, Result.andThen_ok, Instr.slice, hbd, sizeOf, typeInfo, Sem.run_pure, hi', hsz, program, Sem.run]
            by_cases hcl : c = l
            · simp [hcl]
            · simp [hcl, Addr.add_mid]
      · rename_i d
        cases hq : (Nat.ble l h && Nat.ble h len && (Nat.blt l len || Nat.beq l 0)) with
        | false =>
          rw [hq] at hx
          simp only [cond_false] at hx
          cases hq2 : (Nat.beq l len && Nat.beq h len) with
          | false => rw [hq2] at hx; cases hx
          | true =>
            rw [hq2] at hx
            cases hx
            simp only [Bool.and_eq_true] at hq2
            obtain ⟨e1, e2⟩ := hq2
            have e1 := Nat.eq_of_beq_eq_true e1
            have e2 := Nat.eq_of_beq_eq_true e2
            refine ⟨.slice (some (if c = l then ⟨b.1, off, none⟩ else ⟨b.1, off + l * s, none⟩)) 0 (c - l), by rw [VR]; exact ⟨_, _, rfl, by omega⟩, fun w => ?_⟩
            have hbd := bounds_ok hF (P := P) true hl hh (by omega) (show h ≤ c by omega) w
            simp only [Instr.sliceAt, Sem.run_bind, run_underlying hT, Result.andThen_ok, Instr.slice, hbd, sizeOf, typeInfo, Sem.run_pure, hi', hsz, program, Sem.run]
            rw [show h - l = 0 by omega]
            by_cases hcl : c = l
            · simp [hcl]
            · simp [hcl, Addr.add_mid]
        | true =>
          rw [hq] at hx
          simp only [Bool.and_eq_true, Nat.ble_eq, Bool.or_eq_true, Nat.blt_eq] at hq
          obtain ⟨⟨h1, h2⟩, h3⟩ := hq
          cases hx
          refine ⟨.slice (some ⟨b.1, off + l * s, none⟩) (h - l) (c - l), ?_, fun w => ?_⟩
          · rw [VR]
            exact ⟨b, c - l, hb, rfl, by omega, by omega, by have h9 : c + d = b.2 := hcap; show c - l + (d + l) = b.2; omega⟩
          · have hbd := bounds_ok hF (P := P) true hl hh h1 (show h ≤ c by omega) w
            simp only [Instr.sliceAt, Sem.run_bind, run_underlying hT, Result.andThen_ok, Instr.slice, hbd, sizeOf, typeInfo, Sem.run_pure, hi', hsz, program, Sem.run]
            by_cases hcl : c = l
            · have : l = 0 := by
                rcases h3 with h3 | h3
                · omega
                · exact Nat.eq_of_beq_eq_true h3
              simp [hcl, this]
            · simp [hcl, Addr.add_mid]
    · cases hx
  · cases hlen
    rw [VR] at hv
    obtain ⟨a9, c, rfl, hcm⟩ := hv
    split at hx
    · rename_i z hs
      obtain ⟨e, s⟩ := z
      obtain ⟨hT, inf, hi', hsz⟩ := slA_ok ok hs
      cases hq : (Nat.beq l 0 && Nat.beq h 0) with
      | false => rw [hq] at hx; cases hx
      | true =>
        rw [hq] at hx
        cases hx
        simp only [Bool.and_eq_true] at hq
        have e1 := Nat.eq_of_beq_eq_true hq.1
        have e2 := Nat.eq_of_beq_eq_true hq.2
        subst e1 e2
        refine ⟨.slice (if c = 0 then some a9 else (some a9).map (·.add (0 * inf.size))) 0 c, ?_, fun w => ?_⟩
        · rw [VR]
          by_cases h0 : c = 0
          · exact ⟨_, _, by rw [if_pos h0], hcm⟩
          · exact ⟨_, _, by rw [if_neg h0]; rfl, hcm⟩
        · have hbd := bounds_ok hF (P := P) true hl hh (Nat.le_refl _) (Nat.zero_le c) w
          simp only [Instr.sliceAt, Sem.run_bind, run_underlying hT, Result.andThen_ok, Instr.slice, hbd, sizeOf, typeInfo, Sem.run_pure, hi', program, Sem.run]
          simp
    · cases hx
  · cases hx

/-- a slice with three bounds -/
def slice3A (tb : Tab) (t : TypeId) (x : AV) (l h m : Nat) : Option AV :=
  match x with
  | .sl id off len _ => (match slA tb t with
    | some (_, s) => bif Nat.ble l h && Nat.ble h m && Nat.ble m len then some (.sl id (bif Nat.beq m l then off else off + l * s) (h - l) (.k (m - l))) else none
    | none => none)
  | _ => none
theorem bounds3_ok {E : T AV} {ρ : Names} {a : Act} (hF : FR n ds ρ E a) {lo : Option Operand} {hi mx : Operand} {l h m len cap : Nat} (isS : Bool) (hl : bnd E 0 lo = some l) (hh : bnd E 0 (some hi) = some h) (hm : bnd E 0 (some mx) = some m) (hlh : l ≤ h) (hhm : h ≤ m) (hmc : m ≤ cap) (w : World) :
    (Instr.sliceBounds isS len cap (lo.map a.eval) (some (a.eval hi)) (some (a.eval mx))).run P w = .ok (l, h, m) w := by
  have hb : ∀ (x : Operand) (m : Nat) (y : Nat) (code : BoundsCode), (match pv E x with | some v => natV v | none => none) = some m → m ≤ y → (Instr.sliceBound (a.eval x) y code).run P w = .ok m w := fun x m y code hx hm => by
    split at hx
    · rename_i v hv
      obtain ⟨k, rfl⟩ := natV_ok hx
      rw [hF.pv hv]
      have : (m : Int) ≤ (y : Int) := by omega
      simp [Instr.sliceBound, asIntOf, hm]
    · cases hx
  cases lo with
  | none =>
    cases hl
    simp [Instr.sliceBounds, hb mx m cap _ hm hmc, hb hi h m _ hh hhm]
  | some x => simp [Instr.sliceBounds, hb mx m cap _ hm hmc, hb hi h m _ hh hhm, hb x l h _ hl hlh]
theorem slice3A_ok (ok : TOk P tb w0) {E : T AV} {ρ : Names} {a : Act} (hF : FR n ds ρ E a) {t : TypeId} {x y : AV} {lo : Option Operand} {hi mx : Operand} {l h m : Nat} {v : Value} (hx : slice3A tb t x l h m = some y) (hv : VR ρ x v)
    (hl : bnd E 0 lo = some l) (hh : bnd E 0 (some hi) = some h) (hm : bnd E 0 (some mx) = some m) : ∃ r, VR ρ y r ∧ ∀ w, (Instr.sliceAt t v (lo.map a.eval) ((some hi).map a.eval) ((some mx).map a.eval)).run P w = .ok r w := by
  unfold slice3A at hx
  split at hx
  · rename_i id off len cap
    rw [VR] at hv
    obtain ⟨b, c, hb, rfl, hlc, hcm, hcap⟩ := hv
    split at hx
    · rename_i e s hs
      obtain ⟨hT, inf, hi', hsz⟩ := slA_ok ok hs
      cases hq : (Nat.ble l h && Nat.ble h m && Nat.ble m len) with
      | false => rw [hq] at hx; cases hx
      | true =>
        rw [hq] at hx
        simp only [Bool.and_eq_true, Nat.ble_eq] at hq
        obtain ⟨⟨q1, q2⟩, q3⟩ := hq
        cases hx
        refine ⟨.slice (some (if m = l then ⟨b.1, off, none⟩ else ⟨b.1, off + l * s, none⟩)) (h - l) (m - l), ?_, fun w => ?_⟩
        · rw [VR]
          refine ⟨b, m - l, hb, ?_, by omega, by omega, rfl⟩
          congr 2
          cases hcl : Nat.beq m l with
          | true => rw [if_pos (Nat.eq_of_beq_eq_true hcl)]; rfl
          | false => rw [if_neg (fun e => by rw [e] at hcl; simp at hcl)]; rfl
        · have hbd := bounds3_ok hF (P := P) (len := len) true hl hh hm q1 q2 (show m ≤ c by omega) w
          simp only [Option.map_some]
          simp only [Instr.sliceAt, Sem.run_bind, run_underlying hT, Result.andThen_ok, Instr.slice, hbd, sizeOf, typeInfo, Sem.run_pure, hi', hsz, program, Sem.run]
          by_cases hcl : m = l
          · simp [hcl]
          · simp [hcl, Addr.add_mid]
    · cases hx
  · cases hx

/-! ### Comparing with nil -/
def eqNil (k : TK) (a b : AV) : Bool :=
  match k, a, b with
  | .ptr _, .ptr _ _, .pl (.pointer none) | .ptr _, .pl (.pointer none), .ptr _ _ => true
  | .sl _, .sl _ _ _ _, .pl (.slice none _ _) | .sl _, .pl (.slice none _ _), .sl _ _ _ _ => true
  | .sl _, .em, .pl (.slice none _ _) | .sl _, .pl (.slice none _ _), .em => true
  | .fn, .fn _ _ _, .pl .nilFunc | .fn, .pl .nilFunc, .fn _ _ _ => true
  | .ifc, .ifc _ _, .pl .nilIface | .ifc, .pl .nilIface, .ifc _ _ => true
  | _, _, _ => false
/-- two pointers into one block -/
def eqPtr (tb : Tab) (H : AH) (k : TK) (a b : AV) : Option Bool :=
  match k, a, b with
  | .ptr e, .ptr i o, .ptr j q => (match sizeA tb e with
    | some (_ + 1) => bif Nat.beq i j then some (Nat.beq o q) else none
    | _ => none)
  | _, _, _ => none
/-- a number that is none of a list -/
def eqIk (k : TK) (a b : AV) : Bool :=
  match k, a, b with
  | .int .i64, .ik l, .pl (.int .i64 c) => l.contains c
  | .int .i64, .pl (.int .i64 c), .ik l => l.contains c
  | _, _, _ => false
def eqA (tb : Tab) (H : AH) (op : BinOp) (t : TypeId) (a b : AV) : Option AV :=
  match tb.ty.get t with
  | some i => (match eqPtr tb H i.k a b with
    | some r => (match op with
      | .eql => some (.pl (.bool r))
      | .neq => some (.pl (.bool (!r)))
      | _ => none)
    | none => (match op, (eqNil i.k a b || eqIk i.k a b) with
      | .eql, true => some (.pl (.bool false))
      | .neq, true => some (.pl (.bool true))
      | _, _ => none))
  | none => none
theorem eqNil_ok {ρ : Names} {t : TypeId} {d : TypeDesc} {a b : AV} {u v : Value} (hd : P.underlying t = some d) (h : eqNil (kindT d) a b = true) (hu : VR ρ a u) (hv : VR ρ b v) :
    (∀ w, (Op.equal t u v).run P w = .ok false w) ∧ (∀ op x y w, (eqGuard op t x y u v).run P w = .ok () w) ∧ (∀ op, binOp op t u v = match op with | .eql => (do pure (.bool (← Op.equal t u v))) | .neq => (do pure (.bool (!(← Op.equal t u v)))) | _ => binOp op t u v) := by
  unfold eqNil at h
  split at h
  all_goals first
    | (cases h; done)
    | skip
  all_goals
    rename_i hk
    cases d <;> simp only [kindT] at hk <;> first | (cases hk; done) | skip
    simp only [VR] at hu hv
  all_goals first
    | (obtain ⟨b1, c1, ⟨rfl, _⟩⟩ := hu; subst hv)
    | (obtain ⟨b1, c1, ⟨rfl, _⟩⟩ := hv; subst hu)
    | (obtain ⟨b1, _, rfl⟩ := hu; subst hv; skip)
    | (obtain ⟨b1, _, rfl⟩ := hv; subst hu; skip)
    | (obtain ⟨b1, c1, _, rfl, _⟩ := hu; subst hv)
    | (obtain ⟨b1, c1, _, rfl, _⟩ := hv; subst hu)
    | (obtain ⟨b1, c1, rfl, _⟩ := hu; subst hv)
    | (obtain ⟨b1, c1, rfl, _⟩ := hv; subst hu)

    | (obtain ⟨b1, rfl, _⟩ := hu; subst hv)
    | (obtain ⟨b1, rfl, _⟩ := hv; subst hu)
  all_goals refine ⟨fun w => ?_, fun op x y w => ?_, fun op => ?_⟩
  all_goals first
    | (refine (show ∀ d, (Op.equalIn (d + 1) t _ _).run P w = .ok false w from fun d => ?_) 9999; simp only [Op.equalIn, Sem.run_bind, run_underlying hd, Result.andThen_ok, Sem.run_pure, Option.isNone]; done)
    | (unfold eqGuard; cases op <;> simp; done)
    | (cases op <;> rfl)
theorem eqIk_ok {ρ : Names} {t : TypeId} {d : TypeDesc} {a b : AV} {u v : Value} (hd : P.underlying t = some d) (h : eqIk (kindT d) a b = true) (hu : VR ρ a u) (hv : VR ρ b v) :
    (∀ op x y w, (eqGuard op t x y u v).run P w = .ok () w) ∧ (∀ w, (binOp .eql t u v).run P w = .ok (.bool false) w) ∧ (∀ w, (binOp .neq t u v).run P w = .ok (.bool true) w) := by
  unfold eqIk at h
  split at h
  · rename_i l c hk
    cases d <;> simp only [kindT] at hk <;> try (cases hk; done)
    cases hk
    simp only [VR] at hu hv
    obtain ⟨k, rfl, hk⟩ := hu
    subst hv
    have hne : k ≠ c := fun e => by rw [e, h] at hk; cases hk
    refine ⟨fun op x y w => ?_, fun w => ?_, fun w => ?_⟩
    · unfold eqGuard; cases op <;> simp
    · simp [binOp, Op.intCmp, hne]
    · simp [binOp, Op.intCmp, hne]
  · rename_i c l hk
    cases d <;> simp only [kindT] at hk <;> try (cases hk; done)
    cases hk
    simp only [VR] at hu hv
    obtain ⟨k, rfl, hk⟩ := hv
    subst hu
    have hne : c ≠ k := fun e => by rw [← e, h] at hk; cases hk
    refine ⟨fun op x y w => ?_, fun w => ?_, fun w => ?_⟩
    · unfold eqGuard; cases op <;> simp
    · simp [binOp, Op.intCmp, hne]
    · simp [binOp, Op.intCmp, hne]
  · cases h
theorem eqPtr_ok (ok : TOk P tb w0) {ρ : Names} {H : AH} {w : World} (hH : HR w0 ρ H w) {t : TypeId} {d : TypeDesc} {a b : AV} {u v : Value} {r : Bool} (hd : P.underlying t = some d) (h : eqPtr tb H (kindT d) a b = some r) (hu : VR ρ a u) (hv : VR ρ b v) :
    (∀ w, (Op.equal t u v).run P w = .ok r w) ∧ (∀ op x y w, (eqGuard op t x y u v).run P w = .ok () w) ∧ (∀ op, binOp op t u v = match op with | .eql => (do pure (.bool (← Op.equal t u v))) | .neq => (do pure (.bool (!(← Op.equal t u v)))) | _ => binOp op t u v) := by
  unfold eqPtr at h
  split at h
  · rename_i e i o j q hk
    cases d <;> simp only [kindT] at hk <;> try (cases hk; done)
    cases hk
    split at h
    · rename_i sz hsz
      obtain ⟨inf, hi, hs⟩ := sizeA_ok ok hsz
      cases hij : Nat.beq i j with
      | false => rw [hij] at h; cases h
      | true =>
        rw [hij] at h
        cases h
        obtain rfl := Nat.eq_of_beq_eq_true hij
        rw [VR] at hu hv
        obtain ⟨b1, hb1, rfl⟩ := hu
        obtain ⟨b2, hb2, rfl⟩ := hv
        rw [hb1] at hb2
        cases hb2
        have hq : ((⟨b1.1, o, none⟩ : Addr) == ⟨b1.1, q, none⟩) = Nat.beq o q := by
          rw [Bool.eq_iff_iff]
          simp [Nat.beq_eq]
        refine ⟨fun w => ?_, fun op x y w => ?_, fun op => ?_⟩
        · refine (show ∀ d, (Op.equalIn (d + 1) t _ _).run P w = .ok (Nat.beq o q) w from fun d => ?_) 9999
          simp [Op.equalIn, run_underlying hd, sizeOf, typeInfo, hi, hs, sameAddr, hq]
        · unfold eqGuard; cases op <;> simp
        · cases op <;> rfl
    · cases h
  · cases h
theorem eqA_ok (ok : TOk P tb w0) {ρ : Names} {H : AH} {w : World} (hH : HR w0 ρ H w) {op : BinOp} {t : TypeId} {a b c : AV} {u v : Value} (h : eqA tb H op t a b = some c) (hu : VR ρ a u) (hv : VR ρ b v) (x y : Operand) :
    ∃ r, VR ρ c r ∧ ∀ w, (do eqGuard op t x y u v; binOp op t u v).run P w = .ok r w := by
  unfold eqA at h
  split at h
  · rename_i i hi
    obtain ⟨d, inf, z, hd, _, _, hk, _⟩ := ok.at_ hi
    rw [hk] at h
    split at h
    · rename_i r hr
      obtain ⟨h1, h2, h3⟩ := eqPtr_ok ok hH hd hr hu hv
      cases op <;> simp only at h <;> first | (cases h; done) | skip
      · cases h
        refine ⟨.bool r, VR.pl, fun w => ?_⟩
        rw [h3 .eql]
        simp [h2, h1]
      · cases h
        refine ⟨.bool (!r), VR.pl, fun w => ?_⟩
        rw [h3 .neq]
        simp [h2, h1]
    · cases he : (eqNil (kindT d) a b || eqIk (kindT d) a b) with
      | false => rw [he] at h; cases op <;> cases h
      | true =>
        rw [he] at h
        rcases Bool.or_eq_true_iff.1 he with he | he
        rotate_left
        · obtain ⟨h1, h2, h3⟩ := eqIk_ok hd he hu hv
          cases op <;> simp only at h <;> first | (cases h; done) | skip
          · cases h
            exact ⟨.bool false, VR.pl, fun w => by simp [h1, h2]⟩
          · cases h
            exact ⟨.bool true, VR.pl, fun w => by simp [h1, h3]⟩
        obtain ⟨h1, h2, h3⟩ := eqNil_ok hd he hu hv
        cases op <;> simp only at h <;> first | (cases h; done) | skip
        · cases h
          refine ⟨.bool false, VR.pl, fun w => ?_⟩
          rw [h3 .eql]
          simp [h2, h1]
        · cases h
          refine ⟨.bool true, VR.pl, fun w => ?_⟩
          rw [h3 .neq]
          simp [h2, h1]
  · cases h
end
end Go.Ev

namespace Go.Ev
open Go.RowKit Go.Sx
set_option linter.unusedVariables false
set_option linter.unusedSimpArgs false

/-! ### Values that are built out of parts -/
def fillA (pl : Nat → Option (Nat × Nat)) : List AV → List (Nat × AV) → Option (List AV)
  | c, [] => some c
  | c, (i, x) :: r => (match pl i, cellsA x with
    | some (off, s), some l => bif Nat.beq l.length s && Nat.ble (off + s) c.length && l.all isOne then fillA pl (c.take off ++ (l ++ c.drop (off + s))) r else none
    | _, _ => none)

theorem foldl_set : ∀ (vs : List Value) (k off : Nat) (cs : Array Value), off + k + vs.length ≤ cs.size →
    ((vs.zipIdx k).foldl (fun (cs : Array Value) (p : Value × Nat) => cs.setIfInBounds (off + p.2) p.1) cs).toList = cs.toList.take (off + k) ++ (vs ++ cs.toList.drop (off + k + vs.length))
  | [], k, off, cs, h => by simp
  | v :: r, k, off, cs, h => by
    simp only [List.zipIdx_cons, List.foldl_cons]
    simp only [List.length_cons] at h
    rw [foldl_set r (k + 1) off _ (by simp; omega)]
    simp only [Array.toList_setIfInBounds, List.length_cons]
    have hlt : off + k < cs.toList.length := by simp; omega
    rw [show off + (k + 1) = off + k + 1 by omega, show off + k + 1 + r.length = off + k + (r.length + 1) by omega]
    rw [List.take_set, List.drop_set_of_lt (by omega), List.take_succ_eq_append_getElem hlt]
    rw [List.set_append_right _ _ (by simp; omega)]
    simp [Nat.min_eq_left (Nat.le_of_lt (by simpa using hlt))]

theorem fill_ok {ρ : Names} {pl : Nat → Option (Nat × Nat)} : ∀ {parts : List (Nat × AV)} {vp : List (Nat × Value)} {c c' : List AV} {cs : List Value}, fillA pl c parts = some c' → VRL ρ c cs →
    parts.map (·.1) = vp.map (·.1) → VRL ρ (parts.map (·.2)) (vp.map (·.2)) → ∃ cs', Instr.fill pl cs.toArray vp = some cs' ∧ VRL ρ c' cs'.toList
  | [], vp, c, c', cs, h, hc, h1, h2 => by
    cases vp with
    | nil => cases h; exact ⟨_, rfl, by simpa using hc⟩
    | cons p r => simp at h1
  | (i, x) :: r, vp, c, c', cs, h, hc, h1, h2 => by
    cases vp with
    | nil => simp at h1
    | cons p vr =>
      obtain ⟨j, v⟩ := p
      simp only [List.map_cons, List.cons.injEq] at h1
      obtain ⟨rfl, h1⟩ := h1
      obtain ⟨v', r', he, hv, hr⟩ := h2.cons
      simp only [List.map_cons, List.cons.injEq] at he
      obtain ⟨rfl, rfl⟩ := he
      simp only [fillA] at h
      split at h
      · rename_i off s l hp hl
        cases hq : (Nat.beq l.length s && Nat.ble (off + s) c.length && l.all isOne) with
        | false => rw [hq] at h; cases h
        | true =>
          rw [hq] at h
          simp only [Bool.and_eq_true, Nat.ble_eq] at hq
          obtain ⟨⟨e1, e2⟩, e3⟩ := hq
          have e1 := Nat.eq_of_beq_eq_true e1
          have hcl := VR.cells hv hl e3
          have hsz : v.cells.size = s := by rw [← Array.length_toList, hcl.length]; exact e1
          have hcs : cs.length = c.length := hc.length
          have hfold : (v.cells.zipIdx.foldl (fun (cs : Array Value) (x : Value × Nat) => match x with | (c, j) => cs.setIfInBounds (off + j) c) cs.toArray).toList = cs.take off ++ (v.cells.toList ++ cs.drop (off + s)) := by
            rw [← Array.foldl_toList, Array.toList_zipIdx]
            have := foldl_set v.cells.toList 0 off cs.toArray (by simp; omega)
            simp only [Nat.add_zero, Array.length_toList, hsz] at this
            simpa using this
          obtain ⟨cs', h3, h4⟩ := fill_ok (ρ := ρ) (pl := pl) (parts := r) (vp := vr) (cs := cs.take off ++ (v.cells.toList ++ cs.drop (off + s))) h ((hc.take off).app (hcl.app (hc.drop (off + s)))) h1 hr
          refine ⟨cs', ?_, h4⟩
          simp only [Instr.fill, hp]
          rw [if_neg (by simp [hsz]; omega), ← h3]
          congr 1
          apply Array.toList_inj.1
          simpa using hfold
      · cases h

def placesA (tb : Tab) : List (Nat × Nat) → Option (List (Nat × Nat))
  | [] => some []
  | (o, t) :: r => match sizeA tb t, placesA tb r with | some s, some l => some ((o, s) :: l) | _, _ => none

section
variable {P : Program} {tb : Tab} {w0 : World} {n : Nat} {ds : List Deferred}

def fsz (f : Field) : Sem (Nat × Nat) := do pure (f.offset, ← sizeOf f.type)
theorem places_ok (ok : TOk P tb w0) (w : World) : ∀ {fs : List Field} {l : List (Nat × Nat)}, placesA tb (fs.map fun f => (f.offset, f.type)) = some l →
    (fs.mapM fsz).run P w = .ok l w
  | [], l, h => by cases h; simp
  | f :: fs, l, h => by
    simp only [List.map_cons, placesA] at h
    split at h
    · rename_i s l' h1 h2
      cases h
      obtain ⟨inf, hi, hs⟩ := sizeA_ok ok h1
      have := places_ok ok w h2
      have hf : (fsz f).run P w = .ok (f.offset, s) w := by simp [fsz, sizeOf, typeInfo, hi, hs]
      rw [List.mapM_cons, Sem.run_bind, hf, Result.andThen_ok, Sem.run_bind, this, Result.andThen_ok, Sem.run_pure]
    · cases h

def partsA (E : T AV) : List (Nat × Operand) → Option (List (Nat × AV))
  | [] => some []
  | (i, x) :: r => match opnd E x, partsA E r with | some y, some l => some ((i, y) :: l) | _, _ => none
theorem parts_ok {ρ : Names} {E : T AV} {a : Act} (h : FR n ds ρ E a) : ∀ {ps : List (Nat × Operand)} {l : List (Nat × AV)}, partsA E ps = some l →
    l.map (·.1) = (ps.map fun x => (x.1, a.eval x.2)).map (·.1) ∧ VRL ρ (l.map (·.2)) ((ps.map fun x => (x.1, a.eval x.2)).map (·.2))
  | [], l, hl => by cases hl; exact ⟨rfl, VRL.mk0⟩
  | (i, x) :: r, l, hl => by
    simp only [partsA] at hl
    split at hl
    · rename_i y l' h1 h2
      cases hl
      obtain ⟨h3, h4⟩ := parts_ok h h2
      exact ⟨by simp only [List.map_cons, h3], VRL.mk (h.opnd h1) h4⟩
    · cases hl

def buildA (tb : Tab) (E : T AV) (t : TypeId) (ps : List (Nat × Operand)) : Option AV :=
  match tb.ty.get t, partsA E ps with
  | some i, some parts => (match i.k with
    | .st fs => (match placesA tb fs with
      | some pl => (match fillA (fun j => pl[j]?) (plMap i.zero) parts with | some c => some (.agg c) | none => none)
      | none => none)
    | .ar _ e => (match sizeA tb e with
      | some s => (match fillA (fun j => some (j * s, s)) (plMap i.zero) parts with | some c => some (.agg c) | none => none)
      | none => none)
    | _ => none)
  | _, _ => none
theorem buildA_ok (ok : TOk P tb w0) {ρ : Names} {E : T AV} {a : Act} (hF : FR n ds ρ E a) {t : TypeId} {ps : Array (Nat × Operand)} {x : AV} (h : buildA tb E t ps.toList = some x) :
    ∃ r, VR ρ x r ∧ ∀ w, (Instr.build t (ps.map fun (i, x) => (i, a.eval x))).run P w = .ok r w := by
  unfold buildA at h
  split at h
  · rename_i i parts hi hp
    obtain ⟨d, inf, z, hd, hinf, hz, hk, hs, _, hzero⟩ := ok.at_ hi
    obtain ⟨p1, p2⟩ := parts_ok hF hp
    have hlist : (ps.map fun (x : Nat × Operand) => match x with | (i, x) => (i, a.eval x)).toList = ps.toList.map fun x => (x.1, a.eval x.2) := by simp
    rw [hk] at h
    cases d <;> simp only [kindT] at h <;> try (cases h; done)
    · rename_i m e
      split at h
      · rename_i s hs'
        obtain ⟨inf', hi', hsz⟩ := sizeA_ok ok hs'
        split at h
        · rename_i c hc
          cases h
          rw [hzero] at hc
          obtain ⟨cs', h3, h4⟩ := fill_ok hc (VRL.plMap _) p1 p2
          refine ⟨.agg cs', by rw [VR]; exact ⟨cs'.toList, by simp, h4⟩, fun w => ?_⟩
          simp only [Array.toArray_toList] at h3
          simp only [Instr.build, Sem.run_bind, zeroValue, typeInfo, program, Sem.run, Result.andThen_ok, hinf, hz, Sem.run_pure, run_underlying hd, sizeOf, hi', hsz, hlist, h3]
        · cases h
      · cases h
    · rename_i fs
      split at h
      · rename_i pl hpl
        split at h
        · rename_i c hc
          cases h
          rw [hzero] at hc
          obtain ⟨cs', h3, h4⟩ := fill_ok hc (VRL.plMap _) p1 p2
          refine ⟨.agg cs', by rw [VR]; exact ⟨cs'.toList, by simp, h4⟩, fun w => ?_⟩
          simp only [Array.toArray_toList] at h3
          have hpr := places_ok ok w hpl
          have hmap : (fs.mapM (fun f => (do pure (f.offset, ← sizeOf f.type) : Sem (Nat × Nat)))).run P w = .ok pl.toArray w := by
            show (fs.mapM fsz).run P w = .ok pl.toArray w
            rw [Array.mapM_eq_mapM_toList, map_eq_pure_bind, Sem.run_bind, hpr, Result.andThen_ok, Sem.run_pure]
          have hzv : (zeroValue t).run P w = .ok z w := by simp [zeroValue, typeInfo, hinf, hz]
          simp only [Instr.build, Sem.run_bind, hzv, Result.andThen_ok, run_underlying hd, hlist, hmap, List.getElem?_toArray, h3, Sem.run_pure]
        · cases h
      · cases h
  · cases h
end
end Go.Ev

namespace Go.Ev
open Go.RowKit Go.Sx
set_option linter.unusedVariables false
set_option linter.unusedSimpArgs false

section
variable {P : Program} {tb : Tab} {w0 : World} {n : Nat} {ds : List Deferred}

def tkA (tb : Tab) (t : TypeId) : TK := match tb.ty.get t with | some i => i.k | none => .oth
theorem tkA_ok (ok : TOk P tb w0) {t : TypeId} {k : TK} (h : tkA tb t = k) (hk : k ≠ .oth) : ∃ d, P.underlying t = some d ∧ kindT d = k := by
  unfold tkA at h
  split at h
  · rename_i i hi
    obtain ⟨d, inf, z, hd, _, _, hkk, _⟩ := ok.at_ hi
    exact ⟨d, hd, hkk ▸ h⟩
  · exact absurd h.symm hk

/-- types whose values are compared at once, as keys of maps -/
def descA : TK → Option TypeDesc
  | .int k => some (.int k)
  | .str => some .string
  | _ => none
theorem descA_ok (ok : TOk P tb w0) {t : TypeId} {d : TypeDesc} (h : descA (tkA tb t) = some d) : P.underlying t = some d ∧ ((∃ k, d = .int k) ∨ d = .string) := by
  cases hk : tkA tb t <;> rw [hk] at h <;> simp only [descA] at h <;> try (cases h; done)
  all_goals
    cases h
    obtain ⟨d, hu, hd⟩ := tkA_ok ok hk (by simp)
    cases d <;> simp only [kindT] at hd <;> try (cases hd; done)
  · exact ⟨hu, .inr rfl⟩
  · cases hd; exact ⟨hu, .inl ⟨_, rfl⟩⟩
theorem mapT_ok (ok : TOk P tb w0) {t k e : TypeId} (h : tkA tb t = .mp k e) : P.underlying t = some (.map k e) := by
  obtain ⟨d, hu, hd⟩ := tkA_ok ok h (by simp)
  cases d <;> simp only [kindT] at hd <;> try (cases hd; done)
  cases hd; exact hu
theorem checkKey_ok {b : Bool} {t : TypeId} {d : TypeDesc} (hu : P.underlying t = some d) (hd : (∃ k, d = .int k) ∨ d = .string) (v : Value) (w : World) : (Instr.checkKey b 10000 t v).run P w = .ok () w := by
  refine (show ∀ m, (Instr.checkKey b (m + 1) t v).run P w = .ok () w from fun m => ?_) 9999
  rcases hd with ⟨k, rfl⟩ | rfl <;> simp [Instr.checkKey, run_underlying hu]

def findA (d : TypeDesc) (k : Value) : List (AV × AV × Nat) → Nat → Option (Option (Nat × AV))
  | [], _ => some none
  | (q, v, _) :: r, i => (match plain q with
    | some u => (match Instr.sameNow d k u with
      | some true => some (some (i, v))
      | some false => findA d k r (i + 1)
      | none => none)
    | none => none)
def FOk (ρ : Names) (d : TypeDesc) (k : Value) (en : List MapEntry) (i : Nat) : Option (Nat × AV) → Prop
  | none => Instr.findNow d k en i = some none
  | some (j, x) => ∃ v, Instr.findNow d k en i = some (some (j, v)) ∧ VR ρ x v
theorem findA_ok {ρ : Names} {d : TypeDesc} {k : Value} : ∀ {es : List (AV × AV × Nat)} {en : List MapEntry} {i : Nat} {r : Option (Nat × AV)}, ER ρ es en → findA d k es i = some r → FOk ρ d k en i r
  | [], en, i, r, he, h => by
    cases h
    have : en = [] := he
    subst this; rfl
  | (q, v, b) :: es, en, i, r, he, h => by
    obtain ⟨e, en', rfl, h1, h2, h3, h4⟩ := he
    simp only [findA] at h
    split at h <;> try (cases h; done)
    rename_i u hu
    have hk := VR.plain q u _ hu h1
    split at h <;> try (cases h; done)
    · rename_i hs
      cases h
      exact ⟨e.val, by simp [Instr.findNow, hk, hs], h2⟩
    · rename_i hs
      have ih := findA_ok h4 h
      cases r with
      | none => simpa [FOk, Instr.findNow, hk, hs] using ih
      | some p =>
        obtain ⟨j, x⟩ := p
        obtain ⟨y, g1, g2⟩ := ih
        exact ⟨y, by simp [Instr.findNow, hk, hs, g1], g2⟩

def lookupA (tb : Tab) (es : List (AV × AV × Nat)) (xt : TypeId) (kv : Value) (ok : Bool) : Option AV :=
  match tkA tb xt with
  | .mp kt et => (match descA (tkA tb kt), tb.ty.get et with
    | some d, some ti => (match findA d kv es 0 with
      | some (some (_, v)) => some (bif ok then .tup [v, .pl (.bool true)] else v)
      | some none => some (bif ok then .tup [.pl ti.zv, .pl (.bool false)] else .pl ti.zv)
      | none => none)
    | _, _ => none)
  | _ => none
theorem lookupA_ok (ok : TOk P tb w0) {ρ : Names} {es : List (AV × AV × Nat)} {en : List MapEntry} {xt : TypeId} {kv : Value} {co : Bool} {x : AV} {m : Value} {w : World} (h : lookupA tb es xt kv co = some x) (he : ER ρ es en)
    (hm : (m = .map none ∧ en = []) ∨ ∃ r cl, m = .map (some r) ∧ w.heap[r]? = some (.map en.toArray cl)) :
    ∃ v, VR ρ x v ∧ ∀ w' : World, (∀ r, m = .map (some r) → w'.heap[r]? = w.heap[r]?) → (Instr.lookup xt m kv co).run P w' = .ok v w' := by
  unfold lookupA at h
  split at h <;> try (cases h; done)
  rename_i kt et hT
  split at h <;> try (cases h; done)
  rename_i d ti hd hti
  obtain ⟨hu, hk⟩ := descA_ok ok hd
  have hM := mapT_ok ok hT
  obtain ⟨inf, hinf, hz⟩ := ok.zv hti
  have hck : ∀ (b : Bool) (w' : World), (Instr.checkKey b 10000 kt kv).run P w' = .ok () w' := fun b w' => checkKey_ok hu hk kv w'
  split at h <;> try (cases h; done)
  · rename_i j v hf
    obtain ⟨y, g1, g2⟩ := findA_ok he hf
    have hfk : ∀ w', (Instr.findKey kt kv en).run P w' = .ok (some (j, y)) w' := fun w' => by simp [Instr.findKey, run_underlying hu, g1]
    cases co
    · cases h
      refine ⟨y, g2, fun w' hw' => ?_⟩
      rcases hm with ⟨rfl, rfl⟩ | ⟨r, cl, rfl, hr⟩
      · simp [Instr.lookup, run_underlying hM, hck, hfk]
      · have hg : (getObj r).run P w' = .ok (.map en.toArray cl) w' := by simp [getObj, Sem.run, hw' r rfl, hr]
        simp [Instr.lookup, run_underlying hM, hck, hfk, hg]
    · cases h
      refine ⟨.tuple #[y, .bool true], by show VR ρ (.tup [v, .pl (.bool true)]) _; rw [VR]; exact ⟨[y, .bool true], rfl, VRL.mk g2 (VRL.mk VR.pl VRL.mk0)⟩, fun w' hw' => ?_⟩
      rcases hm with ⟨rfl, rfl⟩ | ⟨r, cl, rfl, hr⟩
      · simp [Instr.lookup, run_underlying hM, hck, hfk]
      · have hg : (getObj r).run P w' = .ok (.map en.toArray cl) w' := by simp [getObj, Sem.run, hw' r rfl, hr]
        simp [Instr.lookup, run_underlying hM, hck, hfk, hg]
  · rename_i hf
    have g1 : Instr.findNow d kv en 0 = some none := findA_ok he hf
    have hfk : ∀ w', (Instr.findKey kt kv en).run P w' = .ok none w' := fun w' => by simp [Instr.findKey, run_underlying hu, g1]
    have hzv : ∀ w', (zeroValue et).run P w' = .ok ti.zv w' := fun w' => by simp [zeroValue, typeInfo, hinf, hz]
    cases co
    · cases h
      refine ⟨ti.zv, VR.pl, fun w' hw' => ?_⟩
      rcases hm with ⟨rfl, rfl⟩ | ⟨r, cl, rfl, hr⟩
      · simp [Instr.lookup, run_underlying hM, hck, hfk, hzv]
      · have hg : (getObj r).run P w' = .ok (.map en.toArray cl) w' := by simp [getObj, Sem.run, hw' r rfl, hr]
        simp [Instr.lookup, run_underlying hM, hck, hfk, hg, hzv]
    · cases h
      refine ⟨.tuple #[ti.zv, .bool false], by show VR ρ (.tup [.pl ti.zv, .pl (.bool false)]) _; rw [VR]; exact ⟨[ti.zv, .bool false], rfl, VRL.mk VR.pl (VRL.mk VR.pl VRL.mk0)⟩, fun w' hw' => ?_⟩
      rcases hm with ⟨rfl, rfl⟩ | ⟨r, cl, rfl, hr⟩
      · simp [Instr.lookup, run_underlying hM, hck, hfk, hzv]
      · have hg : (getObj r).run P w' = .ok (.map en.toArray cl) w' := by simp [getObj, Sem.run, hw' r rfl, hr]
        simp [Instr.lookup, run_underlying hM, hck, hfk, hg, hzv]
/-- the entries of a map -/
def entA (H : AH) : AV → Option (List (AV × AV × Nat))
  | .mp id => (match H.get id with | some k => (match k.k with | .m es _ => some es | _ => none) | none => none)
  | .pl (.map none) => some []
  | _ => none
theorem ER.length {ρ : Names} : ∀ {l : List (AV × AV × Nat)} {en : List MapEntry}, ER ρ l en → en.length = l.length
  | [], en, h => by rw [show en = [] from h]; rfl
  | (k, v, b) :: r, _, h => by obtain ⟨e, es, rfl, _, _, _, h5⟩ := h; simp [ER.length h5]
theorem entA_ok {ρ : Names} {H : AH} {w : World} (hH : HR w0 ρ H w) {x : AV} {m : Value} {es : List (AV × AV × Nat)} (h : entA H x = some es) (hv : VR ρ x m) :
    ∃ en, ER ρ es en ∧ ((m = .map none ∧ en = []) ∨ ∃ r cl, m = .map (some r) ∧ w.heap[r]? = some (.map en.toArray cl)) ∧ (∀ r, m = .map (some r) → ∃ id b, x = .mp id ∧ ρ[id]? = some b ∧ b.1 = r) := by
  unfold entA at h
  split at h
  · rename_i id
    split at h <;> try (cases h; done)
    rename_i k hk
    split at h <;> try (cases h; done)
    rename_i es' cl hkk
    cases h
    rw [VR] at hv
    obtain ⟨b, hb, rfl⟩ := hv
    obtain ⟨_, _, hO⟩ := (hH.at_ hk hb).o (by rw [hkk]; simp)
    rw [hkk] at hO
    obtain ⟨en, h1, h2⟩ := hO
    exact ⟨en, h2, .inr ⟨b.1, cl, rfl, h1⟩, fun r hr => ⟨id, b, rfl, hb, by cases hr; rfl⟩⟩
  · cases h
    rw [VR] at hv
    exact ⟨[], rfl, .inl ⟨hv, rfl⟩, fun r hr => by rw [hv] at hr; cases hr⟩
  · cases h
end
end Go.Ev

namespace Go.Ev
open Go.RowKit Go.Sx
set_option linter.unusedVariables false
set_option linter.unusedSimpArgs false

section
variable {P : Program} {tb : Tab} {w0 : World} {n : Nat} {ds : List Deferred}

/-! ### Rows whose room is not known -/
/-- the block of a slice with room for more -/
def roomA (H : AH) : AV → Option (Nat × Nat)
  | .sl id 0 _ (.u 0) => (match H.get id with
    | some k => bif k.more && Nat.blt 0 k.es then some (k.es, k.cells.length) else none
    | none => none)
  | _ => none
theorem roomA_ok {ρ : Names} {H : AH} {w : World} (hH : HR w0 ρ H w) {x : AV} {s m : Nat} {v : Value} (h : roomA H x = some (s, m)) (hv : VR ρ x v) :
    ∃ (id len c : Nat) (b : Nat × Nat), x = .sl id 0 len (.u 0) ∧ ρ[id]? = some b ∧ v = .slice (some ⟨b.1, 0, none⟩) len c ∧ c ≤ maxLen ∧ c + 0 = b.2 ∧ m ≤ c * s ∧ 0 < s := by
  unfold roomA at h
  split at h <;> try (cases h; done)
  rename_i id len
  split at h <;> try (cases h; done)
  rename_i k hk
  cases hq : (k.more && Nat.blt 0 k.es) with
  | false => rw [hq] at h; cases h
  | true =>
    rw [hq] at h
    cases h
    simp only [Bool.and_eq_true, Nat.blt_eq] at hq
    rw [VR] at hv
    obtain ⟨b, c, hb, rfl, hlc, hcm, hcap⟩ := hv
    have hcp : c + 0 = b.2 := hcap
    refine ⟨id, len, c, b, rfl, hb, rfl, hcm, hcp, ?_, hq.2⟩
    rcases hH.at_ hk hb with ⟨_, vs, rest, fr, _, h2, _, h4, _⟩ | ⟨_, h2, _⟩
    · have h5 := h4 hq.1
      have h6 := h2.length
      simp only [List.length_append] at h5
      rw [show c = b.2 by omega, ← h5]
      omega
    · rw [h2] at hq; cases hq.1
def capA (H : AH) (x : AV) : Option AV := match roomA H x with | some (s, m) => some (.ge (m / s)) | none => none
def sliceUA (tb : Tab) (H : AH) (t : TypeId) (x : AV) (l h : Nat) : Option AV :=
  match x, roomA H x, slA tb t with
  | .sl id _ _ _, some (s, m), some (_, s') => bif Nat.beq s s' && Nat.beq l 0 && Nat.ble (h * s) m then some (.sl id 0 h (.u 0)) else none
  | _, _, _ => none
theorem sliceUA_ok (ok : TOk P tb w0) {E : T AV} {ρ : Names} {a : Act} (hF : FR n ds ρ E a) {H : AH} {w : World} (hH : HR w0 ρ H w) {t : TypeId} {x y : AV} {lo hi : Option Operand} {l h len : Nat} {v : Value} (hx : sliceUA tb H t x l h = some y) (hlen : lenA x = some len) (hv : VR ρ x v)
    (hl : bnd E 0 lo = some l) (hh : bnd E len hi = some h) : ∃ r, VR ρ y r ∧ ∀ w, (Instr.sliceAt t v (lo.map a.eval) (hi.map a.eval) none).run P w = .ok r w := by
  unfold sliceUA at hx
  split at hx <;> try (cases hx; done)
  rename_i id off len' cap s m e s' hs hr
  obtain ⟨hT, inf, hi', hsz⟩ := slA_ok ok hs
  cases hq : (Nat.beq s s' && Nat.beq l 0 && Nat.ble (h * s) m) with
  | false => rw [hq] at hx; cases hx
  | true =>
    rw [hq] at hx
    cases hx
    simp only [Bool.and_eq_true, Nat.ble_eq] at hq
    obtain ⟨⟨q1, q2⟩, q3⟩ := hq
    have q1 := Nat.eq_of_beq_eq_true q1
    have q2 := Nat.eq_of_beq_eq_true q2
    subst q1 q2
    obtain ⟨id2, len2, c, b, e1, hb, rfl, hcm, hcp, hmc, hs0⟩ := roomA_ok hH hr hv
    cases e1
    cases hlen
    have hhc : h ≤ c := Nat.le_of_mul_le_mul_right (Nat.le_trans q3 hmc) hs0
    refine ⟨.slice (some ⟨b.1, 0, none⟩) h c, by rw [VR]; exact ⟨b, c, hb, rfl, hhc, hcm, hcp⟩, fun w => ?_⟩
    have hbd := bounds_ok hF (P := P) true hl hh (Nat.zero_le h) hhc w
    simp only [Instr.sliceAt, Sem.run_bind, run_underlying hT, Result.andThen_ok, Instr.slice, hbd, sizeOf, typeInfo, Sem.run_pure, hi', hsz, program, Sem.run]
    by_cases hcl : c = 0
    · simp [hcl]
    · simp [hcl, Addr.add_mid]
/-- a number at least so great -/
def geA (tb : Tab) (op : BinOp) (t : TypeId) (a b : AV) : Option AV :=
  match op, tkA tb t, a, b with
  | .gtr, .int .i64, .pl (.int .i64 c), .ge lo => bif decide (c ≤ (lo : Int)) then some (.pl (.bool false)) else none
  | _, _, _, _ => none
theorem geA_ok (ok : TOk P tb w0) {ρ : Names} {op : BinOp} {t : TypeId} {a b c : AV} {u v : Value} (h : geA tb op t a b = some c) (hu : VR ρ a u) (hv : VR ρ b v) (x y : Operand) :
    ∃ r, VR ρ c r ∧ ∀ w, (do eqGuard op t x y u v; binOp op t u v).run P w = .ok r w := by
  unfold geA at h
  split at h <;> try (cases h; done)
  rename_i c lo hk
  cases hq : decide (c ≤ (lo : Int)) with
  | false => rw [hq] at h; cases h
  | true =>
    rw [hq] at h
    cases h
    have hle := of_decide_eq_true hq
    simp only [VR] at hu hv
    obtain ⟨k, rfl, hk⟩ := hv
    subst hu
    refine ⟨.bool false, VR.pl, fun w => ?_⟩
    have hne : ¬ (k < c) := by omega
    simp [eqGuard, binOp, Op.intCmp, hne]

def execQ (P : Program) (tb : Tab) (E : T AV) (H : AH) (o : Oper) : Option AV :=
  match o.op with
  | .move x => opnd E x
  | .assign x => opnd E x
  | .pick c x y => (match pv E c with
    | some (.bool true) => opnd E x
    | some (.bool false) => opnd E y
    | _ => none)
  | .load t x => (match opnd E x with
    | some (.ptr id off) => (match H.get id, kindA tb t with
      | some k, some kd => readA k.cells off kd
      | _, _ => none)
    | some (.pl (.pointer (some ⟨g, off, none⟩))) => (match tb.gl.get g, kindA tb t with
      | some vs, some none => (match vs[off]? with | some v => some (.pl v) | none => none)
      | _, _ => none)
    | _ => none)
  | .nilCheck x => (match opnd E x with
    | some (.ptr id off) => some (.ptr id off)
    | some (.fn (.func f) a c) => some (.fn (.func f) a c)
    | _ => plainOp P E o)
  | .fieldAddr s x f => (match opnd E x with | some y => fieldAddrA tb s y f | none => none)
  | .field s x f => (match opnd E x with
    | some (.agg l) => fieldA tb s (.agg l) f
    | _ => plainOp P E o)
  | .indexAddr t x i => (match opnd E x, pv E i with
    | some y, some v => (match natV v with | some i => indexAddrA tb t y i | none => none)
    | _, _ => none)
  | .index t x i => (match opnd E x, pv E i with
    | some (.agg l), some v => (match natV v with | some i => indexA tb t (.agg l) i | none => none)
    | _, _ => plainOp P E o)
  | .slice t x lo hi mx => (match mx, opnd E x with
    | none, some (.sl id off len cap) => (match bnd E 0 lo, bnd E len hi with
      | some l, some h => (match sliceA tb t (.sl id off len cap) l h with
        | some z => some z
        | none => sliceUA tb H t (.sl id off len cap) l h)
      | _, _ => none)
    | none, some .em => (match bnd E 0 lo, bnd E 0 hi with
      | some l, some h => sliceA tb t .em l h
      | _, _ => none)
    | some mo, some (.sl id off len cap) => (match hi with
      | some ho => (match bnd E 0 lo, bnd E 0 (some ho), bnd E 0 (some mo) with
        | some l, some h, some m => slice3A tb t (.sl id off len cap) l h m
        | _, _, _ => none)
      | none => none)
    | _, _ => plainOp P E o)
  | .lookup xt x ix co => (match opnd E x, pv E ix with
    | some y, some kv => (match entA H y with
      | some es => lookupA tb es xt kv co
      | none => plainOp P E o)
    | _, _ => none)
  | .extract x i => (match opnd E x with
    | some (.tup l) => extractA (.tup l) i
    | _ => plainOp P E o)
  | .makeFunc f a c => (match opnds E a.toList, opnds E c.toList with
    | some x, some y => some (.fn f x y)
    | _, _ => none)
  | .makeInterface t x => (match opnd E x, tb.ty.get t with
    | some y, some i => (match i.k with | .ifc => none | _ => some (.ifc t y))
    | _, _ => none)
  | .build t ps => buildA tb E t ps.toList
  | .binOp op t x y _ => (match pv E x, pv E y with
    | some u, some v => (match pureVal P (do eqGuard op t x y u v; binOp op t u v) with | some r => some (.pl r) | none => none)
    | _, _ => (match opnd E x, opnd E y with
      | some a, some b => (match eqA tb H op t a b with
        | some z => some z
        | none => geA tb op t a b)
      | _, _ => none))
  | .call c => (match c.callee, c.args.toList, c.argTypes.toList with
    | .builtin .len, [x], [t] => (match opnd E x with
      | some (.sl _ _ len _) => (match slA tb t with | some _ => some (.pl (.int .i64 (len : Int))) | none => none)
      | some .em => (match slA tb t with | some _ => some (.pl (.int .i64 0)) | none => none)
      | some (.mp id) => (match entA H (.mp id), tkA tb t with
        | some es, .mp _ _ => some (.pl (.int .i64 (es.length : Int)))
        | _, _ => none)
      | _ => plainOp P E o)
    | .builtin .cap, [x], [t] => (match opnd E x, slA tb t with
      | some (.sl _ _ _ (.k c)), some _ => some (.pl (.int .i64 (c : Int)))
      | some (.sl id off len (.u d)), some _ => capA H (.sl id off len (.u d))
      | _, _ => plainOp P E o)
    | .builtin .unsafeSliceData, [x], _ => (match opnd E x with
      | some (.sl id off (_ + 1) _) => some (.ptr id off)
      | _ => plainOp P E o)
    | .builtin _, _, _ => plainOp P E o
    | _, _, _ => none)
  | .alloc _ | .box _ _ | .buildSlice _ _ _ | .store _ _ _ | .makeSlice _ _ _ => none
  | _ => plainOp P E o

def touch (E : T AV) (o : Oper) : Option Nat :=
  match o.op with
  | .load _ x => (match opnd E x with | some (.ptr id _) => some id | _ => none)
  | .lookup _ x _ _ => (match opnd E x with | some (.mp id) => some id | _ => none)
  | .call c => (match c.callee, c.args.toList with
    | .builtin .len, [x] => (match opnd E x with | some (.mp id) => some id | _ => none)
    | _, _ => none)
  | _ => none

def QOk (P : Program) (w0 : World) (ρ : Names) (E : T AV) (a : Act) (w : World) (o : Oper) (x : AV) : Prop :=
  ∃ v, VR ρ x v ∧ ∀ w', (Below w0.heap.size w0 w' ∧ ∀ (id : Nat) (b : Nat × Nat), touch E o = some id → ρ[id]? = some b → w'.heap[b.1]? = w.heap[b.1]?) → (execOp a.eval o).run P w' = .ok (.value v) w'

theorem qok_plain {ρ : Names} {E : T AV} {a : Act} {w : World} (hF : FR n ds ρ E a) {o : Oper} {x : AV} (h : plainOp P E o = some x) : QOk P w0 ρ E a w o x := by
  obtain ⟨v, rfl, hr⟩ := plainOp_ok hF h
  exact ⟨v, VR.pl, fun w' _ => hr w'⟩
theorem qok_of {ρ : Names} {E : T AV} {a : Act} {w : World} {o : Oper} {x : AV} {s : Sem Value} (he : execOp a.eval o = (do pure (Next.value (← s)))) (h : ∃ r, VR ρ x r ∧ ∀ w, s.run P w = .ok r w) : QOk P w0 ρ E a w o x := by
  obtain ⟨r, h1, h2⟩ := h
  exact ⟨r, h1, fun w' _ => by rw [he]; simp [h2]⟩

theorem execQ_ok (ok : TOk P tb w0) {ρ : Names} {E : T AV} {a : Act} {H : AH} {w : World} (hF : FR n ds ρ E a) (hH : HR w0 ρ H w) {o : Oper} {x : AV} (h : execQ P tb E H o = some x) : QOk P w0 ρ E a w o x := by
  obtain ⟨dst, op, type, pos, after, guard⟩ := o
  cases op <;> simp only [execQ] at h
  case move y => exact qok_of (s := pure (a.eval y)) rfl ⟨_, hF.opnd h, fun w => by simp⟩
  case assign y => exact qok_of (s := pure (a.eval y)) rfl ⟨_, hF.opnd h, fun w => by simp⟩
  case pick c y z =>
    split at h
    · rename_i hc; exact ⟨_, hF.opnd h, fun w' _ => by simp [execOp, hF.pv hc, asBool]⟩
    · rename_i hc; exact ⟨_, hF.opnd h, fun w' _ => by simp [execOp, hF.pv hc, asBool]⟩
    · cases h
  case load t y =>
    split at h
    · rename_i id off hy
      split at h
      · rename_i k kd hk hkd
        have hv := hF.opnd hy
        rw [VR] at hv
        obtain ⟨b, hb, he⟩ := hv
        obtain ⟨v, hr, hx⟩ := load_ok (hH.at_ hk hb) (kindA_ok ok hkd) h
        refine ⟨v, hx, fun w' hw' => ?_⟩
        have := hr w' (hw'.2 id b (by simp [touch, hy]) hb)
        simp [execOp, Instr.loadAt, he, Instr.sureAddr, this]
      · cases h
    · rename_i g off hy
      split at h
      · rename_i vs hg hkd
        split at h
        · rename_i v hvs
          cases h
          have hv := hF.opnd hy
          rw [VR] at hv
          refine ⟨v, VR.pl, fun w' hw' => ?_⟩
          have hc := Bl.cell hw'.1 (ok.gl g vs hg off v hvs)
          have := run_load_one w' t ⟨g, off, none⟩ v (kindA_ok ok hkd) hc
          simp [execOp, Instr.loadAt, hv, Instr.sureAddr, this]
        · cases h
      · cases h
    · cases h
  case nilCheck y =>
    split at h
    · rename_i id off hy
      cases h
      have hv := hF.opnd hy
      have hv' := hv
      rw [VR] at hv
      obtain ⟨b, hb, he⟩ := hv
      exact ⟨_, hv', fun w' _ => by simp [execOp, he]⟩
    · rename_i f p q hy
      cases h
      have hv := hF.opnd hy
      have hv' := hv
      rw [VR] at hv
      obtain ⟨vs, us, he, _⟩ := hv
      exact ⟨_, hv', fun w' _ => by simp [execOp, he]⟩
    · exact qok_plain hF h
  case fieldAddr s y f =>
    split at h
    · rename_i z hz; exact qok_of rfl (fieldAddrA_ok ok h (hF.opnd hz))
    · cases h
  case field s y f =>
    split at h
    · rename_i l hl; exact qok_of rfl (fieldA_ok ok h (hF.opnd hl))
    · exact qok_plain hF h
  case indexAddr t y i =>
    split at h
    · rename_i z v hz hv
      split at h
      · rename_i m hm
        have := indexAddrA_ok ok h (hF.opnd hz) hm
        exact qok_of (s := Instr.indexAt t (a.eval y) (a.eval i)) rfl (by rw [hF.pv hv]; exact this)
      · cases h
    · cases h
  case index t y i =>
    split at h
    · rename_i l v hz hv
      split at h
      · rename_i m hm
        have := indexA_ok ok h (hF.opnd hz) hm
        exact qok_of (s := Instr.index t (a.eval y) (a.eval i)) rfl (by rw [hF.pv hv]; exact this)
      · cases h
    · exact qok_plain hF h
  case slice t y lo hi mx =>
    split at h
    · rename_i id off len cap hy
      split at h
      · rename_i l m hl hm
        split at h
        · rename_i z hz
          cases h
          exact qok_of rfl (sliceA_ok ok hF hz rfl (hF.opnd hy) hl hm)
        · exact qok_of rfl (sliceUA_ok ok hF hH h rfl (hF.opnd hy) hl hm)
      · cases h
    · rename_i hy
      split at h
      · rename_i l m hl hm
        exact qok_of rfl (sliceA_ok ok hF h rfl (hF.opnd hy) hl hm)
      · cases h
    · rename_i mo id off len cap hy
      split at h
      · rename_i ho
        split at h
        · rename_i l q m hl hq hm
          exact qok_of rfl (slice3A_ok ok hF h (hF.opnd hy) hl hq hm)
        · cases h
      · cases h
    · exact qok_plain hF h
  case lookup xt y ix co =>
    split at h
    · rename_i z kv hz hkv
      split at h
      · rename_i es hes
        obtain ⟨en, h1, h2, h3⟩ := entA_ok hH hes (hF.opnd hz)
        obtain ⟨v, g1, g2⟩ := lookupA_ok ok h h1 h2
        refine ⟨v, g1, fun w' hw' => ?_⟩
        have := g2 w' (fun r hr => by
          obtain ⟨id, b, rfl, hb, rfl⟩ := h3 r hr
          exact hw'.2 id b (by simp [touch, hz]) hb)
        simp [execOp, hF.pv hkv, this]
      · exact qok_plain hF h
    · cases h
  case extract y i =>
    split at h
    · rename_i l hl; exact qok_of rfl (extractA_ok h (hF.opnd hl))
    · exact qok_plain hF h
  case makeFunc f p q =>
    split at h
    · rename_i y z hy hz
      cases h
      refine qok_of (s := Instr.makeFunc f (p.map a.eval) (q.map a.eval)) rfl ⟨_, ?_, fun w => by simp [Instr.makeFunc]; rfl⟩
      rw [VR]
      have am : ∀ r : Array Operand, r.map a.eval = (r.toList.map a.eval).toArray := fun r => by apply Array.toList_inj.1; simp
      exact ⟨_, _, by rw [am p, am q], hF.opnds hy, hF.opnds hz⟩
    · cases h
  case makeInterface t y =>
    split at h
    · rename_i z i hz hi
      obtain ⟨d, inf, zz, hd, _, _, hk, _⟩ := ok.at_ hi
      rw [hk] at h
      refine qok_of (s := Instr.makeInterface t (a.eval y)) rfl ⟨.iface t (a.eval y), ?_, fun w => ?_⟩
      · have : x = .ifc t z := by cases d <;> simp only [kindT] at h <;> cases h <;> rfl
        subst this
        rw [VR]; exact ⟨_, rfl, hF.opnd hz⟩
      · cases d <;> simp only [kindT] at h <;> first | (cases h; done) | simp [Instr.makeInterface, run_underlying hd]
    · cases h
  case build t ps => exact qok_of rfl (buildA_ok ok hF h)
  case binOp op t y z yt =>
    split at h
    · rename_i u v hu hv
      split at h
      · rename_i r hr
        cases h
        refine ⟨r, VR.pl, fun w' _ => ?_⟩
        have := pureVal_run _ _ hr w'
        simp only [execOp, hF.pv hu, hF.pv hv]
        rw [Sem.run_bind, this, Result.andThen_ok, Sem.run_pure]
      · cases h
    · split at h
      · rename_i p q hp hq
        split at h
        · rename_i z' hz
          cases h
          exact qok_of rfl (eqA_ok ok hH hz (hF.opnd hp) (hF.opnd hq) y z)
        · exact qok_of rfl (geA_ok ok h (hF.opnd hp) (hF.opnd hq) y z)
      · cases h
  case call c =>
    obtain ⟨callee, args, argTypes⟩ := c
    split at h
    · rename_i y t hc hargs hts
      simp only at hc hargs hts
      subst hc
      split at h
      · rename_i id off len cap hy
        split at h <;> try (cases h; done)
        rename_i z hz
        cases h
        obtain ⟨e, s⟩ := z
        obtain ⟨hT, _⟩ := slA_ok ok hz
        have hv := hF.opnd hy
        rw [VR] at hv
        obtain ⟨b, c, _, he, _⟩ := hv
        refine ⟨_, VR.pl, fun w' _ => ?_⟩
        have h1 : args = #[y] := by apply Array.toList_inj.1; simpa using hargs
        have h2 : argTypes = #[t] := by apply Array.toList_inj.1; simpa using hts
        subst h1 h2
        simp [execOp, resolve, invoke, builtin, Builtin.len_, run_underlying hT, he, goInt]
      · rename_i hy
        split at h <;> try (cases h; done)
        rename_i z hz
        cases h
        obtain ⟨e, s⟩ := z
        obtain ⟨hT, _⟩ := slA_ok ok hz
        have hv := hF.opnd hy
        rw [VR] at hv
        obtain ⟨b, c, he, _⟩ := hv
        refine ⟨_, VR.pl, fun w' _ => ?_⟩
        have h1 : args = #[y] := by apply Array.toList_inj.1; simpa using hargs
        have h2 : argTypes = #[t] := by apply Array.toList_inj.1; simpa using hts
        subst h1 h2
        simp [execOp, resolve, invoke, builtin, Builtin.len_, run_underlying hT, he, goInt]
      · rename_i id hy
        split at h <;> try (cases h; done)
        rename_i es kt et hes hT
        cases h
        have hM := mapT_ok ok hT
        obtain ⟨en, g1, g2, g3⟩ := entA_ok hH hes (hF.opnd hy)
        have h1 : args = #[y] := by apply Array.toList_inj.1; simpa using hargs
        have h2 : argTypes = #[t] := by apply Array.toList_inj.1; simpa using hts
        subst h1 h2
        refine ⟨_, VR.pl, fun w' hw' => ?_⟩
        rcases g2 with ⟨e1, _⟩ | ⟨r, cl, e1, e2⟩
        · have hv := hF.opnd hy
          rw [VR] at hv
          obtain ⟨b, _, he⟩ := hv
          rw [e1] at he; cases he
        · obtain ⟨id', b, e3, hb, rfl⟩ := g3 r e1
          cases e3
          have := hw'.2 id b (by simp [touch, hy]) hb
          rw [e2] at this
          simp [execOp, resolve, invoke, builtin, Builtin.len_, run_underlying hM, e1, goInt, getObj, Sem.run, this, g1.length]
      · exact qok_plain hF h
    · rename_i y t hc hargs hts
      simp only at hc hargs hts
      subst hc
      split at h
      · rename_i id off len cap z hy hz
        cases h
        obtain ⟨e, s⟩ := z
        obtain ⟨hT, _⟩ := slA_ok ok hz
        have hv := hF.opnd hy
        rw [VR] at hv
        obtain ⟨b, c, _, he, _, _, hcap⟩ := hv
        have hcc := hcap
        simp only [CapOk] at hcc
        refine ⟨_, VR.pl, fun w' _ => ?_⟩
        have h1 : args = #[y] := by apply Array.toList_inj.1; simpa using hargs
        have h2 : argTypes = #[t] := by apply Array.toList_inj.1; simpa using hts
        subst h1 h2
        simp [execOp, resolve, invoke, builtin, Builtin.cap_, run_underlying hT, he, goInt, hcc]
      · rename_i id off len d z hy hz
        obtain ⟨e, s⟩ := z
        obtain ⟨hT, _⟩ := slA_ok ok hz
        unfold capA at h
        split at h <;> try (cases h; done)
        rename_i s' m hr
        cases h
        obtain ⟨id2, len2, c, b, _, hb, he, hcm, hcp, hmc, hs0⟩ := roomA_ok hH hr (hF.opnd hy)
        refine ⟨.int .i64 (c : Int), ?_, fun w' _ => ?_⟩
        · rw [VR]
          exact ⟨(c : Int), rfl, by have h9 : m / s' ≤ c := Nat.div_le_of_le_mul (by rw [Nat.mul_comm]; exact hmc); exact Int.ofNat_le.2 h9⟩
        · have h1 : args = #[y] := by apply Array.toList_inj.1; simpa using hargs
          have h2 : argTypes = #[t] := by apply Array.toList_inj.1; simpa using hts
          subst h1 h2
          simp [execOp, resolve, invoke, builtin, Builtin.cap_, run_underlying hT, he, goInt]
      · exact qok_plain hF h
    · rename_i y hc hargs
      simp only at hc hargs
      subst hc
      split at h
      · rename_i id off m cap hy
        cases h
        have hv := hF.opnd hy
        rw [VR] at hv
        obtain ⟨b, c, hb, he, hlc, _⟩ := hv
        refine ⟨.pointer (some ⟨b.1, off, none⟩), by rw [VR]; exact ⟨b, hb, rfl⟩, fun w' _ => ?_⟩
        have h1 : args = #[y] := by apply Array.toList_inj.1; simpa using hargs
        subst h1
        have hc0 : c ≠ 0 := by omega
        have hsd : ∀ ats ty, (Builtin.unsafeSliceData_ ats ty #[.slice (some ⟨b.1, off, none⟩) (m + 1) c]).run P w' = .ok (.pointer (some ⟨b.1, off, none⟩)) w' := fun ats ty => by
          show Sem.run P (if c ≠ 0 then pure (Value.pointer (some ⟨b.1, off, none⟩)) else _) w' = _
          rw [if_pos hc0]; rfl
        simp [execOp, resolve, invoke, builtin, he, hsd]
      · exact qok_plain hF h
    · exact qok_plain hF h
    · cases h
  all_goals first
    | (cases h; done)
    | exact qok_plain hF h
end
end Go.Ev

namespace Go.Ev
open Go.RowKit Go.Sx
set_option linter.unusedVariables false
set_option linter.unusedSimpArgs false

/-! ### Cells written into a block -/
theorem setCells_blk {t : TypeId} {fr : Nat × Nat} {b : Nat} : ∀ (vs : List Value) (o : Nat) (w : World) (c : List Value), w.heap[b]? = some (.cells c.toArray t fr) → o + vs.length ≤ c.length →
    (w.setCells b o vs).heap[b]? = some (.cells (c.take o ++ (vs ++ c.drop (o + vs.length))).toArray t fr)
  | [], o, w, c, h, _ => by simp [World.setCells, h]
  | v :: r, o, w, c, h, hl => by
    simp only [List.length_cons] at hl
    have h1 : (w.setCell ⟨b, o, none⟩ v).heap[b]? = some (.cells (c.set o v).toArray t fr) := by
      have hlt := (Array.getElem?_eq_some_iff.1 h).1
      simp [World.setCell, Array.getElem?_modify, h]
    rw [World.setCells, setCells_blk r (o + 1) _ (c.set o v) h1 (by simp; omega)]
    congr 3
    have hlt : o < c.length := by omega
    rw [List.take_set, List.drop_set_of_lt (by omega), List.take_succ_eq_append_getElem hlt, List.set_append_right _ _ (by simp; omega)]
    simp [Nat.min_eq_left (Nat.le_of_lt hlt)]
    omega
theorem setCells_other {b j : Nat} (hj : j ≠ b) : ∀ (vs : List Value) (o : Nat) (w : World), (w.setCells b o vs).heap[j]? = w.heap[j]?
  | [], _, _ => rfl
  | v :: r, o, w => by
    rw [World.setCells, setCells_other hj r]
    simp [World.setCell, Array.getElem?_modify, Ne.symm hj]
theorem setCells_size {b : Nat} : ∀ (vs : List Value) (o : Nat) (w : World), (w.setCells b o vs).heap.size = w.heap.size
  | [], _, _ => rfl
  | v :: r, o, w => by rw [World.setCells, setCells_size r]; simp [World.setCell]

section
variable {P : Program} {tb : Tab} {w0 : World} {n : Nat} {ds : List Deferred}

/-- cells may be written from 'off' on -/
theorem BR.free {ρ : Names} {k : ABlk} {cp b : Nat} {w : World} (h : BR ρ k cp w.heap[b]?) {off m : Nat} (hf : k.frz ≤ off) (hm : off + m ≤ k.cells.length ∨ (k.more = true ∧ off + m ≤ cp * k.es)) :
    (∀ j, j < m → (w.cell? ⟨b, off + j, none⟩).isSome = true) ∧ ∀ j, j < m → w.frozen? ⟨b, off + j, none⟩ = false := by
  rcases h with ⟨_, vs, rest, fr, h1, h2, h3, h4, h5⟩ | ⟨h1, h2, _⟩
  rotate_left
  · have : m = 0 := by
      rcases hm with hm | ⟨hm, _⟩
      · rw [h1] at hm; simp at hm; omega
      · rw [h2] at hm; cases hm
    subst this
    exact ⟨fun j hj => by omega, fun j hj => by omega⟩
  have hl : off + m ≤ (vs ++ rest).length := by
    rcases hm with hm | ⟨hm, hm'⟩
    · have := h2.length; simp; omega
    · rw [h4 hm]; exact hm'
  refine ⟨fun j hj => ?_, fun j hj => ?_⟩
  · rw [cell_of_row w b _ _ _ fr h1]
    simp at hl ⊢; omega
  · have := unfrozen_of h5 (show k.frz ≤ off + j by omega)
    simpa [World.frozen?, h1, unfrozen] using this

theorem BR.write {ρ : Names} {k : ABlk} {cp b : Nat} {w : World} (h : BR ρ k cp w.heap[b]?) {off : Nat} {l : List AV} {us : List Value} (hu : VRL ρ l us) (hm : off ≤ k.cells.length) (hl : off + l.length ≤ k.cells.length ∨ (k.more = true ∧ off + l.length ≤ cp * k.es)) :
    BR ρ { k with cells := k.cells.take off ++ (l ++ k.cells.drop (off + l.length)) } cp (w.setCells b off us).heap[b]? := by
  rcases h with ⟨hkk, vs, rest, fr, h1, h2, h3, h4, h5⟩ | ⟨h1, h2, h3⟩
  rotate_left
  · have hl0 : off + l.length = 0 := by
      rcases hl with hl | ⟨hl, _⟩
      · rw [h1] at hl; simpa using hl
      · rw [h2] at hl; cases hl
    have hl1 : l = [] := List.eq_nil_of_length_eq_zero (by omega)
    subst hl1
    rw [hu.nil]
    exact .inr ⟨by simp [h1], h2, h3⟩
  have e1 := h2.length
  have e2 := hu.length
  have hlen : off + us.length ≤ (vs ++ rest).length := by
    rcases hl with hl | ⟨hl, hl'⟩
    · simp; omega
    · rw [h4 hl]; omega
  have hb := setCells_blk us off w (vs ++ rest) h1 hlen
  refine .inl ⟨hkk, vs.take off ++ (us ++ vs.drop (off + us.length)), rest.drop (off + us.length - vs.length), fr, ?_, (h2.take off).app (hu.app (by rw [← e2]; exact h2.drop _)), fun hq => by rw [h3 hq]; simp, fun hq => ?_, h5⟩
  · rw [hb]
    congr 3
    rw [List.take_append_of_le_length (by omega), List.drop_append]
    simp
  · have := h4 hq
    simp only [List.length_append, List.length_take, List.length_drop] at this hlen ⊢
    rw [← this]
    omega

theorem Post.write {ρ : Names} {H : AH} {w : World} (h : HR w0 ρ H w) {i off : Nat} {b : Nat × Nat} {k : ABlk} {l : List AV} {us : List Value} (hi : H.get i = some k) (hb : ρ[i]? = some b) (hu : VRL ρ l us) (hl : off + l.length ≤ k.cells.length) :
    Post w0 ρ H w ρ (H.put i { k with cells := k.cells.take off ++ (l ++ k.cells.drop (off + l.length)) }) (w.setCells b.1 off us) :=
  Post.put h hi hb (Lib.below_setCells_w (h.rng i b hb).1 us off w) (setCells_size us off w) (fun j hj => setCells_other hj us off w) ((h.at_ hi hb).write hu (by omega) (.inl hl))

/-! ### What an operation comes to -/
inductive AR where
  | val (x : AV)
  | skip
  | enter (f : FuncId) (args : List AV)
def RR (ρ : Names) : AR → Next → Prop
  | .val x, y => ∃ v, y = .value v ∧ VR ρ x v
  | .skip, y => y = .skip
  | .enter f args, y => ∃ vs : List Value, y = .enter f vs.toArray ∧ VRL ρ args vs
def EOk (P : Program) (w0 : World) (ρ : Names) (H : AH) (a : Act) (w : World) (o : Oper) (r : AR) (H' : AH) : Prop :=
  ∃ ρ' w' x, (execOp a.eval o).run P w = .ok x w' ∧ Post w0 ρ H w ρ' H' w' ∧ RR ρ' r x

/-! ### Stores, new variables -/
def storeA (tb : Tab) (E : T AV) (H : AH) (t : TypeId) (x y : Operand) : Option AH :=
  match opnd E x, opnd E y with
  | some (.ptr id off), some v => (match H.get id, cellsA v, sizeA tb t with
    | some k, some l, some s => bif l.all isOne && Nat.beq l.length s && Nat.ble (off + l.length) k.cells.length && Nat.ble k.frz off
      then some (H.put id { k with cells := k.cells.take off ++ (l ++ k.cells.drop (off + l.length)) }) else none
    | _, _, _ => none)
  | _, _ => none
theorem storeA_ok (ok : TOk P tb w0) {ρ : Names} {E : T AV} {a : Act} {H H' : AH} {w : World} (hF : FR n ds ρ E a) (hH : HR w0 ρ H w) {t : TypeId} {x y : Operand} (h : storeA tb E H t x y = some H') :
    ∃ w', (Instr.storeAt t (a.eval x) (a.eval y)).run P w = .ok () w' ∧ Post w0 ρ H w ρ H' w' := by
  unfold storeA at h
  split at h
  · rename_i id off v hx hy
    split at h
    · rename_i k l s hk hl hs
      cases hq : (l.all isOne && Nat.beq l.length s && Nat.ble (off + l.length) k.cells.length && Nat.ble k.frz off) with
      | false => rw [hq] at h; cases h
      | true =>
        rw [hq] at h
        cases h
        simp only [Bool.and_eq_true, Nat.ble_eq] at hq
        obtain ⟨⟨⟨q1, q2⟩, q3⟩, q4⟩ := hq
        have q2 := Nat.eq_of_beq_eq_true q2
        obtain ⟨inf, hi, hsz⟩ := sizeA_ok ok hs
        have hv := hF.opnd hx
        rw [VR] at hv
        obtain ⟨b, hb, he⟩ := hv
        have hc := VR.cells (hF.opnd hy) hl q1
        have hcl : (a.eval y).cells.size = s := by rw [← Array.length_toList, hc.length]; exact q2
        have hfr := (hH.at_ hk hb).free (m := l.length) q4 (.inl q3)
        refine ⟨_, ?_, Post.write hH hk hb hc q3⟩
        have hst := run_storeCells_cells (P := P) b.1 off (a.eval y).cells.toList 0 w (fun j hj => by rw [hc.length] at hj; simpa using hfr.1 j hj) (fun j hj => by rw [hc.length] at hj; simpa using hfr.2 j hj) (hc.one q1)
        simp only [Nat.add_zero] at hst
        simp [Instr.storeAt, he, Instr.sureAddr, storeVar, sizeOf, typeInfo, hi, hsz, hcl, hst]
    · cases h
  · cases h

def allocA (tb : Tab) (H : AH) (t : TypeId) : Option (AV × AH) :=
  match tb.ty.get t with
  | some i => some (.ptr H.next 0, H.new ⟨plMap i.zero, t, false, 0, 0, .c⟩)
  | none => none
theorem new_ok {ρ : Names} {H : AH} {w : World} (hH : HR w0 ρ H w) {l : List AV} {c : Array Value} (t : TypeId) (hl : VRL ρ l c.toList) :
    ∃ ρ', Post w0 ρ H w ρ' (H.new ⟨l, t, false, 0, 0, .c⟩) (w.alloc (.cells c t)) ∧ ρ'[H.next]? = some (w.heap.size, 0) := by
  have := Post.alloc hH ⟨l, t, false, 0, 0, .c⟩ 0 c.toList [] rfl hl (fun _ => rfl) (fun h => by cases h)
  simp only [List.append_nil, Array.toArray_toList] at this
  exact ⟨_, this⟩
theorem allocA_ok (ok : TOk P tb w0) {ρ : Names} {H H' : AH} {w : World} (hH : HR w0 ρ H w) {t : TypeId} {x : AV} (h : allocA tb H t = some (x, H')) :
    ∃ ρ' w' v, (Instr.alloc t true (.tuple #[])).run P w = .ok v w' ∧ Post w0 ρ H w ρ' H' w' ∧ VR ρ' x v := by
  unfold allocA at h
  split at h
  · rename_i i hi
    obtain ⟨d, inf, z, hd, hinf, hz, hk, hs, _, hzero⟩ := ok.at_ hi
    cases h
    obtain ⟨ρ', h1, h2⟩ := new_ok hH (c := z.cells) (l := plMap i.zero) t (by rw [hzero]; exact VRL.plMap _)
    refine ⟨ρ', _, .pointer (some ⟨w.heap.size, 0, none⟩), ?_, h1, by rw [VR]; exact ⟨_, h2, rfl⟩⟩
    simp [Instr.alloc, zeroValue, typeInfo, hinf, hz, newVar, newRow]
  · cases h
def boxA (E : T AV) (H : AH) (t : TypeId) (x : Operand) : Option (AV × AH) :=
  match opnd E x with
  | some v => (match cellsA v with
    | some l => bif l.all isOne then some (.ptr H.next 0, H.new ⟨l, t, false, 0, 0, .c⟩) else none
    | none => none)
  | none => none
theorem boxA_ok {ρ : Names} {E : T AV} {a : Act} {H H' : AH} {w : World} (hF : FR n ds ρ E a) (hH : HR w0 ρ H w) {t : TypeId} {x : Operand} {y : AV} (h : boxA E H t x = some (y, H')) :
    ∃ ρ' w' v, (Instr.box t (a.eval x)).run P w = .ok v w' ∧ Post w0 ρ H w ρ' H' w' ∧ VR ρ' y v := by
  unfold boxA at h
  split at h
  · rename_i v hv
    split at h
    · rename_i l hl
      cases hq : l.all isOne with
      | false => rw [hq] at h; cases h
      | true =>
        rw [hq] at h
        cases h
        obtain ⟨ρ', h1, h2⟩ := new_ok hH t (VR.cells (hF.opnd hv) hl hq)
        refine ⟨ρ', _, .pointer (some ⟨w.heap.size, 0, none⟩), ?_, h1, by rw [VR]; exact ⟨_, h2, rfl⟩⟩
        simp [Instr.box, newVar, newRow]
    · cases h
  · cases h

/-! ### New rows -/
def rep (z : List Value) : Nat → List Value
  | 0 => []
  | m + 1 => z ++ rep z m
theorem rep_length (z : List Value) : ∀ m, (rep z m).length = m * z.length
  | 0 => by simp [rep]
  | m + 1 => by simp only [rep, List.length_append, rep_length z m, Nat.add_mul]; omega
theorem rep_get (z : Array Value) : ∀ (m i : Nat), i < m * z.size → (rep z.toList m)[i]? = some (z[i % z.size]!)
  | 0, i, h => by simp at h
  | m + 1, i, h => by
    have hz : 0 < z.size := by
      rcases Nat.eq_zero_or_pos z.size with h0 | h0
      · rw [h0] at h; simp at h
      · exact h0
    rw [rep]
    by_cases hi : i < z.size
    · rw [List.getElem?_append_left (by simpa using hi), Nat.mod_eq_of_lt hi]
      simp [hi]
    · rw [List.getElem?_append_right (by simp; omega)]
      simp only [Array.length_toList]
      rw [rep_get z m (i - z.size) (by rw [Nat.add_mul] at h; omega)]
      rw [← Nat.mod_eq_sub_mod (by omega)]
theorem rep_ok (z : Array Value) (m : Nat) : (Array.range (m * z.size)).map (z[· % z.size]!) = (rep z.toList m).toArray := by
  apply Array.toList_inj.1
  apply List.ext_getElem?
  intro i
  by_cases hi : i < m * z.size
  · rw [rep_get z m i hi]
    simp [hi]
  · rw [List.getElem?_eq_none (by simp; omega), List.getElem?_eq_none (by simp [rep_length]; omega)]

def buildSliceA (tb : Tab) (E : T AV) (H : AH) (t : TypeId) (len : Nat) (ps : List (Nat × Operand)) : Option (AV × AH) :=
  match slA tb t, partsA E ps with
  | some (e, s), some parts => (match tb.ty.get e with
    | some i => bif Nat.beq i.zero.length s && Nat.blt 0 s && Nat.ble (len * s) 16777216 && Nat.ble len 4611686018427387904 then
      (match fillA (fun j => some (j * s, s)) (plMap (rep i.zero len)) parts with
       | some c => some (.sl H.next 0 len (.k len), H.new ⟨c, e, false, 0, 0, .c⟩)
       | none => none) else none
    | none => none)
  | _, _ => none
theorem buildSliceA_ok (ok : TOk P tb w0) {ρ : Names} {E : T AV} {a : Act} {H H' : AH} {w : World} (hF : FR n ds ρ E a) (hH : HR w0 ρ H w) {t : TypeId} {len : Nat} {ps : Array (Nat × Operand)} {y : AV} (h : buildSliceA tb E H t len ps.toList = some (y, H')) :
    ∃ ρ' w' v, (Instr.buildSlice t len (ps.map fun (i, x) => (i, a.eval x))).run P w = .ok v w' ∧ Post w0 ρ H w ρ' H' w' ∧ VR ρ' y v := by
  unfold buildSliceA at h
  split at h
  · rename_i e s parts hs hp
    obtain ⟨hT, inf', hinf', hsz⟩ := slA_ok ok hs
    obtain ⟨p1, p2⟩ := parts_ok hF hp
    have hlist : (ps.map fun (x : Nat × Operand) => match x with | (i, x) => (i, a.eval x)).toList = ps.toList.map fun x => (x.1, a.eval x.2) := by simp
    split at h
    · rename_i i hi
      obtain ⟨d, inf, z, hd, hinf, hz, hk, hs', _, hzero⟩ := ok.at_ hi
      rw [hinf] at hinf'; cases hinf'
      cases hq : (Nat.beq i.zero.length s && Nat.blt 0 s && Nat.ble (len * s) 16777216 && Nat.ble len 4611686018427387904) with
      | false => rw [hq] at h; cases h
      | true =>
        rw [hq] at h
        simp only [Bool.and_eq_true, Nat.ble_eq, Nat.blt_eq] at hq
        obtain ⟨⟨⟨q1, q2⟩, q3⟩, q4⟩ := hq
        have q1 := Nat.eq_of_beq_eq_true q1
        simp only [cond_true] at h
        split at h
        · rename_i c hc
          cases h
          have hzs : z.cells.size = s := by rw [← Array.length_toList, ← hzero]; exact q1
          rw [hzero] at hc
          obtain ⟨cs', h3, h4⟩ := fill_ok hc (VRL.plMap _) p1 p2
          obtain ⟨ρ', h5, h6⟩ := new_ok hH e h4
          refine ⟨ρ', _, .slice (some ⟨w.heap.size, 0, none⟩) len len, ?_, h5, by rw [VR]; exact ⟨_, len, h6, rfl, Nat.le_refl _, by simp only [maxLen]; omega, rfl⟩⟩
          have hzv : (zeroValue e).run P w = .ok z w := by simp [zeroValue, typeInfo, hinf, hz]
          have hso : (sizeOf e).run P w = .ok s w := by simp [sizeOf, typeInfo, hinf, hsz]
          have hrep := rep_ok z.cells len
          rw [hzs] at hrep
          have hrep' : (Array.range (len * s)).map (fun x => z.cells[x % s]!) = (rep z.cells.toList len).toArray := hrep
          by_cases hz0 : len * s = 0
          · have hl0 : len = 0 := by rcases Nat.mul_eq_zero.1 hz0 with h | h <;> omega
            subst hl0
            have hre : (rep z.cells.toList 0).toArray = #[] := rfl
            rw [hre] at h3
            simp only [Instr.buildSlice, Sem.run_bind, run_underlying hT, Result.andThen_ok, hso, Nat.zero_mul, gt_iff_lt, Nat.not_lt_zero, if_false, if_true, Sem.run_pure, hlist]
            rw [show Array.range 0 = #[] from rfl, Array.map_empty, h3]
            simp [newRow]
          · simp only [Instr.buildSlice, Sem.run_bind, run_underlying hT, Result.andThen_ok, hso, gt_iff_lt, show ¬ (2 ^ 24 < len * s) by omega, if_false, Sem.run_pure, hz0, hzv, hlist, hzs, hrep']
            simp [h3, newRow]
        · cases h
    · cases h
  · cases h

/-- what it makes: one block, whose cells are known -/
theorem buildSliceA_run (ok : TOk P tb w0) {ρ : Names} {E : T AV} {a : Act} {H H' : AH} (hF : FR n ds ρ E a) {t : TypeId} {len : Nat} {ps : Array (Nat × Operand)} {y : AV} (h : buildSliceA tb E H t len ps.toList = some (y, H')) :
    ∃ (c : List AV) (e : TypeId) (z : Array Value), y = .sl H.next 0 len (.k len) ∧ H' = H.new ⟨c, e, false, 0, 0, .c⟩ ∧ VRL ρ c z.toList ∧ len ≤ 4611686018427387904 ∧
      ∀ w : World, (Instr.buildSlice t len (ps.map fun (i, x) => (i, a.eval x))).run P w = .ok (.slice (some ⟨w.heap.size, 0, none⟩) len len) (w.alloc (.cells z e)) := by
  unfold buildSliceA at h
  split at h
  · rename_i e s parts hs hp
    obtain ⟨hT, inf', hinf', hsz⟩ := slA_ok ok hs
    obtain ⟨p1, p2⟩ := parts_ok hF hp
    have hlist : (ps.map fun (x : Nat × Operand) => match x with | (i, x) => (i, a.eval x)).toList = ps.toList.map fun x => (x.1, a.eval x.2) := by simp
    split at h
    · rename_i i hi
      obtain ⟨d, inf, z, hd, hinf, hz, hk, hs', _, hzero⟩ := ok.at_ hi
      rw [hinf] at hinf'; cases hinf'
      cases hq : (Nat.beq i.zero.length s && Nat.blt 0 s && Nat.ble (len * s) 16777216 && Nat.ble len 4611686018427387904) with
      | false => rw [hq] at h; cases h
      | true =>
        rw [hq] at h
        simp only [Bool.and_eq_true, Nat.ble_eq, Nat.blt_eq] at hq
        obtain ⟨⟨⟨q1, q2⟩, q3⟩, q4⟩ := hq
        have q1 := Nat.eq_of_beq_eq_true q1
        simp only [cond_true] at h
        split at h
        · rename_i c hc
          cases h
          have hzs : z.cells.size = s := by rw [← Array.length_toList, ← hzero]; exact q1
          rw [hzero] at hc
          obtain ⟨cs', h3, h4⟩ := fill_ok hc (VRL.plMap _) p1 p2
          refine ⟨c, e, cs', rfl, rfl, h4, q4, fun w => ?_⟩
          have hzv : (zeroValue e).run P w = .ok z w := by simp [zeroValue, typeInfo, hinf, hz]
          have hso : (sizeOf e).run P w = .ok s w := by simp [sizeOf, typeInfo, hinf, hsz]
          have hrep := rep_ok z.cells len
          rw [hzs] at hrep
          have hrep' : (Array.range (len * s)).map (fun x => z.cells[x % s]!) = (rep z.cells.toList len).toArray := hrep
          by_cases hz0 : len * s = 0
          · have hl0 : len = 0 := by rcases Nat.mul_eq_zero.1 hz0 with h | h <;> omega
            subst hl0
            have hre : (rep z.cells.toList 0).toArray = #[] := rfl
            rw [hre] at h3
            simp only [Instr.buildSlice, Sem.run_bind, run_underlying hT, Result.andThen_ok, hso, Nat.zero_mul, gt_iff_lt, Nat.not_lt_zero, if_false, if_true, Sem.run_pure, hlist]
            rw [show Array.range 0 = #[] from rfl, Array.map_empty, h3]
            simp [newRow]
          · simp only [Instr.buildSlice, Sem.run_bind, run_underlying hT, Result.andThen_ok, hso, gt_iff_lt, show ¬ (2 ^ 24 < len * s) by omega, if_false, Sem.run_pure, hz0, hzv, hlist, hzs, hrep']
            simp [h3, newRow]
        · cases h
    · cases h
  · cases h

def makeSliceA (tb : Tab) (E : T AV) (H : AH) (t : TypeId) (l c : Operand) : Option (AV × AH) :=
  match slA tb t, pv E l, pv E c with
  | some (e, s), some vl, some vc => (match tb.ty.get e, natV vl, natV vc with
    | some i, some ln, some cp => bif Nat.beq i.zero.length s && Nat.ble ln cp && Nat.ble (cp * s) 16777216 && Nat.ble (i.bytes * cp) 281474976710656 && Nat.ble cp 4611686018427387904 then
        some (.sl H.next 0 ln (.k cp), H.new ⟨plMap (rep i.zero cp), e, false, 0, 0, .c⟩) else none
    | _, _, _ => none)
  | _, _, _ => none
theorem makeSliceA_ok (ok : TOk P tb w0) {ρ : Names} {E : T AV} {a : Act} {H H' : AH} {w : World} (hF : FR n ds ρ E a) (hH : HR w0 ρ H w) {t : TypeId} {l c : Operand} {y : AV} (h : makeSliceA tb E H t l c = some (y, H')) :
    ∃ ρ' w' v, (Instr.makeSlice t (a.eval l) (a.eval c)).run P w = .ok v w' ∧ Post w0 ρ H w ρ' H' w' ∧ VR ρ' y v := by
  unfold makeSliceA at h
  split at h
  · rename_i e s vl vc hs hvl hvc
    obtain ⟨hT, inf', hinf', hsz⟩ := slA_ok ok hs
    split at h
    · rename_i i ln cp hi hl hc
      obtain ⟨d, inf, z, hd, hinf, hz, hk, hs', hby, hzero⟩ := ok.at_ hi
      obtain rfl : inf = inf' := by rw [hinf] at hinf'; exact Option.some.inj hinf'
      obtain ⟨kl, rfl⟩ := natV_ok hl
      obtain ⟨kc, rfl⟩ := natV_ok hc
      cases hq : (Nat.beq i.zero.length s && Nat.ble ln cp && Nat.ble (cp * s) 16777216 && Nat.ble (i.bytes * cp) 281474976710656 && Nat.ble cp 4611686018427387904) with
      | false => rw [hq] at h; cases h
      | true =>
        rw [hq] at h
        simp only [Bool.and_eq_true, Nat.ble_eq] at hq
        obtain ⟨⟨⟨⟨q1, q2⟩, q3⟩, q4⟩, q5⟩ := hq
        have q1 := Nat.eq_of_beq_eq_true q1
        cases h
        have hzs : z.cells.size = inf.size := by rw [← Array.length_toList, ← hzero, hsz]; exact q1
        have hrun := run_makeSlice (P := P) w t e inf z hT hinf hz kl kc (ln : Int) (cp : Int) (by omega) (by omega) (by rw [hsz, Int.toNat_natCast]; exact q3) (by rw [← hby]; have q4' := Int.ofNat_le.2 q4; rw [Int.natCast_mul] at q4'; exact q4') (by omega)
        have hmc : madeCells z.cells ((cp : Int).toNat * inf.size) = (rep z.cells.toList cp).toArray := by
          rw [← hzs]; exact rep_ok z.cells cp
        rw [hmc] at hrun
        obtain ⟨ρ', h5, h6⟩ := new_ok hH (c := (rep z.cells.toList cp).toArray) (l := plMap (rep i.zero cp)) e (by rw [hzero]; exact VRL.plMap _)
        refine ⟨ρ', _, .slice (some ⟨w.heap.size, 0, none⟩) ln cp, ?_, h5, by rw [VR]; exact ⟨_, cp, h6, rfl, q2, by simp only [maxLen]; omega, rfl⟩⟩
        rw [hF.pv hvl, hF.pv hvc]
        simpa using hrun
    · cases h
  · cases h
end
end Go.Ev

namespace Go.Ev
open Go.RowKit Go.Sx
set_option linter.unusedVariables false
set_option linter.unusedSimpArgs false

section
variable {P : Program} {tb : Tab} {w0 : World} {n : Nat} {ds : List Deferred}

def isStr (tb : Tab) (t : TypeId) : Bool := match tb.ty.get t with | some i => (match i.k with | .str => true | _ => false) | none => false
theorem isStr_ok (ok : TOk P tb w0) {t : TypeId} (h : isStr tb t = true) : P.underlying t = some .string := by
  unfold isStr at h
  split at h
  · rename_i i hi
    obtain ⟨d, inf, z, hd, _, _, hk, _⟩ := ok.at_ hi
    rw [hk] at h
    cases d <;> simp only [kindT] at h <;> first | (cases h; done) | exact hd
  · cases h
def isU8 (tb : Tab) (t : TypeId) : Bool := match tb.ty.get t with | some i => (match i.k with | .int .u8 => true | _ => false) | none => false
theorem isU8_ok (ok : TOk P tb w0) {t : TypeId} (h : isU8 tb t = true) : P.underlying t = some (.int .u8) := by
  unfold isU8 at h
  split at h
  · rename_i i hi
    obtain ⟨d, inf, z, hd, _, _, hk, _⟩ := ok.at_ hi
    rw [hk] at h
    cases d <;> simp only [kindT] at h <;> try (cases h; done)
    rename_i k
    cases k <;> simp only at h <;> first | (cases h; done) | exact hd
  · cases h

/-- what is appended or copied: how many elements, their cells -/
def srcA (tb : Tab) (H : AH) (es : Nat) (tx : TypeId) (x : AV) : Option (Nat × List AV) :=
  match x with
  | .sl id off m _ => (match H.get id, slA tb tx with
    | some k, some _ => let l := (k.cells.drop off).take (m * es); bif Nat.beq l.length (m * es) && l.all isOne then some (m, l) else none
    | _, _ => none)
  | .pl (.slice none 0 _) => (match slA tb tx with | some _ => some (0, []) | none => none)
  | .em => (match slA tb tx with | some _ => some (0, []) | none => none)
  | .pl (.string s) => bif isStr tb tx && Nat.beq es 1 then some (s.size, plMap (byteCells s)) else none
  | _ => none
theorem srcA_ok (ok : TOk P tb w0) {ρ : Names} {H : AH} {w : World} (hH : HR w0 ρ H w) {es m : Nat} {tx : TypeId} {x : AV} {v : Value} {l : List AV} (h : srcA tb H es tx x = some (m, l)) (hv : VR ρ x v) :
    ∃ news, Src P es tx v m news w ∧ VRL ρ l news ∧ l.all isOne = true := by
  unfold srcA at h
  split at h
  · rename_i id off m' cap
    rw [VR] at hv
    obtain ⟨b, c, hb, rfl, _⟩ := hv
    split at h
    · rename_i k z hk hz
      obtain ⟨e', s'⟩ := z
      obtain ⟨hT, _⟩ := slA_ok ok hz
      cases hq : (Nat.beq ((k.cells.drop off).take (m' * es)).length (m' * es) && ((k.cells.drop off).take (m' * es)).all isOne) with
      | false => simp only [hq] at h; cases h
      | true =>
        simp only [hq, cond_true, Option.some.injEq, Prod.mk.injEq] at h
        obtain ⟨rfl, rfl⟩ := h
        simp only [Bool.and_eq_true] at hq
        obtain ⟨vs, hvs, hc⟩ := (hH.at_ hk hb).cell
        have hl := (hvs.drop off).take (m' * es)
        refine ⟨_, Src.ofSlice w hT ⟨b.1, off, none⟩ m' c ((vs.drop off).take (m' * es)) (by rw [hl.length]; exact Nat.eq_of_beq_eq_true hq.1) (fun j u hu => ?_) (hl.one hq.2), hl, hq.2⟩
        rw [Addr.add_mid]
        exact rangeAt_of hc off (m' * es) j u hu
    · cases h
  · rename_i c
    rw [VR] at hv
    subst hv
    split at h
    · rename_i z hz
      obtain ⟨e', s'⟩ := z
      obtain ⟨hT, _⟩ := slA_ok ok hz
      cases h
      exact ⟨[], Src.ofNil w hT c, VRL.mk0, rfl⟩
    · cases h
  · rw [VR] at hv
    obtain ⟨a9, c, rfl, _⟩ := hv
    split at h
    · rename_i z hz
      obtain ⟨e', s'⟩ := z
      obtain ⟨hT, _⟩ := slA_ok ok hz
      cases h
      exact ⟨[], Src.ofSlice w hT a9 0 c [] (by simp) (fun j u hu => by simp at hu) (fun u hu => by simp at hu), VRL.mk0, rfl⟩
    · cases h
  · rename_i s
    rw [VR] at hv
    subst hv
    cases hq : (isStr tb tx && Nat.beq es 1) with
    | false => rw [hq] at h; cases h
    | true =>
      rw [hq] at h
      simp only [cond_true, Option.some.injEq, Prod.mk.injEq] at h
      obtain ⟨rfl, rfl⟩ := h
      simp only [Bool.and_eq_true] at hq
      obtain rfl := Nat.eq_of_beq_eq_true hq.2
      refine ⟨byteCells s, Src.ofString w (isStr_ok ok hq.1) s, VRL.plMap _, ?_⟩
      simp only [plMap, byteCells, List.all_map]
      rw [List.all_eq_true]
      intro y _
      rfl
  · cases h

theorem BR.head {ρ : Names} {k : ABlk} {cp : Nat} {o : Option Obj} (h : BR ρ k cp o) (hm : k.more = true) (m : Nat) : BR ρ { k with cells := k.cells.take m } cp o := by
  rcases h with ⟨hkk, vs, rest, fr, h1, h2, h3, h4, h5⟩ | ⟨_, h2, _⟩
  rotate_left
  · rw [h2] at hm; cases hm
  have e : vs.take m ++ (vs.drop m ++ rest) = vs ++ rest := by rw [← List.append_assoc, List.take_append_drop]
  exact .inl ⟨hkk, vs.take m, vs.drop m ++ rest, fr, by rw [e]; exact h1, h2.take m, (fun h => by have h' : k.more = false := h; rw [hm] at h'; cases h'), (fun _ => by rw [e]; exact h4 hm), h5⟩

theorem app_none (t tx ty e : TypeId) (i : TypeInfo) (ht : P.underlying t = some (.slice e)) (hi : P.info? e = some i) (x : Value) {w : World} (hs : Src P i.size tx x 0 [] w) :
    (Builtin.append_ #[t, tx] ty #[.slice none 0 0, x]).run P w = .ok (.slice none 0 0) w := by
  have hc := hs.cells
  rcases hs.kind with ⟨e', hk⟩ | hk <;> simp [Builtin.append_, run_underlying ht, run_underlying hk, sizeOf, typeInfo, hi, hs.len, hc]
theorem app_zero (t tx ty e : TypeId) (i : TypeInfo) (ht : P.underlying t = some (.slice e)) (hi : P.info? e = some i) (x : Value) {w : World} (hs : Src P i.size tx x 0 [] w) (b off len cap : Nat) (hlc : len ≤ cap) :
    (Builtin.append_ #[t, tx] ty #[.slice (some ⟨b, off, none⟩) len cap, x]).run P w = .ok (.slice (some ⟨b, off, none⟩) len cap) w := by
  have := run_append_room_src (P := P) w t tx ty e i ht hi b off len cap x 0 [] hs (by omega) (fun j hj => by simp at hj) (fun j hj => by simp at hj)
  simpa [World.setCells] using this

/-- the new row of an append that grows -/
theorem grow_ok {ρ : Names} {H : AH} {w : World} (hH : HR w0 ρ H w) (fz : Nat) (t tx ty e : TypeId) (i : TypeInfo) (z : Value) (ht : P.underlying t = some (.slice e)) (hi : P.info? e = some i) (hz : i.zero = some z) (hzs : z.cells.size = i.size)
    (base : Option Addr) (sLen sCap m : Nat) (olds news : List Value) (lo ln : List AV) (hold : (Builtin.firstCells i.size sLen (.slice base sLen sCap)).run P w.drew = .ok olds.toArray w.drew) (ho : VRL ρ lo olds) (hol : olds.length = sLen * i.size)
    (x : Value) (hs : Src P i.size tx x m news w) (hn : VRL ρ ln news) (hg : sCap < sLen + m) (hb : (sLen + m) * i.bytes ≤ 140737488355328) (hml : sLen + m ≤ 4611686018427387904) :
    ∃ ρ' w' v, (Builtin.append_ #[t, tx] ty #[.slice base sLen sCap, x]).run P w = .ok v w' ∧ Post w0 ρ H w ρ' (H.new ⟨lo ++ ln, e, true, i.size, fz, .c⟩) w' ∧ VR ρ' (.sl H.next 0 (sLen + m) (.u 0)) v := by
  have hr := run_append_grow_src (P := P) w t tx ty e i z ht hi hz base sLen sCap olds hold x m news hs hg (by omega) (growslice_fits hg hb)
  have hge := grownCap_ge w (sLen + m) sCap e
  have hle := grownCap_le_maxLen w (sLen + m) sCap e (by simp only [maxLen]; omega)
  have ha := Post.alloc hH.drew ⟨lo ++ ln, e, true, i.size, fz, .c⟩ (grownCap w (sLen + m) sCap e) (olds ++ news) (Builtin.zeroCells z.cells (grownCap w (sLen + m) sCap e - (sLen + m))).toList rfl (ho.app hn) (fun h => by cases h) (fun _ => by
    simp only [List.length_append, Array.length_toList, size_zeroCells, hol, hs.newsLen, hzs]
    rw [← Nat.add_mul, ← Nat.add_mul]
    congr 1
    omega)
  have e1 : ((olds ++ news ++ (Builtin.zeroCells z.cells (grownCap w (sLen + m) sCap e - (sLen + m))).toList).toArray : Array Value) = (olds ++ news).toArray ++ Builtin.zeroCells z.cells (grownCap w (sLen + m) sCap e - (sLen + m)) := by
    apply Array.toList_inj.1; simp
  rw [e1] at ha
  refine ⟨_, _, _, hr, ⟨ha.1.ext, ha.1.hr, ha.1.wr, ha.1.same, ha.1.kept, ha.1.size, ha.1.frame, ha.1.fresh⟩, ?_⟩
  rw [VR]
  exact ⟨_, _, ha.2, rfl, hge, hle, rfl⟩

def appendA (tb : Tab) (H : AH) (t tx : TypeId) (s x : AV) : Option (AV × AH) :=
  match slA tb t with
  | some (e, es) => (match tb.ty.get e, srcA tb H es tx x with
    | some i, some (m, l) => bif Nat.beq i.zero.length es then (match s with
      | .pl (.slice none 0 0) => (match m with
        | 0 => some (.pl (.slice none 0 0), H)
        | m => bif Nat.ble (m * i.bytes) 140737488355328 && Nat.ble m 4611686018427387904 then some (.sl H.next 0 (0 + m) (.u 0), H.new ⟨[] ++ l, e, true, es, 0, .c⟩) else none)
      | .sl id off len cap => (match m with
        | 0 => some (.sl id off len cap, H)
        | m => (match H.get id with
          | some k => (match cap with
            | .k c => bif Nat.ble (len + m) c
              then (bif Nat.ble (off + len * es + l.length) k.cells.length && Nat.ble k.frz (off + len * es) then some (.sl id off (len + m) (.k c), H.put id { k with cells := k.cells.take (off + len * es) ++ (l ++ k.cells.drop (off + len * es + l.length)) }) else none)
              else (let o := (k.cells.drop off).take (len * es)
                bif Nat.beq o.length (len * es) && Nat.ble ((len + m) * i.bytes) 140737488355328 && Nat.ble (len + m) 4611686018427387904 then some (.sl H.next 0 (len + m) (.u 0), H.new ⟨o ++ l, e, true, es, 0, .c⟩) else none)
            | .u d => bif Nat.beq d 0 && Nat.beq off 0 && k.more && Nat.beq k.es es && Nat.beq k.ty e && Nat.ble k.frz (len * es) && Nat.ble (len * es) k.cells.length && Nat.ble ((len + m) * i.bytes) 140737488355328 && Nat.ble (len + m) 4611686018427387904
              then some (.sl H.next 0 (len + m) (.u 0), (H.del id).new ⟨k.cells.take (len * es) ++ l, e, true, es, k.frz, .c⟩) else none)
          | none => none))
      | _ => none) else none
    | _, _ => none)
  | none => none

theorem first_slice {w : World} (b off len cap size : Nat) (vs : List Value) (hl : vs.length = len * size) (h : w.rangeAt b off vs) : (Builtin.firstCells size len (.slice (some ⟨b, off, none⟩) len cap)).run P w = .ok vs.toArray w :=
  run_firstCells_some w size len ⟨b, off, none⟩ len cap vs hl (fun j u hu => by rw [Addr.add_mid]; exact h j u hu)

theorem appendA_ok (ok : TOk P tb w0) {ρ : Names} {H H' : AH} {w : World} (hH : HR w0 ρ H w) {t tx ty : TypeId} {s x y : AV} {vs vx : Value} (h : appendA tb H t tx s x = some (y, H')) (hs : VR ρ s vs) (hx : VR ρ x vx) :
    ∃ ρ' w' v, (Builtin.append_ #[t, tx] ty #[vs, vx]).run P w = .ok v w' ∧ Post w0 ρ H w ρ' H' w' ∧ VR ρ' y v := by
  unfold appendA at h
  split at h
  · rename_i e es he
    obtain ⟨hT, inf', hinf', hsz⟩ := slA_ok ok he
    split at h
    · rename_i i m l hi hsrc
      obtain ⟨d, inf, z, hd, hinf, hz, hk, hs', hby, hzero⟩ := ok.at_ hi
      obtain rfl : inf = inf' := by rw [hinf] at hinf'; exact Option.some.inj hinf'
      subst hsz
      obtain ⟨news, hS, hl, hone⟩ := srcA_ok ok hH hsrc hx
      cases hzl : Nat.beq i.zero.length inf.size with
      | false => rw [hzl] at h; cases h
      | true =>
        rw [hzl] at h
        simp only [cond_true] at h
        have hzs : z.cells.size = inf.size := by rw [← Array.length_toList, ← hzero]; exact Nat.eq_of_beq_eq_true hzl
        have hnl := hS.newsLen
        have hll : l.length = news.length := hl.length.symm
        split at h
        · rw [VR] at hs
          subst hs
          split at h
          · cases h
            have : news = [] := List.eq_nil_of_length_eq_zero (by simpa using hnl)
            subst this
            exact ⟨ρ, w, _, app_none t tx ty e inf hT hinf vx hS, Post.refl hH, VR.pl⟩
          · rename_i m' hm0
            cases hq : (Nat.ble (m * i.bytes) 140737488355328 && Nat.ble m 4611686018427387904) with
            | false => rw [hq] at h; cases h
            | true =>
              rw [hq] at h
              cases h
              simp only [Bool.and_eq_true, Nat.ble_eq] at hq
              exact grow_ok hH 0 t tx ty e inf z hT hinf hz hzs none 0 0 m [] news [] l (run_firstCells_none w.drew inf.size 0 0 0) VRL.mk0 (by simp) vx hS hl (by
                have : m ≠ 0 := fun e => hm0 e
                omega) (by rw [← hby]; simpa using hq.1) (by omega)
        · rename_i id off len cap
          rw [VR] at hs
          obtain ⟨b, c, hb, rfl, hlc, hcm, hcap⟩ := hs
          split at h
          · cases h
            have : news = [] := List.eq_nil_of_length_eq_zero (by simpa using hnl)
            subst this
            exact ⟨ρ, w, _, app_zero t tx ty e inf hT hinf vx hS b.1 off len c hlc, Post.refl hH, by rw [VR]; exact ⟨b, c, hb, rfl, hlc, hcm, hcap⟩⟩
          · rename_i m' hm0
            split at h
            · rename_i k hkk
              have hB := hH.at_ hkk hb
              split at h
              · rename_i c'
                have hc' : c = c' := hcap
                subst hc'
                cases hroom : Nat.ble (len + m) c with
                | true =>
                  rw [hroom] at h
                  simp only [cond_true] at h
                  have hroom' : len + m ≤ c := by simpa using hroom
                  cases hq : (Nat.ble (off + len * inf.size + l.length) k.cells.length && Nat.ble k.frz (off + len * inf.size)) with
                  | false => rw [hq] at h; cases h
                  | true =>
                    rw [hq] at h
                    cases h
                    simp only [Bool.and_eq_true, Nat.ble_eq] at hq
                    have hfr := hB.free (m := l.length) hq.2 (.inl hq.1)
                    have hr := run_append_room_src (P := P) w t tx ty e inf hT hinf b.1 off len c vx m news hS hroom' (fun j hj => hfr.1 j (by omega)) (fun j hj => hfr.2 j (by omega))
                    exact ⟨ρ, _, _, hr, Post.write hH hkk hb hl hq.1, by rw [VR]; exact ⟨b, c, hb, rfl, hroom', hcm, rfl⟩⟩
                | false =>
                  rw [hroom] at h
                  simp only [cond_false] at h
                  have hroom' : c < len + m := by
                    rcases Nat.lt_or_ge c (len + m) with h9 | h9
                    · exact h9
                    · rw [Nat.ble_eq_true_of_le h9] at hroom; cases hroom
                  cases hq : (Nat.beq ((k.cells.drop off).take (len * inf.size)).length (len * inf.size) && Nat.ble ((len + m) * i.bytes) 140737488355328 && Nat.ble (len + m) 4611686018427387904) with
                  | false => rw [hq] at h; cases h
                  | true =>
                    rw [hq] at h
                    cases h
                    simp only [Bool.and_eq_true, Nat.ble_eq] at hq
                    obtain ⟨us, hus, hcl⟩ := hB.cell
                    have ho := (hus.drop off).take (len * inf.size)
                    have hol : ((us.drop off).take (len * inf.size)).length = len * inf.size := by rw [ho.length]; exact Nat.eq_of_beq_eq_true hq.1.1
                    exact grow_ok hH 0 t tx ty e inf z hT hinf hz hzs _ len c m _ news _ l (first_slice b.1 off len c inf.size _ hol (by have := rangeAt_of hcl off (len * inf.size); exact fun j u hu => this j u hu)) ho hol vx hS hl hroom' (by rw [← hby]; exact hq.1.2) hq.2
              · rename_i dd
                cases hq : (Nat.beq dd 0 && Nat.beq off 0 && k.more && Nat.beq k.es inf.size && Nat.beq k.ty e && Nat.ble k.frz (len * inf.size) && Nat.ble (len * inf.size) k.cells.length && Nat.ble ((len + m) * i.bytes) 140737488355328 && Nat.ble (len + m) 4611686018427387904) with
                | false => rw [hq] at h; cases h
                | true =>
                  rw [hq] at h
                  cases h
                  simp only [Bool.and_eq_true, Nat.ble_eq] at hq
                  obtain ⟨⟨⟨⟨⟨⟨⟨⟨q1, q2⟩, q3⟩, q4⟩, q5⟩, q6⟩, q7⟩, q8⟩, q9⟩ := hq
                  obtain rfl := Nat.eq_of_beq_eq_true q1
                  obtain rfl := Nat.eq_of_beq_eq_true q2
                  have q4 := Nat.eq_of_beq_eq_true q4
                  have q5 := Nat.eq_of_beq_eq_true q5
                  have hcp : c = b.2 := by have : c + 0 = b.2 := hcap; omega
                  have hdel := Post.del hH id
                  obtain ⟨us, hus, hcl⟩ := hB.cell
                  have ho := hus.take (len * inf.size)
                  have hol : (us.take (len * inf.size)).length = len * inf.size := by rw [List.length_take, hus.length]; omega
                  by_cases hroom : len + m ≤ c
                  · have hle : 0 + len * inf.size + l.length ≤ b.2 * k.es := by
                      rw [hll, hnl, q4, ← hcp, Nat.zero_add, ← Nat.add_mul]; exact Nat.mul_le_mul_right _ hroom
                    have hfr := hB.free (off := 0 + len * inf.size) (m := l.length) (by omega) (.inr ⟨q3, hle⟩)
                    have hr := run_append_room_src (P := P) w t tx ty e inf hT hinf b.1 0 len c vx m news hS hroom (fun j hj => hfr.1 j (by omega)) (fun j hj => hfr.2 j (by omega))
                    have hBw := (hB.head q3 (len * inf.size)).write (off := 0 + len * inf.size) hl (by simp; omega) (.inr ⟨q3, hle⟩)
                    have hkc : k.k = .c := by
                      rcases hB with h9 | ⟨_, h9, _⟩
                      · exact h9.1
                      · rw [q3] at h9; cases h9
                    have e1 : ({ k with cells := (k.cells.take (len * inf.size)).take (0 + len * inf.size) ++ (l ++ (k.cells.take (len * inf.size)).drop (0 + len * inf.size + l.length)) } : ABlk) = ⟨k.cells.take (len * inf.size) ++ l, e, true, inf.size, k.frz, .c⟩ := by
                      rw [Nat.zero_add, List.take_take, Nat.min_self, List.drop_eq_nil_of_le (by simp; omega), List.append_nil, q5, q3, q4, hkc]
                    rw [e1] at hBw
                    have hbig := (hH.rng id b hb)
                    have hP := HR.name hdel.hr ⟨k.cells.take (len * inf.size) ++ l, e, true, inf.size, k.frz, .c⟩ b.1 b.2 (w' := w.setCells b.1 (0 + len * inf.size) news) (hH.bel.trans (Lib.below_setCells_w hbig.1 _ _ _)) (by rw [setCells_size]; exact Nat.le_refl _) (by rw [setCells_size]; exact hbig)
                      (fun j g xx hj hg he' => (AH.get_del hj).1 (hH.inj j id g b xx k (AH.get_del hj).2 hkk hg hb he')) (fun j g xx hj hg => setCells_other (fun he' => (AH.get_del hj).1 (hH.inj j id g b xx k (AH.get_del hj).2 hkk hg hb he')) _ _ _) hBw
                    refine ⟨_, _, _, hr, ⟨Ext.snoc _ _, hP.1, fun j hj => List.mem_cons_of_mem _ hj, fun j xx hj hn => AH.new_same hdel.hr _ (hdel.same j xx hj hn), fun j g xx hj hn hg => setCells_other (fun he' => hn (by rw [hH.inj j id g b xx k hj hkk hg hb he']; exact List.mem_cons_self ..)) _ _ _, by rw [setCells_size]; exact Nat.le_refl _, fun c' _ hu => setCells_other (fun he' => hu id b k hkk hb he'.symm) _ _ _, fun j g xx hj hg => ?_⟩, ?_⟩
                    · rcases name_fresh hdel.hr hj hg with h1 | ⟨h1, h2⟩
                      · exact .inr ⟨id, b, k, hkk, hb, h1.symm⟩
                      · exact .inr ⟨j, g, xx, (AH.get_del h1).2, h2, rfl⟩
                    · rw [VR]
                      exact ⟨_, c, hP.2, rfl, hroom, hcm, by show c + 0 = b.2; omega⟩
                  · have hg := grow_ok hdel.hr k.frz t tx ty e inf z hT hinf hz hzs (some ⟨b.1, 0, none⟩) len c m (us.take (len * inf.size)) news (k.cells.take (len * inf.size)) l (first_slice b.1 0 len c inf.size _ hol (by have := rangeAt_of hcl 0 (len * inf.size); simpa using this)) ho hol vx hS hl (by omega) (by rw [← hby]; exact q8) q9
                    obtain ⟨ρ', w', v, g1, g2, g3⟩ := hg
                    refine ⟨ρ', w', v, g1, ?_, g3⟩
                    exact hdel.trans g2
            · cases h
        · cases h
    · cases h
  · cases h
end
end Go.Ev

namespace Go.Ev
open Go.RowKit Go.Sx
set_option linter.unusedVariables false
set_option linter.unusedSimpArgs false

section
variable {P : Program} {tb : Tab} {w0 : World} {n : Nat} {ds : List Deferred}

theorem cond_some' {α : Type} {b : Bool} {x : Option α} {y : α} (h : (bif b then x else none) = some y) : b = true ∧ x = some y := by cases b <;> first | (cases h; done) | exact ⟨rfl, h⟩
/-! ### Bytes to a string -/
def bytesA : List AV → Option (List Int)
  | [] => some []
  | .pl (.int .u8 m) :: r => (match bytesA r with | some l => some (m :: l) | none => none)
  | _ => none
theorem bytesA_ok {ρ : Names} : ∀ {l : List AV} {ns : List Int} {vs : List Value}, bytesA l = some ns → VRL ρ l vs → vs = ns.map (Value.int .u8)
  | [], ns, vs, h, hv => by cases h; exact hv.nil
  | x :: r, ns, vs, h, hv => by
    obtain ⟨v, us, rfl, h1, h2⟩ := hv.cons
    unfold bytesA at h
    split at h
    · rename_i heq; cases heq
    · rename_i m r' heq
      cases heq
      split at h
      · rename_i l hl
        cases h
        rw [VR] at h1
        rw [h1, bytesA_ok hl h2]; rfl
      · cases h
    · cases h
theorem push_all : ∀ (ns : List Int) (s : ByteArray), ns.foldl (fun r m => r.push (UInt8.ofNat m.toNat)) s = ⟨s.data ++ (ns.map fun m => UInt8.ofNat m.toNat).toArray⟩
  | [], s => by simp
  | m :: ns, s => by
    rw [List.foldl_cons, push_all ns]
    congr 1
    apply Array.toList_inj.1
    simp [ByteArray.push]
def b2sA (tb : Tab) (H : AH) (src dst : TypeId) (x : AV) : Option AV :=
  match x, slA tb src with
  | .sl id off len _, some (e, 1) => (match H.get id with
    | some k => bif isU8 tb e && isStr tb dst then
      (let l := (k.cells.drop off).take len
       bif Nat.beq l.length len then (match bytesA l with | some ns => some (.pl (.string ⟨(ns.map fun m => UInt8.ofNat m.toNat).toArray⟩)) | none => none) else none) else none
    | none => none)
  | _, _ => none
theorem b2sA_ok (ok : TOk P tb w0) {ρ : Names} {H : AH} {w : World} (hH : HR w0 ρ H w) {src dst : TypeId} {x y : AV} {v : Value} (h : b2sA tb H src dst x = some y) (hv : VR ρ x v) : ∃ r, y = .pl r ∧ (convert src dst v).run P w = .ok r w := by
  unfold b2sA at h
  split at h
  · rename_i id off len cap e hsl
    obtain ⟨hT, inf, hinf, _⟩ := slA_ok ok hsl
    rw [VR] at hv
    obtain ⟨b, c, hb, rfl, _⟩ := hv
    split at h
    · rename_i k hk
      cases hq : (isU8 tb e && isStr tb dst) with
      | false => rw [hq] at h; cases h
      | true =>
        rw [hq] at h
        simp only [cond_true] at h
        simp only [Bool.and_eq_true] at hq
        cases hl : Nat.beq ((k.cells.drop off).take len).length len with
        | false => rw [hl] at h; cases h
        | true =>
          rw [hl] at h
          simp only [cond_true] at h
          split at h
          · rename_i ns hns
            cases h
            refine ⟨_, rfl, ?_⟩
            obtain ⟨us, hus, hcl⟩ := (hH.at_ hk hb).cell
            have hll := (hus.drop off).take len
            have he := bytesA_ok hns hll
            have hlen : ((us.drop off).take len).length = len := by rw [hll.length]; exact Nat.eq_of_beq_eq_true hl
            have hld : (loadCells ⟨b.1, off, none⟩ len).run P w = .ok (ns.map (Value.int .u8)).toArray w := by
              have := run_loadCells_list (P := P) w ⟨b.1, off, none⟩ ((us.drop off).take len) (fun j u hu => by rw [Addr.add_mid]; exact rangeAt_of hcl off len j u hu)
              rw [hlen, he] at this
              exact this
            have hr := run_bytesToString (P := P) w ⟨b.1, off, none⟩ len c ns hld
            rw [push_all] at hr
            have hcv : (convert src dst (.slice (some ⟨b.1, off, none⟩) len c)).run P w = (Conv.bytesToString (.slice (some ⟨b.1, off, none⟩) len c)).run P w := by
              simp only [convert, Sem.run_bind, run_underlying hT, run_underlying (isStr_ok ok hq.2), Result.andThen_ok, run_underlying (isU8_ok ok hq.1)]
            rw [hcv, hr]
            congr 3
            exact Array.empty_append
          · cases h
    · cases h
  · cases h

/-! ### A slice of an array -/
def sliceArrA (tb : Tab) (t : TypeId) (x : AV) (l h : Nat) : Option AV :=
  match x with
  | .ptr id off => (match arA tb t with
    | some (m, _, s) => bif Nat.ble l h && Nat.ble h m && Nat.ble m 4611686018427387904 then some (.sl id (bif Nat.beq m l then off else off + l * s) (h - l) (.k (m - l))) else none
    | none => none)
  | _ => none
theorem sliceArrA_ok (ok : TOk P tb w0) {E : T AV} {ρ : Names} {a : Act} (hF : FR n ds ρ E a) {t : TypeId} {x y : AV} {lo hi : Option Operand} {l h : Nat} {m e s : Nat} {v : Value} (hx : sliceArrA tb t x l h = some y) (hm : arA tb t = some (m, e, s)) (hv : VR ρ x v)
    (hl : bnd E 0 lo = some l) (hh : bnd E m hi = some h) : ∃ r, VR ρ y r ∧ ∀ w, (Instr.sliceAt t v (lo.map a.eval) (hi.map a.eval) none).run P w = .ok r w := by
  unfold sliceArrA at hx
  split at hx
  · rename_i id off
    rw [VR] at hv
    obtain ⟨b, hb, rfl⟩ := hv
    rw [hm] at hx
    obtain ⟨hT, inf, hi', hsz⟩ := arA_ok ok hm
    simp only at hx
    cases hq : (Nat.ble l h && Nat.ble h m && Nat.ble m 4611686018427387904) with
    | false => rw [hq] at hx; cases hx
    | true =>
      rw [hq] at hx
      simp only [Bool.and_eq_true, Nat.ble_eq] at hq
      cases hx
      refine ⟨.slice (some (if m = l then ⟨b.1, off, none⟩ else ⟨b.1, off + l * s, none⟩)) (h - l) (m - l), ?_, fun w => ?_⟩
      · rw [VR]
        refine ⟨b, m - l, hb, ?_, by omega, by simp only [maxLen]; omega, rfl⟩
        congr 2
        cases hcl : Nat.beq m l with
        | true => rw [if_pos (Nat.eq_of_beq_eq_true hcl)]; rfl
        | false => rw [if_neg (fun e => by rw [e] at hcl; simp at hcl)]; rfl
      · have hbd := bounds_ok hF (P := P) false hl hh hq.1.1 hq.1.2 w
        simp only [Instr.sliceAt, Sem.run_bind, run_underlying hT, Result.andThen_ok, Instr.sureAddr, hbd, sizeOf, typeInfo, Sem.run_pure, hi', hsz, program, Sem.run]
        by_cases hcl : m = l
        · simp [hcl]
        · simp [hcl, Addr.add_mid]
  · cases hx

/-! ### Calls -/
def calleeA (f : AV) (args : List AV) : Option (FuncId × List AV) :=
  match f with
  | .fn (.func g) p q => some (g, p ++ args ++ q)
  | .pl (.func (.func g) p q) => some (g, plMap p.toList ++ args ++ plMap q.toList)
  | _ => none
def callA (tb : Tab) (E : T AV) (f : Operand) (args : List Operand) : Option (FuncId × List AV) :=
  match opnd E f, opnds E args with
  | some x, some l => (match calleeA x l with
    | some (g, as') => (match tb.fn.get g with | some _ => some (g, as') | none => none)
    | none => none)
  | _, _ => none
theorem callA_ok (ok : TOk P tb w0) {E : T AV} {ρ : Names} {a : Act} (hF : FR n ds ρ E a) {f : Operand} {args : Array Operand} {argTypes : Array TypeId} {ty : TypeId} {g : FuncId} {l : List AV} (h : callA tb E f args.toList = some (g, l)) (w : World) :
    ∃ vs : List Value, (do let d ← resolve a.eval ⟨.value f, args, argTypes⟩ ty; invoke d.target d.args).run P w = .ok (.enter g vs.toArray) w ∧ VRL ρ l vs := by
  unfold callA at h
  split at h
  · rename_i x l' hx hl
    have hv := hF.opnd hx
    have hls := hF.opnds hl
    have am : args.map a.eval = (args.toList.map a.eval).toArray := by apply Array.toList_inj.1; simp
    split at h
    · rename_i g' as' hc
      split at h
      · rename_i u hfn
        cases h
        obtain ⟨fn, h1, h2, h3⟩ := ok.func hfn
        have hcf : ∀ xs : Array Value, (callFunc g xs).run P w = .ok (.enter g xs) w := fun xs => by
          have h2' : fn.name ≠ "runtime.NumGoroutine" := by simpa using h2
          have h3' : fn.body ≠ none := by intro e; rw [e] at h3; cases h3
          simp [callFunc, h1, h2', h3']
        unfold calleeA at hc
        split at hc
        · rename_i g2 p q
          cases hc
          rw [VR] at hv
          obtain ⟨vs, us, he, hp, hq⟩ := hv
          refine ⟨vs ++ args.toList.map a.eval ++ us, ?_, (hp.app hls).app hq⟩
          simp [resolve, Deferred.ofValue, he, invoke, hcf, am]
        · rename_i g2 p q
          cases hc
          rw [VR] at hv
          refine ⟨p.toList ++ args.toList.map a.eval ++ q.toList, ?_, ((VRL.plMap _).app hls).app (VRL.plMap _)⟩
          simp [resolve, Deferred.ofValue, hv, invoke, hcf, am]
        · cases hc
      · cases h
    · cases h
  · cases h

/-! ### Pointers that pass through unsafe.Pointer -/
def isC : BK → Bool
  | .c => true
  | _ => false
theorem isC_ok {k : BK} (h : isC k = true) : k = .c := by cases k <;> first | rfl | cases h
def upA (P : Program) (tb : Tab) (H : AH) (src dst : TypeId) (x : AV) : Option AV :=
  match x with
  | .ptr id off => (match H.get id with
    | some k => bif isC k.k then (match tkA tb src, tkA tb dst with
      | .ptr t, .uptr => (match sizeA tb t with
        | some (_ + 1) => bif Nat.blt off k.cells.length then some (.ptr id off) else none
        | _ => none)
      | .uptr, .ptr u => (match sizeA tb u with
        | some _ => bif !k.more && liesAt P P.depth k.ty (k.cells.length / P.cellsOf k.ty) off u 1 then some (.ptr id off) else none
        | none => none)
      | _, _ => none) else none
    | none => none)
  | _ => none
theorem BRc.shape {ρ : Names} {k : ABlk} {cp b : Nat} {w : World} (h : BRc ρ k cp w.heap[b]?) : ∃ m, w.shape? b = some (k.ty, m) ∧ k.cells.length ≤ m ∧ (k.more = false → m = k.cells.length) := by
  obtain ⟨vs, rest, fr, h1, h2, h3, _⟩ := h
  have hl := h2.length
  refine ⟨(vs ++ rest).length, by simp [World.shape?, h1], by simp; omega, fun hm => by rw [h3 hm]; simp; omega⟩
theorem upA_ok (ok : TOk P tb w0) {ρ : Names} {H : AH} {w : World} (hH : HR w0 ρ H w) {src dst : TypeId} {x y : AV} {v : Value} (h : upA P tb H src dst x = some y) (hv : VR ρ x v) : ∃ r, VR ρ y r ∧ (convert src dst v).run P w = .ok r w := by
  unfold upA at h
  split at h
  · rename_i id off
    have hv' := hv
    rw [VR] at hv
    obtain ⟨b, hb, rfl⟩ := hv
    split at h
    · rename_i k hk
      obtain ⟨hisc, h⟩ := cond_some' h
      obtain ⟨m, hsh, hle, hex⟩ := BRc.shape ((hH.at_ hk hb).c (isC_ok hisc))
      have hva : (viewAt b.1).run P w = .ok none w := by simp [viewAt, shape, Sem.run, hsh]
      have hseen : (Conv.seenAt ⟨b.1, off, none⟩).run P w = .ok ⟨b.1, off, none⟩ w := by simp [Conv.seenAt, hva]
      split at h
      · rename_i t hs hd
        obtain ⟨ds, hus, hks⟩ := tkA_ok ok hs (by simp)
        obtain ⟨dd, hud, hkd⟩ := tkA_ok ok hd (by simp)
        cases ds <;> simp only [kindT] at hks <;> try (cases hks; done)
        cases hks
        cases dd <;> simp only [kindT] at hkd <;> try (cases hkd; done)
        split at h
        · rename_i sz hsz
          obtain ⟨inf, hi, hsz'⟩ := sizeA_ok ok hsz
          cases hlt : Nat.blt off k.cells.length with
          | false => rw [hlt] at h; cases h
          | true =>
            rw [hlt] at h
            cases h
            refine ⟨_, hv', ?_⟩
            have hlt' : off < k.cells.length := by simpa [Nat.blt_eq] using hlt
            have hci : (cellsIn b.1).run P w = .ok (some m) w := by simp [cellsIn, shape, Sem.run, hsh]
            have hno : ¬ (m ≤ off) := by omega
            simp [convert, run_underlying hus, run_underlying hud, Conv.unsafePointer, hseen, hci, sizeOf, typeInfo, hi, hsz', hno]
        · cases h
      · rename_i u hs hd
        obtain ⟨ds, hus, hks⟩ := tkA_ok ok hs (by simp)
        obtain ⟨dd, hud, hkd⟩ := tkA_ok ok hd (by simp)
        cases ds <;> simp only [kindT] at hks <;> try (cases hks; done)
        cases dd <;> simp only [kindT] at hkd <;> try (cases hkd; done)
        cases hkd
        split at h
        · rename_i sz hsz
          obtain ⟨inf, hi, hsz'⟩ := sizeA_ok ok hsz
          obtain ⟨hq, h⟩ := cond_some' h
          cases h
          simp only [Bool.and_eq_true, Bool.not_eq_true'] at hq
          obtain ⟨q1, q2⟩ := hq
          have hm := hex q1
          refine ⟨_, hv', ?_⟩
          have hva2 : (variablesAt ⟨b.1, off, none⟩ u 1).run P w = .ok true w := by simp [variablesAt, shape, Sem.run, hsh, hm, q2]
          simp [convert, run_underlying hus, run_underlying hud, Conv.unsafePointer, hseen, sizeOf, typeInfo, hi, hva2]
        · cases h
      · cases h
    · cases h
  · cases h

/-! ### A call that hands back its argument -/
def idA (tb : Tab) (E : T AV) (f : Operand) (args : List Operand) : Option AV :=
  match opnd E f, args with
  | some (.pl (.func (.func g) p q)), [x] => (match tb.idf.get g, p.toList, q.toList with
    | some _, [], [] => opnd E x
    | _, _, _ => none)
  | _, _ => none
theorem idA_ok (ok : TOk P tb w0) {E : T AV} {ρ : Names} {a : Act} (hF : FR n ds ρ E a) {f : Operand} {args : Array Operand} {argTypes : Array TypeId} {ty : TypeId} {y : AV} (h : idA tb E f args.toList = some y) (w : World) :
    ∃ v, (do let d ← resolve a.eval ⟨.value f, args, argTypes⟩ ty; invoke d.target d.args).run P w = .ok (.value v) w ∧ VR ρ y v := by
  unfold idA at h
  split at h
  · rename_i g p q x hf hargs
    split at h
    · rename_i u hg hp hq
      have hv := hF.opnd hf
      rw [VR] at hv
      have h1 : args = #[x] := by apply Array.toList_inj.1; simpa using hargs
      have h2 : p = #[] := by apply Array.toList_inj.1; simpa using hp
      have h3 : q = #[] := by apply Array.toList_inj.1; simpa using hq
      subst h1 h2 h3
      refine ⟨_, ?_, hF.opnd h⟩
      have := ok.idf g u hg (a.eval x) w
      simp [resolve, Deferred.ofValue, hv, invoke, this]
    · cases h
  · cases h

/-! ### A row of so many bytes -/
def mnzA (tb : Tab) (E : T AV) (H : AH) (f : Operand) (args : List Operand) : Option (AV × AH) :=
  match opnd E f, args with
  | some (.pl (.func (.func g) p q)), [x] => (match tb.mnz.get g, p.toList, q.toList, pv E x with
    | some e, [], [], some (.int .i64 (.ofNat m)) => bif Nat.ble m 281474976710656 then some (.sl H.next 0 m (.u 0), H.new ⟨[], e, true, 1, 0, .c⟩) else none
    | _, _, _, _ => none)
  | _, _ => none
theorem mnzA_ok (ok : TOk P tb w0) {E : T AV} {ρ : Names} {a : Act} {w : World} {H H' : AH} (hF : FR n ds ρ E a) (hH : HR w0 ρ H w) {f : Operand} {args : Array Operand} {argTypes : Array TypeId} {ty : TypeId} {y : AV} (h : mnzA tb E H f args.toList = some (y, H')) :
    ∃ ρ' w' v, (do let d ← resolve a.eval ⟨.value f, args, argTypes⟩ ty; invoke d.target d.args).run P w = .ok (.value v) w' ∧ Post w0 ρ H w ρ' H' w' ∧ VR ρ' y v := by
  unfold mnzA at h
  split at h
  · rename_i g p q x hf hargs
    split at h
    · rename_i e m hg hp hq hx
      cases hle : Nat.ble m 281474976710656 with
      | false => rw [hle] at h; cases h
      | true =>
        rw [hle] at h
        cases h
        have hv := hF.opnd hf
        rw [VR] at hv
        have h1 : args = #[x] := by apply Array.toList_inj.1; simpa using hargs
        have h2 : p = #[] := by apply Array.toList_inj.1; simpa using hp
        have h3 : q = #[] := by apply Array.toList_inj.1; simpa using hq
        subst h1 h2 h3
        obtain ⟨cs, hrun, g1, g2⟩ := ok.mnz g e hg m w (by simpa using hle)
        have hxv : a.eval x = .int .i64 (m : Nat) := hF.pv hx
        have ha := Post.alloc hH.drew.drew ⟨[], e, true, 1, 0, .c⟩ cs.size [] cs.toList rfl VRL.mk0 (fun h => by cases h) (fun _ => by simp)
        have e1 : ([] ++ cs.toList).toArray = cs := by simp
        rw [e1] at ha
        refine ⟨_, _, .slice (some ⟨w.heap.size, 0, none⟩) m cs.size, ?_, ⟨ha.1.ext, ha.1.hr, ha.1.wr, ha.1.same, ha.1.kept, ha.1.size, ha.1.frame, ha.1.fresh⟩, ?_⟩
        · simp only [resolve, Deferred.ofValue, hv, invoke, List.map_toArray, List.map_cons, List.map_nil, hxv]
          simpa using hrun
        · rw [VR]
          exact ⟨_, _, ha.2, rfl, g1, g2, rfl⟩
    · cases h
  · cases h

/-! ### A string that shares a row of bytes -/
theorem run_loadBytes : ∀ (ns : List Int) (b off : Nat) (acc : ByteArray) (w : World), w.rangeAt b off (ns.map (Value.int .u8)) → (loadBytes ⟨b, off, none⟩ acc ns.length).run P w = .ok (ns.foldl (fun r m => r.push (UInt8.ofNat m.toNat)) acc) w
  | [], b, off, acc, w, _ => by simp [loadBytes]
  | m :: ns, b, off, acc, w, h => by
    have h0 := h 0 (.int .u8 m) rfl
    simp only [Nat.add_zero] at h0
    have ih := run_loadBytes ns b (off + 1) (acc.push (UInt8.ofNat m.toNat)) w (fun j u hu => by
      have := h (j + 1) u (by simpa using hu)
      rwa [show off + 1 + j = off + (j + 1) by omega])
    rw [List.length_cons, loadBytes]
    simp only [Sem.run_bind, load, Sem.run, h0, Result.andThen_ok, Addr.add_mid, List.foldl_cons]
    exact ih
def u8sA (tb : Tab) (H : AH) (pt : TypeId) (x : AV) (m : Nat) : Option (AV × AH) :=
  match x, tkA tb pt with
  | .ptr id off, .ptr u => (match H.get id, m with
    | some k, m' + 1 => (match sizeA tb k.ty with
      | some 1 => bif Nat.beq k.ty u && isC k.k then
        (let l := (k.cells.drop off).take (m' + 1)
         bif Nat.beq l.length (m' + 1) then (match bytesA l with
           | some ns => some (.pl (.string ⟨(ns.map fun m => UInt8.ofNat m.toNat).toArray⟩), H.put id { k with frz := max k.frz (off + (m' + 1)) })
           | none => none) else none) else none
      | _ => none)
    | _, _ => none)
  | _, _ => none
theorem depth_succ (P : Program) : P.depth = (2 * (P.types.size + Made.depth) + 1) + 1 := rfl
theorem lies_self {P : Program} {e count off m : Nat} (hc : P.cellsOf e = 1) (h : off + m ≤ count) : liesAt P P.depth e (count / P.cellsOf e) off e m = true := by
  rw [depth_succ, liesAt, depth_succ, rowAt]
  rw [← depth_succ, hc]
  have : sameLayout P P.depth e e = true := by rw [depth_succ, sameLayout]; simp
  simp [this, h, Nat.mod_one]
theorem freeze_blk {w : World} {b off m : Nat} {c : Array Value} {t : TypeId} {fr : Nat × Nat} (h : w.heap[b]? = some (.cells c t fr)) (hm : m ≠ 0) : ∃ fr', (w.freeze ⟨b, off, none⟩ m).heap[b]? = some (.cells c t fr') ∧ (∀ k, (fr.1 = fr.2 ∨ fr.2 ≤ k) → fr'.2 ≤ max k (off + m)) := by
  obtain ⟨lo, hi⟩ := fr
  refine ⟨if lo == hi then (off, off + m) else (min lo off, max hi (off + m)), by simp [World.freeze, hm, Array.getElem?_modify, h], fun k hk => ?_⟩
  by_cases he : lo = hi
  · simp [he]; omega
  · simp [he] at hk ⊢; omega
theorem freeze_other {w : World} {b off m j : Nat} (hj : j ≠ b) : (w.freeze ⟨b, off, none⟩ m).heap[j]? = w.heap[j]? := by
  unfold World.freeze
  split
  · rfl
  · simp [Array.getElem?_modify, Ne.symm hj]
theorem freeze_size {w : World} {a : Addr} {m : Nat} : (w.freeze a m).heap.size = w.heap.size := by
  unfold World.freeze
  split <;> simp
theorem freeze_below {B : Nat} {w : World} {b off m : Nat} (hb : B ≤ b) : Below B w (w.freeze ⟨b, off, none⟩ m) := by
  refine ⟨?_, ?_, ?_, by rw [freeze_size]; exact Nat.le_refl _, fun k hk => freeze_other (by omega)⟩ <;> (unfold World.freeze; split <;> rfl)
theorem u8sA_ok (ok : TOk P tb w0) {ρ : Names} {H H' : AH} {w : World} (hH : HR w0 ρ H w) {pt tl ty : TypeId} {x y : AV} {v : Value} {kd : IntKind} {m : Nat} (h : u8sA tb H pt x m = some (y, H')) (hv : VR ρ x v) (hm : m ≤ 4611686018427387904) :
    ∃ w' r, (Builtin.unsafeString_ #[pt, tl] ty #[v, .int kd (m : Int)]).run P w = .ok r w' ∧ Post w0 ρ H w ρ H' w' ∧ VR ρ y r := by
  unfold u8sA at h
  split at h
  · rename_i id off u hk
    obtain ⟨d, hud, hkd⟩ := tkA_ok ok hk (by simp)
    cases d <;> simp only [kindT] at hkd <;> try (cases hkd; done)
    cases hkd
    rw [VR] at hv
    obtain ⟨b, hb, rfl⟩ := hv
    split at h
    · rename_i k m' hkk
      split at h
      · rename_i hsz
        obtain ⟨inf, hi, hs⟩ := sizeA_ok ok hsz
        obtain ⟨e1, h1⟩ := cond_some' h
        rw [Bool.and_eq_true] at e1
        obtain ⟨e1, hisc⟩ := e1
        have hkc := isC_ok hisc
        obtain rfl := Nat.eq_of_beq_eq_true e1
        dsimp only at h1
        obtain ⟨e2, h2⟩ := cond_some' h1
        have e2 := Nat.eq_of_beq_eq_true e2
        clear h h1
        have h := h2
        clear h2
        split at h
        · rename_i ns hns
          cases h
          have hB := hH.at_ hkk hb
          obtain ⟨us, hus, hcl⟩ := hB.cell
          have hll := (hus.drop off).take (m' + 1)
          have hes := bytesA_ok hns hll
          have hlen : ns.length = m' + 1 := by
            have := congrArg List.length hes
            rw [hll.length, List.length_map] at this
            omega
          have hrg : w.rangeAt b.1 off (ns.map (Value.int .u8)) := by rw [← hes]; exact rangeAt_of hcl off (m' + 1)
          have hlb := run_loadBytes (P := P) ns b.1 off .empty w hrg
          rw [hlen, push_all] at hlb
          obtain ⟨mm, hsh, hle, _⟩ := BRc.shape (hB.c hkc)
          have hcl1 : P.cellsOf k.ty = 1 := by simp [Program.cellsOf, hi, hs]
          have hoff : off + (m' + 1) ≤ mm := by
            have : ((k.cells.drop off).take (m' + 1)).length = m' + 1 := e2
            rw [List.length_take, List.length_drop] at this
            omega
          have hva : (variablesAt ⟨b.1, off, none⟩ k.ty (m' + 1)).run P w = .ok true w := by
            simp only [variablesAt, shape, program, Sem.run, hsh, Sem.run_bind, Result.andThen_ok, Sem.run_pure]
            rw [lies_self hcl1 hoff]
          have hB' := hB.c hkc
          obtain ⟨vs, rest, fr, g1, g2, g3, g4, g5⟩ := hB'
          obtain ⟨fr', f1, f2⟩ := freeze_blk (off := off) (m := m' + 1) g1 (by omega)
          refine ⟨w.freeze ⟨b.1, off, none⟩ (m' + 1), .string ⟨(ns.map fun m => UInt8.ofNat m.toNat).toArray⟩, ?_, Post.put hH hkk hb (freeze_below (hH.rng id b hb).1) freeze_size (fun j hj => freeze_other hj) (.inl ⟨hkc, vs, rest, fr', f1, g2, g3, g4, .inr (f2 k.frz g5)⟩), VR.pl⟩
          have hn : ¬ ((((m' + 1 : Nat)) : Int) > IntKind.i64.max) := by
            have : IntKind.i64.max = 9223372036854775807 := by decide
            omega
          have hn0 : ¬ ((((m' + 1 : Nat)) : Int) < 0) := by omega
          have hn1 : ¬ ((((m' + 1 : Nat)) : Int) = 0) := by omega
          have he9 : ((ByteArray.empty.data ++ (ns.map fun m => UInt8.ofNat m.toNat).toArray)) = (ns.map fun m => UInt8.ofNat m.toNat).toArray := Array.empty_append
          rw [he9] at hlb
          have hpt : (elemOf pt).run P w = .ok k.ty w := by simp [elemOf, run_underlying hud]
          change Sem.run P (asInt (.int kd ((m' + 1 : Nat) : Int)) >>= _) w = _
          simp only [asInt, asIntOf, Sem.run_bind, Sem.run_pure, Result.andThen_ok, List.getElem?_toArray, List.getElem?_cons_zero, hn0, if_false, hn, hn1, hpt, Int.toNat_natCast, hva, if_true, hlb, freeze, Sem.run]
        · cases h
      · cases h
    · cases h
  · cases h

/-! ### One operation -/
def execE (P : Program) (tb : Tab) (E : T AV) (H : AH) (o : Oper) : Option (AR × AH) :=
  match o.op with
  | .store t x y => (match storeA tb E H t x y with | some H' => some (.skip, H') | none => none)
  | .alloc t => (match allocA tb H t with | some (x, H') => some (.val x, H') | none => none)
  | .box t x => (match boxA E H t x with | some (y, H') => some (.val y, H') | none => none)
  | .buildSlice t len ps => (match buildSliceA tb E H t len ps.toList with | some (y, H') => some (.val y, H') | none => none)
  | .makeSlice t l c => (match makeSliceA tb E H t l c with | some (y, H') => some (.val y, H') | none => none)
  | .convert s d x => (match opnd E x with
    | some y => (match b2sA tb H s d y with
      | some z => some (.val z, H)
      | none => (match upA P tb H s d y with | some z => some (.val z, H) | none => none))
    | none => none)
  | .slice t x lo hi none => (match opnd E x, arA tb t with
    | some y, some (m, _, _) => (match bnd E 0 lo, bnd E m hi with
      | some l, some h => (match sliceArrA tb t y l h with | some z => some (.val z, H) | none => none)
      | _, _ => none)
    | _, _ => none)
  | .call c => (match c.callee, c.args.toList, c.argTypes.toList with
    | .builtin .append, [s, x], [t, tx] => (match opnd E s, opnd E x with
      | some y, some z => (match appendA tb H t tx y z with | some (v, H') => some (.val v, H') | none => none)
      | _, _ => none)
    | .builtin .unsafeString, [p, l], [pt, _] => (match opnd E p, pv E l with
      | some y, some v => (match natV v with
        | some m => bif Nat.ble m 4611686018427387904 then (match u8sA tb H pt y m with | some (z, H') => some (.val z, H') | none => none) else none
        | none => none)
      | _, _ => none)
    | .value f, args, _ => (match callA tb E f args with
      | some (g, l) => some (.enter g l, H)
      | none => (match idA tb E f args with
        | some x => some (.val x, H)
        | none => (match mnzA tb E H f args with | some (x, H') => some (.val x, H') | none => none)))
    | _, _, _ => none)
  | _ => none

theorem execE_ok (ok : TOk P tb w0) {ρ : Names} {E : T AV} {a : Act} {H H' : AH} {w : World} (hF : FR n ds ρ E a) (hH : HR w0 ρ H w) {o : Oper} {r : AR} (h : execE P tb E H o = some (r, H')) : EOk P w0 ρ H a w o r H' := by
  obtain ⟨dst, op, type, pos, after, guard⟩ := o
  have hval : ∀ {s : Sem Value} {x : AV}, (∃ ρ' w' v, s.run P w = .ok v w' ∧ Post w0 ρ H w ρ' H' w' ∧ VR ρ' x v) → r = .val x → execOp a.eval ⟨dst, op, type, pos, after, guard⟩ = (do pure (Next.value (← s))) → EOk P w0 ρ H a w ⟨dst, op, type, pos, after, guard⟩ r H' := by
    intro s x hs hr he
    obtain ⟨ρ', w', v, h1, h2, h3⟩ := hs
    exact ⟨ρ', w', .value v, by rw [he]; simp [h1], h2, by rw [hr]; exact ⟨v, rfl, h3⟩⟩
  cases op <;> simp only [execE] at h <;> try (cases h; done)
  case store t x y =>
    split at h
    · rename_i H1 hs
      cases h
      obtain ⟨w', h1, h2⟩ := storeA_ok ok hF hH hs
      exact ⟨ρ, w', .skip, by simp [execOp, h1], h2, rfl⟩
    · cases h
  case alloc t =>
    split at h
    · rename_i x H1 hs
      cases h
      exact hval (allocA_ok ok hH hs) rfl rfl
    · cases h
  case box t x =>
    split at h
    · rename_i y H1 hs
      cases h
      exact hval (boxA_ok hF hH hs) rfl rfl
    · cases h
  case buildSlice t len ps =>
    split at h
    · rename_i y H1 hs
      cases h
      exact hval (buildSliceA_ok ok hF hH hs) rfl rfl
    · cases h
  case makeSlice t l c =>
    split at h
    · rename_i y H1 hs
      cases h
      exact hval (makeSliceA_ok ok hF hH hs) rfl rfl
    · cases h
  case convert s d x =>
    split at h
    · rename_i y hy
      split at h
      · rename_i z hz
        cases h
        obtain ⟨q, rfl, hq⟩ := b2sA_ok ok hH hz (hF.opnd hy)
        exact hval ⟨ρ, w, q, hq, Post.refl hH, VR.pl⟩ rfl rfl
      · split at h
        · rename_i z hz
          cases h
          obtain ⟨q, hq, hr⟩ := upA_ok ok hH hz (hF.opnd hy)
          exact hval ⟨ρ, w, q, hr, Post.refl hH, hq⟩ rfl rfl
        · cases h
    · cases h
  case slice t x lo hi mx =>
    cases mx with
    | some _ => cases h
    | none =>
      simp only at h
      split at h
      · rename_i y m e s hy hm
        split at h
        · rename_i l q hl hq
          split at h
          · rename_i z hz
            cases h
            obtain ⟨v, hv, hr⟩ := sliceArrA_ok ok hF hz hm (hF.opnd hy) hl hq
            exact hval ⟨ρ, w, v, hr w, Post.refl hH, hv⟩ rfl rfl
          · cases h
        · cases h
      · cases h
  case call c =>
    obtain ⟨callee, args, argTypes⟩ := c
    split at h
    · rename_i s x t tx hc hargs hts
      simp only at hc hargs hts
      subst hc
      have h1 : args = #[s, x] := by apply Array.toList_inj.1; simpa using hargs
      have h2 : argTypes = #[t, tx] := by apply Array.toList_inj.1; simpa using hts
      subst h1 h2
      split at h
      · rename_i y z hy hz
        split at h
        · rename_i v H1 hap
          cases h
          obtain ⟨ρ', w', u, g1, g2, g3⟩ := appendA_ok ok hH (ty := type) hap (hF.opnd hy) (hF.opnd hz)
          exact ⟨ρ', w', .value u, by simp [execOp, resolve, invoke, builtin, g1], g2, ⟨u, rfl, g3⟩⟩
        · cases h
      · cases h
    · rename_i p l pt tl hc hargs hts
      simp only at hc hargs hts
      subst hc
      have h1 : args = #[p, l] := by apply Array.toList_inj.1; simpa using hargs
      have h2 : argTypes = #[pt, tl] := by apply Array.toList_inj.1; simpa using hts
      subst h1 h2
      split at h
      · rename_i y v hy hv
        split at h
        · rename_i m hm
          obtain ⟨hle, h⟩ := cond_some' h
          split at h
          · rename_i z H1 hz
            cases h
            obtain ⟨kd, rfl⟩ := natV_ok hm
            obtain ⟨w', r, g1, g2, g3⟩ := u8sA_ok ok hH (tl := tl) (ty := type) (kd := kd) hz (hF.opnd hy) (by simpa using hle)
            exact ⟨ρ, w', .value r, by simp [execOp, resolve, invoke, builtin, hF.pv hv, g1], g2, ⟨r, rfl, g3⟩⟩
          · cases h
        · cases h
      · cases h
    · rename_i f hc
      simp only at hc
      subst hc
      split at h
      · rename_i g l hg
        cases h
        obtain ⟨vs, h1, h2⟩ := callA_ok ok hF (argTypes := argTypes) (ty := type) hg w
        exact ⟨ρ, w, .enter g vs.toArray, h1, Post.refl hH, ⟨vs, rfl, h2⟩⟩
      · split at h
        · rename_i x hx
          cases h
          obtain ⟨v, h1, h2⟩ := idA_ok ok hF (argTypes := argTypes) (ty := type) hx w
          exact ⟨ρ, w, .value v, h1, Post.refl hH, ⟨v, rfl, h2⟩⟩
        · split at h
          · rename_i x H1 hx
            cases h
            obtain ⟨ρ', w', v, h1, h2, h3⟩ := mnzA_ok ok hF hH (argTypes := argTypes) (ty := type) hx
            exact ⟨ρ', w', .value v, h1, h2, ⟨v, rfl, h3⟩⟩
          · cases h
    · cases h

def exec1 (P : Program) (tb : Tab) (E : T AV) (H : AH) (o : Oper) : Option (AR × AH) :=
  match execQ P tb E H o with
  | some x => some (.val x, H)
  | none => execE P tb E H o
theorem exec1_ok (ok : TOk P tb w0) {ρ : Names} {E : T AV} {a : Act} {H H' : AH} {w : World} (hF : FR n ds ρ E a) (hH : HR w0 ρ H w) {o : Oper} {r : AR} (h : exec1 P tb E H o = some (r, H')) : EOk P w0 ρ H a w o r H' := by
  unfold exec1 at h
  split at h
  · rename_i x hx
    cases h
    obtain ⟨v, hv, hr⟩ := execQ_ok ok hF hH hx
    exact ⟨ρ, w, .value v, hr w ⟨hH.bel, fun _ _ _ _ => rfl⟩, Post.refl hH, ⟨v, rfl, hv⟩⟩
  · exact execE_ok ok hF hH h
theorem cond_some {α : Type} {b : Bool} {x : Option α} {y : α} (h : (bif b then x else none) = some y) : x = some y := by cases b <;> first | (cases h; done) | exact h
theorem cond_or {α : Type} {b : Bool} {x z : Option α} {y : α} (h : (bif b then x else z) = some y) : x = some y ∨ z = some y := by cases b <;> simp_all
/-- what was written stays noted -/
theorem execE_wr {E : T AV} {H H' : AH} {o : Oper} {r : AR} (h : execE P tb E H o = some (r, H')) : ∀ i ∈ H.wr, i ∈ H'.wr := by
  have hput : ∀ (j : Nat) (k : ABlk), ∀ i ∈ H.wr, i ∈ (H.put j k).wr := fun j k i hi => List.mem_cons_of_mem _ hi
  have hnew : ∀ (k : ABlk), ∀ i ∈ H.wr, i ∈ (H.new k).wr := fun k i hi => hi
  have hdel : ∀ (j : Nat) (k : ABlk), ∀ i ∈ H.wr, i ∈ ((H.del j).new k).wr := fun j k i hi => List.mem_cons_of_mem _ hi
  obtain ⟨dst, op, type, pos, after, guard⟩ := o
  cases op <;> simp only [execE] at h <;> try (cases h; done)
  case store t x y =>
    split at h
    · rename_i H1 hs
      cases h
      unfold storeA at hs
      split at hs <;> try (cases hs; done)
      split at hs <;> try (cases hs; done)
      have hs := cond_some hs
      cases hs; exact hput _ _
    · cases h
  case alloc t =>
    split at h
    · rename_i x H1 hs
      cases h
      unfold allocA at hs
      split at hs <;> try (cases hs; done)
      cases hs
      exact hnew _
    · cases h
  case box t x =>
    split at h
    · rename_i y H1 hs
      cases h
      unfold boxA at hs
      split at hs <;> try (cases hs; done)
      split at hs <;> try (cases hs; done)
      have hs := cond_some hs
      cases hs; exact hnew _
    · cases h
  case buildSlice t len ps =>
    split at h
    · rename_i y H1 hs
      cases h
      unfold buildSliceA at hs
      split at hs <;> try (cases hs; done)
      split at hs <;> try (cases hs; done)
      have hs := cond_some hs
      split at hs <;> try (cases hs; done)
      cases hs; exact hnew _
    · cases h
  case makeSlice t l c =>
    split at h
    · rename_i y H1 hs
      cases h
      unfold makeSliceA at hs
      split at hs <;> try (cases hs; done)
      split at hs <;> try (cases hs; done)
      have hs := cond_some hs
      cases hs; exact hnew _
    · cases h
  case convert s d x =>
    split at h <;> try (cases h; done)
    split at h
    · cases h; exact fun i hi => hi
    · split at h <;> try (cases h; done)
      cases h; exact fun i hi => hi
  case slice t x lo hi mx =>
    cases mx with
    | some _ => cases h
    | none =>
      simp only at h
      split at h <;> try (cases h; done)
      split at h <;> try (cases h; done)
      split at h <;> try (cases h; done)
      cases h; exact fun i hi => hi
  case call c =>
    split at h
    · split at h <;> try (cases h; done)
      split at h <;> try (cases h; done)
      rename_i v H1 hap
      cases h
      unfold appendA at hap
      split at hap <;> try (cases hap; done)
      split at hap <;> try (cases hap; done)
      have hap := cond_some hap
      split at hap <;> try (cases hap; done)
      · split at hap
        · cases hap; exact fun i hi => hi
        · have hap := cond_some hap
          cases hap; exact hnew _
      · split at hap
        · cases hap; exact fun i hi => hi
        · split at hap <;> try (cases hap; done)
          split at hap
          · rcases cond_or hap with hap | hap
            · have hap := cond_some hap
              cases hap; exact hput _ _
            · have hap := cond_some hap
              cases hap; exact hnew _
          · have hap := cond_some hap
            cases hap; exact hdel _ _
    · split at h <;> try (cases h; done)
      split at h <;> try (cases h; done)
      have h := cond_some h
      split at h <;> try (cases h; done)
      rename_i z H1 hz
      cases h
      unfold u8sA at hz
      split at hz <;> try (cases hz; done)
      split at hz <;> try (cases hz; done)
      split at hz <;> try (cases hz; done)
      have hz := cond_some hz
      have hz := cond_some hz
      split at hz <;> try (cases hz; done)
      cases hz; exact hput _ _
    · split at h
      · cases h; exact fun i hi => hi
      · split at h
        · cases h; exact fun i hi => hi
        · split at h <;> try (cases h; done)
          rename_i x H1 hx
          cases h
          unfold mnzA at hx
          split at hx <;> try (cases hx; done)
          split at hx <;> try (cases hx; done)
          have hx := cond_some hx
          cases hx; exact hnew _
    · cases h
theorem exec1_wr {E : T AV} {H H' : AH} {o : Oper} {r : AR} (h : exec1 P tb E H o = some (r, H')) : ∀ i ∈ H.wr, i ∈ H'.wr := by
  unfold exec1 at h
  split at h
  · cases h; exact fun i hi => hi
  · exact execE_wr h
end
end Go.Ev

namespace Go.Ev
open Go.RowKit Go.Sx
set_option linter.unusedVariables false
set_option linter.unusedSimpArgs false

section
variable {P : Program} {tb : Tab} {w0 : World} {n : Nat} {ds : List Deferred}

def obj (k : BK) : ABlk := ⟨[], 0, false, 0, 0, k⟩
def setE : List (AV × AV × Nat) → Nat → Value → AV → List (AV × AV × Nat)
  | [], _, _, _ => []
  | (_, _, b) :: r, 0, k, v => (.pl k, v, b) :: r
  | e :: r, i + 1, k, v => e :: setE r i k v
def mapUpdA (tb : Tab) (H : AH) (mt : TypeId) (x : AV) (kv : Value) (v : AV) : Option AH :=
  match x with
  | .mp id => (match H.get id with
    | some k => (match k.k, tkA tb mt with
      | .m es cl, .mp kt _ => (match descA (tkA tb kt) with
        | some d => (match findA d kv es 0 with
          | some (some (i, _)) => some (H.put id (obj (.m (setE es i kv v) cl)))
          | some none => some (H.put id (obj (.m (es ++ [(.pl kv, v, cl)]) (cl + 1))))
          | none => none)
        | none => none)
      | _, _ => none)
    | none => none)
  | _ => none
def makeMapA (tb : Tab) (E : T AV) (H : AH) (t : TypeId) (r : Option Operand) : Option (AV × AH) :=
  match r with
  | none => some (.mp H.next, H.new (obj (.m [] 0)))
  | some x => (match tkA tb t, pv E x with
    | .mp _ _, some (.int _ _) => some (.mp H.next, H.new (obj (.m [] 0)))
    | _, _ => none)
def eraseE : List (AV × AV × Nat) → Nat → List (AV × AV × Nat)
  | [], _ => []
  | _ :: r, 0 => r
  | e :: r, i + 1 => e :: eraseE r i
def deleteA (tb : Tab) (H : AH) (mt : TypeId) (x : AV) (kv : Value) : Option AH :=
  match x with
  | .mp id => (match H.get id with
    | some k => (match k.k, tkA tb mt with
      | .m es cl, .mp kt _ => (match descA (tkA tb kt) with
        | some d => (match findA d kv es 0 with
          | some (some (i, _)) => some (H.put id (obj (.m (eraseE es i) cl)))
          | some none => some (H.put id (obj (.m es cl)))
          | none => none)
        | none => none)
      | _, _ => none)
    | none => none)
  | _ => none
/-- copy(dst, src) -/
def cutA : AV → Nat → AV
  | .sl id off m c, len => .sl id off (min m len) c
  | x, _ => x
def copyA (tb : Tab) (H : AH) (t ts : TypeId) (d x : AV) : Option (AV × AH) :=
  match slA tb t with
  | some (e, es) => (match d with
    | .sl id off len _ => (match srcA tb H es ts (cutA x len), H.get id with
      | some (q, c), some k => bif Nat.ble q len && Nat.ble (off + c.length) k.cells.length && Nat.ble k.frz off then
          some (.pl (.int .i64 (q : Int)), H.put id { k with cells := k.cells.take off ++ (c ++ k.cells.drop (off + c.length)) }) else none
      | _, _ => none)
    | _ => none)
  | none => none
def clearA (tb : Tab) (H : AH) (t : TypeId) (x : AV) : Option AH :=
  match x with
  | .sl id off len _ => (match slA tb t with
    | some (e, es) => (match len with
      | 0 => some H
      | len => (match tb.ty.get e, H.get id with
        | some i, some k => let c := plMap (rep i.zero len)
          bif c.all isOne && Nat.ble (off + c.length) k.cells.length && Nat.ble k.frz off then
            some (H.put id { k with cells := k.cells.take off ++ (c ++ k.cells.drop (off + c.length)) }) else none
        | _, _ => none))
    | none => none)
  | .pl (.slice none _ _) => (match slA tb t with | some _ => some H | none => none)
  | .mp id => (match H.get id, tkA tb t with
    | some k, .mp _ _ => (match k.k with
      | .m _ cl => some (H.put id (obj (.m [] cl)))
      | _ => none)
    | _, _ => none)
  | _ => none
def rangeA (tb : Tab) (H : AH) (t : TypeId) (x : AV) : Option (AV × AH) :=
  match x with
  | .pl (.string s) => bif isStr tb t then some (.ptr H.next 0, H.new (obj (.it s 0))) else none
  | .pl (.map none) => (match tkA tb t with | .mp _ _ => some (.ptr H.next 0, H.new (obj .mn)) | _ => none)
  | .mp id => (match H.get id, tkA tb t with
    | some k, .mp _ _ => (match k.k with
      | .m _ cl => some (.ptr H.next 0, H.new (obj (.mi id cl [] cl)))
      | _ => none)
    | _, _ => none)
  | _ => none
/-- the next entry of a map, if one is left at the most -/
def nextM (H : AH) (x : AV) : Option (AV × AH) :=
  match x with
  | .ptr id 0 => (match H.get id with
    | some k => (match k.k with
      | .mn => some (.tup [.pl (.bool false)], H)
      | .mi m since seen last => (match H.get m with
        | some km => (match km.k with
          | .m es cl => bif es.all (fun p => Nat.blt p.2.2 since) && Nat.ble since last then (match es.filter (fun p => !seen.contains p.2.2) with
            | [] => some (.tup [.pl (.bool false)], H)
            | [e] => some (.tup [.pl (.bool true), e.1, e.2.1], H.put id (obj (.mi m since (seen ++ [e.2.2]) cl)))
            | _ => none) else none
          | _ => none)
        | none => none)
      | _ => none)
    | none => none)
  | _ => none
/-- the entry that the last step handed out -/
def entryM (H : AH) (x : AV) : Option AV :=
  match x with
  | .ptr id 0 => (match H.get id with
    | some k => (match k.k with
      | .mi m _ [b] last => (match H.get m with
        | some km => (match km.k with
          | .m [e] cl => bif Nat.beq cl last && Nat.beq e.2.2 b then some (.tup [e.1, e.2.1]) else none
          | _ => none)
        | none => none)
      | _ => none)
    | none => none)
  | _ => none
def nextA (H : AH) (x : AV) : Option (AV × AH) :=
  match x with
  | .ptr id 0 => (match H.get id with
    | some k => (match k.k with
      | .it s pos => bif Nat.blt pos s.size then
          (let c := Utf8.decode s pos
           some (.tup [.pl (.bool true), .pl (.int .i64 (pos : Int)), .pl (.int .i32 (c.1 : Int))], H.put id (obj (.it s (pos + c.2)))))
          else some (.tup [.pl (.bool false)], H)
      | _ => none)
    | none => none)
  | _ => none
/-- the round that a yield begins: its loop, the frame -/
def setArgs : T AV → List Nat → List AV → Option (T AV)
  | E, [], [] => some E
  | E, p :: ps, x :: xs => setArgs (E.set p (some x)) ps xs
  | _, _, _ => none
def yieldA (H : AH) (x : AV) (args : List AV) : Option (Nat × Nat × T AV × Code × Code) :=
  match x with
  | .yl id => (match H.get id with
    | some k => (match k.k with
      | .lp _ _ n E ps ag bd _ => bif ps.toList.all (fun p => Nat.blt p n) then (match setArgs E ps.toList args with
        | some E' => some (id, n, E', ag, bd)
        | none => none) else none
      | _ => none)
    | none => none)
  | _ => none
/-- do two rows overlap? -/
def ovA (tb : Tab) (H : AH) (f : AV) (l : List AV) : Option AV :=
  match f, l with
  | .pl (.func (.func g) p q), [.sl i _ _ _, .sl j _ _ _] => (match tb.ovl.get g, p.toList, q.toList, H.get i, H.get j with
    | some _, [], [], some ki, some kj => bif !(Nat.beq i j) && isC ki.k && isC kj.k && Nat.beq ki.frz 0 && Nat.blt 0 kj.cells.length then some (.pl (.bool false)) else none
    | _, _, _, _, _ => none)
  | _, _ => none
/-- a function of the machine on plain values -/
def extA (tb : Tab) (f : AV) (l : List AV) : Option AV :=
  match f, plainL l with
  | .pl (.func (.func g) p q), some vs => (match tb.ext.get g, p.toList, q.toList with
    | some F, [], [] => (match F vs with | some v => some (.pl v) | none => none)
    | _, _, _ => none)
  | _, _ => none
/-- append of zeros to a row whose room is known, and too small -/
def zerosA (tb : Tab) (H : AH) (t tn : TypeId) (s x : AV) : Option (AV × AH) :=
  match slA tb t, tkA tb tn, s, x with
  | some (e, es), .int .i64, .sl id off len (.k c), .pl (.int .i64 (.ofNat m)) => (match tb.ty.get e, H.get id with
    | some i, some k => bif Nat.beq i.zero.length es && Nat.blt c (len + m) && Nat.blt 0 m && Nat.blt 0 es && Nat.beq ((k.cells.drop off).take (len * es)).length (len * es) && Nat.ble ((len + m) * i.bytes) 140737488355328 && Nat.ble (len + m) 4611686018427387904 then
        some (.sl H.next 0 (len + m) (.u 0), H.new ⟨(k.cells.drop off).take (len * es) ++ plMap (rep i.zero m), e, true, es, 0, .c⟩) else none
    | _, _ => none)
  | _, _, _, _ => none
inductive AR2 where
  | val (x : AV)
  | skip
  | enter (f : FuncId) (args : List AV)
  | round (id n : Nat) (E : T AV) (ag bd : Code)
def execF (P : Program) (tb : Tab) (E : T AV) (H : AH) (o : Oper) : Option (AR2 × AH) :=
  match o.op with
  | .makeMap t r => (match makeMapA tb E H t r with | some (x, H') => some (.val x, H') | none => none)
  | .mapUpdate t m k x | .insert t m k x => (match opnd E m, pv E k, opnd E x with
    | some y, some kv, some v => (match mapUpdA tb H t y kv v with | some H' => some (.skip, H') | none => none)
    | _, _, _ => none)
  | .range t x => (match opnd E x with
    | some y => (match rangeA tb H t y with | some (z, H') => some (.val z, H') | none => none)
    | none => none)
  | .next x true => (match opnd E x with
    | some y => (match nextA H y with | some (z, H') => some (.val z, H') | none => none)
    | none => none)
  | .next x false => (match opnd E x with
    | some y => (match nextM H y with | some (z, H') => some (.val z, H') | none => none)
    | none => none)
  | .entry x => (match opnd E x with
    | some y => (match entryM H y with | some z => some (.val z, H) | none => none)
    | none => none)
  | .call c => (match c.callee, c.args.toList, c.argTypes.toList with
    | .builtin .copy, [d, x], [t, ts] => (match opnd E d, opnd E x with
      | some y, some z => (match copyA tb H t ts y z with | some (v, H') => some (.val v, H') | none => none)
      | _, _ => none)
    | .builtin .append, [x, y], [t, tn] => (match opnd E x, opnd E y with
      | some u, some v => (match zerosA tb H t tn u v with | some (z, H') => some (.val z, H') | none => none)
      | _, _ => none)
    | .builtin .clear, [x], [t] => (match opnd E x with
      | some y => (match clearA tb H t y with | some H' => some (.val (.tup []), H') | none => none)
      | none => none)
    | .builtin .delete, [m, k], t :: _ => (match opnd E m, pv E k with
      | some y, some kv => (match deleteA tb H t y kv with | some H' => some (.val (.tup []), H') | none => none)
      | _, _ => none)
    | .value f, args, _ => (match opnd E f, opnds E args with
      | some x, some l => (match yieldA H x l with
        | some (id, n, E', ag, bd) => some (.round id n E' ag bd, H)
        | none => (match ovA tb H x l with | some z => some (.val z, H) | none => (match extA tb x l with | some z => some (.val z, H) | none => none)))
      | _, _ => none)
    | _, _, _ => none)
  | _ => none
theorem Post.putObj {ρ : Names} {H : AH} {w : World} (h : HR w0 ρ H w) {i : Nat} {b : Nat × Nat} {k k' : ABlk} (o : Obj) (hi : H.get i = some k) (hb : ρ[i]? = some b) (hB : BR ρ k' b.2 (some o)) : Post w0 ρ H w ρ (H.put i k') (w.putObj b.1 o) := by
  have hr := h.rng i b hb
  refine Post.put h hi hb ⟨rfl, rfl, rfl, by simp, fun j hj => World.putObj_heap_other (by omega)⟩ (by simp) (fun j hj => World.putObj_heap_other hj) ?_
  rw [World.putObj_heap_same hr.2]; exact hB
theorem run_setMap {w : World} {r cl : Nat} {es : Array MapEntry} (h : w.heap[r]? = some (.map es cl)) (o : Obj) : (setObj r o).run P w = .ok () (w.putObj r o) := by
  simp [setObj, Sem.run, h, World.putObj]
theorem run_setIt {w : World} {r p : Nat} {s : ByteArray} (h : w.heap[r]? = some (.stringIter s p)) (o : Obj) : (setObj r o).run P w = .ok () (w.putObj r o) := by
  simp [setObj, Sem.run, h, World.putObj]
theorem run_newObj (o : Obj) (w : World) : (newObj o).run P w = .ok w.heap.size (w.alloc o) := by simp [newObj, Sem.run]
theorem BR.obj {ρ : Names} {k : BK} {cp : Nat} {o : Option Obj} (h : BO ρ k o) : BR ρ (obj k) cp o := .inr ⟨rfl, rfl, h⟩
theorem makeMapA_ok (ok : TOk P tb w0) {ρ : Names} {E : T AV} {a : Act} {H H' : AH} {w : World} (hF : FR n ds ρ E a) (hH : HR w0 ρ H w) {t : TypeId} {r : Option Operand} {x : AV} (h : makeMapA tb E H t r = some (x, H')) :
    ∃ ρ' w' v, (Instr.makeMap t (r.map a.eval)).run P w = .ok v w' ∧ Post w0 ρ H w ρ' H' w' ∧ VR ρ' x v := by
  have key := Post.allocG hH (obj (.m [] 0)) 0 (.map #[] 0) (BR.obj ⟨[], rfl, rfl⟩)
  have hx : x = .mp H.next ∧ H' = H.new (obj (.m [] 0)) ∧ (Instr.makeMap t (r.map a.eval)).run P w = .ok (.map (some w.heap.size)) (w.alloc (.map #[] 0)) := by
    unfold makeMapA at h
    cases r with
    | none => cases h; exact ⟨rfl, rfl, by simp [Instr.makeMap, run_newObj]⟩
    | some y =>
      simp only at h
      split at h <;> try (cases h; done)
      rename_i k i hT hv
      cases h
      have hu := mapT_ok ok hT
      have he := hF.pv hv
      exact ⟨rfl, rfl, by simp [Instr.makeMap, run_underlying hu, he, asInt, asIntOf, run_newObj]⟩
  obtain ⟨rfl, rfl, hr⟩ := hx
  exact ⟨_, _, _, hr, key.1, by rw [VR]; exact ⟨_, key.2, rfl⟩⟩

theorem ER.get {ρ : Names} : ∀ {l : List (AV × AV × Nat)} {en : List MapEntry} {i : Nat} {e : MapEntry}, ER ρ l en → en[i]? = some e → ∃ p : AV × AV × Nat, l[i]? = some p ∧ VR ρ p.1 e.key ∧ VR ρ p.2.1 e.val ∧ e.born = p.2.2
  | [], en, i, e, h, hi => by rw [show en = [] from h] at hi; simp at hi
  | (k, v, b) :: r, _, 0, e, h, hi => by
    obtain ⟨e', es, rfl, h1, h2, h3, h4⟩ := h
    simp at hi; subst hi
    exact ⟨_, rfl, h1, h2, h3⟩
  | (k, v, b) :: r, _, i + 1, e, h, hi => by
    obtain ⟨e', es, rfl, h1, h2, h3, h4⟩ := h
    simpa using ER.get h4 (by simpa using hi)
theorem ER.set {ρ : Names} {kv : Value} {v : AV} {u : Value} (hv : VR ρ v u) : ∀ {l : List (AV × AV × Nat)} {en : List MapEntry} (i : Nat), ER ρ l en → ER ρ (setE l i kv v) (en.modify i fun e => { e with key := kv, val := u })
  | [], en, i, h => by rw [show en = [] from h]; cases i <;> simp [setE] <;> rfl
  | (k, x, b) :: r, _, 0, h => by
    obtain ⟨e', es, rfl, h1, h2, h3, h4⟩ := h
    exact ⟨{ e' with key := kv, val := u }, es, by simp, VR.pl, hv, h3, h4⟩
  | (k, x, b) :: r, _, i + 1, h => by
    obtain ⟨e', es, rfl, h1, h2, h3, h4⟩ := h
    exact ⟨e', _, by simp only [List.modify_succ_cons], h1, h2, h3, ER.set hv i h4⟩
theorem ER.app {ρ : Names} : ∀ {l m : List (AV × AV × Nat)} {en fn : List MapEntry}, ER ρ l en → ER ρ m fn → ER ρ (l ++ m) (en ++ fn)
  | [], _, en, _, h, hm => by rw [show en = [] from h]; exact hm
  | (k, x, b) :: r, _, _, _, h, hm => by
    obtain ⟨e', es, rfl, h1, h2, h3, h4⟩ := h
    exact ⟨e', _, rfl, h1, h2, h3, ER.app h4 hm⟩
theorem ER.erase {ρ : Names} : ∀ {l : List (AV × AV × Nat)} {en : List MapEntry} (i : Nat), ER ρ l en → ER ρ (eraseE l i) (en.eraseIdx i)
  | [], en, i, h => by rw [show en = [] from h]; cases i <;> simp [eraseE] <;> rfl
  | (k, x, b) :: r, _, 0, h => by
    obtain ⟨e', es, rfl, h1, h2, h3, h4⟩ := h
    simpa [eraseE] using h4
  | (k, x, b) :: r, _, i + 1, h => by
    obtain ⟨e', es, rfl, h1, h2, h3, h4⟩ := h
    exact ⟨e', _, by simp only [List.eraseIdx_cons_succ], h1, h2, h3, ER.erase i h4⟩
theorem findNow_at {d : TypeDesc} {k : Value} : ∀ {en : List MapEntry} {i j : Nat} {v : Value}, Instr.findNow d k en i = some (some (j, v)) → ∃ e, i ≤ j ∧ en[j - i]? = some e ∧ Instr.sameNow d k e.key = some true
  | [], i, j, v, h => by simp [Instr.findNow] at h
  | e :: en, i, j, v, h => by
    simp only [Instr.findNow] at h
    split at h
    · rename_i hs
      cases h
      exact ⟨e, Nat.le_refl _, by simp, hs⟩
    · obtain ⟨e', h1, h2, h3⟩ := findNow_at h
      refine ⟨e', by omega, ?_, h3⟩
      rw [show j - i = (j - (i + 1)) + 1 by omega]
      simpa using h2
    · cases h
theorem bytes_of_beq {a b : ByteArray} (h : (a == b) = true) : a = b := by
  obtain ⟨x⟩ := a
  obtain ⟨y⟩ := b
  have : (x == y) = true := h
  rw [show x = y by simpa using this]
theorem bytes_beq_self (a : ByteArray) : (a == a) = true := by
  obtain ⟨x⟩ := a
  have : (x == x) = true := by simp
  exact this
theorem same_bits {d : TypeDesc} {k u : Value} (h : Instr.sameNow d k u = some true) : Instr.sameBits 10000 u k = true := by
  refine (show ∀ m, Instr.sameBits m u k = true from fun m => ?_) 10000
  unfold Instr.sameNow at h
  split at h
  · split at h
    · rename_i hk
      subst hk
      simp at h
      subst h
      cases m <;> simp [Instr.sameBits]
    · cases h
  · simp only [Option.some.injEq] at h
    rw [bytes_of_beq h]
    cases m <;> simp [Instr.sameBits, bytes_beq_self]
  · simp at h
    subst h
    cases m <;> simp [Instr.sameBits]
  · cases h
theorem mapUpdA_ok (ok : TOk P tb w0) {ρ : Names} {H H' : AH} {w : World} (hH : HR w0 ρ H w) {mt : TypeId} {x v : AV} {kv : Value} {m u : Value} (h : mapUpdA tb H mt x kv v = some H') (hx : VR ρ x m) (hv : VR ρ v u) :
    ∃ w', (Instr.mapUpdate mt m kv u).run P w = .ok () w' ∧ Post w0 ρ H w ρ H' w' := by
  unfold mapUpdA at h
  split at h <;> try (cases h; done)
  rename_i id
  split at h <;> try (cases h; done)
  rename_i k hk
  split at h <;> try (cases h; done)
  rename_i es cl kt et hkk hT
  split at h <;> try (cases h; done)
  rename_i d hd
  obtain ⟨hu, hkd⟩ := descA_ok ok hd
  have hM := mapT_ok ok hT
  rw [VR] at hx
  obtain ⟨b, hb, rfl⟩ := hx
  obtain ⟨_, _, hO⟩ := (hH.at_ hk hb).o (by rw [hkk]; simp)
  rw [hkk] at hO
  obtain ⟨en, h1, h2⟩ := hO
  have hlt := (hH.rng id b hb).2
  have hg : (getObj b.1).run P w = .ok (.map en.toArray cl) w := by simp [getObj, Sem.run, h1]
  have hck := checkKey_ok (b := false) hu hkd kv w
  split at h <;> try (cases h; done)
  · rename_i i y hf
    cases h
    obtain ⟨z, g1, _⟩ := findA_ok h2 hf
    obtain ⟨e, _, g3, g4⟩ := findNow_at g1
    simp only [Nat.sub_zero] at g3
    refine ⟨w.putObj b.1 (.map (en.modify i fun e => { e with key := kv, val := u }).toArray cl), ?_, Post.putObj hH _ hk hb (BR.obj ⟨_, rfl, h2.set hv i⟩)⟩
    have hfk : (Instr.findKey kt kv en).run P w = .ok (some (i, z)) w := by simp [Instr.findKey, run_underlying hu, g1]
    have hst : (Instr.keyThatStays e.key kv).run P w = .ok kv w := by simp [Instr.keyThatStays, same_bits g4]
    have hmod : en.toArray.modify i (fun e => { e with key := kv, val := u }) = (en.modify i fun e => { e with key := kv, val := u }).toArray := by simp
    simp [Instr.mapUpdate, run_underlying hM, hg, hck, hfk, g3, hst, run_setMap h1]
  · rename_i hf
    cases h
    have g1 : Instr.findNow d kv en 0 = some none := findA_ok h2 hf
    have hfk : (Instr.findKey kt kv en).run P w = .ok none w := by simp [Instr.findKey, run_underlying hu, g1]
    refine ⟨w.putObj b.1 (.map (en ++ [({ key := kv, val := u, born := cl } : MapEntry)]).toArray (cl + 1)), ?_, Post.putObj hH _ hk hb (BR.obj ⟨_, rfl, ER.app h2 (show ER ρ [(.pl kv, v, cl)] [({ key := kv, val := u, born := cl } : MapEntry)] from ⟨_, [], rfl, VR.pl, hv, rfl, rfl⟩)⟩)⟩
    simp [Instr.mapUpdate, run_underlying hM, hg, hck, hfk, run_setMap h1]
theorem deleteA_ok (ok : TOk P tb w0) {ρ : Names} {H H' : AH} {w : World} (hH : HR w0 ρ H w) {mt kt2 ty : TypeId} {ats : List TypeId} {x : AV} {kv : Value} {m : Value} (h : deleteA tb H mt x kv = some H') (hx : VR ρ x m) :
    ∃ w', (Builtin.delete_ (mt :: ats).toArray ty #[m, kv]).run P w = .ok (.tuple #[]) w' ∧ Post w0 ρ H w ρ H' w' := by
  unfold deleteA at h
  split at h <;> try (cases h; done)
  rename_i id
  split at h <;> try (cases h; done)
  rename_i k hk
  split at h <;> try (cases h; done)
  rename_i es cl kt et hkk hT
  split at h <;> try (cases h; done)
  rename_i d hd
  obtain ⟨hu, hkd⟩ := descA_ok ok hd
  have hM := mapT_ok ok hT
  rw [VR] at hx
  obtain ⟨b, hb, rfl⟩ := hx
  obtain ⟨_, _, hO⟩ := (hH.at_ hk hb).o (by rw [hkk]; simp)
  rw [hkk] at hO
  obtain ⟨en, h1, h2⟩ := hO
  have hlt := (hH.rng id b hb).2
  have hg : (getObj b.1).run P w = .ok (.map en.toArray cl) w := by simp [getObj, Sem.run, h1]
  have hck : ∀ bb, (Instr.checkKey bb 10000 kt kv).run P w = .ok () w := fun bb => checkKey_ok hu hkd kv w
  split at h <;> try (cases h; done)
  · rename_i i y hf
    cases h
    obtain ⟨z, g1, _⟩ := findA_ok h2 hf
    have hfk : (Instr.findKey kt kv en).run P w = .ok (some (i, z)) w := by simp [Instr.findKey, run_underlying hu, g1]
    refine ⟨w.putObj b.1 (.map (en.eraseIdx i).toArray cl), ?_, Post.putObj hH _ hk hb (BR.obj ⟨_, rfl, h2.erase i⟩)⟩
    simp [Builtin.delete_, run_underlying hM, hg, hck, hfk, run_setMap h1]
  · rename_i hf
    cases h
    have g1 : Instr.findNow d kv en 0 = some none := findA_ok h2 hf
    have hfk : (Instr.findKey kt kv en).run P w = .ok none w := by simp [Instr.findKey, run_underlying hu, g1]
    refine ⟨w.putObj b.1 (.map en.toArray cl), ?_, Post.putObj hH _ hk hb (BR.obj ⟨_, rfl, h2⟩)⟩
    simp [Builtin.delete_, run_underlying hM, hg, hck, hfk, run_setMap h1]

theorem copyA_ok (ok : TOk P tb w0) {ρ : Names} {H H' : AH} {w : World} (hH : HR w0 ρ H w) {t ts ty : TypeId} {d x y : AV} {vd vx : Value} (h : copyA tb H t ts d x = some (y, H')) (hd : VR ρ d vd) (hx : VR ρ x vx) :
    ∃ w' v, (Builtin.copy_ #[t, ts] ty #[vd, vx]).run P w = .ok v w' ∧ Post w0 ρ H w ρ H' w' ∧ VR ρ y v := by
  unfold copyA at h
  split at h <;> try (cases h; done)
  rename_i e es he
  obtain ⟨hT, inf, hinf, hsz⟩ := slA_ok ok he
  split at h <;> try (cases h; done)
  rename_i id off len cap
  split at h <;> try (cases h; done)
  rename_i q c k hsrc hk
  obtain ⟨hq, h⟩ := cond_some' h
  cases h
  simp only [Bool.and_eq_true, Nat.ble_eq] at hq
  obtain ⟨⟨q1, q2⟩, q3⟩ := hq
  rw [VR] at hd
  obtain ⟨b, cc, hb, rfl, _⟩ := hd
  have hmain : ∃ m news, (Builtin.lenOf vx).run P w = .ok m w ∧ Nat.min m len = q ∧ (Builtin.firstCells es q vx).run P w = .ok news.toArray w ∧ VRL ρ c news ∧ c.all isOne = true := by
    cases x with
    | sl id2 off2 m cap2 =>
      simp only [cutA] at hsrc
      rw [VR] at hx
      obtain ⟨b2, c2, hb2, rfl, hl2, hm2, hc2⟩ := hx
      have hx' : VR ρ (.sl id2 off2 (min m len) cap2) (.slice (some ⟨b2.1, off2, none⟩) (min m len) c2) := by rw [VR]; exact ⟨b2, c2, hb2, rfl, by omega, hm2, hc2⟩
      obtain ⟨news, hS, hl, hone⟩ := srcA_ok ok hH hsrc hx'
      have hlen := hS.len w
      simp only [Builtin.lenOf, Sem.run_pure, Result.ok.injEq, and_true] at hlen
      exact ⟨m, news, by simp [Builtin.lenOf], hlen, hS.cells, hl, hone⟩
    | _ =>
      simp only [cutA] at hsrc
      obtain ⟨news, hS, hl, hone⟩ := srcA_ok ok hH hsrc hx
      exact ⟨q, news, hS.len w, Nat.min_eq_left q1, hS.cells, hl, hone⟩
  obtain ⟨m, news, g1, g2, g3, g4, g5⟩ := hmain
  have hB := hH.at_ hk hb
  have hfr := hB.free (m := c.length) q3 (.inl q2)
  have hnl := g4.length
  have hst := run_storeCells_cells (P := P) b.1 off news 0 w (fun j hj => by rw [hnl] at hj; simpa using hfr.1 j hj) (fun j hj => by rw [hnl] at hj; simpa using hfr.2 j hj) (g4.one g5)
  simp only [Nat.add_zero] at hst
  refine ⟨_, .int .i64 (q : Int), ?_, Post.write hH hk hb g4 q2, VR.pl⟩
  simp [Builtin.copy_, run_underlying hT, g1, g2, sizeOf, typeInfo, hinf, hsz, g3, hst, goInt]

theorem zerosA_ok (ok : TOk P tb w0) {ρ : Names} {H H' : AH} {w : World} (hH : HR w0 ρ H w) {t tn ty : TypeId} {s x y : AV} {vs vx : Value} (h : zerosA tb H t tn s x = some (y, H')) (hs : VR ρ s vs) (hx : VR ρ x vx) :
    ∃ ρ' w' v, (Builtin.append_ #[t, tn] ty #[vs, vx]).run P w = .ok v w' ∧ Post w0 ρ H w ρ' H' w' ∧ VR ρ' y v := by
  unfold zerosA at h
  split at h <;> try (cases h; done)
  rename_i e es id off len c m he htn
  obtain ⟨hT, inf, hinf, hsz⟩ := slA_ok ok he
  have hTn : P.underlying tn = some (.int .i64) := by
    unfold tkA at htn
    split at htn <;> try (cases htn; done)
    rename_i i hi
    obtain ⟨d, _, _, hd, _, _, hk, _⟩ := ok.at_ hi
    rw [hk] at htn
    cases d <;> simp only [kindT] at htn <;> try (cases htn; done)
    cases htn; exact hd
  split at h <;> try (cases h; done)
  rename_i i k hi hk
  obtain ⟨hq, h⟩ := cond_some' h
  cases h
  simp only [Bool.and_eq_true, Nat.ble_eq, Nat.blt_eq] at hq
  obtain ⟨⟨⟨⟨⟨⟨q1, q2⟩, q3⟩, q4⟩, q5⟩, q6⟩, q7⟩ := hq
  have q1 := Nat.eq_of_beq_eq_true q1
  have q5 := Nat.eq_of_beq_eq_true q5
  obtain ⟨d, inf', z, hd, hinf', hz, _, hs', hby, hzero⟩ := ok.at_ hi
  obtain rfl : inf = inf' := by rw [hinf] at hinf'; exact Option.some.inj hinf'
  subst hsz
  have hzs : z.cells.size = inf.size := by rw [← Array.length_toList, ← hzero]; exact q1
  rw [VR] at hs
  rw [VR] at hx
  obtain ⟨b, cc, hb, rfl, hlc, hcm, hcap⟩ := hs
  have hcc : cc = c := hcap
  subst hcc
  subst hx
  obtain ⟨us, hus, hcl⟩ := (hH.at_ hk hb).cell
  have ho := (hus.drop off).take (len * inf.size)
  have hol : ((us.drop off).take (len * inf.size)).length = len * inf.size := by rw [ho.length]; exact q5
  have hold := first_slice (P := P) (w := w.drew) b.1 off len cc inf.size _ hol (by have := rangeAt_of hcl off (len * inf.size); exact fun j u hu => this j u hu)
  have hzc : (Builtin.zeroCells z.cells m).toList = rep i.zero m := by
    rw [hzero]
    have := rep_ok z.cells m
    unfold Builtin.zeroCells
    rw [this]
  have hr := Lib.run_append_grow_zeros w t tn ty e inf z .i64 .i64 hT hTn hinf hz (some ⟨b.1, off, none⟩) len cc _ hold m q3 (by omega) q2 (by omega) (by rw [← hby]; exact Nat.le_trans (Nat.mul_le_mul_right _ (Nat.le_add_left _ _)) (Nat.le_trans q6 (by decide))) (by rw [← hby]; exact growslice_fits q2 (by simpa using q6))
  have hge := grownCap_ge w (len + m) cc e
  have hle := grownCap_le_maxLen w (len + m) cc e (by simp only [maxLen]; omega)
  have ha := Post.alloc hH.drew ⟨(k.cells.drop off).take (len * inf.size) ++ plMap (rep i.zero m), e, true, inf.size, 0, .c⟩ (grownCap w (len + m) cc e) ((us.drop off).take (len * inf.size) ++ rep i.zero m) (Builtin.zeroCells z.cells (grownCap w (len + m) cc e - (len + m))).toList rfl (ho.app (VRL.plMap _)) (fun h => by cases h) (fun _ => by
    simp only [List.length_append, Array.length_toList, size_zeroCells, hol, rep_length, hzs, q1]
    rw [← Nat.add_mul, ← Nat.add_mul]
    congr 1
    omega)
  have e1 : (((us.drop off).take (len * inf.size) ++ rep i.zero m ++ (Builtin.zeroCells z.cells (grownCap w (len + m) cc e - (len + m))).toList).toArray : Array Value) = ((us.drop off).take (len * inf.size)).toArray ++ Builtin.zeroCells z.cells m ++ Builtin.zeroCells z.cells (grownCap w (len + m) cc e - (len + m)) := by
    apply Array.toList_inj.1; simp [hzc]
  rw [e1] at ha
  refine ⟨_, _, _, hr, ⟨ha.1.ext, ha.1.hr, ha.1.wr, ha.1.same, ha.1.kept, ha.1.size, ha.1.frame, ha.1.fresh⟩, ?_⟩
  rw [VR]
  exact ⟨_, _, ha.2, rfl, hge, hle, rfl⟩
theorem clearA_ok (ok : TOk P tb w0) {ρ : Names} {H H' : AH} {w : World} (hH : HR w0 ρ H w) {t ty : TypeId} {x : AV} {vx : Value} (h : clearA tb H t x = some H') (hx : VR ρ x vx) :
    ∃ w', (Builtin.clear_ #[t] ty #[vx]).run P w = .ok (.tuple #[]) w' ∧ Post w0 ρ H w ρ H' w' := by
  unfold clearA at h
  split at h
  · rename_i id off len cap
    split at h <;> try (cases h; done)
    rename_i e es he
    obtain ⟨hT, inf', hinf', hsz⟩ := slA_ok ok he
    rw [VR] at hx
    obtain ⟨b, cc, hb, rfl, _⟩ := hx
    split at h
    · cases h
      exact ⟨w, by simp [Builtin.clear_, run_underlying hT], Post.refl hH⟩
    · rename_i len' hl0
      split at h <;> try (cases h; done)
      rename_i i k hi hk
      obtain ⟨d, inf, z, hd, hinf, hz, hkk, hs', _, hzero⟩ := ok.at_ hi
      dsimp only at h
      obtain ⟨hq, h⟩ := cond_some' h
      cases h
      simp only [Bool.and_eq_true, Nat.ble_eq] at hq
      obtain ⟨⟨q1, q2⟩, q3⟩ := hq
      have hB := hH.at_ hk hb
      have hfr := hB.free (m := (plMap (rep i.zero len)).length) q3 (.inl q2)
      have hv : VRL ρ (plMap (rep i.zero len)) (rep i.zero len) := VRL.plMap _
      have hnl := hv.length
      have hzc : (Builtin.zeroCells z.cells len).toList = rep i.zero len := by
        rw [hzero]
        have := rep_ok z.cells len
        unfold Builtin.zeroCells
        rw [this]
      have hone : ∀ u ∈ rep i.zero len, u.oneCell' = true := hv.one q1
      have hst := run_storeCells_cells (P := P) b.1 off (rep i.zero len) 0 w (fun j hj => by rw [hnl] at hj; simpa using hfr.1 j hj) (fun j hj => by rw [hnl] at hj; simpa using hfr.2 j hj) hone
      simp only [Nat.add_zero] at hst
      refine ⟨_, ?_, Post.write hH hk hb hv q2⟩
      have hzv : (zeroValue e).run P w = .ok z w := by simp [zeroValue, typeInfo, hinf, hz]
      have hl1 : len ≠ 0 := hl0
      obtain ⟨l9, rfl⟩ := Nat.exists_eq_succ_of_ne_zero hl1
      simp [Builtin.clear_, run_underlying hT, hzv, hzc, hst]
  · split at h <;> try (cases h; done)
    rename_i z hz
    obtain ⟨e, s⟩ := z
    obtain ⟨hT, _⟩ := slA_ok ok hz
    cases h
    rw [VR] at hx
    exact ⟨w, by rw [hx]; simp [Builtin.clear_, run_underlying hT], Post.refl hH⟩
  · rename_i id
    split at h <;> try (cases h; done)
    rename_i k kt et hk hT
    split at h <;> try (cases h; done)
    rename_i es cl hkk
    cases h
    have hM := mapT_ok ok hT
    rw [VR] at hx
    obtain ⟨b, hb, rfl⟩ := hx
    obtain ⟨_, _, hO⟩ := (hH.at_ hk hb).o (by rw [hkk]; simp)
    rw [hkk] at hO
    obtain ⟨en, h1, h2⟩ := hO
    have hlt := (hH.rng id b hb).2
    have hg : (getObj b.1).run P w = .ok (.map en.toArray cl) w := by simp [getObj, Sem.run, h1]
    refine ⟨w.putObj b.1 (.map #[] cl), ?_, Post.putObj hH _ hk hb (BR.obj ⟨[], rfl, rfl⟩)⟩
    simp [Builtin.clear_, run_underlying hM, hg, run_setMap h1]
  · cases h

theorem tkM_ok (ok : TOk P tb w0) {t : TypeId} {a b : Nat} (h : tkA tb t = .mp a b) : ∃ a b, P.underlying t = some (.map a b) := by
  unfold tkA at h
  split at h <;> try (cases h; done)
  rename_i i hi
  obtain ⟨d, _, _, hd, _, _, hk, _⟩ := ok.at_ hi
  rw [hk] at h
  cases d <;> simp only [kindT] at h <;> try (cases h; done)
  exact ⟨_, _, hd⟩
theorem rangeA_ok (ok : TOk P tb w0) {ρ : Names} {H H' : AH} {w : World} (hH : HR w0 ρ H w) {t : TypeId} {x y : AV} {vx : Value} (h : rangeA tb H t x = some (y, H')) (hx : VR ρ x vx) :
    ∃ ρ' w' v, (Instr.range t vx).run P w = .ok v w' ∧ Post w0 ρ H w ρ' H' w' ∧ VR ρ' y v := by
  unfold rangeA at h
  split at h <;> try (cases h; done)
  · rename_i s
    obtain ⟨hq, h⟩ := cond_some' h
    cases h
    rw [VR] at hx
    subst hx
    have key := Post.allocG hH (obj (.it s 0)) 0 (.stringIter s 0) (BR.obj rfl)
    exact ⟨_, _, .pointer (some ⟨w.heap.size, 0, none⟩), by simp [Instr.range, run_underlying (isStr_ok ok hq), run_newObj], key.1, by rw [VR]; exact ⟨_, key.2, rfl⟩⟩
  · split at h <;> try (cases h; done)
    rename_i ht
    cases h
    obtain ⟨a, b, hT⟩ := tkM_ok ok ht
    rw [VR] at hx
    subst hx
    have key := Post.allocG hH (obj .mn) 0 (.mapIter none 0 #[] 0) (BR.obj rfl)
    exact ⟨_, _, .pointer (some ⟨w.heap.size, 0, none⟩), run_range_nilMap w t a b hT, key.1, by rw [VR]; exact ⟨_, key.2, rfl⟩⟩
  · rename_i id
    split at h <;> try (cases h; done)
    rename_i k a' b' hk ht
    split at h <;> try (cases h; done)
    rename_i es cl hkk
    cases h
    obtain ⟨ka, kb, hT⟩ := tkM_ok ok ht
    rw [VR] at hx
    obtain ⟨b, hb, rfl⟩ := hx
    obtain ⟨_, _, hO⟩ := (hH.at_ hk hb).o (by rw [hkk]; simp)
    rw [hkk] at hO
    obtain ⟨en, h1, _⟩ := hO
    have key := Post.allocG hH (obj (.mi id cl [] cl)) 0 (.mapIter (some b.1) cl #[] cl) (BR.obj ⟨b, hb, rfl⟩)
    exact ⟨_, _, .pointer (some ⟨w.heap.size, 0, none⟩), run_range_map w t ka kb b.1 en.toArray cl hT h1, key.1, by rw [VR]; exact ⟨_, key.2, rfl⟩⟩
theorem ER.filter {ρ : Names} (f : Nat → Bool) : ∀ {l : List (AV × AV × Nat)} {en : List MapEntry}, ER ρ l en → ER ρ (l.filter (fun p => f p.2.2)) (en.filter (fun e => f e.born))
  | [], _, h => by rw [show _ = [] from h]; rfl
  | (k, v, b) :: r, _, h => by
    obtain ⟨e, es, rfl, h2, h3, h4, h5⟩ := h
    have ih := ER.filter f h5
    simp only [List.filter_cons, h4]
    cases f b with
    | true => exact ⟨e, _, rfl, h2, h3, h4, ih⟩
    | false => exact ih
theorem ER.born {ρ : Names} (f : Nat → Bool) : ∀ {l : List (AV × AV × Nat)} {en : List MapEntry}, ER ρ l en → l.all (fun p => f p.2.2) = true → ∀ e ∈ en, f e.born = true
  | [], _, h, _, e, he => by rw [show _ = [] from h] at he; cases he
  | (k, v, b) :: r, _, h, ha, e, he => by
    obtain ⟨e0, es, rfl, h2, h3, h4, h5⟩ := h
    simp only [List.all_cons, Bool.and_eq_true] at ha
    rcases List.mem_cons.1 he with rfl | he
    · rw [h4]; exact ha.1
    · exact ER.born f h5 ha.2 e he
theorem nextM_ok {ρ : Names} {H H' : AH} {w : World} (hH : HR w0 ρ H w) {ty : TypeId} {x y : AV} {vx : Value} (h : nextM H x = some (y, H')) (hx : VR ρ x vx) :
    ∃ w' v, (Instr.next vx false ty).run P w = .ok v w' ∧ Post w0 ρ H w ρ H' w' ∧ VR ρ y v := by
  unfold nextM at h
  split at h <;> try (cases h; done)
  rename_i id
  split at h <;> try (cases h; done)
  rename_i k hk
  rw [VR] at hx
  obtain ⟨b, hb, rfl⟩ := hx
  split at h <;> try (cases h; done)
  · rename_i hkk
    cases h
    obtain ⟨_, _, hO⟩ := (hH.at_ hk hb).o (by rw [hkk]; simp)
    rw [hkk] at hO
    have h1 : w.heap[b.1]? = some (.mapIter none 0 #[] 0) := hO
    refine ⟨w, .tuple #[.bool false], ?_, Post.refl hH, by rw [VR]; exact ⟨[_], rfl, VRL.mk VR.pl VRL.mk0⟩⟩
    simp [Instr.next, getObj, Sem.run, h1]
  · rename_i m since seen last hkk
    split at h <;> try (cases h; done)
    rename_i km hkm
    split at h <;> try (cases h; done)
    rename_i es cl hkmk
    obtain ⟨hq, h⟩ := cond_some' h
    simp only [Bool.and_eq_true, Nat.ble_eq] at hq
    obtain ⟨_, _, hO⟩ := (hH.at_ hk hb).o (by rw [hkk]; simp)
    rw [hkk] at hO
    obtain ⟨bm, hbm, h1⟩ := hO
    obtain ⟨_, _, hO2⟩ := (hH.at_ hkm hbm).o (by rw [hkmk]; simp)
    rw [hkmk] at hO2
    obtain ⟨en, h2, h3⟩ := hO2
    have hold : ∀ x ∈ en.toArray.toList, x.born < since := fun x hx => by
      have := ER.born (fun n => Nat.blt n since) h3 hq.1 x (by simpa using hx)
      simpa [Nat.blt_eq] using this
    have hleft : (leftOf en.toArray seen.toArray).toList = en.filter (fun e => !seen.contains e.born) := by
      unfold leftOf; simp
    have hER := ER.filter (fun n => !seen.contains n) h3
    have hrun := run_next_at (P := P) w ty b.1 bm.1 since last seen.toArray en.toArray cl h1 h2 hold hq.2
    split at h <;> try (cases h; done)
    · rename_i hf
      cases h
      rw [hf] at hER
      have he : (leftOf en.toArray seen.toArray).toList = [] := by rw [hleft]; exact hER
      rcases hrun with ⟨_, g2⟩ | ⟨e, g1, _⟩
      · exact ⟨w, _, g2, Post.refl hH, by rw [VR]; exact ⟨[_], rfl, VRL.mk VR.pl VRL.mk0⟩⟩
      · rw [he] at g1; cases g1
    · rename_i e hf
      cases h
      rw [hf] at hER
      obtain ⟨ke, ve, be⟩ := e
      obtain ⟨e0, es0, g0, g2, g3, g4, g5⟩ := hER
      rw [show es0 = [] from g5] at g0
      rw [g0] at hleft
      rcases hrun with ⟨g1, _⟩ | ⟨e, g1, w1, hw1, g6⟩
      · have := congrArg List.length hleft
        rw [Array.length_toList, g1] at this
        simp at this
      · rw [hleft] at g1
        obtain rfl : e = e0 := by simpa using g1
        have hH1 : HR w0 ρ H w1 := by rcases hw1 with rfl | rfl; exact hH; exact hH.drew
        have hP := Post.putObj hH1 (.mapIter (some bm.1) since (seen.toArray.push e.born) cl) hk hb (k' := obj (.mi m since (seen ++ [be]) cl)) (BR.obj ⟨bm, hbm, by rw [← g4]; simp⟩)
        refine ⟨_, _, g6, ?_, by rw [VR]; exact ⟨[_, _, _], rfl, VRL.mk VR.pl (VRL.mk g2 (VRL.mk g3 VRL.mk0))⟩⟩
        rcases hw1 with rfl | rfl
        · exact hP
        · exact ⟨hP.ext, hP.hr, hP.wr, hP.same, hP.kept, hP.size, hP.frame, hP.fresh⟩
theorem entryM_ok {ρ : Names} {H : AH} {w : World} (hH : HR w0 ρ H w) {x y : AV} {vx : Value} (h : entryM H x = some y) (hx : VR ρ x vx) :
    ∃ v, (Instr.entry vx).run P w = .ok v w ∧ VR ρ y v := by
  unfold entryM at h
  split at h <;> try (cases h; done)
  rename_i id
  split at h <;> try (cases h; done)
  rename_i k hk
  rw [VR] at hx
  obtain ⟨b, hb, rfl⟩ := hx
  split at h <;> try (cases h; done)
  rename_i m since b0 last hkk
  split at h <;> try (cases h; done)
  rename_i km hkm
  split at h <;> try (cases h; done)
  rename_i e cl hkmk
  obtain ⟨hq, h⟩ := cond_some' h
  cases h
  simp only [Bool.and_eq_true] at hq
  have q1 := Nat.eq_of_beq_eq_true hq.1
  have q2 := Nat.eq_of_beq_eq_true hq.2
  obtain ⟨_, _, hO⟩ := (hH.at_ hk hb).o (by rw [hkk]; simp)
  rw [hkk] at hO
  obtain ⟨bm, hbm, h1⟩ := hO
  obtain ⟨_, _, hO2⟩ := (hH.at_ hkm hbm).o (by rw [hkmk]; simp)
  rw [hkmk] at hO2
  obtain ⟨en, h2, h3⟩ := hO2
  obtain ⟨ke, ve, be⟩ := e
  obtain ⟨e0, es0, rfl, g2, g3, g4, g5⟩ := h3
  obtain rfl : es0 = [] := g5
  have hr := run_entry_at (P := P) w b.1 bm.1 since #[] #[e0] cl e0 (by rw [h1, ← q1, ← q2, ← g4]; rfl) h2 (by simp) (by simp)
  exact ⟨_, hr, by rw [VR]; exact ⟨[_, _], rfl, VRL.mk g2 (VRL.mk g3 VRL.mk0)⟩⟩
theorem nextA_ok {ρ : Names} {H H' : AH} {w : World} (hH : HR w0 ρ H w) {ty : TypeId} {x y : AV} {vx : Value} (h : nextA H x = some (y, H')) (hx : VR ρ x vx) :
    ∃ w' v, (Instr.next vx true ty).run P w = .ok v w' ∧ Post w0 ρ H w ρ H' w' ∧ VR ρ y v := by
  unfold nextA at h
  split at h <;> try (cases h; done)
  rename_i id
  split at h <;> try (cases h; done)
  rename_i k hk
  split at h <;> try (cases h; done)
  rename_i s pos hkk
  rw [VR] at hx
  obtain ⟨b, hb, rfl⟩ := hx
  obtain ⟨_, _, hO⟩ := (hH.at_ hk hb).o (by rw [hkk]; simp)
  rw [hkk] at hO
  have h1 : w.heap[b.1]? = some (.stringIter s pos) := hO
  have hlt := (hH.rng id b hb).2
  have hg : (getObj b.1).run P w = .ok (.stringIter s pos) w := by simp [getObj, Sem.run, h1]
  cases hq : Nat.blt pos s.size with
  | true =>
    rw [hq] at h
    cases h
    have hq' : pos < s.size := by simpa [Nat.blt_eq] using hq
    refine ⟨w.putObj b.1 (.stringIter s (pos + (Utf8.decode s pos).2)), .tuple #[.bool true, .int .i64 (pos : Int), .int .i32 ((Utf8.decode s pos).1 : Int)], ?_, Post.putObj hH _ hk hb (BR.obj rfl), by rw [VR]; exact ⟨[_, _, _], rfl, VRL.mk VR.pl (VRL.mk VR.pl (VRL.mk VR.pl VRL.mk0))⟩⟩
    simp [Instr.next, hg, hq', run_setIt h1, goInt]
  | false =>
    rw [hq] at h
    cases h
    have hq' : ¬ pos < s.size := fun h9 => by rw [show Nat.blt pos s.size = true by simpa [Nat.blt_eq] using h9] at hq; cases hq
    refine ⟨w, .tuple #[.bool false], ?_, Post.refl hH, by rw [VR]; exact ⟨[_], rfl, VRL.mk VR.pl VRL.mk0⟩⟩
    simp [Instr.next, hg, hq']

/-! ### Rounds -/
theorem setArgs_ok {ρ : Names} {n : Nat} : ∀ {ps : List Nat} {xs : List AV} {vs : List Value} {E E' : T AV} {tmps : Array Value}, setArgs E ps xs = some E' → VRL ρ xs vs → (∀ p ∈ ps, p < n) → FR n [] ρ E ⟨tmps, []⟩ →
    ps.length = vs.length ∧ FR n [] ρ E' ⟨(ps.zip vs).foldl (fun tmps p => tmps.setIfInBounds p.1 p.2) tmps, []⟩
  | [], [], vs, E, E', tmps, h, hv, _, hF => by
    cases h
    obtain rfl := hv.nil
    exact ⟨rfl, hF⟩
  | p :: ps, x :: xs, _, E, E', tmps, h, hv, hp, hF => by
    obtain ⟨v, vs, rfl, h1, h2⟩ := hv.cons
    simp only [setArgs] at h
    have hF1 := hF.put p (hp p (List.mem_cons_self ..)) h1
    have := setArgs_ok h h2 (fun q hq => hp q (List.mem_cons_of_mem _ hq)) hF1
    exact ⟨by simp [this.1], this.2⟩
  | [], _ :: _, _, _, _, _, h, _, _, _ => by simp [setArgs] at h
  | _ :: _, [], _, _, _, _, h, _, _, _ => by simp [setArgs] at h
def RR2 (ρ : Names) : AR2 → Next → Prop
  | .val x, y => ∃ v, y = .value v ∧ VR ρ x v
  | .skip, y => y = .skip
  | .enter f args, y => ∃ vs : List Value, y = .enter f vs.toArray ∧ VRL ρ args vs
  | .round id n E ag bd, y => ∃ (b : Nat × Nat) (fn : FuncId) (tmps : Array Value), ρ[id]? = some b ∧ y = .round b.1 fn tmps ag bd ∧ FR n [] ρ E ⟨tmps, []⟩
theorem yieldA_ok {ρ : Names} {H : AH} {w : World} (hH : HR w0 ρ H w) {x : AV} {l : List AV} {vx : Value} {vs : List Value} {id m : Nat} {E' : T AV} {ag bd : Code} (h : yieldA H x l = some (id, m, E', ag, bd)) (hx : VR ρ x vx) (hl : VRL ρ l vs) :
    ∃ (b : Nat × Nat) (fn : FuncId) (tmps : Array Value), ρ[id]? = some b ∧ vx = .func (.yield b.1) #[] #[] ∧ (Instr.yield b.1 vs.toArray).run P w = .ok (.round b.1 fn tmps ag bd) w ∧ FR m [] ρ E' ⟨tmps, []⟩ := by
  unfold yieldA at h
  split at h <;> try (cases h; done)
  split at h <;> try (cases h; done)
  rename_i k hk
  split at h <;> try (cases h; done)
  rename_i st pd n' E ps ag' bd' df hkk
  obtain ⟨hq, h⟩ := cond_some' h
  split at h <;> try (cases h; done)
  rename_i E1 hs
  cases h
  rw [VR] at hx
  obtain ⟨b, hb, rfl⟩ := hx
  obtain ⟨_, _, hO⟩ := (hH.at_ hk hb).o (by rw [hkk]; simp)
  rw [hkk] at hO
  obtain ⟨fn, tmps, b2, h1, h2, h3, h4⟩ := hO
  have hF : FR m [] ρ E ⟨tmps, []⟩ := ⟨rfl, h3, h4⟩
  obtain ⟨g1, g2⟩ := setArgs_ok hs hl (fun p hp => by simpa [Nat.blt_eq] using List.all_eq_true.1 hq p hp) hF
  refine ⟨b, fn, _, hb, rfl, ?_, g2⟩
  have hsz : vs.toArray.size = ps.size := by simp at g1 ⊢; omega
  rw [run_yield h1 hsz]
  congr 2
  rw [← Array.foldl_toList, Array.toList_zip]
theorem ovA_ok (ok : TOk P tb w0) {ρ : Names} {H : AH} {w : World} (hH : HR w0 ρ H w) {x y : AV} {l : List AV} {vx : Value} {vs : List Value} (h : ovA tb H x l = some y) (hx : VR ρ x vx) (hl : VRL ρ l vs) :
    ∃ g, vx = .func (.func g) #[] #[] ∧ ∃ v, VR ρ y v ∧ (callFunc g vs.toArray).run P w = .ok (.value v) w := by
  unfold ovA at h
  split at h <;> try (cases h; done)
  rename_i g p q i o1 m1 c1 j o2 m2 c2
  split at h <;> try (cases h; done)
  rename_i ki kj hg hp hq hi hj
  obtain ⟨hc, h⟩ := cond_some' h
  cases h
  simp only [Bool.and_eq_true, Bool.not_eq_true', Nat.blt_eq] at hc
  obtain ⟨⟨⟨⟨q1, q2⟩, q3⟩, q4⟩, q5⟩ := hc
  have q4 := Nat.eq_of_beq_eq_true q4
  have hij : i ≠ j := fun e => by subst e; simp at q1
  have h2 : p = #[] := by apply Array.toList_inj.1; simpa using hp
  have h3 : q = #[] := by apply Array.toList_inj.1; simpa using hq
  subst h2 h3
  rw [VR] at hx
  subst hx
  obtain ⟨v1, r1, rfl, hv1, hl⟩ := hl.cons
  obtain ⟨v2, r2, rfl, hv2, hl⟩ := hl.cons
  obtain rfl := hl.nil
  rw [VR] at hv1
  obtain ⟨b1, cc1, hb1, rfl, _⟩ := hv1
  rw [VR] at hv2
  obtain ⟨b2, cc2, hb2, rfl, _⟩ := hv2
  have hne : b1.1 ≠ b2.1 := fun e => hij (hH.inj i j b1 b2 ki kj hi hj hb1 hb2 e)
  obtain ⟨us1, rest1, fr1, g1, _, _, _, g5⟩ := (hH.at_ hi hb1).c (isC_ok q2)
  obtain ⟨us2, rest2, fr2, k1, k2, _⟩ := (hH.at_ hj hb2).c (isC_ok q3)
  have hk2 := k2.length
  refine ⟨g, rfl, .bool false, VR.pl, ok.ovl g _ hg w b1.1 b2.1 o1 o2 m1 cc1 m2 cc2 _ _ ki.ty kj.ty fr1 fr2 g1 k1 hne (by rw [List.size_toArray, List.length_append]; omega) (fun j => ?_)⟩
  simp only [World.frozen?, g1]
  have := unfrozen_of (fr := fr1) (m := 0) (j := j) (by rw [← q4]; exact g5) (Nat.zero_le j)
  exact this
theorem extA_ok (ok : TOk P tb w0) {ρ : Names} {x y : AV} {l : List AV} {vx : Value} {vs : List Value} (h : extA tb x l = some y) (hx : VR ρ x vx) (hl : VRL ρ l vs) (w : World) :
    ∃ g, vx = .func (.func g) #[] #[] ∧ ∃ v, VR ρ y v ∧ (callFunc g vs.toArray).run P w = .ok (.value v) w := by
  unfold extA at h
  split at h <;> try (cases h; done)
  rename_i g p q us hus
  split at h <;> try (cases h; done)
  rename_i F hg hp hq
  split at h <;> try (cases h; done)
  rename_i v hv
  cases h
  have h2 : p = #[] := by apply Array.toList_inj.1; simpa using hp
  have h3 : q = #[] := by apply Array.toList_inj.1; simpa using hq
  subst h2 h3
  rw [VR] at hx
  subst hx
  obtain rfl := VRL.plain l us vs hus hl
  exact ⟨g, rfl, v, VR.pl, ok.ext g F hg _ v hv w⟩
def E2Ok (P : Program) (w0 : World) (ρ : Names) (H : AH) (a : Act) (w : World) (o : Oper) (r : AR2) (H' : AH) : Prop :=
  ∃ ρ' w' x, (execOp a.eval o).run P w = .ok x w' ∧ Post w0 ρ H w ρ' H' w' ∧ RR2 ρ' r x
theorem execF_ok (ok : TOk P tb w0) {ρ : Names} {E : T AV} {a : Act} {H H' : AH} {w : World} (hF : FR n ds ρ E a) (hH : HR w0 ρ H w) {o : Oper} {r : AR2} (h : execF P tb E H o = some (r, H')) : E2Ok P w0 ρ H a w o r H' := by
  obtain ⟨dst, op, type, pos, after, guard⟩ := o
  cases op <;> simp only [execF] at h <;> try (cases h; done)
  case makeMap t r =>
    split at h <;> try (cases h; done)
    rename_i x H1 hs
    cases h
    obtain ⟨ρ', w', v, h1, h2, h3⟩ := makeMapA_ok ok hF hH hs
    exact ⟨ρ', w', .value v, by simp [execOp, h1], h2, ⟨v, rfl, h3⟩⟩
  case mapUpdate t m k x =>
    split at h <;> try (cases h; done)
    rename_i y kv v hy hk hv
    split at h <;> try (cases h; done)
    rename_i H1 hs
    cases h
    obtain ⟨w', h1, h2⟩ := mapUpdA_ok ok hH hs (hF.opnd hy) (hF.opnd hv)
    exact ⟨ρ, w', .skip, by simp [execOp, hF.pv hk, h1], h2, rfl⟩
  case insert t m k x =>
    split at h <;> try (cases h; done)
    rename_i y kv v hy hk hv
    split at h <;> try (cases h; done)
    rename_i H1 hs
    cases h
    obtain ⟨w', h1, h2⟩ := mapUpdA_ok ok hH hs (hF.opnd hy) (hF.opnd hv)
    exact ⟨ρ, w', .skip, by simp [execOp, hF.pv hk, h1], h2, rfl⟩
  case range t x =>
    split at h <;> try (cases h; done)
    rename_i y hy
    split at h <;> try (cases h; done)
    rename_i z H1 hs
    cases h
    obtain ⟨ρ', w', v, h1, h2, h3⟩ := rangeA_ok ok hH hs (hF.opnd hy)
    exact ⟨ρ', w', .value v, by simp [execOp, h1], h2, ⟨v, rfl, h3⟩⟩
  case next x isS =>
    cases isS <;> simp only at h <;> try (cases h; done)
    · split at h <;> try (cases h; done)
      rename_i y hy
      split at h <;> try (cases h; done)
      rename_i z H1 hs
      cases h
      obtain ⟨w', v, h1, h2, h3⟩ := nextM_ok (P := P) (ty := type) hH hs (hF.opnd hy)
      exact ⟨ρ, w', .value v, by simp [execOp, h1], h2, ⟨v, rfl, h3⟩⟩
    · split at h <;> try (cases h; done)
      rename_i y hy
      split at h <;> try (cases h; done)
      rename_i z H1 hs
      cases h
      obtain ⟨w', v, h1, h2, h3⟩ := nextA_ok (P := P) (ty := type) hH hs (hF.opnd hy)
      exact ⟨ρ, w', .value v, by simp [execOp, h1], h2, ⟨v, rfl, h3⟩⟩
  case entry x =>
    split at h <;> try (cases h; done)
    rename_i y hy
    split at h <;> try (cases h; done)
    rename_i z hs
    cases h
    obtain ⟨v, h1, h3⟩ := entryM_ok (P := P) hH hs (hF.opnd hy)
    exact ⟨ρ, w, .value v, by simp [execOp, h1], Post.refl hH, ⟨v, rfl, h3⟩⟩
  case call c =>
    obtain ⟨callee, args, argTypes⟩ := c
    split at h
    · rename_i d x t ts hc hargs hts
      simp only at hc hargs hts
      subst hc
      have h1 : args = #[d, x] := by apply Array.toList_inj.1; simpa using hargs
      have h2 : argTypes = #[t, ts] := by apply Array.toList_inj.1; simpa using hts
      subst h1 h2
      split at h <;> try (cases h; done)
      rename_i y z hy hz
      split at h <;> try (cases h; done)
      rename_i v H1 hs
      cases h
      obtain ⟨w', u, g1, g2, g3⟩ := copyA_ok ok hH (ty := type) hs (hF.opnd hy) (hF.opnd hz)
      exact ⟨ρ, w', .value u, by simp [execOp, resolve, invoke, builtin, g1], g2, ⟨u, rfl, g3⟩⟩
    · rename_i x y t tn hc hargs hts
      simp only at hc hargs hts
      subst hc
      have h1 : args = #[x, y] := by apply Array.toList_inj.1; simpa using hargs
      have h2 : argTypes = #[t, tn] := by apply Array.toList_inj.1; simpa using hts
      subst h1 h2
      split at h <;> try (cases h; done)
      rename_i u v hu hv
      split at h <;> try (cases h; done)
      rename_i z H1 hs
      cases h
      obtain ⟨ρ', w', r, g1, g2, g3⟩ := zerosA_ok ok hH (ty := type) hs (hF.opnd hu) (hF.opnd hv)
      exact ⟨ρ', w', .value r, by simp [execOp, resolve, invoke, builtin, g1], g2, ⟨r, rfl, g3⟩⟩
    · rename_i x t hc hargs hts
      simp only at hc hargs hts
      subst hc
      have h1 : args = #[x] := by apply Array.toList_inj.1; simpa using hargs
      have h2 : argTypes = #[t] := by apply Array.toList_inj.1; simpa using hts
      subst h1 h2
      split at h <;> try (cases h; done)
      rename_i y hy
      split at h <;> try (cases h; done)
      rename_i H1 hs
      cases h
      obtain ⟨w', g1, g2⟩ := clearA_ok ok hH (ty := type) hs (hF.opnd hy)
      exact ⟨ρ, w', .value (.tuple #[]), by simp [execOp, resolve, invoke, builtin, g1], g2, ⟨_, rfl, by rw [VR]; exact ⟨[], rfl, VRL.mk0⟩⟩⟩
    · rename_i m k t ats hc hargs hts
      simp only at hc hargs hts
      subst hc
      have h1 : args = #[m, k] := by apply Array.toList_inj.1; simpa using hargs
      have h2 : argTypes = (t :: ats).toArray := by apply Array.toList_inj.1; simpa using hts
      subst h1 h2
      split at h <;> try (cases h; done)
      rename_i y kv hy hk
      split at h <;> try (cases h; done)
      rename_i H1 hs
      cases h
      obtain ⟨w', g1, g2⟩ := deleteA_ok ok hH (ty := type) (ats := ats) (kt2 := 0) hs (hF.opnd hy)
      exact ⟨ρ, w', .value (.tuple #[]), by simp only [execOp, resolve, invoke, builtin, Sem.run_bind, Sem.run_pure, Result.andThen_ok, List.map_toArray, List.map_cons, List.map_nil, hF.pv hk, g1], g2, ⟨_, rfl, by rw [VR]; exact ⟨[], rfl, VRL.mk0⟩⟩⟩
    · rename_i f hc
      simp only at hc
      subst hc
      split at h <;> try (cases h; done)
      rename_i x l hx hl
      have am : args.map a.eval = (args.toList.map a.eval).toArray := by apply Array.toList_inj.1; simp
      split at h
      · rename_i id m E1 ag bd hy
        cases h
        obtain ⟨b, fn, tmps, g1, g2, g3, g4⟩ := yieldA_ok (P := P) hH hy (hF.opnd hx) (hF.opnds hl)
        refine ⟨ρ, w, .round b.1 fn tmps ag bd, ?_, Post.refl hH, ⟨b, fn, tmps, g1, rfl, g4⟩⟩
        simp [execOp, resolve, Deferred.ofValue, g2, invoke, am, g3]
      · split at h
        · rename_i z hz
          cases h
          obtain ⟨g, g1, v, g2, g3⟩ := ovA_ok ok hH hz (hF.opnd hx) (hF.opnds hl)
          refine ⟨ρ, w, .value v, ?_, Post.refl hH, ⟨v, rfl, g2⟩⟩
          simp [execOp, resolve, Deferred.ofValue, g1, invoke, am, g3]
        · split at h <;> try (cases h; done)
          rename_i z hz
          cases h
          obtain ⟨g, g1, v, g2, g3⟩ := extA_ok ok hz (hF.opnd hx) (hF.opnds hl) w
          refine ⟨ρ, w, .value v, ?_, Post.refl hH, ⟨v, rfl, g2⟩⟩
          simp [execOp, resolve, Deferred.ofValue, g1, invoke, am, g3]
    · cases h
def AR.two : AR → AR2
  | .val x => .val x
  | .skip => .skip
  | .enter f l => .enter f l
def exec2 (P : Program) (tb : Tab) (E : T AV) (H : AH) (o : Oper) : Option (AR2 × AH) :=
  match exec1 P tb E H o with
  | some (r, H') => some (r.two, H')
  | none => execF P tb E H o
theorem exec2_ok (ok : TOk P tb w0) {ρ : Names} {E : T AV} {a : Act} {H H' : AH} {w : World} (hF : FR n ds ρ E a) (hH : HR w0 ρ H w) {o : Oper} {r : AR2} (h : exec2 P tb E H o = some (r, H')) : E2Ok P w0 ρ H a w o r H' := by
  unfold exec2 at h
  split at h
  · rename_i r' H1 hx
    cases h
    obtain ⟨ρ', w', x, h1, h2, h3⟩ := exec1_ok ok hF hH hx
    exact ⟨ρ', w', x, h1, h2, by cases r' <;> exact h3⟩
  · exact execF_ok ok hF hH h
theorem execF_wr {E : T AV} {H H' : AH} {o : Oper} {r : AR2} (h : execF P tb E H o = some (r, H')) : ∀ i ∈ H.wr, i ∈ H'.wr := by
  have hput : ∀ (j : Nat) (k : ABlk), ∀ i ∈ H.wr, i ∈ (H.put j k).wr := fun j k i hi => List.mem_cons_of_mem _ hi
  have hnew : ∀ (k : ABlk), ∀ i ∈ H.wr, i ∈ (H.new k).wr := fun k i hi => hi
  obtain ⟨dst, op, type, pos, after, guard⟩ := o
  have hupd : ∀ {t : TypeId} {x v : AV} {kv : Value} {H1 : AH}, mapUpdA tb H t x kv v = some H1 → ∀ i ∈ H.wr, i ∈ H1.wr := by
    intro t x v kv H1 hs
    unfold mapUpdA at hs
    repeat' (split at hs <;> try (cases hs; done))
    all_goals (cases hs; exact hput _ _)
  cases op <;> simp only [execF] at h <;> try (cases h; done)
  case makeMap t r =>
    split at h <;> try (cases h; done)
    rename_i x H1 hs
    cases h
    unfold makeMapA at hs
    repeat' (split at hs <;> try (cases hs; done))
    all_goals (cases hs; exact hnew _)
  case mapUpdate t m k x =>
    repeat' (split at h <;> try (cases h; done))
    rename_i hs
    cases h; exact hupd hs
  case insert t m k x =>
    repeat' (split at h <;> try (cases h; done))
    rename_i hs
    cases h; exact hupd hs
  case range t x =>
    repeat' (split at h <;> try (cases h; done))
    rename_i hs
    cases h
    unfold rangeA at hs
    split at hs <;> try (cases hs; done)
    · have hs := cond_some hs
      cases hs; exact hnew _
    · split at hs <;> try (cases hs; done)
      cases hs; exact hnew _
    · split at hs <;> try (cases hs; done)
      split at hs <;> try (cases hs; done)
      cases hs; exact hnew _
  case next x isS =>
    cases isS <;> simp only at h <;> try (cases h; done)
    · repeat' (split at h <;> try (cases h; done))
      rename_i hs
      cases h
      unfold nextM at hs
      split at hs <;> try (cases hs; done)
      split at hs <;> try (cases hs; done)
      split at hs <;> try (cases hs; done)
      · cases hs; exact fun i hi => hi
      · split at hs <;> try (cases hs; done)
        split at hs <;> try (cases hs; done)
        have hs := cond_some hs
        split at hs <;> try (cases hs; done)
        · cases hs; exact fun i hi => hi
        · cases hs; exact hput _ _
    · repeat' (split at h <;> try (cases h; done))
      rename_i hs
      cases h
      unfold nextA at hs
      repeat' (split at hs <;> try (cases hs; done))
      rcases cond_or hs with hs | hs
      · cases hs; exact hput _ _
      · cases hs; exact fun i hi => hi
  case entry x =>
    repeat' (split at h <;> try (cases h; done))
    cases h; exact fun i hi => hi
  case call c =>
    split at h
    · repeat' (split at h <;> try (cases h; done))
      rename_i hs
      cases h
      unfold copyA at hs
      repeat' (split at hs <;> try (cases hs; done))
      have hs := cond_some hs
      cases hs; exact hput _ _
    · repeat' (split at h <;> try (cases h; done))
      rename_i hs
      cases h
      unfold zerosA at hs
      repeat' (split at hs <;> try (cases hs; done))
      have hs := cond_some hs
      cases hs; exact hnew _
    · repeat' (split at h <;> try (cases h; done))
      rename_i hs
      cases h
      unfold clearA at hs
      split at hs
      · repeat' (split at hs <;> try (cases hs; done))
        · cases hs; exact fun i hi => hi
        · have hs := cond_some hs
          cases hs; exact hput _ _
      · repeat' (split at hs <;> try (cases hs; done))
        cases hs; exact fun i hi => hi
      · repeat' (split at hs <;> try (cases hs; done))
        cases hs; exact hput _ _
      · cases hs
    · repeat' (split at h <;> try (cases h; done))
      rename_i hs
      cases h
      unfold deleteA at hs
      repeat' (split at hs <;> try (cases hs; done))
      all_goals (cases hs; exact hput _ _)
    · repeat' (split at h <;> try (cases h; done))
      all_goals (cases h; exact fun i hi => hi)
    · cases h
theorem exec2_wr {E : T AV} {H H' : AH} {o : Oper} {r : AR2} (h : exec2 P tb E H o = some (r, H')) : ∀ i ∈ H.wr, i ∈ H'.wr := by
  unfold exec2 at h
  split at h
  · rename_i hx; cases h; exact exec1_wr hx
  · exact execF_wr h
end
end Go.Ev
