/- Arguments opened: what a row reads of an argument made of numbers, bools, strings, structs and slices is data (XData) that has a shape (XCopy). No statement is proved here. -/
import Derived.Test.YtpdichhabjieeaaGreatDoorApi
import Derived.Test.YtpdichhabjieeaaGreatDoorMore
import Derived.ProofKit
import Derived.OpenShut
import Derived.SizedLaws
import Derived.ChangeArms
namespace Go.Sx
open Go.RowKit
set_option linter.unusedVariables false

/-! ### a table of types and their cells' kinds, checked -/
def eqK : K → K → Bool
  | .int, .int => true
  | .bool, .bool => true
  | .str, .str => true
  | .sl a, .sl b => a == b
  | _, _ => false
theorem eqK_eq : ∀ {a b : K}, eqK a b = true → a = b
  | .int, .int, _ => rfl
  | .bool, .bool, _ => rfl
  | .str, .str, _ => rfl
  | .sl a, .sl b, h => by simp only [eqK, beq_iff_eq] at h; rw [h]
  | .int, .bool, h | .int, .str, h | .int, .sl _, h | .bool, .int, h | .bool, .str, h | .bool, .sl _, h | .str, .int, h | .str, .bool, h | .str, .sl _, h | .sl _, .int, h | .sl _, .bool, h | .sl _, .str, h => by cases h
def eqKs : List K → List K → Bool
  | [], [] => true
  | a :: l, b :: r => eqK a b && eqKs l r
  | _, _ => false
theorem eqKs_eq : ∀ {a b : List K}, eqKs a b = true → a = b
  | [], [], _ => rfl
  | a :: l, b :: r, h => by
    simp only [eqKs, Bool.and_eq_true] at h
    rw [eqK_eq h.1, eqKs_eq h.2]
  | [], _ :: _, h | _ :: _, [], h => by cases h
def tabAt : List (TypeId × List K) → TypeId → Option (List K)
  | [], _ => none
  | x :: xs, t => bif Nat.beq x.1 t then some x.2 else tabAt xs t
theorem tabAt_mem : ∀ {tab : List (TypeId × List K)} {t : TypeId} {ks : List K}, tabAt tab t = some ks → (t, ks) ∈ tab
  | [], _, _, h => by cases h
  | x :: xs, t, ks, h => by
    simp only [tabAt] at h
    cases hb : Nat.beq x.1 t with
    | true =>
      rw [hb] at h
      simp only [cond_true, Option.some.injEq] at h
      have e := Nat.eq_of_beq_eq_true hb
      have hx : x = (t, ks) := Prod.ext e h
      rw [hx]
      exact List.mem_cons_self ..
    | false =>
      rw [hb] at h
      exact List.mem_cons_of_mem _ (tabAt_mem h)
def fldsAt (P : Program) (tab : List (TypeId × List K)) : List Field → Nat → Option (List K)
  | [], _ => some []
  | f :: fs, o => bif Nat.beq f.offset o then (match tabAt tab f.type with
      | some k => bif Nat.beq (P.cellsOf f.type) k.length then (match fldsAt P tab fs (o + k.length) with | some r => some (k ++ r) | none => none) else none
      | none => none) else none
def oneAt (P : Program) (sh : Nat → List K) (by_ : Nat → Nat) (tab : List (TypeId × List K)) (x : TypeId × List K) : Bool :=
  Nat.beq (P.cellsOf x.1) x.2.length && match P.underlying x.1 with
    | some .bool => eqKs x.2 [.bool]
    | some (.int .i64) => eqKs x.2 [.int]
    | some .string => eqKs x.2 [.str]
    | some (.slice e) => (match x.2 with
      | [.sl t] => (match tabAt tab e with | some ks => eqKs ks (sh t) && Nat.blt 0 ks.length && Nat.beq (P.cellsOf e) ks.length && Nat.beq (P.bytesOf e) (by_ t) | none => false)
      | _ => false)
    | some (.struct fs) => (match fldsAt P tab fs.toList 0 with | some ks' => eqKs ks' x.2 | none => false)
    | _ => false

/-! ### how much is read -/
mutual
def bulk {H : Type} : DataW H → Nat
  | .lit (.string bytes) => bytes.length + 1
  | .lit _ => 1
  | .nil => 1
  | .ptr d => bulk d + 1
  | .slice elems spare => bulkAll elems + bulkAll spare + 1
  | .agg parts => bulkAll parts + 1
  | .iface _ d => bulk d + 1
  | .map entries => 1
  | .held _ => 1
def bulkAll {H : Type} : List (DataW H) → Nat
  | [] => 0
  | d :: r => bulk d + bulkAll r
end

section
variable {H : Type} {enc : TypeId × Value → H} {P : Program} {w : World} {spare : Nat → Bool} {held : Bool} {tab : List (TypeId × List K)} {sh : Nat → List K} {by_ : Nat → Nat}

/-- what is shown of one value -/
def Opened (sh : Nat → List K) (by_ : Nat → Nat) (w : World) (ks : List K) (cs : List Value) (d : DataW H) : Prop := ∃ ds, RdL (Im w []) w ds cs ∧ FitL sh by_ ds ks ∧ szL ds + 1 ≤ 2 * bulk d

theorem FitL.app : ∀ {ds ds' : List D} {ks ks' : List K}, FitL sh by_ ds ks → FitL sh by_ ds' ks' → FitL sh by_ (ds ++ ds') (ks ++ ks')
  | [], _, ks, _, h, h' => by rw [FitL] at h; subst h; exact h'
  | d :: ds, ds', ks, ks', h, h' => by
    rw [FitL] at h
    obtain ⟨k, kr, rfl, h1, h2⟩ := h
    rw [List.cons_append, List.cons_append, FitL]
    exact ⟨k, _, rfl, h1, FitL.app h2 h'⟩

theorem FitL.one {d : D} {k : K} (h : Fit sh by_ d k) : FitL sh by_ [d] [k] := by
  rw [FitL]; exact ⟨k, [], rfl, h, by rw [FitL]⟩

def Wt (P : Program) (t : TypeId) (d : DataW H) : Prop := ∀ x ∈ d.weights P t, x ≤ reachBytes
def WtAll (P : Program) (t : TypeId) (ds : List (DataW H)) : Prop := ∀ x ∈ DataW.weightsAll P t ds, x ≤ reachBytes
def WtEach (P : Program) (ts : List TypeId) (ds : List (DataW H)) : Prop := ∀ x ∈ DataW.weightsEach P ts ds, x ≤ reachBytes
theorem WtEach.cons {t : TypeId} {ts : List TypeId} {d : DataW H} {ds : List (DataW H)} (h : WtEach P (t :: ts) (d :: ds)) : Wt P t d ∧ WtEach P ts ds :=
  ⟨fun x hx => h x (by simp [DataW.weightsEach, hx]), fun x hx => h x (by simp [DataW.weightsEach, hx])⟩
theorem WtAll.cons {t : TypeId} {d : DataW H} {ds : List (DataW H)} (h : WtAll P t (d :: ds)) : Wt P t d ∧ WtAll P t ds :=
  ⟨fun x hx => h x (by simp [DataW.weightsAll, hx]), fun x hx => h x (by simp [DataW.weightsAll, hx])⟩

theorem open_flds {fuel : Nat} (ih : ∀ t ks cs d ps, DataW.trod enc P w 0 spare held fuel t cs = some (d, ps) → tabAt tab t = some ks → Wt P t d → Opened sh by_ w ks cs d) {cs : List Value} :
    ∀ (fs : List Field) (o : Nat) (ks : List K) (xs : List (DataW H × List MemPlace)), fldsAt P tab fs o = some ks → xs.length = fs.length →
      (∀ (i : Nat) (f : Field), fs[i]? = some f → DataW.trod enc P w 0 spare held fuel f.type ((cs.drop f.offset).take (P.cellsOf f.type)) = xs[i]?) → WtEach P (fs.map (·.type)) (xs.map (·.1)) →
      ∃ ds, RdL (Im w []) w ds ((cs.drop o).take ks.length) ∧ FitL sh by_ ds ks ∧ szL ds ≤ 2 * bulkAll (xs.map (·.1))
  | [], o, ks, xs, h, hl, hx, _ => by
    simp only [fldsAt, Option.some.injEq] at h
    subst h
    refine ⟨[], ?_, by simp [FitL], by simp [szL]⟩
    simp [RdL]
  | f :: fs, o, ks, [], h, hl, hx, _ => by simp at hl
  | f :: fs, o, ks, y :: xs, h, hl, hx, hw => by
    simp only [fldsAt] at h
    cases hb : Nat.beq f.offset o with
    | false => rw [hb] at h; cases h
    | true =>
      rw [hb, cond_true] at h
      have ho := Nat.eq_of_beq_eq_true hb
      cases hk : tabAt tab f.type with
      | none => rw [hk] at h; cases h
      | some k =>
        simp only [hk] at h
        cases hc : Nat.beq (P.cellsOf f.type) k.length with
        | false => rw [hc] at h; cases h
        | true =>
          rw [hc, cond_true] at h
          have hcl := Nat.eq_of_beq_eq_true hc
          cases hr : fldsAt P tab fs (o + k.length) with
          | none => rw [hr] at h; cases h
          | some kr =>
            simp only [hr, Option.some.injEq] at h
            subst h
            have hw' : WtEach P (f.type :: fs.map (·.type)) (y.1 :: xs.map (·.1)) := hw
            obtain ⟨w1, w2⟩ := hw'.cons
            have h0 := hx 0 f rfl
            obtain ⟨d1, r1, f1, s1⟩ := ih f.type k _ y.1 y.2 h0 hk w1
            obtain ⟨d2, r2, f2, s2⟩ := open_flds ih fs (o + k.length) kr xs hr (by simpa using hl) (fun i g hg => by simpa using hx (i + 1) g (by simpa using hg)) w2
            refine ⟨d1 ++ d2, ?_, FitL.app f1 f2, by rw [szL_append]; simp only [List.map_cons, bulkAll]; omega⟩
            have h1 := r1.append r2
            have e : (cs.drop o).take ((k ++ kr).length) = (cs.drop f.offset).take (P.cellsOf f.type) ++ (cs.drop (o + k.length)).take kr.length := by
              rw [ho, hcl, List.length_append, List.take_add, List.drop_drop]
            rw [e]
            exact h1

theorem cells_range {a : Addr} {n : Nat} {cs : List Value} (h : w.cells? 0 a n = some cs) (hn : 0 < n) : ∃ g off, a = ⟨g, off, none⟩ ∧ cs.length = n ∧ w.rangeAt g off cs := by
  obtain ⟨_, hl, hc⟩ := World.cells?_some h
  have h0 := hc 0 hn
  have hcs : cs[0]? = some (cs[0]'(by omega)) := List.getElem?_eq_getElem (by omega)
  rw [hcs] at h0
  obtain ⟨g, off, spot⟩ := a
  have hsp : spot = none := by
    simp only [Addr.add, if_true] at h0
    unfold World.cell? at h0
    split at h0
    · split at h0
      · cases h0
      · rename_i hs; simpa using hs
    · cases h0
  subst hsp
  refine ⟨g, off, rfl, hl, fun j v hj => ?_⟩
  have hjl : j < n := by have := (List.getElem?_eq_some_iff.1 hj).1; omega
  have := hc j hjl
  rw [Addr.add_mid] at this
  rw [this]; exact hj

theorem open_rows {fuel : Nat} (ih : ∀ t ks cs d ps, DataW.trod enc P w 0 spare held fuel t cs = some (d, ps) → tabAt tab t = some ks → Wt P t d → Opened sh by_ w ks cs d) {a : Addr} {e : TypeId} {ks : List K} (hk : tabAt tab e = some ks)
    (hlen : P.cellsOf e = ks.length) (hpos : 0 < ks.length) :
    ∀ (xs : List (DataW H × List MemPlace)) (s : Nat), (∀ i, i < xs.length → (w.cells? 0 (a.add ((s + i) * P.cellsOf e)) (P.cellsOf e)).bind (DataW.trod enc P w 0 spare held fuel e) = xs[i]?) → WtAll P e (xs.map (·.1)) →
      ∃ rows vs, RdR (Im w []) w rows vs ∧ rows.length = xs.length ∧ FitR sh by_ rows ks ∧ szR rows ≤ 2 * bulkAll (xs.map (·.1)) ∧ (∀ v ∈ vs, v.length = ks.length) ∧
        ∀ (i : Nat) (v : List Value), vs[i]? = some v → ∃ g off, a.add ((s + i) * P.cellsOf e) = ⟨g, off, none⟩ ∧ w.rangeAt g off v
  | [], s, h, _ => ⟨[], [], trivial, rfl, by simp [FitR], by simp [szR], by simp, by simp⟩
  | y :: xs, s, h, hw => by
    have hw' : WtAll P e (y.1 :: xs.map (·.1)) := hw
    obtain ⟨w1, w2⟩ := hw'.cons
    have h0 := h 0 (by simp)
    simp only [Nat.add_zero, List.getElem?_cons_zero] at h0
    cases hc : w.cells? 0 (a.add (s * P.cellsOf e)) (P.cellsOf e) with
    | none => rw [hc] at h0; cases h0
    | some cs =>
      rw [hc, Option.bind_some] at h0
      obtain ⟨d1, r1, f1, s1⟩ := ih e ks cs y.1 y.2 h0 hk w1
      obtain ⟨rows, vs, r2, l2, f2, s2, v2, c2⟩ := open_rows ih hk hlen hpos xs (s + 1) (fun i hi => by
        have := h (i + 1) (by simpa using hi)
        rw [show s + 1 + i = s + (i + 1) by omega]
        simpa using this) w2
      obtain ⟨g, off, hg, hcl, hr⟩ := cells_range hc (by omega)
      refine ⟨d1 :: rows, cs :: vs, ⟨r1, r2⟩, by simp [l2], by rw [FitR]; exact ⟨f1, f2⟩, by simp only [szR, List.map_cons, bulkAll]; omega, ?_, fun j v hv => ?_⟩
      · intro v hv
        rcases List.mem_cons.1 hv with rfl | hv
        · omega
        · exact v2 v hv
      · cases j with
        | zero =>
          simp only [List.getElem?_cons_zero, Option.some.injEq] at hv
          subst hv
          exact ⟨g, off, by simpa using hg, hr⟩
        | succ j =>
          have := c2 j v (by simpa using hv)
          rwa [show s + 1 + j = s + (j + 1) by omega] at this

theorem lenR_le : ∀ (rows : List (List D)), rows.length ≤ szR rows
  | [] => by simp
  | r :: rs => by have := lenR_le rs; simp only [szR, List.length_cons]; omega

theorem rows_range {g off es : Nat} : ∀ (vs : List (List Value)) (s : Nat), (∀ v ∈ vs, v.length = es) → (∀ (i : Nat) (v : List Value), vs[i]? = some v → w.rangeAt g (off + (s + i) * es) v) → w.rangeAt g (off + s * es) vs.flatten
  | [], _, _, _ => fun j u h => by simp at h
  | v :: vs, s, hl, h => fun j u hj => by
    have hv : v.length = es := hl v (List.mem_cons_self ..)
    rw [List.flatten_cons] at hj
    by_cases hjl : j < v.length
    · rw [List.getElem?_append_left hjl] at hj
      have := h 0 v rfl j u hj
      simpa using this
    · rw [List.getElem?_append_right (by omega)] at hj
      have h1 := rows_range vs (s + 1) (fun x hx => hl x (List.mem_cons_of_mem _ hx)) (fun i x hx => by
        have := h (i + 1) x (by simpa using hx)
        rwa [show s + (i + 1) = s + 1 + i by omega] at this) (j - v.length) u hj
      rw [Nat.add_mul, Nat.one_mul] at h1
      rwa [show off + (s * es + es) + (j - v.length) = off + s * es + j by omega] at h1

theorem open_trod (hT : tab.all (oneAt P sh by_ tab) = true) : ∀ (fuel : Nat) (t : TypeId) (ks : List K) (cs : List Value) (d : DataW H) (ps : List MemPlace),
    DataW.trod enc P w 0 spare held fuel t cs = some (d, ps) → tabAt tab t = some ks → Wt P t d → Opened sh by_ w ks cs d
  | 0, _, _, _, _, _, h, _, _ => by simp [DataW.trod] at h
  | fuel + 1, t, ks, cs, d, ps, h, ht, hb => by
    have ih := open_trod hT fuel
    have hone := List.all_eq_true.1 hT _ (tabAt_mem ht)
    simp only [oneAt, Bool.and_eq_true] at hone
    obtain ⟨hcell0, hone⟩ := hone
    have hcell := Nat.eq_of_beq_eq_true hcell0
    split at hone
    · rename_i hu
      obtain rfl := eqKs_eq hone
      obtain ⟨b, rfl, hx⟩ := DataW.trod_bool hu h
      simp only [Prod.mk.injEq] at hx
      obtain ⟨rfl, _⟩ := hx
      exact ⟨[.bool b], ⟨by simp [Rd], trivial⟩, FitL.one (by simp [Fit]), by simp [szL, D.sz, bulk]⟩
    · rename_i hu
      obtain rfl := eqKs_eq hone
      obtain ⟨n, rfl, hx, hwf⟩ := DataW.trod_int hu h
      simp only [Prod.mk.injEq] at hx
      obtain ⟨rfl, _⟩ := hx
      have m1 : IntKind.i64.min = -9223372036854775808 := by decide
      have m2 : IntKind.i64.max = 9223372036854775807 := by decide
      simp only [Lit.wf, Bool.and_eq_true, decide_eq_true_eq] at hwf
      exact ⟨[.int n], ⟨by simp [Rd], trivial⟩, FitL.one (by rw [Fit]; exact ⟨rfl, by omega, by omega⟩), by simp [szL, D.sz, bulk]⟩
    · rename_i hu
      obtain rfl := eqKs_eq hone
      obtain ⟨s, rfl, hx, hs⟩ := DataW.trod_string hu h
      simp only [Prod.mk.injEq] at hx
      obtain ⟨rfl, _⟩ := hx
      have := hb s.data.toList.length (by simp [DataW.weights])
      have hsz : s.data.toList.length = s.size := by simp
      refine ⟨[.str s], ⟨by simp [Rd], trivial⟩, FitL.one (by rw [Fit]; refine ⟨rfl, ?_⟩; simp only [reachBytes] at this; omega), ?_⟩
      simp only [szL, D.sz, bulk]
      omega
    · rename_i e hu
      split at hone
      · rename_i x1 t1
        cases hk : tabAt tab e with
        | none => rw [hk] at hone; cases hone
        | some kk =>
          simp only [hk, Bool.and_eq_true] at hone
          obtain ⟨⟨⟨e1, e2⟩, e3⟩, e4⟩ := hone
          have hkk := eqKs_eq e1
          have hpos : 0 < kk.length := by simpa [Nat.blt_eq] using e2
          have hce := Nat.eq_of_beq_eq_true e3
          have hby := Nat.eq_of_beq_eq_true e4
          rcases DataW.trod_slice hu h with ⟨rfl, hx⟩ | ⟨a, len, cap, elems, rest, n, hn, rfl, hx, hb0, hl, hm, hlen, hel, hsp, hns⟩
          · simp only [Prod.mk.injEq] at hx
            obtain ⟨rfl, _⟩ := hx
            exact ⟨[.sl []], ⟨by rw [Rd]; exact ⟨none, 0, rfl, .inl rfl⟩, trivial⟩, FitL.one (by rw [Fit]; exact ⟨t1, rfl, by simp, by simp [FitR]⟩), by simp [szL, D.sz, szR, bulk]⟩
          · simp only [Prod.mk.injEq] at hx
            obtain ⟨rfl, _⟩ := hx
            have hn' : n = fuel := by omega
            subst hn'
            have hwl := hb ((elems.map (·.1)).length + (rest.map (·.1)).length |> fun q => q * P.bytesOf e) (by simp [DataW.weights, hu])
            simp only [List.length_map, reachBytes] at hwl
            have hwa : WtAll P e (elems.map (·.1)) := fun x hx => hb x (by simp only [DataW.weights, hu]; exact List.mem_cons_of_mem _ (List.mem_append_left _ hx))
            obtain ⟨rows, vs, r1, r2, r3, r4, r5, r6⟩ := open_rows ih hk hce hpos (a := a) elems 0 (fun i hi => by rw [Nat.zero_add]; exact hel i (by omega)) hwa
            refine ⟨[.sl rows], ⟨?_, trivial⟩, FitL.one ?_, ?_⟩
            · rw [Rd]
              refine ⟨some a, cap, by rw [r2, hlen], ?_⟩
              have hlv := r1.length
              cases hvs : vs with
              | nil => left; rw [hvs] at hlv; exact List.eq_nil_of_length_eq_zero (by simpa using hlv)
              | cons v0 vr =>
                right
                obtain ⟨g, off, hg, hr0⟩ := r6 0 v0 (by rw [hvs]; rfl)
                have ha : a = ⟨g, off, none⟩ := by simpa [Addr.add] using hg
                subst ha
                have hr : w.rangeAt g (off + 0 * kk.length) vs.flatten := rows_range vs 0 r5 (fun i v hv => by
                  obtain ⟨g', off', hg', hr'⟩ := r6 i v hv
                  rw [Addr.add_mid, hce] at hg'
                  simp only [Addr.mk.injEq] at hg'
                  obtain ⟨rfl, rfl, _⟩ := hg'
                  exact hr')
                simp only [Nat.zero_mul, Nat.add_zero] at hr
                have hv0 : v0.length = kk.length := r5 v0 (by rw [hvs]; simp)
                have hcell0 : w.cell? ⟨g, off, none⟩ = some (v0[0]'(by omega)) := by
                  have := hr0 0 (v0[0]'(by omega)) (List.getElem?_eq_getElem (by omega))
                  simpa using this
                have hlt := block_lt_of_cell hcell0
                exact ⟨g, off, rfl, ⟨hlt, by simp⟩, hlt, RdRows.mk r1 hr⟩
            · rw [Fit]
              refine ⟨t1, rfl, ?_, hkk ▸ r3⟩
              rw [r2, ← hby]
              rw [Nat.add_mul] at hwl
              omega
            · simp only [szL, D.sz, bulk]
              omega
      · cases hone
    · rename_i fs hu
      cases hf : fldsAt P tab fs.toList 0 with
      | none => rw [hf] at hone; cases hone
      | some ks' =>
        simp only [hf] at hone
        have hkk := eqKs_eq hone
        have hkk' : ks' = ks := hkk
        subst hkk'
        obtain ⟨xs, n, hn, hx, hcl, hxl, hfi⟩ := DataW.trod_struct hu h
        simp only [Prod.mk.injEq] at hx
        obtain ⟨rfl, _⟩ := hx
        have hn' : n = fuel := by omega
        subst hn'
        obtain ⟨ds, r1, r2, r3⟩ := open_flds ih (cs := cs) fs.toList 0 ks' xs hf (by simpa using hxl) (fun i f hi => hfi i f (by simpa using hi)) (fun x hx => hb x (by simp only [DataW.weights, hu]; exact hx))
        refine ⟨ds, ?_, r2, ?_⟩
        · have hc2 : cs.length = ks'.length := by rw [hcl]; exact hcell
          rw [List.drop_zero, ← hc2, List.take_length] at r1
          exact r1
        · simp only [bulk]; omega
    · cases hone
end

/-- a value that is one cell -/
theorem open_cell {H : Type} {enc : TypeId × Value → H} {P : Program} {w : World} {spare : Nat → Bool} {held : Bool} {tab : List (TypeId × List K)} {sh : Nat → List K} {by_ : Nat → Nat} (hT : tab.all (oneAt P sh by_ tab) = true) {t : TypeId} {k : K} {v : Value} {d : DataW H} {ps : List MemPlace}
    (h : DataW.Trod enc P w 0 spare held t v d ps) (ht : tabAt tab t = some [k]) (hw : Wt P t d) (hv : v.cells = #[v]) : ∃ x, Rd (Im w []) w x v ∧ Fit sh by_ x k ∧ x.sz + 1 ≤ 2 * bulk d := by
  obtain ⟨fuel, h⟩ := h
  rw [hv] at h
  obtain ⟨ds, r, f, s⟩ := open_trod hT fuel t [k] _ d ps h ht hw
  obtain ⟨x, ds', rfl, f1, f2⟩ := f.cons
  obtain rfl := f2.nil
  exact ⟨x, r.1, f1, by simpa [szL] using s⟩
end Go.Sx
