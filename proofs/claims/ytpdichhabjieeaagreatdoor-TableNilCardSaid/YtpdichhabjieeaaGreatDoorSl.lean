/- Slices cut at a place, the greater and the lesser of numbers, two results out of cells. No statement is proved here. -/
import Derived.Test.YtpdichhabjieeaaGreatDoorW1
import Derived.Laws.Slices
namespace Go.Sx
open Go.RowKit
set_option linter.unusedVariables false
set_option linter.unusedSimpArgs false

def mx3 (a b c : Int) : Int := if c > (if b > a then b else a) then c else (if b > a then b else a)
def mn2 (a b : Int) : Int := if b < a then b else a
/-- where a log is cut -/
def cutAt (a c : Int) (len : Nat) : Nat := (mn2 (mx3 a c 0) (len : Int)).toNat
theorem cutAt_eq (a c : Int) (len : Nat) : mn2 (mx3 a c 0) (len : Int) = (cutAt a c len : Int) := by
  unfold cutAt mn2 mx3
  repeat' split
  all_goals omega
theorem cutAt_le (a c : Int) (len : Nat) : cutAt a c len ≤ len := by
  unfold cutAt mn2 mx3
  repeat' split
  all_goals omega
theorem cutAt_com (a c : Int) (len : Nat) (h : c ≤ (len : Int)) : c ≤ (cutAt a c len : Int) := by
  unfold cutAt mn2 mx3
  repeat' split
  all_goals omega
theorem cutAt_at (k len : Nat) (h : k ≤ len) : cutAt (k : Int) 0 len = k := by
  unfold cutAt mn2 mx3
  repeat' split
  all_goals omega

theorem RdRows.drop {S : Nat → Prop} {w : World} {es : Nat} : ∀ (k : Nat) {rows : List (List D)} {g off : Nat}, (∀ r ∈ rows, r.length = es) → RdRows S w rows g off → RdRows S w (rows.drop k) g (off + k * es)
  | 0, rows, g, off, _, h => by simpa using h
  | k + 1, [], g, off, _, h => by simp [RdRows]
  | k + 1, r :: rs, g, off, hes, h => by
    rw [RdRows] at h
    have h2 := h.2
    rw [hes r (List.mem_cons_self ..)] at h2
    have := RdRows.drop k (fun x hx => hes x (List.mem_cons_of_mem _ hx)) h2
    rw [List.drop_succ_cons, show off + (k + 1) * es = off + es + k * es by rw [Nat.add_mul]; omega]
    exact this
theorem RdRows.take {S : Nat → Prop} {w : World} : ∀ (k : Nat) {rows : List (List D)} {g off : Nat}, RdRows S w rows g off → RdRows S w (rows.take k) g off
  | 0, rows, g, off, h => by simp [RdRows]
  | k + 1, [], g, off, h => by simp [RdRows]
  | k + 1, r :: rs, g, off, h => by
    rw [RdRows] at h
    rw [List.take_succ_cons, RdRows]
    exact ⟨h.1, RdRows.take k h.2⟩
theorem rd_from {S : Nat → Prop} {w : World} {rows : List (List D)} {a : Option Addr} {cap es k : Nat} (h : Rd S w (.sl rows) (.slice a rows.length cap)) (hes : ∀ r ∈ rows, r.length = es) (hk : k ≤ rows.length) (hc : rows.length ≤ cap) :
    Rd S w (.sl (rows.drop k)) (sliced a k rows.length cap es) := by
  rw [Rd] at h ⊢
  obtain ⟨a', cap', he, hr⟩ := h
  cases he
  refine ⟨if cap = k then a else a.map (·.add (k * es)), cap - k, by rw [List.length_drop]; rfl, ?_⟩
  by_cases hd : rows.drop k = []
  · exact .inl hd
  · rcases hr with rfl | ⟨g, off, rfl, hS, hg, hR⟩
    · simp at hd
    · have hlt : k < rows.length := by
        rcases Nat.lt_or_ge k rows.length with h | h
        · exact h
        · exact absurd (List.drop_eq_nil_of_le h) hd
      refine .inr ⟨g, off + k * es, ?_, hS, hg, RdRows.drop k hes hR⟩
      rw [if_neg (by omega)]
      simp [Addr.add_mid]
theorem rd_to {S : Nat → Prop} {w : World} {rows : List (List D)} {a : Option Addr} {cap es k : Nat} (h : Rd S w (.sl rows) (.slice a rows.length cap)) (hk : k ≤ rows.length) (hc : rows.length ≤ cap) :
    Rd S w (.sl (rows.take k)) (sliced a 0 k cap es) := by
  rw [Rd] at h ⊢
  obtain ⟨a', cap', he, hr⟩ := h
  cases he
  refine ⟨if cap = 0 then a else a.map (·.add (0 * es)), cap, by rw [List.length_take, Nat.min_eq_left hk]; rfl, ?_⟩
  rcases hr with rfl | ⟨g, off, rfl, hS, hg, hR⟩
  · exact .inl (by simp)
  · refine .inr ⟨g, off, ?_, hS, hg, RdRows.take k hR⟩
    split
    · rfl
    · simp [Addr.add_mid]

section
variable {sh : Nat → List K} {by_ : Nat → Nat}
theorem FitL.cons_iff {d : D} {ds : List D} {k : K} {ks : List K} : FitL sh by_ (d :: ds) (k :: ks) ↔ Fit sh by_ d k ∧ FitL sh by_ ds ks := by
  rw [FitL]
  constructor
  · rintro ⟨k', ks', he, h1, h2⟩
    cases he
    exact ⟨h1, h2⟩
  · rintro ⟨h1, h2⟩
    exact ⟨k, ks, rfl, h1, h2⟩
theorem FitL.nil_iff : FitL sh by_ [] [] ↔ True := by rw [FitL]; simp
theorem Fit.int_iff {m : Int} : Fit sh by_ (.int m) .int ↔ -9223372036854775808 ≤ m ∧ m ≤ 9223372036854775807 := by rw [Fit]; simp
theorem Fit.sl_iff {rows : List (List D)} {t : Nat} : Fit sh by_ (.sl rows) (.sl t) ↔ rows.length * by_ t ≤ 140737488355328 ∧ FitR sh by_ rows (sh t) := by
  rw [Fit]
  constructor
  · rintro ⟨t', he, h1, h2⟩
    cases he
    exact ⟨h1, h2⟩
  · rintro ⟨h1, h2⟩
    exact ⟨t, rfl, h1, h2⟩
theorem FitR.of : ∀ {rs : List (List D)} {ks : List K}, (∀ r ∈ rs, FitL sh by_ r ks) → FitR sh by_ rs ks
  | [], _, _ => by rw [FitR]; trivial
  | r :: rs, ks, h => by rw [FitR]; exact ⟨h r (List.mem_cons_self ..), FitR.of (fun x hx => h x (List.mem_cons_of_mem _ hx))⟩
end
section
variable {P : Program} {ops : Array Oper} {Q : Exit → Act → World → Prop} {n : Nat} {e : Env} {S : World → Prop}
theorem yl_from {o : Oper} {T E : TypeId} {x y : Operand} {a : Option Addr} {len cap k es : Nat} (ho : o.op = .slice T x (some y) none none)
    (hT : (P.underlying T, (P.info? E).map (·.size)) = (some (.slice E), some es)) (hx : rho e x = .slice a len cap) (hy : rho e y = .int .i64 (k : Int)) (hk : k ≤ len) : Yl P S e o (sliced a k len cap es) := fun w _ => by
  simp only [Prod.mk.injEq] at hT
  obtain ⟨hu, hi⟩ := hT
  obtain ⟨i, hq, hs⟩ := Option.map_eq_some_iff.1 hi
  unfold execOp
  simp [ho, hx, hy, Instr.sliceAt, Instr.slice, run_underlying hu, Instr.sliceBounds, run_sliceBound, sizeOf, typeInfo, hq, hs, sliced, hk]
theorem yl_to {o : Oper} {T E : TypeId} {x y : Operand} {a : Option Addr} {len cap k es : Nat} (ho : o.op = .slice T x none (some y) none)
    (hT : (P.underlying T, (P.info? E).map (·.size)) = (some (.slice E), some es)) (hx : rho e x = .slice a len cap) (hy : rho e y = .int .i64 (k : Int)) (hk : k ≤ cap) : Yl P S e o (sliced a 0 k cap es) := fun w _ => by
  simp only [Prod.mk.injEq] at hT
  obtain ⟨hu, hi⟩ := hT
  obtain ⟨i, hq, hs⟩ := Option.map_eq_some_iff.1 hi
  unfold execOp
  simp [ho, hx, hy, Instr.sliceAt, Instr.slice, run_underlying hu, Instr.sliceBounds, run_sliceBound, sizeOf, typeInfo, hq, hs, sliced, hk]
theorem SH.transC {wb w1 w : World} {L L' : List Blk} (h1 : SH wb L w1) (h : SH w1 L' w) (hL : L.map (·.b) = L'.map (·.b)) : SH wb L' w :=
  ⟨h.os.trans h1.os, h.tape.trans h1.tape, h.output.trans h1.output, Nat.le_trans h1.size h.size, fun k hk hx => by
    rw [h.kept k (Nat.lt_of_lt_of_le hk h1.size) hx]
    exact h1.kept k hk (im_cong hL.symm (⟨hk, hx⟩ : Im wb L' k)).2, h.blk, h.dis⟩
theorem yl_ex {α : Type} {o : Oper} {v : Value} {F : α → World → Prop} (h : ∀ x, Yl P (F x) e o v) : Yl P (fun w => ∃ x, F x w) e o v := fun w ⟨x, hx⟩ => h x w hx
/-- a store in the head of a region that draws, where it is the one operation that may come up -/
theorem wd_store {m f : Nat} {wb : World} {L L' : List Blk} {listed : Array Bool} {o : Oper} {T : TypeId} {x y : Operand} {b off : Nat} {c c' : Array Value} {t : TypeId} {v : Value} (i p : Nat)
    (hi : ops[i]? = some o) (him : i < m) (hr : Region.ready .any ops listed = [i]) (hf : fit ops n e o none = true) (ho : o.op = .store T x y) (hx : rho e x = .pointer (some ⟨b, off, none⟩)) (hy : rho e y = v) (hp : L[p]? = some ⟨b, c, t⟩)
    (hv : writeAt P T c off v = some c') (hL : L.set p ⟨b, c', t⟩ = L') (hS : ∀ w, SH wb L' w → S w)
    (k : WD P ops Q n m S (SH wb L') f (listed.setIfInBounds i true) e) : WD P ops Q n m S (SH wb L) (f + 1) listed e := by
  intro a w inv ha hw
  obtain ⟨h1, h3, h4⟩ := fit_none hf
  have him' : i ∈ Region.ready .any ops listed := by rw [hr]; simp
  refine ⟨by rw [hr]; simp, fun j hj => ?_⟩
  rw [hr] at hj
  have : j = i := by simpa using hj
  subst this
  refine ⟨him, ?_⟩
  unfold wpOp
  simp only [hi, guardOf_wanted ha h3, if_true]
  refine .inl ?_
  unfold Oper.wp
  rw [ha.exec h4]
  have hw' : SH wb L' (w.setRow b c') := hL ▸ hw.setRow p hp c'
  have hrun : (execOp (rho e) o).run P w = .ok .skip (w.setRow b c') := by
    unfold execOp
    simp only [ho, hx, hy, Instr.storeAt, Instr.sureAddr, Sem.run_bind, Sem.run_pure, Result.andThen_ok, run_writeAt w T b off c c' t v (hw.blk _ (List.mem_of_getElem? hp)) hv]
  rw [hrun]
  simp only [Oper.upon, h1, Act.put]
  exact ⟨hS _ hw', k _ _ (inv.set him' him) ha hw'⟩
theorem ret_cell2 {fn : Func} {R : Ending → World → Prop} {wb : World} {L : List Blk} {a T a' T' : Nat} {b off b' off' : Nat} {c c' : Array Value} {t t' : TypeId} {v v' : Value} (p p' : Nat) (hr : fn.results = #[.cell a T, .cell a' T'])
    (ha : look e a = some (.pointer (some ⟨b, off, none⟩))) (hp : L[p]? = some ⟨b, c, t⟩) (hv : readAt P T c off = some v)
    (ha' : look e a' = some (.pointer (some ⟨b', off', none⟩))) (hp' : L[p']? = some ⟨b', c', t'⟩) (hv' : readAt P T' c' off' = some v') (hR : ∀ w, SH wb L w → R (.returned (.tuple #[v, v'])) w) :
    ∀ x w, Has e n x → SH wb L w → bodyPost P fn R .ret x w := fun x w hx hw => by
  refine bodyPost_ret (v := .tuple #[v, v']) ?_ hx.defers (hR w hw)
  have h1 := hx.at_ a _ ha
  have h2 := run_readAt w T b off c v (fun i => hw.cell p hp i) hv
  have h3 := hx.at_ a' _ ha'
  have h4 := run_readAt w T' b' off' c' v' (fun i => hw.cell p' hp' i) hv'
  simp [results, hr, h1, asAddr, h2, h3, h4]
end
end Go.Sx
