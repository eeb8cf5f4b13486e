/- Writers: functions that append an encoding of their argument to a string in memory; what they write is a function of the data. No statement is proved here. -/
import Derived.Test.YtpdichhabjieeaaGreatDoorSl
import Derived.Laws.Concat
import Derived.Laws.BytesString
namespace Go.Sx
open Go.RowKit
set_option linter.unusedVariables false
set_option linter.unusedSimpArgs false

/-! ### What is written -/
def zz0 (n : Int) : Int := IntKind.u64.wrap (IntKind.u64.wrap n * 2 ^ 1)
def zzN (u : Int) : Int := IntKind.u64.wrap ((BitVec.ofInt 64 IntKind.u64.max ^^^ BitVec.ofInt 64 u).toNat : Int)
def by1 (y : Int) : ByteArray := ByteArray.empty.push (UInt8.ofNat y.toNat)
def orb (u : Int) : Int := IntKind.u8.wrap ((BitVec.ofInt 8 (IntKind.u8.wrap (u.tmod 128)) ||| BitVec.ofInt 8 128).toNat : Int)
def nxu (u : Int) : Int := IntKind.u64.wrap (u.tdiv 128)
def lsb (u : Int) : Int := IntKind.u8.wrap u
def numR : Nat → Int → ByteArray → ByteArray
  | 0, u, s => s ++ by1 (lsb u)
  | f + 1, u, s => bif decide (u ≥ 128) then numR f (nxu u) (s ++ by1 (orb u)) else s ++ by1 (lsb u)
def numB (n : Int) : ByteArray := numR 10 (bif decide (n < 0) then zzN (zz0 n) else zz0 n) ⟨#[]⟩
theorem by1_size (y : Int) : (by1 y).size = 1 := rfl
theorem numR_size : ∀ (f : Nat) (u : Int) (s : ByteArray), (numR f u s).size ≤ s.size + f + 1
  | 0, u, s => by rw [numR, ByteArray.size_append, by1_size]; omega
  | f + 1, u, s => by
    rw [numR]
    cases decide (u ≥ 128)
    · simp only [cond_false, ByteArray.size_append, by1_size]; omega
    · have := numR_size f (nxu u) (s ++ by1 (orb u))
      simp only [ByteArray.size_append, by1_size] at this
      simp only [cond_true]; omega
theorem numB_size (n : Int) : (numB n).size ≤ 11 := by
  have := numR_size 10 (bif decide (n < 0) then zzN (zz0 n) else zz0 n) ⟨#[]⟩
  have h0 : (⟨#[]⟩ : ByteArray).size = 0 := rfl
  rw [h0] at this
  unfold numB; omega

mutual
def encD : D → ByteArray
  | .int n => numB n
  | .bool b => bif b then ⟨#[1]⟩ else ⟨#[0]⟩
  | .str s => numB (s.size : Int) ++ s
  | .sl rows => numB (rows.length : Int) ++ encR rows
def encR : List (List D) → ByteArray
  | [] => ByteArray.empty
  | r :: rs => encL r ++ encR rs
def encL : List D → ByteArray
  | [] => ByteArray.empty
  | d :: ds => encD d ++ encL ds
end
theorem encL_append (a b : List D) : encL (a ++ b) = encL a ++ encL b := by
  induction a with
  | nil => rw [List.nil_append, encL, ByteArray.empty_append]
  | cons d a ih => rw [List.cons_append, encL, encL, ih, ByteArray.append_assoc]
theorem encL_one (d : D) : encL [d] = encD d := by rw [encL, encL, ByteArray.append_empty]
theorem encR_append (a b : List (List D)) : encR (a ++ b) = encR a ++ encR b := by
  induction a with
  | nil => rw [List.nil_append, encR, ByteArray.empty_append]
  | cons d a ih => rw [List.cons_append, encR, encR, ih, ByteArray.append_assoc]
theorem encR_take {rows : List (List D)} {i : Nat} {r : List D} (h : rows[i]? = some r) : encR (rows.take (i + 1)) = encR (rows.take i) ++ encL r := by
  rw [show rows.take (i + 1) = rows.take i ++ [r] by rw [List.take_add_one, h]; rfl, encR_append, encR, encR, ByteArray.append_empty]
theorem encR_room {rows : List (List D)} {i : Nat} {r : List D} (h : rows[i]? = some r) : (encR (rows.take i)).size + (encL r).size ≤ (encR rows).size := by
  have h1 := encR_take h
  have h2 : encR rows = encR (rows.take (i + 1)) ++ encR (rows.drop (i + 1)) := by rw [← encR_append, List.take_append_drop]
  rw [h2, h1, ByteArray.size_append, ByteArray.size_append]
  omega
mutual
theorem encD_size : ∀ (d : D), (encD d).size ≤ 12 * d.sz
  | .int n => by rw [encD, D.sz]; have := numB_size n; omega
  | .bool b => by rw [encD, D.sz]; cases b <;> (show 1 ≤ 12 * 1; omega)
  | .str s => by rw [encD, D.sz, ByteArray.size_append]; have := numB_size (s.size : Int); omega
  | .sl rows => by rw [encD, D.sz, ByteArray.size_append]; have := numB_size (rows.length : Int); have := encR_size rows; omega
theorem encR_size : ∀ (rs : List (List D)), (encR rs).size ≤ 12 * szR rs
  | [] => by rw [encR, szR]; exact Nat.zero_le _
  | r :: rs => by rw [encR, szR, ByteArray.size_append]; have := encL_size r; have := encR_size rs; omega
theorem encL_size : ∀ (ds : List D), (encL ds).size ≤ 12 * szL ds
  | [] => by rw [encL, szL]; exact Nat.zero_le _
  | d :: ds => by rw [encL, szL, ByteArray.size_append]; have := encD_size d; have := encL_size ds; omega
end

/-! ### Room -/
theorem szA {a b c M : Nat} (h : a + (b + c) ≤ M) : a + b ≤ M := by omega
theorem szB {s s1 E : ByteArray} {c M : Nat} (h : s.size + (E.size + c) ≤ M) (hs : s1 = s ++ E) : s1.size + c ≤ M := by rw [hs, ByteArray.size_append]; omega

theorem encLs_cons (d : D) (ds : List D) : (encL (d :: ds)).size = (encD d).size + (encL ds).size := by rw [encL, ByteArray.size_append]
theorem encLs_app (a b : List D) : (encL (a ++ b)).size = (encL a).size + (encL b).size := by rw [encL_append, ByteArray.size_append]
theorem encLs_nil : (encL []).size = 0 := by rw [encL]; rfl
theorem szSL (rows : List (List D)) (c : Nat) : (encD (.sl rows)).size + c = (encD (.int (rows.length : Int))).size + ((encR rows).size + c) := by rw [encD, encD, ByteArray.size_append, Nat.add_assoc]
theorem encDs_sl (rows : List (List D)) : (encD (.sl rows)).size = (encD (.int (rows.length : Int))).size + ((encR rows).size + 0) := by rw [encD, encD, ByteArray.size_append, Nat.add_zero]
theorem im_new {wb : World} {L : List Blk} {g : Nat} (hg : g < wb.heap.size) (hL : ∀ x ∈ L, wb.heap.size ≤ x.b) : Im wb L g := ⟨hg, fun x hx => by have := hL x hx; omega⟩

/-! ### Contracts -/
def WS (P : Program) (f : FuncId) (T : TypeId) (ds : List D) : Prop := ∀ (w : World) (b : Nat) (s : ByteArray) (bad : Bool) (cs : List Value), SH w [⟨b, #[.string s, .bool bad, .bool true], T⟩] w → RdL (Im w [⟨b, #[.string s, .bool bad, .bool true], T⟩]) w ds cs →
  s.size + (encL ds).size ≤ 9223372036854775807 → Calls P f #[.pointer (some ⟨b, 0, none⟩), .agg cs.toArray] w (fun e w' => e = .returned (.tuple #[]) ∧ SH w [⟨b, #[.string (s ++ encL ds), .bool bad, .bool true], T⟩] w')
def WV (P : Program) (f : FuncId) (T : TypeId) (d : D) : Prop := ∀ (w : World) (b : Nat) (s : ByteArray) (bad : Bool) (v : Value), SH w [⟨b, #[.string s, .bool bad, .bool true], T⟩] w → Rd (Im w [⟨b, #[.string s, .bool bad, .bool true], T⟩]) w d v →
  s.size + (encD d).size ≤ 9223372036854775807 → Calls P f #[.pointer (some ⟨b, 0, none⟩), v] w (fun e w' => e = .returned (.tuple #[]) ∧ SH w [⟨b, #[.string (s ++ encD d), .bool bad, .bool true], T⟩] w')

theorem SH.one {wb : World} {L : List Blk} {w : World} (h : SH wb L w) (p : Nat) {x : Blk} (hp : L[p]? = some x) : SH w [x] w :=
  ⟨rfl, rfl, rfl, Nat.le_refl _, fun _ _ _ => rfl, fun y hy => by simp only [List.mem_singleton] at hy; subst hy; exact h.blk _ (List.mem_of_getElem? hp), fun i j y z hi hj _ => by
    have h1 := (List.getElem?_eq_some_iff.1 hi).1
    have h2 := (List.getElem?_eq_some_iff.1 hj).1
    simp only [List.length_cons, List.length_nil] at h1 h2
    omega⟩
theorem SH.put {wb : World} {L : List Blk} {w w' : World} (h : SH wb L w) (p : Nat) {b : Nat} {c c' : Array Value} {t : TypeId} (hp : L[p]? = some ⟨b, c, t⟩) (h' : SH w [⟨b, c', t⟩] w') : SH wb (L.set p ⟨b, c', t⟩) w' := by
  have hpl : p < L.length := (List.getElem?_eq_some_iff.1 hp).1
  have hset : ∀ (i : Nat) (x : Blk), (L.set p ⟨b, c', t⟩)[i]? = some x → ∃ y, L[i]? = some y ∧ y.b = x.b := fun i x hi => by
    by_cases hpi : p = i
    · subst hpi; simp [hpl] at hi; exact ⟨_, hp, by rw [← hi]⟩
    · rw [List.getElem?_set_ne hpi] at hi; exact ⟨x, hi, rfl⟩
  refine ⟨h'.os.trans h.os, h'.tape.trans h.tape, h'.output.trans h.output, Nat.le_trans h.size h'.size, fun k hk hx => ?_, fun x hx => ?_, fun i j x y hi hj he => ?_⟩
  · have hkb : k ≠ b := fun e => by
      subst e
      have : (⟨k, c', t⟩ : Blk) ∈ L.set p ⟨k, c', t⟩ := List.mem_of_getElem? (i := p) (by simp [hpl])
      exact hx _ this rfl
    rw [h'.kept k (Nat.lt_of_lt_of_le hk h.size) (fun y hy => by simp only [List.mem_singleton] at hy; subst hy; exact fun e => hkb e.symm)]
    refine h.kept k hk (fun x hx' hxe => ?_)
    obtain ⟨i, hi⟩ := List.getElem?_of_mem hx'
    by_cases hpi : p = i
    · subst hpi; rw [hp] at hi; cases hi; exact hkb hxe.symm
    · exact hx x (List.mem_of_getElem? (i := i) (by rw [List.getElem?_set_ne hpi]; exact hi)) hxe
  · obtain ⟨i, hi⟩ := List.getElem?_of_mem hx
    by_cases hpi : p = i
    · subst hpi
      simp [hpl] at hi
      subst hi
      exact h'.blk _ (by simp)
    · rw [List.getElem?_set_ne hpi] at hi
      have hne : x.b ≠ b := fun e => by
        exact hpi (h.dis p i _ _ hp hi e.symm)
      rw [h'.kept x.b (h.lt (List.mem_of_getElem? hi)) (fun y hy => by simp only [List.mem_singleton] at hy; subst hy; exact fun e => hne e.symm)]
      exact h.blk x (List.mem_of_getElem? hi)
  · obtain ⟨x', hx', ex⟩ := hset i x hi
    obtain ⟨y', hy', ey⟩ := hset j y hj
    exact h.dis i j x' y' hx' hy' (by rw [ex, ey, he])
/-- what was read of memory that stands still, at a call that changes the known block at p -/
theorem SH.staysB {wb : World} {L L0 : List Blk} {w : World} (h : SH wb L w) (hL : L0.map (·.b) = L.map (·.b)) (p : Nat) {x : Blk} (hp : L[p]? = some x) : Stays (Im wb L0) wb (Im w [x]) w :=
  ⟨h.size, fun k hk hI => ⟨Nat.lt_of_lt_of_le hk h.size, fun y hy => by simp only [List.mem_singleton] at hy; subst hy; exact (im_cong hL hI).2 y (List.mem_of_getElem? hp)⟩, fun k _ hI => h.still (im_cong hL hI)⟩

section
variable {P : Program} {ops : Array Oper} {Q : Exit → Act → World → Prop} {n : Nat} {e : Env}
/-- a call of a writer -/
theorem wl_callW {wb : World} {L L' : List Blk} {o : Oper} {rest : List Oper} {d : Nat} {f : FuncId} {args : Array Value} {b : Nat} {s E : ByteArray} {bad : Bool} {T : TypeId} (p : Nat) (hf : fit ops n e o (some d) = true) (hv : pureVal P (execOp (rho e) o) = some (.enter f args))
    (hp : L[p]? = some ⟨b, #[.string s, .bool bad, .bool true], T⟩) (hL : L.set p ⟨b, #[.string (s ++ E), .bool bad, .bool true], T⟩ = L')
    (h : ∀ w, SH wb L w → Calls P f args w (fun z w' => z = .returned (.tuple #[]) ∧ SH w [⟨b, #[.string (s ++ E), .bool bad, .bool true], T⟩] w'))
    (k : WL P ops Q n ((d, .tuple #[]) :: e) (SH wb L') rest) : WL P ops Q n e (SH wb L) (o :: rest) := by
  obtain ⟨h1, h2, h3, h4⟩ := fit_some hf
  refine wl_call h1 h2 h3 h4 hv (R := fun w z w' => z = .returned (.tuple #[]) ∧ SH w [⟨b, #[.string (s ++ E), .bool bad, .bool true], T⟩] w') h (fun w z w' hw hR => ⟨_, hR.1, ?_⟩)
  exact fun a w2 ha hww => k a w2 ha (by subst hww; exact hL ▸ hw.put p hp hR.2)
/-- the sum of two strings -/
theorem yl_cat {S : World → Prop} {o : Oper} {T t : TypeId} {x y : Operand} {a b : ByteArray} (ho : o.op = .binOp .add T x y t) (hx : rho e x = .string a) (hy : rho e y = .string b) (h : a.size + b.size ≤ 9223372036854775807) : Yl P S e o (.string (a ++ b)) := fun w _ => by
  unfold execOp
  simp only [ho, hx, hy, eqGuard, binOp, Sem.run_bind, Sem.run_pure, Result.andThen_ok]
  simp [run_string_add_sum (P := P) w a b h]
/-- a string of one byte -/
theorem yl_byte {wb : World} {L : List Blk} {o : Oper} {src dst E : TypeId} {x : Operand} {r cap : Nat} {y : Int} {t : TypeId} (p : Nat) (ho : o.op = .convert src dst x) (hT : (P.underlying src, P.underlying E, P.underlying dst) = (some (.slice E), some (.int .u8), some .string))
    (hx : rho e x = .slice (some ⟨r, 0, none⟩) 1 cap) (hp : L[p]? = some ⟨r, #[.int .u8 y], t⟩) : Yl P (SH wb L) e o (.string (by1 y)) := fun w hw => by
  simp only [Prod.mk.injEq] at hT
  obtain ⟨h1, h2, h3⟩ := hT
  have hc : w.cell? ⟨r, 0, none⟩ = some (.int .u8 y) := by rw [hw.cell p hp 0]; rfl
  have hl : (loadCells ⟨r, 0, none⟩ 1).run P w = .ok ([y].map (Value.int .u8)).toArray w := by
    simp [loadCells, loadCellsFrom, load, Sem.run, hc, Addr.add]
  have h4 := run_bytesToString (P := P) w ⟨r, 0, none⟩ 1 cap [y] hl
  unfold execOp
  simp only [ho, hx, Sem.run_bind, run_convert_bytes_string w src dst E _ _ _ h1 h2 h3, h4, Result.andThen_ok, Sem.run_pure]
  rfl
end
/-- a row of a slice -/
theorem Rd.row_at {S : Nat → Prop} {w : World} {rows : List (List D)} {a : Option Addr} {m cap es : Nat} (h : Rd S w (.sl rows) (.slice a m cap)) (hes : ∀ r ∈ rows, r.length = es) {i : Nat} {r : List D} (hr : rows[i]? = some r) :
    ∃ g off cs, a = some ⟨g, off, none⟩ ∧ S g ∧ RdL S w r cs ∧ cs.length = es ∧ w.rangeAt g (off + i * es) cs := by
  rw [Rd] at h
  obtain ⟨a', cap', he, hR⟩ := h
  cases he
  rcases hR with rfl | ⟨g, off, rfl, hS, hg, hR⟩
  · simp at hr
  · obtain ⟨rv, h1, h2⟩ := RdRows.vals hR
    obtain ⟨cs, hc, hrd⟩ := h1.get i r hr
    have hl := (h1.flat hes).1
    exact ⟨g, off, cs, rfl, hS, hrd, hl cs (List.mem_of_getElem? hc), range_row h2 hl hc⟩
theorem range_sub {w : World} {g o : Nat} {a b : List Value} {k : Nat} (h : w.rangeAt g o (a ++ b)) (hl : a.length = k) : w.rangeAt g (o + k) b := fun j v hj => by
  have := h (k + j) v (by rw [← hl, List.getElem?_append_right (by omega)]; simpa using hj)
  rwa [show o + k + j = o + (k + j) by omega]
theorem range_pre {w : World} {g o : Nat} {a b : List Value} (h : w.rangeAt g o (a ++ b)) : w.rangeAt g o a := fun j v hj => h j v (by rw [List.getElem?_append_left (List.getElem?_eq_some_iff.1 hj).1]; exact hj)
end Go.Sx
