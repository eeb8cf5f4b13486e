/- Rows that a call makes by append, at a base that stays the same; calls of which only the form of the result is told. No statement is proved here. -/
import Derived.Test.YtpdichhabjieeaaGreatDoorBk
import Derived.Test.YtpdichhabjieeaaGreatDoorW1
import Derived.Test.YtpdichhabjieeaaGreatDoorBd
namespace Go.Sx
open Go.RowKit
set_option linter.unusedVariables false

theorem ge_app {w : World} {A B : List Blk} (hA : ∀ x ∈ A, w.heap.size ≤ x.b) (hB : ∀ x ∈ B, w.heap.size ≤ x.b) : ∀ x ∈ A ++ B, w.heap.size ≤ x.b := fun x hx => by
  rcases List.mem_append.1 hx with h | h
  · exact hA x h
  · exact hB x h
theorem Own.one {E es k : Nat} {v : Value} {xs : List Value} {R : List Blk} (h : Own E es v k xs R) : v.oneCell' = true := by
  rcases h.2 with ⟨rfl, _⟩ | ⟨g, cap, c, rfl, _⟩ <;> rfl
theorem SH.forgetR {w q : World} {A R : List Blk} (h : SH w (A ++ R) q) (hR : ∀ x ∈ R, w.heap.size ≤ x.b) : SH w A q :=
  ⟨h.os, h.tape, h.output, h.size, fun k hk hn => h.kept k hk (fun x hx => by
    rcases List.mem_append.1 hx with h1 | h1
    · exact hn x h1
    · have := hR x h1; omega), fun x hx => h.blk x (List.mem_append_left _ hx), fun i j x y hi hj he => h.dis i j x y (by rw [List.getElem?_append_left (List.getElem?_eq_some_iff.1 hi).1]; exact hi) (by rw [List.getElem?_append_left (List.getElem?_eq_some_iff.1 hj).1]; exact hj) he⟩
theorem SH.addN {w q : World} {A : List Blk} (h : SH w A q) : SH w (A ++ []) q := by rw [List.append_nil]; exact h

section
variable {P : Program} {ops : Array Oper} {Q : Exit → Act → World → Prop} {n : Nat} {e : Env}
theorem append_fix {w w1 : World} {L R : List Blk} (t ty E : TypeId) (z : Value) (size bytes : Nat)
    (hT : (P.underlying t, (P.info? E).map (fun i => (i.zero, i.size, i.bytes))) = (some (.slice E), some (some z, size, bytes))) (hz : z.cells.size = size) (hs0 : 0 < size)
    (v : Value) (k : Nat) (xs : List Value) (hown : Own E size v k xs R) (h : SH w (L ++ R) w1) (hR : ∀ x ∈ R, w.heap.size ≤ x.b)
    (a : Addr) (m c : Nat) (news : List Value) (hl : news.length = m * size) (hnews : ∀ j u, news[j]? = some u → w1.cell? (a.add j) = some u) (h1 : ∀ u ∈ news, u.oneCell' = true)
    (h63 : k + m ≤ maxLen) (hby : (k + m) * bytes ≤ 140737488355328) :
    ∃ v' R' w', (Builtin.append_ #[t, t] ty #[v, .slice (some a) m c]).run P w1 = .ok v' w' ∧ Own E size v' (k + m) (xs ++ news) R' ∧ SH w (L ++ R') w' ∧ ∀ x ∈ R', w.heap.size ≤ x.b := by
  obtain ⟨v', R', w', hr, ho', hsh, htr, _⟩ := append_sh (P := P) t ty E z size bytes hT hz hs0 v k xs hown h.swap a m c news hl hnews h1 h63 hby
  have hnew : ∀ x ∈ R', w.heap.size ≤ x.b := fun x hx => by
    rcases Nat.lt_or_ge x.b w.heap.size with hlt | hge
    · exfalso
      have hno : ¬ Im w (R ++ L) x.b := fun hi => (htr.im x.b hi).2 x (List.mem_append_left _ hx) rfl
      apply hno
      refine ⟨hlt, fun y hy he => ?_⟩
      rcases List.mem_append.1 hy with hy | hy
      · have := hR y hy; omega
      · obtain ⟨i, hi⟩ := List.getElem?_of_mem (List.mem_append_left L hx)
        obtain ⟨j, hj⟩ := List.getElem?_of_mem hx
        obtain ⟨l, hl'⟩ := List.getElem?_of_mem hy
        have e1 : (R' ++ L)[j]? = some x := by rw [List.getElem?_append_left (List.getElem?_eq_some_iff.1 hj).1]; exact hj
        have e2 : (R' ++ L)[R'.length + l]? = some y := by rw [List.getElem?_append_right (by omega)]; simpa using hl'
        have := hsh.dis _ _ _ _ e1 e2 he.symm
        have := (List.getElem?_eq_some_iff.1 hj).1
        omega
    · exact hge
  refine ⟨v', R', w', hr, ho', ?_, hnew⟩
  have hs := hsh.swap
  refine ⟨htr.os, htr.tape, htr.output, htr.size, fun j hj hn => htr.same j ⟨hj, fun x hx he => ?_⟩, hs.blk, hs.dis⟩
  rcases List.mem_append.1 hx with hx | hx
  · have := hR x hx; omega
  · exact hn x (List.mem_append_left _ hx) he
theorem wl_appendF {w : World} {L R : List Blk} {o : Oper} {rest : List Oper} {d : Nat} {s x : Operand} {t : TypeId} (E : TypeId) (z : Value) (size bytes : Nat) {v : Value} {k : Nat} {xs : List Value} {a : Addr} {m c : Nat} (news : List Value)
    (hf : fit ops n e o (some d) = true) (ho : o.op = .call { callee := .builtin .append, args := #[s, x], argTypes := #[t, t] })
    (hT : (P.underlying t, (P.info? E).map (fun i => (i.zero, i.size, i.bytes))) = (some (.slice E), some (some z, size, bytes))) (hz : z.cells.size = size) (hs0 : 0 < size)
    (hs : rho e s = v) (hown : Own E size v k xs R) (hR : ∀ x ∈ R, w.heap.size ≤ x.b) (hx : rho e x = .slice (some a) m c) (hl : news.length = m * size)
    (hnews : ∀ q, SH w (L ++ R) q → ∀ j u, news[j]? = some u → q.cell? (a.add j) = some u) (h1 : ∀ u ∈ news, u.oneCell' = true)
    (h63 : k + m ≤ maxLen) (hby : (k + m) * bytes ≤ 140737488355328)
    (kk : ∀ v' R', Own E size v' (k + m) (xs ++ news) R' → (∀ x ∈ R', w.heap.size ≤ x.b) → WL P ops Q n ((d, v') :: e) (SH w (L ++ R')) rest) : WL P ops Q n e (SH w (L ++ R)) (o :: rest) := by
  obtain ⟨h1', h2, h3, h4⟩ := fit_some hf
  refine wl_run (σ := { x : Value × List Blk // Own E size x.1 (k + m) (xs ++ news) x.2 ∧ ∀ y ∈ x.2, w.heap.size ≤ y.b }) (fun x => x.1.1) (fun x => SH w (L ++ x.1.2)) h1' h2 h3 h4 (fun q hq => ?_) (fun x => kk x.1.1 x.1.2 x.2.1 x.2.2)
  obtain ⟨v', R', w', hr, ho', hsh, hn⟩ := append_fix (P := P) t o.type E z size bytes hT hz hs0 v k xs hown hq hR a m c news hl (hnews q hq) h1 h63 hby
  refine ⟨⟨(v', R'), ho', hn⟩, w', ?_, hsh⟩
  unfold execOp
  simp only [ho, resolve, invoke, builtin, Sem.run_bind, Sem.run_pure, Result.andThen_ok, List.map_toArray, List.map_cons, List.map_nil, hs, hx, hr]
theorem wd_appendF {w : World} {S : World → Prop} {L R : List Blk} {mm f : Nat} {listed : Array Bool} {o : Oper} {d : Nat} {s x : Operand} {t : TypeId} (i : Nat) (E : TypeId) (z : Value) (size bytes : Nat) {v : Value} {k : Nat} {xs : List Value} {a : Addr} {m c : Nat} (news : List Value)
    (hi : ops[i]? = some o) (him : i < mm) (hrd : Region.ready .any ops listed = [i]) (hf : fit ops n e o (some d) = true) (ho : o.op = .call { callee := .builtin .append, args := #[s, x], argTypes := #[t, t] })
    (hT : (P.underlying t, (P.info? E).map (fun i => (i.zero, i.size, i.bytes))) = (some (.slice E), some (some z, size, bytes))) (hz : z.cells.size = size) (hs0 : 0 < size)
    (hs : rho e s = v) (hown : Own E size v k xs R) (hR : ∀ x ∈ R, w.heap.size ≤ x.b) (hx : rho e x = .slice (some a) m c) (hl : news.length = m * size)
    (hnews : ∀ q, SH w (L ++ R) q → ∀ j u, news[j]? = some u → q.cell? (a.add j) = some u) (h1 : ∀ u ∈ news, u.oneCell' = true)
    (h63 : k + m ≤ maxLen) (hby : (k + m) * bytes ≤ 140737488355328) (hS : ∀ R' q, SH w (L ++ R') q → S q)
    (kk : ∀ v' R', Own E size v' (k + m) (xs ++ news) R' → (∀ x ∈ R', w.heap.size ≤ x.b) → WD P ops Q n mm S (SH w (L ++ R')) f (listed.setIfInBounds i true) ((d, v') :: e)) :
    WD P ops Q n mm S (SH w (L ++ R)) (f + 1) listed e := by
  refine wd_one i (σ := { x : Value × List Blk // Own E size x.1 (k + m) (xs ++ news) x.2 ∧ ∀ y ∈ x.2, w.heap.size ≤ y.b }) (fun x => x.1.1) (fun x => SH w (L ++ x.1.2)) hi him hrd hf (fun q hq => ?_) (fun x q h => hS x.1.2 q h) (fun x => kk x.1.1 x.1.2 x.2.1 x.2.2)
  obtain ⟨v', R', w', hr, ho', hsh, hn⟩ := append_fix (P := P) t o.type E z size bytes hT hz hs0 v k xs hown hq hR a m c news hl (hnews q hq) h1 h63 hby
  refine ⟨⟨(v', R'), ho', hn⟩, w', ?_, hsh⟩
  unfold execOp
  simp only [ho, resolve, invoke, builtin, Sem.run_bind, Sem.run_pure, Result.andThen_ok, List.map_toArray, List.map_cons, List.map_nil, hs, hx, hr]
/-- a call that leaves all that was there alone; of its result only 'Pr' is told -/
theorem wl_callX {T : World → Prop} (hT : ∀ w w', T w → Below w.heap.size w w' → T w') {X : Type} (V : X → Value) (Pr : X → Prop) {o : Oper} {rest : List Oper} {d : Nat} {f : FuncId} {args : Array Value} (hf : fit ops n e o (some d) = true) (hv : pureVal P (execOp (rho e) o) = some (.enter f args))
    (h : ∀ w, T w → Calls P f args w (fun z w' => ∃ x, z = .returned (V x) ∧ Pr x ∧ Below w.heap.size w w')) (k : ∀ x, Pr x → WL P ops Q n ((d, V x) :: e) T rest) : WL P ops Q n e T (o :: rest) :=
  wl_callB V (fun w x w' => Pr x ∧ Below w.heap.size w w') hf hv h (fun w x w' hw hR => wl_eq (hT _ _ hw hR.2) (k x hR.1))
theorem wd_callX {S T : World → Prop} (hT : ∀ w w', T w → Below w.heap.size w w' → T w') (hTS : ∀ w, T w → S w) (i : Nat) {X : Type} (V : X → Value) (Pr : X → Prop) {m fu d : Nat} {oi : Oper} {listed : Array Bool} {f : FuncId} {args : Array Value}
    (hi : ops[i]? = some oi) (him : i < m) (hr : Region.ready .any ops listed = [i]) (hf : fit ops n e oi (some d) = true) (hv : pureVal P (execOp (rho e) oi) = some (.enter f args))
    (h : ∀ w, T w → Calls P f args w (fun z w' => ∃ x, z = .returned (V x) ∧ Pr x ∧ Below w.heap.size w w')) (k : ∀ x, Pr x → WD P ops Q n m S T fu (listed.setIfInBounds i true) ((d, V x) :: e)) : WD P ops Q n m S T (fu + 1) listed e :=
  wd_callB i V (fun w x w' => Pr x ∧ Below w.heap.size w w') hi him hr hf hv h (fun w x w' hw hR => ⟨hTS _ (hT _ _ hw hR.2), wd_eq (hT _ _ hw hR.2) (k x hR.1)⟩)
theorem w1_callX {S T : World → Prop} (hT : ∀ w w', T w → Below w.heap.size w w' → T w') (hTS : ∀ w, T w → S w) (i : Nat) {X : Type} (V : X → Value) (Pr : X → Prop) {m fu d : Nat} {oi : Oper} {listed : Array Bool} {f : FuncId} {args : Array Value}
    (hi : ops[i]? = some oi) (him : i < m) (hf : fit ops n e oi (some d) = true) (hv : pureVal P (execOp (rho e) oi) = some (.enter f args))
    (h : ∀ w, T w → Calls P f args w (fun z w' => ∃ x, z = .returned (V x) ∧ Pr x ∧ Below w.heap.size w w')) (k : ∀ x, Pr x → WD P ops Q n m S T fu (listed.setIfInBounds i true) ((d, V x) :: e)) : W1 P ops Q n m S T fu listed e i :=
  w1_callB i V (fun w x w' => Pr x ∧ Below w.heap.size w w') hi him hf hv h (fun w x w' hw hR => ⟨hTS _ (hT _ _ hw hR.2), wd_eq (hT _ _ hw hR.2) (k x hR.1)⟩)
/-- a read under a row of which nothing is told -/
theorem yl_exR {w : World} {L : List Blk} {o : Oper} {v : Value} (h : ∀ R, Yl P (SH w (L ++ R)) e o v) : Yl P (fun q => ∃ R, SH w (L ++ R) q) e o v := fun q hq => by
  obtain ⟨R, hs⟩ := hq
  exact h R q hs
theorem wl_weak {l : List Oper} {T : World → Prop} (T' : World → Prop) (h : ∀ q, T q → T' q) (k : WL P ops Q n e T' l) : WL P ops Q n e T l := fun a w ha hw => k a w ha (h w hw)
theorem wc_weak {c : Code} {T T' : World → Prop} (h : ∀ q, T q → T' q) (k : WC P Q n e T' c) : WC P Q n e T c := fun a w ha hw => k a w ha (h w hw)
end
theorem Own.slv {E es k : Nat} {v : Value} {xs : List Value} {R : List Blk} (h : Own E es v k xs R) : ∃ a m c, v = .slice a m c := by
  rcases h.2 with ⟨rfl, _⟩ | ⟨g, cap, c, rfl, _⟩
  · exact ⟨_, _, _, rfl⟩
  · exact ⟨_, _, _, rfl⟩
/-- the state of a loop that appends one element in each round -/
structure Cw (w : World) (E es m : Nat) where
  i : Nat
  a : Option Addr
  n : Nat
  c : Nat
  R : List Blk
  xs : List Value
  hi : i ≤ m
  own : Own E es (.slice a n c) i xs R
  hR : ∀ x ∈ R, w.heap.size ≤ x.b
def Cw.begin (w : World) (E es m : Nat) : Cw w E es m := ⟨0, none, 0, 0, [], [], Nat.zero_le _, Own.nil _ _, fun x hx => by cases hx⟩
def Cw.next {w : World} {E es m : Nat} (x : Cw w E es m) (hlt : x.i < m) {a : Option Addr} {n c : Nat} {R : List Blk} {xs : List Value} (own : Own E es (.slice a n c) (x.i + 1) xs R) (hR : ∀ y ∈ R, w.heap.size ≤ y.b) : Cw w E es m := ⟨x.i + 1, a, n, c, R, xs, hlt, own, hR⟩
end Go.Sx
