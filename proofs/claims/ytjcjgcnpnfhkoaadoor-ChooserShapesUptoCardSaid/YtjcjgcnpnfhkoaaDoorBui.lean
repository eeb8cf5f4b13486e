/- Lemmas of this repository (Bs Bt Bu Bld Sh Bv), several texts in one. No statement is proved here. -/
import Derived.Test.YtjcjgcnpnfhkoaaDoorCalc
import Derived.Lib.AppendStr
import Derived.Lib.Builder
import Derived.Deep.AppendSrc
import Derived.Laws.Externs
import Derived.Test.YtjcjgcnpnfhkoaaDoorWher
import Derived.Lib.UnsafeStr
import Derived.Lib.AppendIntMem
import Derived.Test.YtjcjgcnpnfhkoaaDoorProg
import Derived.Shelf.Strconv.Itoa3
namespace Go.Sx
open Go.RowKit
set_option linter.unusedVariables false
section
variable {P : Program}
theorem append_shS {wb : World} {L R : List Blk} {w : World} (t u ty E : TypeId)
    (hT : (P.underlying t, P.underlying u, (P.info? E).map (fun i => (i.zero, i.size, i.bytes))) = (some (.slice E), some .string, some (some (.int .u8 0), 1, 1)))
    (v : Value) (k : Nat) (xs : List Value) (hown : Own E 1 v k xs R) (h : SH wb (R ++ L) w) (s : ByteArray) (h63 : k + s.size ≤ maxLen) (hby : k + s.size ≤ 140737488355328) :
    ∃ v' R' w', (Builtin.append_ #[t, u] ty #[v, .string s]).run P w = .ok v' w' ∧ Own E 1 v' (k + s.size) (xs ++ Lib.strCells s) R' ∧ SH w' (R' ++ L) w' ∧ Tr wb (R ++ L) w' (R' ++ L) := by
  simp only [Prod.mk.injEq] at hT
  obtain ⟨ht, hu, hi0⟩ := hT
  have hl := Lib.strCells_length s
  have h1 := Lib.strCells_oneCell s
  cases hi : P.info? E with
  | none => simp [hi] at hi0
  | some i =>
    simp only [hi, Option.map_some, Option.some.injEq, Prod.mk.injEq] at hi0
    obtain ⟨hzi, hsz, hbz⟩ := hi0
    have hsmall : k + s.size ≤ 9223372036854775807 := by simp only [maxLen] at h63; omega
    have hxl : xs.length = k := by have := hown.1; omega
    have hlen : (xs ++ Lib.strCells s).length = (k + s.size) * 1 := by rw [List.length_append, hl, hxl, Nat.mul_one]
    have hz1 : (Value.int .u8 0).cells.size = 1 := rfl
    have grown : ∀ old, Own E 1 (.slice (some ⟨w.heap.size, 0, none⟩) (k + s.size) (grownCap w (k + s.size) old E)) (k + s.size) (xs ++ Lib.strCells s)
        [⟨w.heap.size, xs.toArray ++ (Lib.strCells s).toArray ++ Builtin.zeroCells (Value.int .u8 0).cells (grownCap w (k + s.size) old E - (k + s.size)), E⟩] := by
      intro old
      have hge := grownCap_ge w (k + s.size) old E
      refine ⟨hlen, .inr ⟨_, _, _, rfl, rfl, hge, grownCap_le_maxLen w (k + s.size) old E h63, ?_, ?_⟩⟩
      · simp only [Array.size_append, List.size_toArray, size_zeroCells, hz1, hxl, hl]
        omega
      · simp only [Array.toList_append, List.append_assoc]
        rw [← List.append_assoc, ← hlen]
        exact List.take_left
    rcases hown.2 with ⟨rfl, rfl, rfl⟩ | ⟨g, cap, cur, rfl, rfl, hnc, hcm, hcs, htake⟩
    · have hx : xs = [] := List.eq_nil_of_length_eq_zero hxl
      subst hx
      by_cases hm : s.size = 0
      · have hn : Lib.strCells s = [] := List.eq_nil_of_length_eq_zero (by rw [hl]; exact hm)
        have hf := Lib.run_firstCells_string (P := P) w i.size s
        refine ⟨.slice none 0 0, [], w, ?_, by rw [hn, hm]; exact Own.nil E 1, h.here, h.trHere⟩
        rw [hn, hm] at hf
        simp [Builtin.append_, run_underlying ht, run_underlying hu, sizeOf, typeInfo, hi, Builtin.lenOf, hm, hf]
      · have hsrc := Src.ofString (P := P) w hu s
        rw [← hsz] at hsrc
        have hr := run_append_grow_src w t u ty E i _ ht hi hzi none 0 0 [] (by simp [Builtin.firstCells]) (.string s) s.size _ hsrc (by omega) (by omega) (growslice_fits (by omega) (by rw [hbz]; omega))
        have hg := grown 0
        have hd := Tr.drewAlloc (R' := []) h ((Lib.strCells s).toArray ++ Builtin.zeroCells (Value.int .u8 0).cells (grownCap w s.size 0 E - s.size)) E
        simp only [Nat.zero_add, List.nil_append, Array.empty_append] at hg hr ⊢
        exact ⟨_, _, _, hr, hg, hd.1, hd.2⟩
    · have hb : w.heap[g]? = some (.cells cur E (0, 0)) := h.blk ⟨g, cur, E⟩ (by simp)
      by_cases hroom : k + s.size ≤ cap
      · have hfit : k + s.size ≤ cur.size := by omega
        have hr := Lib.run_append_room_string (P := P) w t u ty E i ht hu hi hsz g k cap cur hb s hroom hfit
        have hs := h.setRow 0 (b := g) (c := cur) (t := E) rfl (cur.toList.take k ++ Lib.strCells s ++ cur.toList.drop (k + s.size)).toArray
        refine ⟨_, [⟨g, (cur.toList.take k ++ Lib.strCells s ++ cur.toList.drop (k + s.size)).toArray, E⟩], _, hr, ⟨hlen, .inr ⟨g, cap, _, rfl, rfl, hroom, hcm, ?_, ?_⟩⟩, hs.here, ?_⟩
        · simp only [List.size_toArray, List.length_append, List.length_take, List.length_drop, Array.length_toList, hl]
          omega
        · have ht' : cur.toList.take k = xs := by simpa using htake
          rw [ht', ← hlen]
          exact List.take_left
        · have := hs.trHere
          refine ⟨this.os, this.tape, this.output, this.size, fun j hj => this.im j ⟨hj.1, fun x hx => ?_⟩, fun j hj => this.same j ⟨hj.1, fun x hx => ?_⟩⟩
          all_goals
            have hx' : x ∈ ({ b := g, c := _, t := E } : Blk) :: L := hx
            rcases List.mem_cons.1 hx' with rfl | hx'
            · exact hj.2 ⟨g, cur, E⟩ (by simp)
            · exact hj.2 x (List.mem_append_right _ hx')
      · have holds : ∀ j u, xs[j]? = some u → w.cell? ((⟨g, 0, none⟩ : Addr).add j) = some u := fun j u hu => by
          have hadd : (⟨g, 0, none⟩ : Addr).add j = ⟨g, j, none⟩ := by unfold Addr.add; split <;> simp_all
          rw [hadd, cell_of_row w g j cur E (0, 0) hb]
          rw [← htake, List.getElem?_take] at hu
          split at hu
          · simpa using hu
          · cases hu
        have hr := Lib.run_append_grow_string (P := P) w t u ty E i _ ht hu hi hzi ⟨g, 0, none⟩ k cap xs (by rw [hsz]; omega) holds s (by omega) (by omega) (growslice_fits (by omega) (by rw [hbz]; omega))
        have hd := Tr.drewAlloc (R' := []) h (xs.toArray ++ (Lib.strCells s).toArray ++ Builtin.zeroCells (Value.int .u8 0).cells (grownCap w (k + s.size) cap E - (k + s.size))) E
        exact ⟨_, _, _, hr, grown cap, hd.1, hd.2⟩
variable {e : Env} {S : World → Prop}
theorem yl_toU {wb : World} {L : List Blk} {o : Oper} {src dst t T : TypeId} {x : Operand} {b j : Nat} {c : Array Value} (p : Nat) (ho : o.op = .convert src dst x) (hT : (P.underlying src, P.underlying dst, (P.info? t).map (·.size)) = (some (.pointer t), some .unsafePointer, some j)) (hj : j ≠ 0)
    (hx : rho e x = .pointer (some ⟨b, 0, none⟩)) (hp : L[p]? = some ⟨b, c, T⟩) (h0 : 0 < c.size) : Yl P (SH wb L) e o (.pointer (some ⟨b, 0, none⟩)) := fun w hw => by
  simp only [Prod.mk.injEq] at hT
  obtain ⟨h1, h2, h3⟩ := hT
  obtain ⟨i, hi, rfl⟩ := Option.map_eq_some_iff.1 h3
  have hb := hw.blk _ (List.mem_of_getElem? hp)
  have hsh : w.shape? b = some (T, c.size) := by simp [World.shape?, hb]
  unfold execOp
  simp only [ho, hx]
  have := Lib.run_to_unsafe (P := P) w ⟨b, 0, none⟩ h1 h2 hi hj hsh h0
  simp [this]
theorem yl_fromU {wb : World} {L : List Blk} {o : Oper} {src dst u T : TypeId} {x : Operand} {b : Nat} {c : Array Value} (p : Nat) (ho : o.op = .convert src dst x) (hT : (P.underlying src, P.underlying dst, (P.info? u).isSome) = (some .unsafePointer, some (.pointer u), true))
    (hx : rho e x = .pointer (some ⟨b, 0, none⟩)) (hp : L[p]? = some ⟨b, c, T⟩) (hl : liesAt P P.depth T (c.size / P.cellsOf T) 0 u 1 = true) : Yl P (SH wb L) e o (.pointer (some ⟨b, 0, none⟩)) := fun w hw => by
  simp only [Prod.mk.injEq] at hT
  obtain ⟨h1, h2, h3⟩ := hT
  obtain ⟨i, hi⟩ := Option.isSome_iff_exists.1 h3
  have hb := hw.blk _ (List.mem_of_getElem? hp)
  have hsh : w.shape? b = some (T, c.size) := by simp [World.shape?, hb]
  unfold execOp
  simp only [ho, hx]
  have := Lib.run_from_unsafe (P := P) w ⟨b, 0, none⟩ h1 h2 hi hsh hl
  simp [this]
theorem yl_noEscape {o : Oper} {f : FuncId} {fn : Func} {x : Operand} {tys : Array TypeId} {v : Value} (ho : o.op = .call { callee := .value (.func f), args := #[x], argTypes := tys }) (hf : P.funcs[f]? = some fn) (hname : (fn.name == "runtime.NumGoroutine") = false) (hb : fn.body.isNone = true) (hn : Extern.findNext fn = none)
    (he : Extern.find fn = some Extern.AbiNoEscape.same) (hx : rho e x = v) : Yl P S e o v := fun w _ => by
  have h := run_callFunc_extern (P := P) hf hname hb hn he #[v] w
  rw [Lib.run_noEscape] at h
  unfold execOp
  simp only [ho, resolve, rho]
  simp [Deferred.ofValue, invoke, hx, h]
theorem append_fixS {w w1 : World} {L R : List Blk} (t u ty E : TypeId)
    (hT : (P.underlying t, P.underlying u, (P.info? E).map (fun i => (i.zero, i.size, i.bytes))) = (some (.slice E), some .string, some (some (.int .u8 0), 1, 1)))
    (v : Value) (k : Nat) (xs : List Value) (hown : Own E 1 v k xs R) (h : SH w (L ++ R) w1) (hR : ∀ x ∈ R, w.heap.size ≤ x.b) (s : ByteArray) (h63 : k + s.size ≤ maxLen) (hby : k + s.size ≤ 140737488355328) :
    ∃ v' R' w', (Builtin.append_ #[t, u] ty #[v, .string s]).run P w1 = .ok v' w' ∧ Own E 1 v' (k + s.size) (xs ++ Lib.strCells s) R' ∧ SH w (L ++ R') w' ∧ ∀ x ∈ R', w.heap.size ≤ x.b := by
  obtain ⟨v', R', w', hr, ho', hsh, htr⟩ := append_shS (P := P) t u ty E hT v k xs hown h.swap s h63 hby
  have hnew : ∀ x ∈ R', w.heap.size ≤ x.b := fun x hx => by
    rcases Nat.lt_or_ge x.b w.heap.size with hlt | hge
    · exfalso
      have hno : ¬ Im w (R ++ L) x.b := fun hi => (htr.im x.b hi).2 x (List.mem_append_left _ hx) rfl
      apply hno
      refine ⟨hlt, fun y hy he => ?_⟩
      rcases List.mem_append.1 hy with hy | hy
      · have := hR y hy; omega
      · obtain ⟨i, hi⟩ := List.getElem?_of_mem (List.mem_append_left L hx)
        obtain ⟨j, hj⟩ := List.getElem?_of_mem hx
        obtain ⟨l, hl'⟩ := List.getElem?_of_mem hy
        have e1 : (R' ++ L)[j]? = some x := by rw [List.getElem?_append_left (List.getElem?_eq_some_iff.1 hj).1]; exact hj
        have e2 : (R' ++ L)[R'.length + l]? = some y := by rw [List.getElem?_append_right (by omega)]; simpa using hl'
        have := hsh.dis _ _ _ _ e1 e2 he.symm
        have := (List.getElem?_eq_some_iff.1 hj).1
        omega
    · exact hge
  refine ⟨v', R', w', hr, ho', ?_, hnew⟩
  have hs := hsh.swap
  refine ⟨htr.os, htr.tape, htr.output, htr.size, fun j hj hn => htr.same j ⟨hj, fun x hx he => ?_⟩, hs.blk, hs.dis⟩
  rcases List.mem_append.1 hx with hx | hx
  · have := hR x hx; omega
  · exact hn x (List.mem_append_left _ hx) he
theorem wl_appendFS {ops : Array Oper} {Q : Exit → Act → World → Prop} {nn : Nat} {w : World} {L R : List Blk} {o : Oper} {rest : List Oper} {d : Nat} {s x : Operand} {t u : TypeId} (E : TypeId) {v : Value} {k : Nat} {xs : List Value} {str : ByteArray}
    (hf : fit ops nn e o (some d) = true) (ho : o.op = .call { callee := .builtin .append, args := #[s, x], argTypes := #[t, u] })
    (hT : (P.underlying t, P.underlying u, (P.info? E).map (fun i => (i.zero, i.size, i.bytes))) = (some (.slice E), some .string, some (some (.int .u8 0), 1, 1)))
    (hs : rho e s = v) (hown : Own E 1 v k xs R) (hR : ∀ x ∈ R, w.heap.size ≤ x.b) (hx : rho e x = .string str) (h63 : k + str.size ≤ maxLen) (hby : k + str.size ≤ 140737488355328)
    (kk : ∀ v' R', Own E 1 v' (k + str.size) (xs ++ Lib.strCells str) R' → (∀ x ∈ R', w.heap.size ≤ x.b) → WL P ops Q nn ((d, v') :: e) (SH w (L ++ R')) rest) : WL P ops Q nn e (SH w (L ++ R)) (o :: rest) := by
  obtain ⟨h1', h2, h3, h4⟩ := fit_some hf
  refine wl_run (σ := { x : Value × List Blk // Own E 1 x.1 (k + str.size) (xs ++ Lib.strCells str) x.2 ∧ ∀ y ∈ x.2, w.heap.size ≤ y.b }) (fun x => x.1.1) (fun x => SH w (L ++ x.1.2)) h1' h2 h3 h4 (fun q hq => ?_) (fun x => kk x.1.1 x.1.2 x.2.1 x.2.2)
  obtain ⟨v', R', w', hr, ho', hsh, hn⟩ := append_fixS (P := P) t u o.type E hT v k xs hown hq hR str h63 hby
  refine ⟨⟨(v', R'), ho', hn⟩, w', ?_, hsh⟩
  unfold execOp
  simp only [ho, resolve, invoke, builtin, Sem.run_bind, Sem.run_pure, Result.andThen_ok, List.map_toArray, List.map_cons, List.map_nil, hs, hx, hr]
theorem yl_neSelf {o : Oper} {tp te t : TypeId} {x y : Operand} {a : Addr} (ho : o.op = .binOp .neq tp x y t) (hT : (P.underlying tp, (P.info? te).isSome) = (some (.pointer te), true)) (hx : rho e x = .pointer (some a)) (hy : rho e y = .pointer (some a)) : Yl P S e o (.bool false) := fun w _ => by
  simp only [Prod.mk.injEq] at hT
  obtain ⟨h1, h2⟩ := hT
  obtain ⟨i, hi⟩ := Option.isSome_iff_exists.1 h2
  have := Lib.run_neq_ptr_same (P := P) (w := w) a h1 hi
  unfold execOp
  simp [ho, hx, hy, eqGuard, this]
end
def BH (w0 : World) (E b T : Nat) (xs : List Value) (L : List Blk) (q : World) : Prop :=
  ∃ (p a : Option Addr) (n c : Nat) (R : List Blk), (p = none ∨ p = some ⟨b, 0, none⟩) ∧ Own E 1 (.slice a n c) xs.length xs R ∧ (∀ x ∈ R, w0.heap.size ≤ x.b) ∧ SH w0 ((([⟨b, #[.pointer p, .slice a n c], T⟩] : List Blk) ++ L) ++ R) q
theorem SH.permP {wb w : World} {L L' : List Blk} (h : SH wb L w) (hp : L.Perm L') : SH wb L' w := by
  have key : ∀ (M : List Blk), (∀ (i j : Nat) (x y : Blk), M[i]? = some x → M[j]? = some y → x.b = y.b → i = j) ↔ (M.map (·.b)).Nodup := fun M => by
    rw [List.Nodup, List.pairwise_iff_getElem]
    constructor
    · intro hd i j hi hj hlt he
      have hi' : i < M.length := by simpa using hi
      have hj' : j < M.length := by simpa using hj
      have := hd i j _ _ (List.getElem?_eq_getElem hi') (List.getElem?_eq_getElem hj') (by simpa using he)
      omega
    · intro hd i j x y hx hy he
      have hi := (List.getElem?_eq_some_iff.1 hx)
      have hj := (List.getElem?_eq_some_iff.1 hy)
      obtain ⟨hi, rfl⟩ := hi
      obtain ⟨hj, rfl⟩ := hj
      rcases Nat.lt_trichotomy i j with h1 | h1 | h1
      · exact absurd (show (M.map (·.b))[i]'(by simpa using hi) = (M.map (·.b))[j]'(by simpa using hj) by rw [List.getElem_map, List.getElem_map]; exact he) (hd i j (by simpa using hi) (by simpa using hj) h1)
      · exact h1
      · exact absurd (show (M.map (·.b))[j]'(by simpa using hj) = (M.map (·.b))[i]'(by simpa using hi) by rw [List.getElem_map, List.getElem_map]; exact he.symm) (hd j i (by simpa using hj) (by simpa using hi) h1)
  exact ⟨h.os, h.tape, h.output, h.size, fun k hk hn => h.kept k hk (fun x hx => hn x (hp.mem_iff.1 hx)), fun x hx => h.blk x (hp.mem_iff.2 hx), (key L').2 ((hp.map _).nodup_iff.1 ((key L).1 h.dis))⟩
theorem BH.drop1 {w0 q : World} {E b T : Nat} {xs : List Value} {x : Blk} {L : List Blk} (h : BH w0 E b T xs (x :: L) q) (hx : w0.heap.size ≤ x.b) : BH w0 E b T xs L q := by
  obtain ⟨p, a, n, c, R, h1, h2, h3, h4⟩ := h
  refine ⟨p, a, n, c, R, h1, h2, h3, SH.tail (x := x) (h4.permP ?_) hx⟩
  simp only [List.cons_append]
  exact List.Perm.swap _ _ _
theorem BH.drew {w0 q : World} {E b T : Nat} {xs : List Value} {L : List Blk} (h : BH w0 E b T xs L q) : BH w0 E b T xs L q.drew := by
  obtain ⟨p, a, n, c, R, h1, h2, h3, h4⟩ := h
  exact ⟨p, a, n, c, R, h1, h2, h3, h4.drew⟩
section
variable {P : Program} {ops : Array Oper} {Q : Exit → Act → World → Prop} {n : Nat} {e : Env}
theorem wl_newBH {w0 : World} {E b T : Nat} {xs : List Value} {L : List Blk} {o : Oper} {rest : List Oper} {d : Nat} (C : Array Value) (t : TypeId) (V : Nat → Value) (hf : fit ops n e o (some d) = true)
    (hn : ∀ r, newAt P r (execOp (rho e) o) = some (.cells C t (0, 0), .value (V r)))
    (k : ∀ r, w0.heap.size ≤ r → WL P ops Q n ((d, V r) :: e) (BH w0 E b T xs (⟨r, C, t⟩ :: L)) rest) : WL P ops Q n e (BH w0 E b T xs L) (o :: rest) := by
  obtain ⟨h1', h2, h3, h4⟩ := fit_some hf
  refine wl_run (σ := { r : Nat // w0.heap.size ≤ r }) (fun r => V r.1) (fun r => BH w0 E b T xs (⟨r.1, C, t⟩ :: L)) h1' h2 h3 h4 (fun q hq => ?_) (fun r => k r.1 r.2)
  obtain ⟨p, a, m, c, R, g1, g2, g3, g4⟩ := hq
  refine ⟨⟨q.heap.size, g4.size⟩, q.alloc (.cells C t), newAt_run _ q _ _ (hn _), p, a, m, c, R, g1, g2, g3, (g4.alloc C t).permP ?_⟩
  simp only [List.cons_append]
  exact List.Perm.swap _ _ _
theorem wl_callBH {w0 : World} {E b T : Nat} {xs xs' : List Value} {L : List Blk} {o : Oper} {rest : List Oper} {d : Nat} {f : FuncId} {args : Array Value} {v : Value} (hf : fit ops n e o (some d) = true) (hv : pureVal P (execOp (rho e) o) = some (.enter f args))
    (h : ∀ q, BH w0 E b T xs L q → Calls P f args q (fun z q' => z = .returned v ∧ BH w0 E b T xs' L q')) (k : WL P ops Q n ((d, v) :: e) (BH w0 E b T xs' L) rest) : WL P ops Q n e (BH w0 E b T xs L) (o :: rest) := by
  obtain ⟨h1, h2, h3, h4⟩ := fit_some hf
  refine wl_call h1 h2 h3 h4 hv (R := fun w z w' => z = .returned v ∧ BH w0 E b T xs' L w') h (fun w z w' hw hR => ⟨v, hR.1, ?_⟩)
  exact fun a w2 ha hww => k a w2 ha (by subst hww; exact hR.2)
theorem zB (d : Nat) (v : Value) {w0 : World} {E b T : Nat} {xs xs' : List Value} {L : List Blk} {o : Oper} {rest : List Oper} {f : FuncId} {args : Array Value}
    (h : ∀ q, BH w0 E b T xs L q → Calls P f args q (fun z q' => z = .returned v ∧ BH w0 E b T xs' L q')) (k : WL P ops Q n ((d, v) :: e) (BH w0 E b T xs' L) rest) (hf : fit ops n e o (some d) = true := by kernel_rfl) (hv : pureVal P (execOp (rho e) o) = some (.enter f args) := by kernel_rfl) : WL P ops Q n e (BH w0 E b T xs L) (o :: rest) :=
  wl_callBH hf hv h k
end
end Go.Sx

namespace Go.Sx
open Go.RowKit
set_option linter.unusedVariables false
theorem freeze_other (w : World) (a : Addr) (n k : Nat) (h : k ≠ a.block) : (w.freeze a n).heap[k]? = w.heap[k]? := by
  unfold World.freeze
  split
  · rfl
  · simp only [Array.getElem?_modify]
    rw [if_neg (fun e => h e.symm)]
section
variable {P : Program} {ops : Array Oper} {Q : Exit → Act → World → Prop} {nn : Nat} {e : Env}
theorem wd_uString {w0 : World} {E b T g : Nat} {bc cc : Array Value} {L0 : List Blk} {l : List UInt8} {m f d : Nat} {listed : Array Bool} {o : Oper} {x y : Operand} {pt it : TypeId} (i : Nat)
    (hi : ops[i]? = some o) (him : i < m) (hrd : Region.ready .any ops listed = [i]) (hf : fit ops nn e o (some d) = true) (ho : o.op = .call { callee := .builtin .unsafeString, args := #[x, y], argTypes := #[pt, it] })
    (hpt : (P.underlying pt, P.cellsOf E) = (some (.pointer E), 1)) (hx : rho e x = .pointer (some ⟨g, 0, none⟩)) (hy : rho e y = .int .i64 (l.length : Int)) (h0 : l ≠ []) (h63 : l.length ≤ 9223372036854775807)
    (hcc : cc.toList.take l.length = l.map fun b => Value.int .u8 b.toNat) (hge : ∀ z ∈ ((([⟨b, bc, T⟩] : List Blk) ++ L0) ++ [⟨g, cc, E⟩]), w0.heap.size ≤ z.b)
    (k : WD P ops Q nn m (Kp w0 [⟨b, bc, T⟩] ((([⟨b, bc, T⟩] : List Blk) ++ L0) ++ [⟨g, cc, E⟩])) (fun q => Kp w0 [⟨b, bc, T⟩] ((([⟨b, bc, T⟩] : List Blk) ++ L0) ++ [⟨g, cc, E⟩]) q ∧ Below w0.heap.size w0 q) f (listed.setIfInBounds i true) ((d, .string ⟨l.toArray⟩) :: e)) :
    WD P ops Q nn m (Kp w0 [⟨b, bc, T⟩] ((([⟨b, bc, T⟩] : List Blk) ++ L0) ++ [⟨g, cc, E⟩])) (SH w0 ((([⟨b, bc, T⟩] : List Blk) ++ L0) ++ [⟨g, cc, E⟩])) (f + 1) listed e := by
  simp only [Prod.mk.injEq] at hpt
  refine wd_one i (σ := Unit) (fun _ => .string ⟨l.toArray⟩) (fun _ q => Kp w0 [⟨b, bc, T⟩] ((([⟨b, bc, T⟩] : List Blk) ++ L0) ++ [⟨g, cc, E⟩]) q ∧ Below w0.heap.size w0 q) hi him hrd hf (fun q hq => ?_) (fun _ q h => h.1) (fun _ => k)
  have hgx : (⟨g, cc, E⟩ : Blk) ∈ (([⟨b, bc, T⟩] : List Blk) ++ L0) ++ [⟨g, cc, E⟩] := List.mem_append_right _ (List.mem_singleton.2 rfl)
  have hgk := hq.blk _ hgx
  have hbg : b ≠ g := fun he => by
    have e1 : ((([⟨b, bc, T⟩] : List Blk) ++ L0) ++ [⟨g, cc, E⟩])[0]? = some ⟨b, bc, T⟩ := rfl
    have e2 : ((([⟨b, bc, T⟩] : List Blk) ++ L0) ++ [⟨g, cc, E⟩])[(([⟨b, bc, T⟩] : List Blk) ++ L0).length]? = some ⟨g, cc, E⟩ := by simp
    have := hq.dis 0 _ _ _ e1 e2 he
    simp at this
  have hlen : l.length ≤ cc.size := by
    have h1 : (cc.toList.take l.length).length = l.length := by rw [hcc, List.length_map]
    rw [List.length_take] at h1
    have h2 := Nat.min_le_right l.length cc.toList.length
    rw [h1] at h2
    simpa using h2
  have hsh : q.shape? g = some (E, cc.size) := by simp [World.shape?, hgk]
  have hrun := Lib.run_unsafeString_row (P := P) q pt it o.type E hpt.1 hpt.2 g cc.size hsh l h0 hlen h63 (fun j u hj => by
    have hadd : (⟨g, 0, none⟩ : Addr).add j = ⟨g, j, none⟩ := by unfold Addr.add; split <;> simp_all
    rw [hadd, cell_of_row q g j cc E (0, 0) hgk]
    have hj' : (l.map fun b => Value.int .u8 (b.toNat : Int))[j]? = some (Value.int .u8 (u.toNat : Int)) := by rw [List.getElem?_map, hj]; rfl
    rw [← hcc, List.getElem?_take] at hj'
    split at hj'
    · simpa using hj'
    · cases hj')
  refine ⟨(), q.freeze ⟨g, 0, none⟩ l.length, ?_, ⟨fun z hz => ?_, fun k hk => ?_⟩, ?_⟩
  · unfold execOp
    simp only [ho, resolve, invoke, builtin, Sem.run_bind, Sem.run_pure, Result.andThen_ok, List.map_toArray, List.map_cons, List.map_nil, hx, hy, hrun]
  · simp only [List.mem_singleton] at hz
    subst hz
    rw [freeze_other _ _ _ _ hbg]
    exact hq.blk _ (by simp)
  · rw [freeze_other _ _ _ _ (fun he => hk.2 _ hgx he.symm)]
    exact hq.still hk
  · exact Lib.below_freeze (hq.below (Below.refl _ _) (Nat.le_refl _) hge) (hge _ hgx) _
theorem yl_sliceData {S : World → Prop} {o : Oper} {x : Operand} {t : TypeId} {a : Addr} {n c : Nat} (ho : o.op = .call { callee := .builtin .unsafeSliceData, args := #[x], argTypes := #[t] }) (hx : rho e x = .slice (some a) n c) (hc : c ≠ 0) : Yl P S e o (.pointer (some a)) := fun w _ => by
  have h := Lib.run_unsafeSliceData_row w #[t] o.type a n c hc (P := P)
  unfold execOp
  simp only [ho, resolve, invoke, builtin, Sem.run_bind, Sem.run_pure, Result.andThen_ok, List.map_toArray, List.map_cons, List.map_nil, hx, h]
end
end Go.Sx

namespace Go.Sx
open Go.RowKit
set_option linter.unusedVariables false
def cl (l : List UInt8) : List Value := l.map fun b => Value.int .u8 (b.toNat : Int)
theorem cl_app (a b : List UInt8) : cl (a ++ b) = cl a ++ cl b := List.map_append ..
theorem cl_len (l : List UInt8) : (cl l).length = l.length := List.length_map ..
theorem BH.below {w0 q : World} {E b T : Nat} {xs : List Value} {L : List Blk} (h : BH w0 E b T xs L q) (hb : w0.heap.size ≤ b) (hL : ∀ x ∈ L, w0.heap.size ≤ x.b) : Below w0.heap.size w0 q := by
  obtain ⟨p, a, n, c, R, h1, h2, h3, h4⟩ := h
  exact h4.below (Below.refl _ _) (Nat.le_refl _) (ge_app (ge_app (ge_cons hb (ge_nil _)) hL) h3)
theorem BH.keep {w0 q q' : World} {E b T : Nat} {xs : List Value} {L : List Blk} (h : BH w0 E b T xs L q) (hb : Below q.heap.size q q') : BH w0 E b T xs L q' := by
  obtain ⟨p, a, n, c, R, h1, h2, h3, h4⟩ := h
  exact ⟨p, a, n, c, R, h1, h2, h3, h4.keep hb⟩
theorem below_itoa {q q' : World} (h : ∃ k os, q' = Sort.grow (q.drewN k) os) : Below q.heap.size q q' := by
  obtain ⟨k, os, rfl⟩ := h
  exact Lib.below_grow _ q (Nat.le_refl _) k os
section
variable {P : Program} {ops : Array Oper} {Q : Exit → Act → World → Prop} {n : Nat} {e : Env}
theorem wd_callBHK {w0 : World} {E b T : Nat} {xs : List Value} {L : List Blk} (i : Nat) {m fu d : Nat} {oi : Oper} {listed : Array Bool} {f : FuncId} {args : Array Value} {v : Value} (hi : ops[i]? = some oi) (him : i < m) (hr : Region.ready .any ops listed = [i]) (hf : fit ops n e oi (some d) = true) (hv : pureVal P (execOp (rho e) oi) = some (.enter f args))
    (S : World → Prop) (hS : ∀ q, BH w0 E b T xs L q → S q) (h : ∀ q, BH w0 E b T xs L q → Calls P f args q (fun x q' => x = .returned v ∧ Below q.heap.size q q')) (k : WD P ops Q n m S (BH w0 E b T xs L) fu (listed.setIfInBounds i true) ((d, v) :: e)) : WD P ops Q n m S (BH w0 E b T xs L) (fu + 1) listed e := by
  refine wd_call i hi him hr hf hv (R := fun w x w' => x = .returned v ∧ Below w.heap.size w w') h (fun w x w' hw hR => ⟨v, hR.1, hS _ (hw.keep hR.2), ?_⟩)
  exact fun a w2 inv ha hww => k a w2 inv ha (by subst hww; exact hw.keep hR.2)
theorem wd_callBH {w0 : World} {E b T : Nat} {xs xs' : List Value} {L : List Blk} (i : Nat) {m fu d : Nat} {oi : Oper} {listed : Array Bool} {f : FuncId} {args : Array Value} {v : Value} (hi : ops[i]? = some oi) (him : i < m) (hr : Region.ready .any ops listed = [i]) (hf : fit ops n e oi (some d) = true) (hv : pureVal P (execOp (rho e) oi) = some (.enter f args))
    (S : World → Prop) (hS : ∀ q, BH w0 E b T xs' L q → S q) (h : ∀ q, BH w0 E b T xs L q → Calls P f args q (fun x q' => x = .returned v ∧ BH w0 E b T xs' L q')) (k : WD P ops Q n m S (BH w0 E b T xs' L) fu (listed.setIfInBounds i true) ((d, v) :: e)) : WD P ops Q n m S (BH w0 E b T xs L) (fu + 1) listed e := by
  refine wd_call i hi him hr hf hv (R := fun w x w' => x = .returned v ∧ BH w0 E b T xs' L w') h (fun w x w' hw hR => ⟨v, hR.1, hS _ hR.2, ?_⟩)
  exact fun a w2 inv ha hww => k a w2 inv ha (by subst hww; exact hR.2)
end
end Go.Sx

namespace Go.Proofs.YtjcjgcnpnfhkoaaDoor
open Go.RowKit Go.Sx
set_option linter.unusedVariables false
set_option linter.unusedSimpArgs false
theorem own_len {E es k n c : Nat} {a : Option Addr} {xs : List Value} {R : List Blk} (h : Own E es (.slice a n c) k xs R) : n = k := by
  rcases h.2 with ⟨h1, h2, _⟩ | ⟨g, cap, cc, h1, _⟩
  · cases h1; omega
  · cases h1; rfl
theorem copyCheck_none {w0 w : World} {b : Nat} {a : Option Addr} {n c : Nat} {L0 R : List Blk} (hsh : SH w0 ((([⟨b, #[.pointer none, .slice a n c], 68⟩] : List Blk) ++ L0) ++ R) w) : Calls Tryd.prog 67 #[.pointer (some ⟨b, 0, none⟩)] w (fun e w' => e = .returned (.tuple #[]) ∧ SH w0 ((([⟨b, #[.pointer (some ⟨b, 0, none⟩), .slice a n c], 68⟩] : List Blk) ++ L0) ++ R) w') := by
 refine Sx.enter (l := [pt b 0]) Tryd.func67 rfl (n := 20) rfl (by simp) (wc_eq (S := SH w0 ((([⟨b, #[.pointer none, .slice a n c], 68⟩] : List Blk) ++ L0) ++ R)) hsh (qSR (zg 3 [(4, pt b 0)] (zl 5 (.pointer none) 0 0 (zg 1 [(6, .bool true)] (qLN (zT (qR (zg 2 [(8, pt b 0), (7, pt b 0)] ?_))))))))); refine zy 9 (pt b 0) (yl_toU (t := 66) (b := b) (c := #[.pointer none, .slice a n c]) (T := 68) (j := 2) 0 rfl (by kernel_rfl) (by decide) (by kernel_rfl) rfl (by simp)) (zy 10 (pt b 0) (yl_noEscape (f := 78) rfl Tryd.func78 (by kernel_rfl) (by kernel_rfl) (by kernel_rfl) (by kernel_rfl) (by kernel_rfl)) (zy 11 (pt b 0) (yl_fromU (u := 66) (b := b) (c := #[.pointer none, .slice a n c]) (T := 68) 0 rfl (by kernel_rfl) (by kernel_rfl) rfl (by kernel_rfl)) (zg 2 [(13, pt b 0)] (wl_store (b := b) (off := 0) (v := pt b 0) (c' := #[pt b 0, .slice a n c]) (L' := ((([⟨b, #[pt b 0, .slice a n c], 68⟩] : List Blk) ++ L0) ++ R)) 0 (by kernel_rfl) rfl (by kernel_rfl) (by kernel_rfl) rfl (by kernel_rfl) rfl (qL (end_none rfl ?_)))))); intro w' hw'; exact ⟨rfl, hw'⟩
theorem copyCheck_some {w0 w : World} {b : Nat} {a : Option Addr} {n c : Nat} {L0 R : List Blk} (hsh : SH w0 ((([⟨b, #[.pointer (some ⟨b, 0, none⟩), .slice a n c], 68⟩] : List Blk) ++ L0) ++ R) w) : Calls Tryd.prog 67 #[.pointer (some ⟨b, 0, none⟩)] w (fun e w' => e = .returned (.tuple #[]) ∧ SH w0 ((([⟨b, #[.pointer (some ⟨b, 0, none⟩), .slice a n c], 68⟩] : List Blk) ++ L0) ++ R) w') := by
 refine Sx.enter (l := [pt b 0]) Tryd.func67 rfl (n := 20) rfl (by simp) (wc_eq (S := SH w0 ((([⟨b, #[pt b 0, .slice a n c], 68⟩] : List Blk) ++ L0) ++ R)) hsh (qSR (zg 3 [(4, pt b 0)] (zl 5 (pt b 0) 0 0 (zg 1 [(6, .bool false)] (qLN (zF (qSR (zg 3 [(16, pt b 0)] ?_))))))))); refine zl 17 (pt b 0) 0 0 (zg 1 [(18, pt b 0)] (zy 19 (.bool false) (yl_neSelf (te := 66) (a := ⟨b, 0, none⟩) rfl (by kernel_rfl) (by kernel_rfl) (by kernel_rfl)) (qLN (zF (qK (end_none rfl ?_)))))); intro w' hw'; exact ⟨rfl, hw'⟩
theorem copyCheck_ok {w0 w : World} {b : Nat} {xs : List Value} {L0 : List Blk} (h : BH w0 5 b 68 xs L0 w) : Calls Tryd.prog 67 #[.pointer (some ⟨b, 0, none⟩)] w (fun e w' => e = .returned (.tuple #[]) ∧ BH w0 5 b 68 xs L0 w') := by
  obtain ⟨p, a, n, c, R, hp, hown, hR, hsh⟩ := h
  rcases hp with rfl | rfl
  · exact (copyCheck_none hsh).mono fun e w' h => ⟨h.1, _, a, n, c, R, .inr rfl, hown, hR, h.2⟩
  · exact (copyCheck_some hsh).mono fun e w' h => ⟨h.1, _, a, n, c, R, .inr rfl, hown, hR, h.2⟩
theorem writeString_ok {w0 w : World} {b : Nat} {xs : List Value} {L0 : List Blk} (s : ByteArray) (hlen : xs.length + s.size ≤ 140737488355328) (hbh : BH w0 5 b 68 xs L0 w) : Calls Tryd.prog 40 #[.pointer (some ⟨b, 0, none⟩), .string s] w (fun e w' => e = .returned (.tuple #[.int .i64 (s.size : Int), .nilIface]) ∧ BH w0 5 b 68 (xs ++ Lib.strCells s) L0 w') := by
 refine Sx.enter (l := [pt b 0, .string s]) Tryd.func40 rfl (n := 19) rfl (by simp) (wc_eq (S := BH w0 5 b 68 xs L0) hbh (qSR (zg 2 [(5, .nilIface), (4, vi 0)] (qM (zg 1 [(6, pt b 0)] (wl_callBH (L := L0) (xs := xs) (xs' := xs) (d := 7) (v := .tuple #[]) (by kernel_rfl) (by kernel_rfl) (fun q hq => copyCheck_ok hq) (wl_open (fun q hq => ?_)))))))); obtain ⟨p, a, n, c, R, hp, hown, hR, hsh⟩ := hq; obtain rfl := own_len hown; refine wl_eq (S := SH w0 ((([⟨b, #[.pointer p, .slice a xs.length c], 68⟩] : List Blk) ++ L0) ++ R)) hsh (qM (zg 4 [(11, pt b 1), (8, pt b 0)] (zl 12 (.slice a xs.length c) 0 1 (zg 1 [(13, .string s)] (wl_appendFS (L := (([⟨b, #[.pointer p, .slice a xs.length c], 68⟩] : List Blk) ++ L0)) (R := R) (d := 14) 5 (v := .slice a xs.length c) (k := xs.length) (xs := xs) (str := s) (by kernel_rfl) rfl (by kernel_rfl) (by kernel_rfl) hown hR (by kernel_rfl) (by simp only [maxLen]; omega) hlen ?_))))); intro v2 R2 hown2 hR2; obtain ⟨a2, n2, c2, rfl⟩ := hown2.slv; refine zg 2 [(16, pt b 1)] (wl_store (b := b) (off := 1) (v := .slice a2 n2 c2) (c' := #[.pointer p, .slice a2 n2 c2]) (L' := ((([⟨b, #[.pointer p, .slice a2 n2 c2], 68⟩] : List Blk) ++ L0) ++ R2)) 0 (by kernel_rfl) rfl (by kernel_rfl) (by kernel_rfl) rfl (by kernel_rfl) rfl (qM (zg 4 [(5, .nilIface), (4, vi (s.size : Int))] (qLN (qr (ret_tmp2 (v := .int .i64 (s.size : Int)) (v' := .nilIface) rfl (by kernel_rfl) (by kernel_rfl) ?_)))))); intro w' hw'; exact ⟨rfl, p, a2, n2, c2, R2, hp, (by rw [List.length_append, Lib.strCells_length]; exact hown2), hR2, hw'⟩
theorem writeByte_ok {w0 w : World} {b : Nat} {xs : List Value} {L0 : List Blk} (y : Int) (hlen : xs.length + 1 ≤ 140737488355328) (hbh : BH w0 5 b 68 xs L0 w) : Calls Tryd.prog 42 #[.pointer (some ⟨b, 0, none⟩), .int .u8 y] w (fun e w' => e = .returned (.nilIface) ∧ BH w0 5 b 68 (xs ++ [.int .u8 y]) L0 w') := by
 refine Sx.enter (l := [pt b 0, .int .u8 y]) Tryd.func42 rfl (n := 17) rfl (by simp) (wc_eq (S := BH w0 5 b 68 xs L0) hbh (qSR (zg 1 [(4, .nilIface)] (qM (zg 1 [(5, pt b 0)] (wl_callBH (L := L0) (xs := xs) (xs' := xs) (d := 6) (v := .tuple #[]) (by kernel_rfl) (by kernel_rfl) (fun q hq => copyCheck_ok hq) (wl_open (fun q hq => ?_)))))))); obtain ⟨p, a, n, c, R, hp, hown, hR, hsh⟩ := hq; obtain rfl := own_len hown; refine wl_eq (S := SH w0 ((([⟨b, #[.pointer p, .slice a xs.length c], 68⟩] : List Blk) ++ L0) ++ R)) hsh (qM (zg 4 [(10, pt b 1), (7, pt b 0)] (zl 11 (.slice a xs.length c) 0 1 (zg 1 [(12, .int .u8 y)] (zn 13 #[.int .u8 y] 5 (fun r => .slice (some ⟨r, 0, none⟩) 1 1) ?_))))); intro r1 hr1; refine wl_appendF (L := (([⟨r1, #[.int .u8 y], 5⟩, ⟨b, #[.pointer p, .slice a xs.length c], 68⟩] : List Blk) ++ L0)) (R := R) (d := 14) 5 (.int .u8 0) 1 1 (v := .slice a xs.length c) (k := xs.length) (xs := xs) (a := ⟨r1, 0, none⟩) (m := 1) (c := 1) [.int .u8 y] (by kernel_rfl) rfl (by kernel_rfl) rfl (by decide) (by kernel_rfl) hown hR (by kernel_rfl) rfl (fun w3 h3 => h3.news 0 rfl) (by intro u hu; simp only [List.mem_singleton] at hu; subst hu; rfl) (by simp only [maxLen]; omega) (by omega) ?_; intro v2 R2 hown2 hR2; obtain ⟨a2, n2, c2, rfl⟩ := hown2.slv; refine zg 2 [(16, pt b 1)] (wl_store (b := b) (off := 1) (v := .slice a2 n2 c2) (c' := #[.pointer p, .slice a2 n2 c2]) (L' := ((([⟨r1, #[.int .u8 y], 5⟩, ⟨b, #[.pointer p, .slice a2 n2 c2], 68⟩] : List Blk) ++ L0) ++ R2)) 1 (by kernel_rfl) rfl (by kernel_rfl) (by kernel_rfl) rfl (by kernel_rfl) rfl (qM (zg 1 [(4, .nilIface)] (qLN (qr (ret_tmp (v := .nilIface) rfl (by kernel_rfl) ?_)))))); intro w' hw'; exact ⟨rfl, p, a2, n2, c2, R2, hp, (by rw [List.length_append, List.length_singleton]; exact hown2), hR2, (hw'.tail hr1)⟩
theorem string_step {w0 w : World} {b g cap : Nat} {p : Option Addr} {cc : Array Value} {L0 : List Blk} (l : List UInt8) (h0 : l ≠ []) (hlen : l.length ≤ 140737488355328) (hcap : cap ≠ 0) (hcc : cc.toList.take l.length = l.map fun b => Value.int .u8 b.toNat) (hge : ∀ z ∈ ((([⟨b, #[.pointer p, .slice (some ⟨g, 0, none⟩) l.length cap], 68⟩] : List Blk) ++ L0) ++ [⟨g, cc, 5⟩]), w0.heap.size ≤ z.b) (hsh : SH w0 ((([⟨b, #[.pointer p, .slice (some ⟨g, 0, none⟩) l.length cap], 68⟩] : List Blk) ++ L0) ++ [⟨g, cc, 5⟩]) w) : Calls Tryd.prog 23 #[.pointer (some ⟨b, 0, none⟩)] w (fun e w' => e = .returned (.string ⟨l.toArray⟩) ∧ Below w0.heap.size w0 w') := by
 refine Sx.enter (l := [pt b 0]) Tryd.func23 rfl (n := 14) rfl (by simp) (wc_eq (S := SH w0 ((([⟨b, #[.pointer p, .slice (some ⟨g, 0, none⟩) l.length cap], 68⟩] : List Blk) ++ L0) ++ [⟨g, cc, 5⟩])) hsh (qSR (zg 1 [(2, .string ⟨#[]⟩)] (qLN (qS ?_))))); have hS0 : ∀ q, SH w0 ((([⟨b, #[.pointer p, .slice (some ⟨g, 0, none⟩) l.length cap], 68⟩] : List Blk) ++ L0) ++ [⟨g, cc, 5⟩]) q → Kp w0 [⟨b, #[.pointer p, .slice (some ⟨g, 0, none⟩) l.length cap], 68⟩] ((([⟨b, #[.pointer p, .slice (some ⟨g, 0, none⟩) l.length cap], 68⟩] : List Blk) ++ L0) ++ [⟨g, cc, 5⟩]) q := Kp.of (Tr.refl _ _) (fun y hy => List.mem_append_left _ (List.mem_append_left _ hy)); refine wc_draw 12 (Kp w0 [⟨b, #[.pointer p, .slice (some ⟨g, 0, none⟩) l.length cap], 68⟩] ((([⟨b, #[.pointer p, .slice (some ⟨g, 0, none⟩) l.length cap], 68⟩] : List Blk) ++ L0) ++ [⟨g, cc, 5⟩])) rfl (by decide) (fun w h => SH.drew h) (wd_go [0] [(3, pt b 0)] #[true, false, false, false, false, false, false, false, false, false, false, false] (f := 11) rfl (by kernel_rfl) hS0 (wd_go [1] [(4, pt b 0)] #[true, true, false, false, false, false, false, false, false, false, false, false] (f := 10) rfl (by kernel_rfl) hS0 (wd_go [2] [(5, pt b 1)] #[true, true, true, false, false, false, false, false, false, false, false, false] (f := 9) rfl (by kernel_rfl) hS0 (Wy 3 6 (.slice (some ⟨g, 0, none⟩) l.length cap) 8 rfl hS0 (yl_load_kp (b := b) (off := 1) 0 rfl (by kernel_rfl) rfl (by kernel_rfl)) (Wy 4 7 (pt g 0) 7 rfl hS0 (yl_sliceData (n := l.length) rfl (by kernel_rfl) hcap) (wd_go [5] [(8, pt b 0)] #[true, true, true, true, true, true, false, false, false, false, false, false] (f := 6) rfl (by kernel_rfl) hS0 (wd_go [6] [(9, pt b 0)] #[true, true, true, true, true, true, true, false, false, false, false, false] (f := 5) rfl (by kernel_rfl) hS0 (wd_go [7] [(10, pt b 1)] #[true, true, true, true, true, true, true, true, false, false, false, false] (f := 4) rfl (by kernel_rfl) hS0 ?_)))))))); refine Wy 8 11 (.slice (some ⟨g, 0, none⟩) l.length cap) 3 rfl hS0 (yl_load_kp (b := b) (off := 1) 0 rfl (by kernel_rfl) rfl (by kernel_rfl)) (wd_go [9] [(12, vi (l.length : Int))] #[true, true, true, true, true, true, true, true, true, true, false, false] (f := 2) rfl (by kernel_rfl) hS0 (wd_uString (l := l) (f := 1) (d := 13) 10 rfl (by decide) (by kernel_rfl) (by kernel_rfl) rfl (by kernel_rfl) (by kernel_rfl) (by kernel_rfl) h0 (by omega) hcc hge (wd_go [11] [(2, .string ⟨l.toArray⟩)] #[true, true, true, true, true, true, true, true, true, true, true, true] (f := 0) rfl (by kernel_rfl) (fun q h => h.1) (wd_done (by kernel_rfl) (qL (qo (qN (qr (ret_tmp (v := .string (⟨l.toArray⟩)) rfl (by kernel_rfl) ?_))))))))); intro w' hw'; exact ⟨rfl, hw'.2⟩
theorem string_ok {w0 w : World} {b : Nat} {L0 : List Blk} (l : List UInt8) (h0 : l ≠ []) (hlen : l.length ≤ 140737488355328) (hb : w0.heap.size ≤ b) (hL : ∀ x ∈ L0, w0.heap.size ≤ x.b) (h : BH w0 5 b 68 (l.map fun b => Value.int .u8 b.toNat) L0 w) : Calls Tryd.prog 23 #[.pointer (some ⟨b, 0, none⟩)] w (fun e w' => e = .returned (.string ⟨l.toArray⟩) ∧ Below w0.heap.size w0 w') := by
  obtain ⟨p, a, n, c, R, hp, hown, hR, hsh⟩ := h
  rw [List.length_map] at hown
  have hl : l.length ≠ 0 := by simpa using h0
  obtain rfl := own_len hown
  rcases hown.2 with ⟨_, h2, _⟩ | ⟨g, cap, cc, h1, rfl, h3, h4, h5, h6⟩
  · omega
  · cases h1
    refine string_step (L0 := L0) l h0 hlen (by omega) (by rw [Nat.mul_one] at h6; exact h6) (fun z hz => ?_) hsh
    rcases List.mem_append.1 hz with hz | hz
    · rcases List.mem_append.1 hz with hz | hz
      · simp only [List.mem_singleton] at hz; subst hz; exact hb
      · exact hL z hz
    · exact hR z hz
end Go.Proofs.YtjcjgcnpnfhkoaaDoor

namespace Go.Proofs.YtjcjgcnpnfhkoaaDoor
open Go.Shelf
def shM171_ren : Go.Shelf.Ren := ⟨fun | 171 => 41 | 243 => 68 | 246 => 79 | 283 => 86 | 284 => 87 | 285 => 88 | 286 => 89 | 129 => 94 | 317 => 93 | 318 => 95 | 319 => 96 | 320 => 97 | 337 => 98 | 338 => 99 | n => n, fun | 3 => 3 | 9 => 9 | 2 => 2 | 4 => 4 | 171 => 137 | 0 => 0 | 53 => 138 | 37 => 64 | 5 => 5 | 173 => 141 | 212 => 146 | 51 => 147 | 20 => 20 | 213 => 148 | 46 => 149 | 232 => 152 | 233 => 153 | n => n, fun | 17 => 0 | 18 => 1 | 19 => 2 | n => n⟩
theorem shM171 : Go.Proofs.LaysM.n171 Tryd.prog shM171_ren := {
  mixed := by kernel_rfl
  f129 := Tryd.func94.trans (congrArg some (by kernel_rfl))
  f171 := Tryd.func41.trans (congrArg some (by kernel_rfl))
  f243 := Tryd.func68.trans (congrArg some (by kernel_rfl))
  f246 := Tryd.func79.trans (congrArg some (by kernel_rfl))
  f283 := Tryd.func86.trans (congrArg some (by kernel_rfl))
  f284 := Tryd.func87.trans (congrArg some (by kernel_rfl))
  f285 := Tryd.func88.trans (congrArg some (by kernel_rfl))
  f286 := Tryd.func89.trans (congrArg some (by kernel_rfl))
  f317 := Tryd.func93.trans (congrArg some (by kernel_rfl))
  f318 := Tryd.func95.trans (congrArg some (by kernel_rfl))
  f319 := Tryd.func96.trans (congrArg some (by kernel_rfl))
  f320 := Tryd.func97.trans (congrArg some (by kernel_rfl))
  f337 := Tryd.func98.trans (congrArg some (by kernel_rfl))
  f338 := Tryd.func99.trans (congrArg some (by kernel_rfl))
  t0 := Tryd.underlying0
  a0 := Tryd.isAgg0
  z0 := Tryd.sizeOf0
  v0 := Tryd.zeroValue0
  t2 := Tryd.underlying2
  a2 := Tryd.isAgg2
  z2 := Tryd.sizeOf2
  v2 := Tryd.zeroValue2
  t3 := Tryd.underlying3
  a3 := Tryd.isAgg3
  z3 := Tryd.sizeOf3
  v3 := Tryd.zeroValue3
  t4 := Tryd.underlying4
  a4 := Tryd.isAgg4
  z4 := Tryd.sizeOf4
  v4 := Tryd.zeroValue4
  t5 := Tryd.underlying5
  a5 := Tryd.isAgg5
  z5 := Tryd.sizeOf5
  v5 := Tryd.zeroValue5
  t9 := Tryd.underlying9
  a9 := Tryd.isAgg9
  z9 := Tryd.sizeOf9
  v9 := Tryd.zeroValue9
  t20 := Tryd.underlying20
  a20 := Tryd.isAgg20
  z20 := Tryd.sizeOf20
  v20 := Tryd.zeroValue20
  t37 := Tryd.underlying64
  a37 := Tryd.isAgg64
  z37 := Tryd.sizeOf64
  v37 := Tryd.zeroValue64
  t46 := Tryd.underlying149
  a46 := Tryd.isAgg149
  z46 := Tryd.sizeOf149
  v46 := Tryd.zeroValue149
  t51 := Tryd.underlying147
  a51 := Tryd.isAgg147
  z51 := Tryd.sizeOf147
  v51 := Tryd.zeroValue147
  t53 := Tryd.underlying138
  a53 := Tryd.isAgg138
  z53 := Tryd.sizeOf138
  v53 := Tryd.zeroValue138
  t171 := Tryd.underlying137
  a171 := Tryd.isAgg137
  z171 := Tryd.sizeOf137
  v171 := Tryd.zeroValue137
  t173 := Tryd.underlying141
  a173 := Tryd.isAgg141
  z173 := Tryd.sizeOf141
  v173 := Tryd.zeroValue141
  t212 := Tryd.underlying146
  a212 := Tryd.isAgg146
  z212 := Tryd.sizeOf146
  v212 := Tryd.zeroValue146
  t213 := Tryd.underlying148
  a213 := Tryd.isAgg148
  z213 := Tryd.sizeOf148
  t232 := Tryd.underlying152
  a232 := Tryd.isAgg152
  z232 := Tryd.sizeOf152
  v232 := Tryd.zeroValue152
  t233 := Tryd.underlying153
  a233 := Tryd.isAgg153
  z233 := Tryd.sizeOf153
  v233 := Tryd.zeroValue153
  g17 := by kernel_rfl
  g18 := by kernel_rfl
  g19 := by kernel_rfl
  i0 := by kernel_rfl
  i2 := by kernel_rfl
  i3 := by kernel_rfl
  i4 := by kernel_rfl
  i5 := by kernel_rfl
  i9 := by kernel_rfl
  i20 := by kernel_rfl
  i37 := by kernel_rfl
  i46 := by kernel_rfl
  i51 := by kernel_rfl
  i53 := by kernel_rfl
  i171 := by kernel_rfl
  i173 := by kernel_rfl
  i212 := by kernel_rfl
  i232 := by kernel_rfl
  i233 := by kernel_rfl
  m17 := by kernel_rfl
  m18 := by kernel_rfl
  m19 := by kernel_rfl }
open Go.RowKit Go.Sort Go.Lib in
theorem sh_itoa (n : Int) (h0 : -9223372036854775808 ≤ n) (h1 : n ≤ 9223372036854775807) (w : World) (htab : Lib.TabIs Tryd.prog w "internal/strconv.uint64pow10" .u64 Lib.pow10Tab) :
    Calls Tryd.prog 41 #[.int .i64 n] w fun e w' => e = .returned (.string ⟨(Lib.itoa n).toArray⟩) ∧ ∃ k os, w' = grow (w.drewN k) os := Any.strconv_Itoa shM171 n h0 h1 w htab
end Go.Proofs.YtjcjgcnpnfhkoaaDoor

namespace Go.Sx
open Go.RowKit
set_option linter.unusedVariables false
def encN (n : Int) : List UInt8 := Lib.itoa n ++ [32]
def encT (s : ByteArray) : List UInt8 := encN (s.size : Int) ++ s.data.toList
def encB (b : Bool) : List UInt8 := encN (bif b then 1 else 0)
def encTs (R : List (List D)) : List UInt8 := encN (R.length : Int) ++ R.flatMap (fun r => encT (fS r 0))
theorem take_flat {R : List (List D)} {i : Nat} (h : i < R.length) (f : List D → List UInt8) : (R.take (i + 1)).flatMap f = (R.take i).flatMap f ++ f (row R i) := by
  rw [List.take_add_one, row_some h]
  simp
theorem flat_room {R : List (List D)} {i : Nat} (h : i < R.length) (f : List D → List UInt8) : ((R.take i).flatMap f).length + (f (row R i)).length ≤ (R.flatMap f).length := by
  have h1 := take_flat h f
  have h2 : R.flatMap f = (R.take (i + 1)).flatMap f ++ (R.drop (i + 1)).flatMap f := by rw [← List.flatMap_append, List.take_append_drop]
  rw [h2, h1, List.length_append, List.length_append]
  omega
def Wr (P : Program) (E T : Nat) (w0 : World) (b : Nat) (f : FuncId) (args : List Value) (y : List UInt8) : Prop := ∀ (X : List UInt8) (L : List Blk) (w : World), (∀ x ∈ L, w0.heap.size ≤ x.b) → X.length + y.length ≤ 140737488355328 → BH w0 E b T (cl X) L w →
  Calls P f (.pointer (some ⟨b, 0, none⟩) :: args).toArray w (fun e w' => e = .returned (.tuple #[]) ∧ BH w0 E b T (cl (X ++ y)) L w')
theorem yl_bhI {P : Program} {e : Env} {w0 : World} {E b T : Nat} {xs : List Value} {L : List Blk} {o : Oper} {v : Value} (h : ∀ p a m c R, (∀ x ∈ R, w0.heap.size ≤ x.b) → Yl P (SH w0 ((([⟨b, #[.pointer p, .slice a m c], T⟩] : List Blk) ++ L) ++ R)) e o v) : Yl P (BH w0 E b T xs L) e o v := fun q hq => by
  obtain ⟨p, a, m, c, R, _, _, h3, h4⟩ := hq
  exact h p a m c R h3 q h4
theorem bh_eq {w0 : World} {E b T : Nat} {X Y : List UInt8} {L : List Blk} {q : World} (h : BH w0 E b T (cl X) L q) (e : X = Y) : BH w0 E b T (cl Y) L q := e ▸ h
theorem wl_storeBH {P : Program} {ops : Array Oper} {Q : Exit → Act → World → Prop} {n : Nat} {e : Env} {w0 : World} {E b T : Nat} {xs : List Value} {L L' : List Blk} {o : Oper} {rest : List Oper} {t' t : TypeId} {x y : Operand} {b' off : Nat} {c c' : Array Value} {v : Value} (p : Nat)
    (hf : fit ops n e o none = true) (ho : o.op = .store t' x y) (hx : rho e x = .pointer (some ⟨b', off, none⟩)) (hy : rho e y = v) (hp : L[p]? = some ⟨b', c, t⟩) (hv : writeAt P t' c off v = some c') (hL : L.set p ⟨b', c', t⟩ = L')
    (k : WL P ops Q n e (BH w0 E b T xs L') rest) : WL P ops Q n e (BH w0 E b T xs L) (o :: rest) := by
  intro a w ha hw
  obtain ⟨pp, aa, m, cc, R, h1, h2, h3, h4⟩ := hw
  have hpl := (List.getElem?_eq_some_iff.1 hp).1
  refine wl_store (t := t) (wb := w0) (L := (([⟨b, #[.pointer pp, .slice aa m cc], T⟩] : List Blk) ++ L) ++ R) (L' := (([⟨b, #[.pointer pp, .slice aa m cc], T⟩] : List Blk) ++ L') ++ R) (p + 1) hf ho hx hy ?_ hv ?_ (fun a w ha h => k a w ha ⟨pp, aa, m, cc, R, h1, h2, h3, h⟩) a w ha h4
  · rw [List.getElem?_append_left (by simp; omega), List.singleton_append, List.getElem?_cons_succ]; exact hp
  · rw [List.set_append_left _ _ (by simp; omega), List.singleton_append, List.set_cons_succ, hL, List.singleton_append]
end Go.Sx
