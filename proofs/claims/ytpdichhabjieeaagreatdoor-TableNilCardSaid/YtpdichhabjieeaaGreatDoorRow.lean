/- Rows that a call owns, in the calculus 'Sx': append. No statement is proved here. -/
import Derived.Test.YtpdichhabjieeaaGreatDoorMem
namespace Go.Sx
open Go.RowKit
set_option linter.unusedVariables false

/-- the slice v of n elements (of type E, 'size' cells each) owns the cells xs; R: its block, if it has one -/
def Own (E size : Nat) (v : Value) (n : Nat) (xs : List Value) (R : List Blk) : Prop :=
  xs.length = n * size ∧ ((v = .slice none 0 0 ∧ n = 0 ∧ R = []) ∨
    ∃ g cap c, v = .slice (some ⟨g, 0, none⟩) n cap ∧ R = [⟨g, c, E⟩] ∧ n ≤ cap ∧ cap ≤ maxLen ∧ c.size = cap * size ∧ c.toList.take (n * size) = xs)

theorem Own.nil (E size : Nat) : Own E size (.slice none 0 0) 0 [] [] := ⟨by simp, .inl ⟨rfl, rfl, rfl⟩⟩

theorem Tr.drewAlloc {wb : World} {L R R' : List Blk} {w : World} (h : SH wb (R ++ L) w) (C : Array Value) (T : TypeId) :
    SH (w.drew.alloc (.cells C T)) ([⟨w.heap.size, C, T⟩] ++ L) (w.drew.alloc (.cells C T)) ∧ Tr wb (R ++ L) (w.drew.alloc (.cells C T)) ([⟨w.heap.size, C, T⟩] ++ L) := by
  have hL : SH w L w := ⟨rfl, rfl, rfl, Nat.le_refl _, fun _ _ _ => rfl, fun x hx => h.blk x (List.mem_append_right _ hx), fun i j x y hi hj he => by
    have := h.dis (R.length + i) (R.length + j) x y (by rw [List.getElem?_append_right (by omega)]; simpa using hi) (by rw [List.getElem?_append_right (by omega)]; simpa using hj) he
    omega⟩
  have ha := (hL.drew).alloc C T
  refine ⟨ha.here, ?_⟩
  refine ⟨h.os, h.tape, h.output, Nat.le_trans h.size (show w.heap.size ≤ (w.drew.alloc (.cells C T)).heap.size by rw [World.size_alloc]; exact Nat.le_succ _), fun k hk => ⟨Nat.lt_of_lt_of_le hk.1 (Nat.le_trans h.size (show w.heap.size ≤ (w.drew.alloc (.cells C T)).heap.size by rw [World.size_alloc]; exact Nat.le_succ _)), fun x hx => ?_⟩, fun k hk => ?_⟩
  · rcases List.mem_append.1 hx with hx | hx
    · simp only [List.mem_singleton] at hx
      subst hx
      have := hk.1
      have := h.size
      show w.heap.size ≠ k
      omega
    · exact hk.2 x (List.mem_append_right _ hx)
  · rw [Below.heap_alloc _ _ _ (show k < w.drew.heap.size from Nat.lt_of_lt_of_le hk.1 h.size)]
    exact h.still hk

section
variable {P : Program} {ops : Array Oper} {Q : Exit → Act → World → Prop} {n : Nat}

theorem append_sh {wb : World} {L R : List Blk} {w : World} (t ty E : TypeId) (z : Value) (size bytes : Nat)
    (hT : (P.underlying t, (P.info? E).map (fun i => (i.zero, i.size, i.bytes))) = (some (.slice E), some (some z, size, bytes))) (hz : z.cells.size = size) (hs0 : 0 < size)
    (v : Value) (k : Nat) (xs : List Value) (hown : Own E size v k xs R) (h : SH wb (R ++ L) w)
    (a : Addr) (m c : Nat) (news : List Value) (hl : news.length = m * size) (hnews : ∀ j u, news[j]? = some u → w.cell? (a.add j) = some u) (h1 : ∀ u ∈ news, u.oneCell' = true)
    (h63 : k + m ≤ maxLen) (hby : (k + m) * bytes ≤ 140737488355328) :
    ∃ v' R' w', (Builtin.append_ #[t, t] ty #[v, .slice (some a) m c]).run P w = .ok v' w' ∧ Own E size v' (k + m) (xs ++ news) R' ∧ SH w' (R' ++ L) w' ∧ Tr wb (R ++ L) w' (R' ++ L) ∧ ∃ R1, R1.map (·.b) = R.map (·.b) ∧ SH wb (R1 ++ L) w' := by
  simp only [Prod.mk.injEq] at hT
  obtain ⟨ht, hi0⟩ := hT
  cases hi : P.info? E with
  | none => simp [hi] at hi0
  | some i =>
    simp only [hi, Option.map_some, Option.some.injEq, Prod.mk.injEq] at hi0
    obtain ⟨hzi, hsz, hbz⟩ := hi0
    subst hsz
    subst hbz
    have hsmall : k + m ≤ 9223372036854775807 := by simp only [maxLen] at h63; omega
    have hlen : (xs ++ news).length = (k + m) * i.size := by rw [List.length_append, hown.1, hl, Nat.add_mul]
    have grown : ∀ old, Own E i.size (.slice (some ⟨w.heap.size, 0, none⟩) (k + m) (grownCap w (k + m) old E)) (k + m) (xs ++ news)
        [⟨w.heap.size, xs.toArray ++ news.toArray ++ Builtin.zeroCells z.cells (grownCap w (k + m) old E - (k + m)), E⟩] := by
      intro old
      have hge := grownCap_ge w (k + m) old E
      refine ⟨hlen, .inr ⟨_, _, _, rfl, rfl, hge, grownCap_le_maxLen w (k + m) old E h63, ?_, ?_⟩⟩
      · simp only [Array.size_append, List.size_toArray, size_zeroCells, hz, hown.1, hl, ← Nat.add_mul]
        congr 1
        omega
      · simp only [Array.toList_append, List.append_assoc]
        rw [← List.append_assoc, ← hlen]
        exact List.take_left
    rcases hown.2 with ⟨rfl, rfl, rfl⟩ | ⟨g, cap, cur, rfl, rfl, hnc, hcm, hcs, htake⟩
    · have hx : xs = [] := List.eq_nil_of_length_eq_zero (by simpa using hown.1)
      subst hx
      by_cases hm : m = 0
      · subst hm
        have hn : news = [] := List.eq_nil_of_length_eq_zero (by simpa using hl)
        subst hn
        refine ⟨.slice none 0 0, [], w, ?_, Own.nil E i.size, h.here, h.trHere, [], rfl, h⟩
        simp [Builtin.append_, run_underlying ht, sizeOf, typeInfo, hi, Builtin.lenOf, Builtin.firstCells, loadCells, loadCellsFrom]
      · have hr := run_append_nil (P := P) w t ty E i z ht hi hzi a m c news hl hnews (by omega) (by omega) (by simp only [Nat.zero_add] at hby; omega)
        have hg := grown 0
        have hd := Tr.drewAlloc (R' := []) h (news.toArray ++ Builtin.zeroCells z.cells (grownCap w m 0 E - m)) E
        simp only [Nat.zero_add, List.nil_append, Array.empty_append] at hg ⊢
        exact ⟨_, _, _, hr, hg, hd.1, hd.2, [], rfl, (h.drew.alloc _ _).tail h.size⟩
    · have hb : w.heap[g]? = some (.cells cur E (0, 0)) := h.blk ⟨g, cur, E⟩ (by simp)
      by_cases hroom : k + m ≤ cap
      · have hfit : k * i.size + news.length ≤ cur.size := by rw [hl, hcs, ← Nat.add_mul]; exact Nat.mul_le_mul_right _ hroom
        have hr := run_append_room (P := P) w t ty E i ht hi g k cap cur hb a m c news hl hnews h1 hroom hfit
        have hs := h.setRow 0 (b := g) (c := cur) (t := E) rfl (cur.toList.take (k * i.size) ++ news ++ cur.toList.drop (k * i.size + news.length)).toArray
        refine ⟨_, [⟨g, (cur.toList.take (k * i.size) ++ news ++ cur.toList.drop (k * i.size + news.length)).toArray, E⟩], _, hr, ⟨hlen, .inr ⟨g, cap, _, rfl, rfl, hroom, hcm, ?_, ?_⟩⟩, hs.here, ?_, [⟨g, (cur.toList.take (k * i.size) ++ news ++ cur.toList.drop (k * i.size + news.length)).toArray, E⟩], rfl, hs⟩
        · simp only [List.size_toArray, List.length_append, List.length_take, List.length_drop, Array.length_toList]
          omega
        · rw [htake, ← hlen]
          exact List.take_left
        · have := hs.trHere
          refine ⟨this.os, this.tape, this.output, this.size, fun j hj => this.im j ⟨hj.1, fun x hx => ?_⟩, fun j hj => this.same j ⟨hj.1, fun x hx => ?_⟩⟩
          all_goals
            have hx' : x ∈ ({ b := g, c := _, t := E } : Blk) :: L := hx
            rcases List.mem_cons.1 hx' with rfl | hx'
            · exact hj.2 ⟨g, cur, E⟩ (by simp)
            · exact hj.2 x (List.mem_append_right _ hx')
      · have holds : ∀ j u, xs[j]? = some u → w.cell? ((⟨g, 0, none⟩ : Addr).add j) = some u := fun j u hu => by
          have hadd : (⟨g, 0, none⟩ : Addr).add j = ⟨g, j, none⟩ := by unfold Addr.add; split <;> simp_all
          rw [hadd, cell_of_row w g j cur E (0, 0) hb]
          rw [← htake, List.getElem?_take] at hu
          split at hu
          · simpa using hu
          · cases hu
        have hr := run_append_grow (P := P) w t ty E i z ht hi hzi ⟨g, 0, none⟩ k cap xs hown.1 holds a m c news hl hnews (by omega) (by omega) (growslice_fits (by omega) hby)
        have hd := Tr.drewAlloc (R' := []) h (xs.toArray ++ news.toArray ++ Builtin.zeroCells z.cells (grownCap w (k + m) cap E - (k + m))) E
        exact ⟨_, _, _, hr, grown cap, hd.1, hd.2, _, rfl, (h.drew.alloc _ _).tail h.size⟩

theorem wl_append {e : Env} {wb : World} {L R : List Blk} {o : Oper} {rest : List Oper} {d : Nat} {s x : Operand} {t : TypeId} (E : TypeId) (z : Value) (size bytes : Nat) {v : Value} {k : Nat} {xs : List Value} {a : Addr} {m c : Nat} (news : List Value)
    (hf : fit ops n e o (some d) = true) (ho : o.op = .call { callee := .builtin .append, args := #[s, x], argTypes := #[t, t] })
    (hT : (P.underlying t, (P.info? E).map (fun i => (i.zero, i.size, i.bytes))) = (some (.slice E), some (some z, size, bytes))) (hz : z.cells.size = size) (hs0 : 0 < size)
    (hs : rho e s = v) (hown : Own E size v k xs R) (hx : rho e x = .slice (some a) m c) (hl : news.length = m * size)
    (hnews : ∀ w, SH wb (R ++ L) w → ∀ j u, news[j]? = some u → w.cell? (a.add j) = some u) (h1 : ∀ u ∈ news, u.oneCell' = true)
    (h63 : k + m ≤ maxLen) (hby : (k + m) * bytes ≤ 140737488355328)
    (kk : ∀ w' v' R', Own E size v' (k + m) (xs ++ news) R' → Tr wb (R ++ L) w' (R' ++ L) → WL P ops Q n ((d, v') :: e) (SH w' (R' ++ L)) rest) : WL P ops Q n e (SH wb (R ++ L)) (o :: rest) := by
  obtain ⟨h1', h2, h3, h4⟩ := fit_some hf
  refine wl_run (σ := { x : World × Value × List Blk // Own E size x.2.1 (k + m) (xs ++ news) x.2.2 ∧ Tr wb (R ++ L) x.1 (x.2.2 ++ L) }) (fun x => x.1.2.1) (fun x => SH x.1.1 (x.1.2.2 ++ L)) h1' h2 h3 h4 (fun w hw => ?_) (fun x => kk x.1.1 x.1.2.1 x.1.2.2 x.2.1 x.2.2)
  obtain ⟨v', R', w', hr, ho', hsh, htr, _⟩ := append_sh (P := P) t o.type E z size bytes hT hz hs0 v k xs hown hw a m c news hl (hnews w hw) h1 h63 hby
  refine ⟨⟨(w', v', R'), ho', htr⟩, w', ?_, hsh⟩
  unfold execOp
  simp only [ho, resolve, invoke, builtin, Sem.run_bind, Sem.run_pure, Result.andThen_ok, List.map_toArray, List.map_cons, List.map_nil, hs, hx, hr]


/-- the order of the known blocks is of no account -/
theorem SH.perm {wb : World} {L L' : List Blk} {w : World} (h : SH wb L w) (hm : ∀ x, x ∈ L' ↔ x ∈ L) (hd : ∀ (i j : Nat) (x y : Blk), L'[i]? = some x → L'[j]? = some y → x.b = y.b → i = j) : SH wb L' w :=
  ⟨h.os, h.tape, h.output, h.size, fun k hk hx => h.kept k hk (fun x hL => hx x ((hm x).2 hL)), fun x hx => h.blk x ((hm x).1 hx), hd⟩
theorem SH.swap {wb : World} {A R : List Blk} {w : World} (h : SH wb (A ++ R) w) : SH wb (R ++ A) w := by
  refine h.perm (fun x => by simp only [List.mem_append]; exact or_comm) (fun i j x y hi hj he => ?_)
  have look : ∀ (i : Nat) (x : Blk), (R ++ A)[i]? = some x → ∃ i', (A ++ R)[i']? = some x ∧ ((i < R.length ∧ i' = A.length + i) ∨ (R.length ≤ i ∧ i' = i - R.length ∧ i' < A.length)) := fun i x hi => by
    by_cases hl : i < R.length
    · rw [List.getElem?_append_left hl] at hi
      exact ⟨A.length + i, by rw [List.getElem?_append_right (by omega)]; simpa using hi, .inl ⟨hl, rfl⟩⟩
    · rw [List.getElem?_append_right (by omega)] at hi
      have hA := (List.getElem?_eq_some_iff.1 hi).1
      exact ⟨i - R.length, by rw [List.getElem?_append_left hA]; exact hi, .inr ⟨by omega, rfl, hA⟩⟩
  obtain ⟨i', hi', e1⟩ := look i x hi
  obtain ⟨j', hj', e2⟩ := look j y hj
  have := h.dis i' j' x y hi' hj' he
  rcases e1 with ⟨a1, a2⟩ | ⟨a1, a2, a3⟩ <;> rcases e2 with ⟨b1, b2⟩ | ⟨b1, b2, b3⟩ <;> omega
theorem Tr.swap {wb w' : World} {A R A' R' : List Blk} (h : Tr wb (R ++ A) w' (R' ++ A')) : Tr wb (A ++ R) w' (A' ++ R') :=
  ⟨h.os, h.tape, h.output, h.size, fun k hk => by
    have := h.im k ⟨hk.1, fun x hx => hk.2 x (by simp only [List.mem_append] at hx ⊢; exact hx.symm)⟩
    exact ⟨this.1, fun x hx => this.2 x (by simp only [List.mem_append] at hx ⊢; exact hx.symm)⟩,
   fun k hk => h.same k ⟨hk.1, fun x hx => hk.2 x (by simp only [List.mem_append] at hx ⊢; exact hx.symm)⟩⟩

/-- append, the row's block behind the others -/
theorem wl_append' {e : Env} {wb : World} {L R : List Blk} {o : Oper} {rest : List Oper} {d : Nat} {s x : Operand} {t : TypeId} (E : TypeId) (z : Value) (size bytes : Nat) {v : Value} {k : Nat} {xs : List Value} {a : Addr} {m c : Nat} (news : List Value)
    (hf : fit ops n e o (some d) = true) (ho : o.op = .call { callee := .builtin .append, args := #[s, x], argTypes := #[t, t] })
    (hT : (P.underlying t, (P.info? E).map (fun i => (i.zero, i.size, i.bytes))) = (some (.slice E), some (some z, size, bytes))) (hz : z.cells.size = size) (hs0 : 0 < size)
    (hs : rho e s = v) (hown : Own E size v k xs R) (hx : rho e x = .slice (some a) m c) (hl : news.length = m * size)
    (hnews : ∀ w, SH wb (L ++ R) w → ∀ j u, news[j]? = some u → w.cell? (a.add j) = some u) (h1 : ∀ u ∈ news, u.oneCell' = true)
    (h63 : k + m ≤ maxLen) (hby : (k + m) * bytes ≤ 140737488355328)
    (kk : ∀ w' v' R', Own E size v' (k + m) (xs ++ news) R' → Tr wb (L ++ R) w' (L ++ R') → WL P ops Q n ((d, v') :: e) (SH w' (L ++ R')) rest) : WL P ops Q n e (SH wb (L ++ R)) (o :: rest) := by
  obtain ⟨h1', h2, h3, h4⟩ := fit_some hf
  refine wl_run (σ := { x : World × Value × List Blk // Own E size x.2.1 (k + m) (xs ++ news) x.2.2 ∧ Tr wb (L ++ R) x.1 (L ++ x.2.2) }) (fun x => x.1.2.1) (fun x => SH x.1.1 (L ++ x.1.2.2)) h1' h2 h3 h4 (fun w hw => ?_) (fun x => kk x.1.1 x.1.2.1 x.1.2.2 x.2.1 x.2.2)
  obtain ⟨v', R', w', hr, ho', hsh, htr, _⟩ := append_sh (P := P) t o.type E z size bytes hT hz hs0 v k xs hown hw.swap a m c news hl (hnews w hw) h1 h63 hby
  refine ⟨⟨(w', v', R'), ho', htr.swap⟩, w', ?_, hsh.swap⟩
  unfold execOp
  simp only [ho, resolve, invoke, builtin, Sem.run_bind, Sem.run_pure, Result.andThen_ok, List.map_toArray, List.map_cons, List.map_nil, hs, hx, hr]

/-- what a region with an append keeps: all but the contents of the row's block -/
def SX (wb : World) (L R : List Blk) (w : World) : Prop := ∃ R1 : List Blk, R1.map (·.b) = R.map (·.b) ∧ SH wb (L ++ R1) w
theorem SX.of {wb : World} {L R : List Blk} {w : World} (h : SH wb (L ++ R) w) : SX wb L R w := ⟨R, rfl, h⟩
theorem SX.yl {e : Env} {wb : World} {L R : List Blk} {o : Oper} {v : Value} (h : ∀ R1, Yl P (SH wb (L ++ R1)) e o v) : Yl P (SX wb L R) e o v := fun w hw => by
  obtain ⟨R1, _, hs⟩ := hw
  exact h R1 w hs

/-- append as the one operation that may come up in a region that draws; L0: the known blocks that the region's head keeps; news: in a block that the region has made -/
theorem wd_append {e : Env} {wb : World} {L0 L R : List Blk} {mm f : Nat} {listed : Array Bool} {o : Oper} {d : Nat} {s x : Operand} {t : TypeId} (i : Nat) (E : TypeId) (z : Value) (size bytes : Nat) {v : Value} {k : Nat} {xs : List Value} {a : Addr} {m c : Nat} (news : List Value)
    (hi : ops[i]? = some o) (him : i < mm) (hrd : Region.ready .any ops listed = [i]) (hf : fit ops n e o (some d) = true) (ho : o.op = .call { callee := .builtin .append, args := #[s, x], argTypes := #[t, t] })
    (hT : (P.underlying t, (P.info? E).map (fun i => (i.zero, i.size, i.bytes))) = (some (.slice E), some (some z, size, bytes))) (hz : z.cells.size = size) (hs0 : 0 < size)
    (hs : rho e s = v) (hown : Own E size v k xs R) (hx : rho e x = .slice (some a) m c) (hl : news.length = m * size)
    (hnews : ∀ w, SH wb (L ++ R) w → ∀ j u, news[j]? = some u → w.cell? (a.add j) = some u) (h1 : ∀ u ∈ news, u.oneCell' = true)
    (h63 : k + m ≤ maxLen) (hby : (k + m) * bytes ≤ 140737488355328) (hkeep : ∀ R1 w, SH wb (L ++ R1) w → SH wb (L0 ++ R1) w)
    (kk : ∀ w' v' R', Own E size v' (k + m) (xs ++ news) R' → Tr wb (L ++ R) w' (L ++ R') → WD P ops Q n mm (SX wb L0 R) (SH w' (L ++ R')) f (listed.setIfInBounds i true) ((d, v') :: e)) :
    WD P ops Q n mm (SX wb L0 R) (SH wb (L ++ R)) (f + 1) listed e := by
  intro ac w inv ha hw
  obtain ⟨e1, e2, e3, e4⟩ := fit_some hf
  have him' : i ∈ Region.ready .any ops listed := by rw [hrd]; simp
  refine ⟨by rw [hrd]; simp, fun j hj => ?_⟩
  rw [hrd] at hj
  have : j = i := by simpa using hj
  subst this
  refine ⟨him, ?_⟩
  unfold wpOp
  simp only [hi, guardOf_wanted ha e3, if_true]
  refine .inl ?_
  obtain ⟨v', R', w', hr, ho', hsh, htr, R1, hR1, hs1⟩ := append_sh (P := P) t o.type E z size bytes hT hz hs0 v k xs hown hw.swap a m c news hl (hnews w hw) h1 h63 hby
  unfold Oper.wp
  rw [ha.exec e4]
  have hrun : (execOp (rho e) o).run P w = .ok (.value v') w' := by
    unfold execOp
    simp only [ho, resolve, invoke, builtin, Sem.run_bind, Sem.run_pure, Result.andThen_ok, List.map_toArray, List.map_cons, List.map_nil, hs, hx, hr]
  rw [hrun]
  simp only [Oper.upon, e1]
  exact ⟨⟨R1, hR1, hkeep R1 w' hs1.swap⟩, kk w' v' R' ho' htr.swap _ w' (inv.set him' him) (ha.put d _ e2) hsh.swap⟩

/-- a contract's blocks beside the caller's own -/
theorem SH.frame {wb w w' : World} {A A' L : List Blk} (h : SH wb (A ++ L) w) (ha : SH w' A' w') (ht : Tr w A w' A') : SH w' (A' ++ L) w' ∧ Tr wb (A ++ L) w' (A' ++ L) := by
  have hIm : ∀ x ∈ L, Im w A x.b := fun x hx => ⟨h.lt (List.mem_append_right _ hx), fun y hy he => by
    obtain ⟨i, hi⟩ := List.getElem?_of_mem hy
    obtain ⟨j, hj⟩ := List.getElem?_of_mem hx
    have hil := (List.getElem?_eq_some_iff.1 hi).1
    have := h.dis i (A.length + j) y x (by rw [List.getElem?_append_left hil]; exact hi) (by rw [List.getElem?_append_right (by omega)]; simpa using hj) he
    omega⟩
  have hL : ∀ x ∈ L, w'.heap[x.b]? = some (.cells x.c x.t (0, 0)) := fun x hx => by rw [ht.same x.b (hIm x hx)]; exact h.blk x (List.mem_append_right _ hx)
  refine ⟨⟨rfl, rfl, rfl, Nat.le_refl _, fun _ _ _ => rfl, fun x hx => ?_, fun i j x y hi hj he => ?_⟩, ⟨ht.os.trans h.os, ht.tape.trans h.tape, ht.output.trans h.output, Nat.le_trans h.size ht.size, fun k hk => ?_, fun k hk => ?_⟩⟩
  · rcases List.mem_append.1 hx with hx | hx
    · exact ha.blk x hx
    · exact hL x hx
  · have look : ∀ (i : Nat) (x : Blk), (A' ++ L)[i]? = some x → (i < A'.length ∧ A'[i]? = some x) ∨ (A'.length ≤ i ∧ L[i - A'.length]? = some x) := fun i x hi => by
      by_cases hl : i < A'.length
      · rw [List.getElem?_append_left hl] at hi; exact .inl ⟨hl, hi⟩
      · rw [List.getElem?_append_right (by omega)] at hi; exact .inr ⟨by omega, hi⟩
    rcases look i x hi with ⟨a1, a2⟩ | ⟨a1, a2⟩ <;> rcases look j y hj with ⟨b1, b2⟩ | ⟨b1, b2⟩
    · exact ha.dis i j x y a2 b2 he
    · exact absurd he ((ht.im y.b (hIm y (List.mem_of_getElem? b2))).2 x (List.mem_of_getElem? a2))
    · exact absurd he.symm ((ht.im x.b (hIm x (List.mem_of_getElem? a2))).2 y (List.mem_of_getElem? b2))
    · have := h.dis (A.length + (i - A'.length)) (A.length + (j - A'.length)) x y (by rw [List.getElem?_append_right (by omega)]; simpa using a2) (by rw [List.getElem?_append_right (by omega)]; simpa using b2) he
      omega
  · have h1 := ht.im k ⟨Nat.lt_of_lt_of_le hk.1 h.size, fun x hx => hk.2 x (List.mem_append_left _ hx)⟩
    exact ⟨h1.1, fun x hx => by
      rcases List.mem_append.1 hx with hx | hx
      · exact h1.2 x hx
      · exact hk.2 x (List.mem_append_right _ hx)⟩
  · rw [ht.same k ⟨Nat.lt_of_lt_of_le hk.1 h.size, fun x hx => hk.2 x (List.mem_append_left _ hx)⟩]
    exact h.still hk
theorem SH.part {wb w : World} {A L : List Blk} (h : SH wb (A ++ L) w) : SH w A w :=
  ⟨rfl, rfl, rfl, Nat.le_refl _, fun _ _ _ => rfl, fun x hx => h.blk x (List.mem_append_left _ hx), fun i j x y hi hj he =>
    h.dis i j x y (by rw [List.getElem?_append_left (List.getElem?_eq_some_iff.1 hi).1]; exact hi) (by rw [List.getElem?_append_left (List.getElem?_eq_some_iff.1 hj).1]; exact hj) he⟩
end
end Go.Sx
