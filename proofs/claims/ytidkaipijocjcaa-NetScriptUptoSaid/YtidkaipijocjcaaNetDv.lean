/- What the law NetDelivers keeps: the messages sent so far with their dues, beside the network. No statement is proved here. -/
import Derived.Test.YtidkaipijocjcaaNetD
import Derived.Test.YtidkaipijocjcaaAo
namespace Go.Proofs.Ytidkaipijocjcaa
open Go.Sx Go.RowKit
set_option linter.unusedVariables false
set_option linter.unusedSimpArgs false
/-! ### sorted lists -/
theorem due_split (n : Int) : ∀ (l : List (Int × List D)), l.Pairwise (fun x y => x.1 ≤ y.1) → ∃ k, k ≤ l.length ∧ l.filter (fun x => !decide (n < x.1)) = l.take k ∧ l.filter (fun x => decide (n < x.1)) = l.drop k
  | [], _ => ⟨0, Nat.le_refl _, rfl, rfl⟩
  | x :: l, h => by
    obtain ⟨h1, h2⟩ := List.pairwise_cons.1 h
    by_cases hx : n < x.1
    · refine ⟨0, Nat.zero_le _, ?_, ?_⟩
      · rw [List.take_zero, List.filter_eq_nil_iff]
        intro y hy
        have : n < y.1 := by
          rcases List.mem_cons.1 hy with rfl | hy
          · exact hx
          · have := h1 y hy; omega
        simp [this]
      · rw [List.drop_zero, List.filter_eq_self]
        intro y hy
        have : n < y.1 := by
          rcases List.mem_cons.1 hy with rfl | hy
          · exact hx
          · have := h1 y hy; omega
        simp [this]
    · obtain ⟨k, hk, e1, e2⟩ := due_split n l h2
      refine ⟨k + 1, by simpa using hk, ?_, ?_⟩
      · rw [List.filter_cons, if_pos (by simp [hx]), e1, List.take_succ_cons]
      · rw [List.filter_cons, if_neg (by simp [hx]), e2, List.drop_succ_cons]
theorem dlvr_split {n : Int} {l : List (Int × List D)} {k : Nat} (h : l.filter (fun x => !decide (n < x.1)) = l.take k) : dlvrD n (fun _ => false) l = (l.take k).map (·.2) := by
  rw [← h, dlvrD]
  congr 1
  refine List.filter_congr (fun x _ => ?_)
  simp [cutD]
/-! ### rows that a call owns, read where they stand -/
section
variable {P : Program}
theorem own_cells {E es : Nat} {g n cap : Nat} {xs : List Value} {R : List Blk} (h : Own E es (.slice (some ⟨g, 0, none⟩) n cap) n xs R) : ∃ c, R = [⟨g, c, E⟩] ∧ c.toList.take (n * es) = xs := by
  rcases h.2 with ⟨h8, _⟩ | ⟨g', cap', c, h9, hR, _, _, _, ht⟩
  · cases h8
  · simp only [Value.slice.injEq, Option.some.injEq, Addr.mk.injEq] at h9
    obtain ⟨⟨rfl, _⟩, _, _⟩ := h9
    exact ⟨c, hR, ht⟩
theorem own_addr {E es : Nat} {v : Value} {n : Nat} {xs : List Value} {R : List Blk} (h : Own E es v n xs R) (hn : 0 < n) : ∃ g cap, v = .slice (some ⟨g, 0, none⟩) n cap := by
  rcases h.2 with ⟨_, h, _⟩ | ⟨g', cap', c, h, _⟩
  · omega
  · exact ⟨g', cap', h⟩
theorem own_range {E es : Nat} {g n cap : Nat} {xs : List Value} {R : List Blk} (h : Own E es (.slice (some ⟨g, 0, none⟩) n cap) n xs R) {wb w : World} {L : List Blk} (hw : SH wb L w) (hR : ∀ y ∈ R, y ∈ L) : w.rangeAt g 0 xs := fun j u hj => by
  obtain ⟨c, rfl, ht⟩ := own_cells h
  rw [Nat.zero_add, cell_of_row w g j c E (0, 0) (hw.blk ⟨g, c, E⟩ (hR _ (by simp)))]
  rw [← ht, List.getElem?_take] at hj
  split at hj
  · simpa using hj
  · cases hj
theorem yl_ownrow {e : Env} {wb : World} {L : List Blk} {o : Oper} {T : TypeId} {x : Operand} {E es g n cap i : Nat} {rv : List (List Value)} {r : List Value} {R : List Blk} (h : Own E es (.slice (some ⟨g, 0, none⟩) n cap) n rv.flatten R) (hR : ∀ y ∈ R, y ∈ L) (ho : o.op = .load T x)
    (hx : rho e x = .pointer (some ⟨g, 0 + i * es, none⟩)) (hl : ∀ y ∈ rv, y.length = es) (hi : rv[i]? = some r) (hk : kindOf P T = some (some r.length)) : Yl P (SH wb L) e o (.agg r.toArray) := fun w hw => by
  unfold execOp
  simp only [ho, hx, Instr.loadAt, Instr.sureAddr, Sem.run_bind, Sem.run_pure, Result.andThen_ok, run_load_many w T g _ r hk (Go.Proofs.Ytidkaipijocjcaa.range_row (own_range h hw hR) hl hi)]
theorem yl_ownone {e : Env} {wb : World} {L : List Blk} {o : Oper} {T : TypeId} {x : Operand} {E g n cap i : Nat} {xs : List Value} {v : Value} {R : List Blk} (h : Own E 1 (.slice (some ⟨g, 0, none⟩) n cap) n xs R) (hR : ∀ y ∈ R, y ∈ L) (ho : o.op = .load T x)
    (hx : rho e x = .pointer (some ⟨g, 0 + i * 1, none⟩)) (hi : xs[i]? = some v) (hk : kindOf P T = some none) : Yl P (SH wb L) e o v := fun w hw => by
  have hc := own_range h hw hR i v hi
  rw [show 0 + i = 0 + i * 1 by omega] at hc
  unfold execOp
  simp only [ho, hx, Instr.loadAt, Instr.sureAddr, Sem.run_bind, Sem.run_pure, Result.andThen_ok, run_load_one w T _ v hk hc]
/-! ### what a region that draws keeps: one known block and all that stands still -/
def Keep (wb : World) (L : List Blk) (x : Blk) (q : World) : Prop := q.heap[x.b]? = some (.cells x.c x.t (0, 0)) ∧ ∀ k, Im wb L k → q.heap[k]? = wb.heap[k]?
theorem Keep.of {wb w : World} {L : List Blk} {x : Blk} (h : SH wb L w) (hx : x ∈ L) : Keep wb L x w := ⟨h.blk x hx, fun k hk => h.still hk⟩
theorem Keep.new {wb w : World} {L : List Blk} {x y : Blk} (h : SH wb (y :: L) w) (hx : x ∈ L) (hy : wb.heap.size ≤ y.b) : Keep wb L x w := Keep.of (h.tail hy) hx
theorem Keep.tr {wb w2 w : World} {L L2 : List Blk} {x : Blk} (ht : Tr wb L w2 L2) (h : SH w2 L2 w) (hx : x ∈ L2) : Keep wb L x w := ⟨h.blk x hx, fun k hk => (h.still (ht.im k hk)).trans (ht.same k hk)⟩
theorem yl_keepB {e : Env} {wb : World} {L : List Blk} {o : Oper} {T : TypeId} {x : Operand} {b off : Nat} {c : Array Value} {t : TypeId} {v : Value} (ho : o.op = .load T x)
    (hx : rho e x = .pointer (some ⟨b, off, none⟩)) (hv : readAt P T c off = some v) : Yl P (Keep wb L ⟨b, c, t⟩) e o v := fun w hw => by
  unfold execOp
  simp only [ho, hx, Instr.loadAt, Instr.sureAddr, Sem.run_bind, Sem.run_pure, Result.andThen_ok, run_readAt w T b off c v (fun i => cell_of_row w b i c t (0, 0) hw.1) hv]
theorem yl_keepI {e : Env} {wb : World} {L : List Blk} {y : Blk} {o : Oper} {T : TypeId} {x : Operand} {b off : Nat} {cs : List Value} (ho : o.op = .load T x)
    (hx : rho e x = .pointer (some ⟨b, off, none⟩)) (hI : Im wb L b) (hk : kindOf P T = some (some cs.length)) (hv : wb.rangeAt b off cs) : Yl P (Keep wb L y) e o (.agg cs.toArray) := fun w hw => by
  unfold execOp
  simp only [ho, hx, Instr.loadAt, Instr.sureAddr, Sem.run_bind, Sem.run_pure, Result.andThen_ok, run_load_many w T b off cs hk (fun j v hj => by
    rw [World.cell?_of_block (w := wb) (w' := w) (a := ⟨b, off + j, none⟩) (hw.2 b hI)]; exact hv j v hj)]
end
section
variable {P : Program} {ops : Array Oper} {Q : Exit → Act → World → Prop} {n : Nat} {e : Env}
/-- append in a region that draws, whatever the region keeps -/
theorem wd_appendK {wb : World} {S : World → Prop} {L R : List Blk} {mm f : Nat} {listed : Array Bool} {o : Oper} {d : Nat} {s x : Operand} {t : TypeId} (i : Nat) (E : TypeId) (z : Value) (size bytes : Nat) {v : Value} {k : Nat} {xs : List Value} {a : Addr} {m c : Nat} (news : List Value)
    (hi : ops[i]? = some o) (him : i < mm) (hrd : Region.ready .any ops listed = [i]) (hf : fit ops n e o (some d) = true) (ho : o.op = .call { callee := .builtin .append, args := #[s, x], argTypes := #[t, t] })
    (hT : (P.underlying t, (P.info? E).map (fun i => (i.zero, i.size, i.bytes))) = (some (.slice E), some (some z, size, bytes))) (hz : z.cells.size = size) (hs0 : 0 < size)
    (hs : rho e s = v) (hown : Own E size v k xs R) (hx : rho e x = .slice (some a) m c) (hl : news.length = m * size)
    (hnews : ∀ w, SH wb (L ++ R) w → ∀ j u, news[j]? = some u → w.cell? (a.add j) = some u) (h1 : ∀ u ∈ news, u.oneCell' = true)
    (h63 : k + m ≤ maxLen) (hby : (k + m) * bytes ≤ 140737488355328) (hS : ∀ w' R' q, Tr wb (L ++ R) w' (L ++ R') → SH w' (L ++ R') q → S q)
    (kk : ∀ w' v' R', Own E size v' (k + m) (xs ++ news) R' → Tr wb (L ++ R) w' (L ++ R') → WD P ops Q n mm S (SH w' (L ++ R')) f (listed.setIfInBounds i true) ((d, v') :: e)) :
    WD P ops Q n mm S (SH wb (L ++ R)) (f + 1) listed e := by
  refine wd_one i (σ := { x : World × Value × List Blk // Own E size x.2.1 (k + m) (xs ++ news) x.2.2 ∧ Tr wb (L ++ R) x.1 (L ++ x.2.2) }) (fun x => x.1.2.1) (fun x => SH x.1.1 (L ++ x.1.2.2)) hi him hrd hf (fun w hw => ?_) (fun x q h => hS x.1.1 x.1.2.2 q x.2.2 h) (fun x => kk x.1.1 x.1.2.1 x.1.2.2 x.2.1 x.2.2)
  obtain ⟨v', R', w', hr, ho', hsh, htr, _⟩ := append_sh (P := P) t o.type E z size bytes hT hz hs0 v k xs hown hw.swap a m c news hl (hnews w hw) h1 h63 hby
  refine ⟨⟨(w', v', R'), ho', htr.swap⟩, w', ?_, hsh.swap⟩
  unfold execOp
  simp only [ho, resolve, invoke, builtin, Sem.run_bind, Sem.run_pure, Result.andThen_ok, List.map_toArray, List.map_cons, List.map_nil, hs, hx, hr]
theorem wd_weaken {m f : Nat} {S T T' : World → Prop} {listed : Array Bool} (h : ∀ w, T w → T' w) (k : WD P ops Q n m S T' f listed e) : WD P ops Q n m S T f listed e := fun a w inv ha hw => k a w inv ha (h w hw)
end
/-! ### rearranging known blocks -/
theorem Tr.conv {wb w' : World} {L L' M M' : List Blk} (h : Tr wb L w' L') (h1 : ∀ x ∈ L, x ∈ M ∨ wb.heap.size ≤ x.b) (h2 : ∀ y ∈ M', y ∈ L') : Tr wb M w' M' := by
  have key : ∀ k, Im wb M k → Im wb L k := fun k hk => ⟨hk.1, fun x hx he => by
    rcases h1 x hx with h | h
    · exact hk.2 x h he
    · have := hk.1; omega⟩
  exact ⟨h.os, h.tape, h.output, h.size, fun k hk => ⟨(h.im k (key k hk)).1, fun x hx => (h.im k (key k hk)).2 x (h2 x hx)⟩, fun k hk => h.same k (key k hk)⟩
theorem Tr.appS {wb w' : World} {nb : Blk} {B Rs Re A R' : List Blk} (hnb : wb.heap.size ≤ nb.b) (h : Tr wb (((nb :: B) ++ (Re ++ A)) ++ Rs) w' (((nb :: B) ++ (Re ++ A)) ++ R')) : Tr wb (((B ++ Rs) ++ Re) ++ A) w' ((((nb :: B) ++ R') ++ Re) ++ A) :=
  Tr.conv h (fun x hx => by
    simp only [List.mem_append, List.mem_cons] at hx ⊢
    rcases hx with ((rfl | hx) | (hx | hx)) | hx
    · exact .inr hnb
    all_goals exact .inl (by simp [hx])) (fun y hy => by
    simp only [List.mem_append, List.mem_cons] at hy ⊢
    rcases hy with (((rfl | hy) | hy) | hy) | hy
    · simp
    all_goals simp [hy])
theorem Tr.appD {wb w' : World} {nb : Blk} {B Rs Re A R' : List Blk} (hnb : wb.heap.size ≤ nb.b) (h : Tr wb ((((nb :: B) ++ Rs) ++ A) ++ Re) w' ((((nb :: B) ++ Rs) ++ A) ++ R')) : Tr wb (((B ++ Rs) ++ Re) ++ A) w' ((((nb :: B) ++ Rs) ++ R') ++ A) :=
  Tr.conv h (fun x hx => by
    simp only [List.mem_append, List.mem_cons] at hx ⊢
    rcases hx with (((rfl | hx) | hx) | hx) | hx
    · exact .inr hnb
    all_goals exact .inl (by simp [hx])) (fun y hy => by
    simp only [List.mem_append, List.mem_cons] at hy ⊢
    rcases hy with (((rfl | hy) | hy) | hy) | hy
    · simp
    all_goals simp [hy])
theorem SH.toS {wb w : World} {B Rs Re A : List Blk} (h : SH wb (((B ++ Rs) ++ Re) ++ A) w) : SH wb ((B ++ (Re ++ A)) ++ Rs) w := by
  rw [List.append_assoc] at h
  exact SH.rot h
theorem SH.ofS {wb w : World} {B Rs Re A : List Blk} (h : SH wb ((B ++ (Re ++ A)) ++ Rs) w) : SH wb (((B ++ Rs) ++ Re) ++ A) w := by
  rw [List.append_assoc]
  exact SH.rot h
theorem Cool.cons {w wb : World} {L : List Blk} (h : Cool w wb L) (x : Blk) (hx : wb.heap.size ≤ x.b) : Cool w wb (x :: L) :=
  ⟨h.1, fun y hy => by
    rcases List.mem_cons.1 hy with rfl | hy
    · exact Nat.le_trans h.1.size hx
    · exact h.2 y hy⟩
theorem op_open {S : Nat → Prop} {w : World} {r : List D} {c : List Value} (h : RdL S w r c) (hf : FitL sh by_ r (sh 15)) :
    ∃ kd m a b cm, r = .int kd :: (m ++ [.int a, .int b]) ∧ c = .int .i64 kd :: (cm ++ [.int .i64 a, .int .i64 b]) ∧ RdL S w m cm ∧ FitL sh by_ m (sh 14) := by
  obtain ⟨d0, e0, rfl, hf0, hft0⟩ := FitL.cons (k := .int) (ks := sh 14 ++ [.int, .int]) hf
  obtain ⟨n0, rfl, _⟩ := Fit.int hf0
  obtain ⟨m, t, rfl, hm, ht⟩ := FitL.split (ks := sh 14) (ks' := [.int, .int]) hft0
  obtain ⟨d1, e1, rfl, hf1, hft1⟩ := FitL.cons (k := .int) (ks := _) ht
  obtain ⟨d2, e2, rfl, hf2, hft2⟩ := FitL.cons (k := .int) (ks := _) hft1
  obtain rfl := FitL.nil hft2
  obtain ⟨n1, rfl, _⟩ := Fit.int hf1
  obtain ⟨n2, rfl, _⟩ := Fit.int hf2
  obtain ⟨c0, z0, rfl, h0, h⟩ := RdL.cons h
  obtain ⟨cm, ct, rfl, hcm, h⟩ := RdL.split h
  obtain ⟨c1, z1, rfl, h1, h⟩ := RdL.cons h
  obtain ⟨c2, z2, rfl, h2, h⟩ := RdL.cons h
  obtain rfl := RdL.nil h
  rw [Rd] at h0
  rw [Rd] at h1
  rw [Rd] at h2
  subst h0 h1 h2
  exact ⟨n0, m, n1, n2, cm, rfl, rfl, hcm, hm⟩
/-! ### the law's state -/
def DL (ra rn rd rs rp b : Nat) (vs vd : Value) (now ka : Int) (Rs Rd A : List Blk) : List Blk :=
  (([⟨ra, #[.int .i64 ka], 3⟩, ⟨rn, #[.int .i64 now], 3⟩, ⟨rd, #[vd], 51⟩, ⟨rs, #[vs], 60⟩, ⟨rp, #[.pointer (some ⟨b, 0, none⟩)], 22⟩] ++ Rs) ++ Rd) ++ A
structure DvF (w : World) (b dl : Nat) (L : List Blk) (wb : World) (q : List (Int × List D)) (ka now : Nat) (ps : List (Int × Msg)) (A Rs Rd : List Blk) (vs vd : Value) (sc : List (List Value)) : Prop where
  hn : IsNet b ⟨7, (dl : Int), (now : Int), fun _ => false, ps⟩ A
  hs : SH wb L wb
  hc : Cool w wb L
  hp : PsR (Im wb L) wb (q.drop ka) ps
  owns : Own 59 9 vs q.length sc.flatten Rs
  hsr : RdR (Im wb L) wb (q.map (·.2)) sc
  ownd : Own 3 1 vd q.length (q.map (fun x => Value.int .i64 x.1)) Rd
  hka : ka ≤ q.length
  hsort : q.Pairwise (fun x y => x.1 ≤ y.1)
  hlate : ∀ x ∈ q.drop ka, (now : Int) < x.1
theorem DvF.tr {w : World} {b dl : Nat} {L L' : List Blk} {wb w' : World} {q : List (Int × List D)} {ka now : Nat} {ps : List (Int × Msg)} {A Rs Rd : List Blk} {vs vd : Value} {sc : List (List Value)} (x : DvF w b dl L wb q ka now ps A Rs Rd vs vd sc) (hs : SH w' L' w') (ht : Tr wb L w' L') : DvF w b dl L' w' q ka now ps A Rs Rd vs vd sc :=
  ⟨x.hn, hs, x.hc.step ht, x.hp.stays ht.stays, x.owns, x.hsr.stays ht.stays, x.ownd, x.hka, x.hsort, x.hlate⟩
theorem DvF.here {w : World} {b dl : Nat} {L : List Blk} {wb w' : World} {q : List (Int × List D)} {ka now : Nat} {ps : List (Int × Msg)} {A Rs Rd : List Blk} {vs vd : Value} {sc : List (List Value)} (x : DvF w b dl L wb q ka now ps A Rs Rd vs vd sc) (h : SH wb L w') : DvF w b dl L w' q ka now ps A Rs Rd vs vd sc := x.tr h.here h.trHere
/-- a slice of rows beside other known blocks -/
theorem RowV.aside {wb w1 w2 : World} {X A A' : List Blk} {v : Value} {rv : List (List Value)} (h1 : SH wb (X ++ A) w1) (h : RowV w2 A' w1.heap.size v rv) : RowV w2 (X ++ A') 0 v rv := by
  obtain ⟨a, c, rfl, h⟩ := h
  refine ⟨a, c, rfl, ?_⟩
  rcases h with h | ⟨g, ha, hB, hI, hr⟩
  · exact .inl h
  · refine .inr ⟨g, ha, Nat.zero_le _, ⟨hI.1, fun x hx => ?_⟩, hr⟩
    rcases List.mem_append.1 hx with hx | hx
    · have := h1.lt (List.mem_append_left _ hx); omega
    · exact hI.2 x hx
end Go.Proofs.Ytidkaipijocjcaa
