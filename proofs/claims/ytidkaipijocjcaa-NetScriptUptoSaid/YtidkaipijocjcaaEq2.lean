/- Arrays of two numbers compared; results out of a cell and a slot. No statement is proved here. -/
import Derived.Test.YtidkaipijocjcaaAo
import Derived.Laws.StructEq
namespace Go.Sx
open Go.RowKit
set_option linter.unusedVariables false
set_option linter.unusedSimpArgs false
section
variable {P : Program}
theorem run_part1 {T : TypeId} {i : TypeInfo} (hu : P.underlying T = some (.int .i64)) (cs : Array Value) (off : Nat) (v : Value) (h : cs[off]? = some v) (w : World) : (part T cs off).run P w = .ok v w := by
  have hagg : (isAgg T).run P w = .ok false w := by
    unfold isAgg
    rw [Sem.run_bind, run_underlying hu w]
    rfl
  simp [part, hagg, h]
theorem run_eq2 (d : Nat) {T E : TypeId} {i : TypeInfo} (hT : P.underlying T = some (.array 2 E)) (hE : P.underlying E = some (.int .i64)) (hi : P.info? E = some i) (hs : i.size = 1) (a b c f : Int) (w : World) :
    (Op.equalIn (d + 2) T (.agg #[.int .i64 a, .int .i64 b]) (.agg #[.int .i64 c, .int .i64 f])).run P w = .ok ((a == c) && (b == f)) w := by
  have hsz : (sizeOf E).run P w = .ok 1 w := by simp [sizeOf, typeInfo, hi, hs]
  rw [Op.equalIn]
  simp only [Sem.run_bind, run_underlying hT, Result.andThen_ok, hsz]
  rw [Std.Legacy.Range.forIn_eq_forIn_range']
  simp only [Std.Legacy.Range.size, List.range', List.forIn_cons, List.forIn_nil]
  have p1 := run_part1 (i := i) hE #[.int .i64 a, .int .i64 b] (0 * 1) (.int .i64 a) rfl w
  have p2 := run_part1 (i := i) hE #[.int .i64 c, .int .i64 f] (0 * 1) (.int .i64 c) rfl w
  have p3 := run_part1 (i := i) hE #[.int .i64 a, .int .i64 b] (1 * 1) (.int .i64 b) rfl w
  have p4 := run_part1 (i := i) hE #[.int .i64 c, .int .i64 f] (1 * 1) (.int .i64 f) rfl w
  have q1 := run_equalIn_int (P := P) w d E .i64 .i64 a c hE
  have q2 := run_equalIn_int (P := P) w d E .i64 .i64 b f hE
  cases h1 : (a == c) <;> cases h2 : (b == f) <;> simp [Sem.run_bind, p1, p2, p3, p4, q1, q2, h1, h2]
theorem yl_eq2 {e : Env} {S : World → Prop} {o : Oper} {T E T' : TypeId} {x y : Operand} {i : TypeInfo} {a b c f : Int} (ho : o.op = .binOp .eql T x y T') (hT : P.underlying T = some (.array 2 E)) (hE : P.underlying E = some (.int .i64)) (hi : P.info? E = some i) (hs : i.size = 1) (hg : P.eqGuardType P.depth T = false)
    (hx : rho e x = .agg #[.int .i64 a, .int .i64 b]) (hy : rho e y = .agg #[.int .i64 c, .int .i64 f]) : Yl P S e o (.bool ((a == c) && (b == f))) := fun w _ => by
  have h : (Op.equalIn Op.maxDepth T (.agg #[.int .i64 a, .int .i64 b]) (.agg #[.int .i64 c, .int .i64 f])).run P w = .ok ((a == c) && (b == f)) w := run_eq2 (P := P) 9998 hT hE hi hs a b c f w
  unfold execOp
  simp [ho, hx, hy, eqGuard, binOp, Op.equal, h, hg]
theorem yl_ne2 {e : Env} {S : World → Prop} {o : Oper} {T E T' : TypeId} {x y : Operand} {i : TypeInfo} {a b c f : Int} (ho : o.op = .binOp .neq T x y T') (hT : P.underlying T = some (.array 2 E)) (hE : P.underlying E = some (.int .i64)) (hi : P.info? E = some i) (hs : i.size = 1) (hg : P.eqGuardType P.depth T = false)
    (hx : rho e x = .agg #[.int .i64 a, .int .i64 b]) (hy : rho e y = .agg #[.int .i64 c, .int .i64 f]) : Yl P S e o (.bool (!((a == c) && (b == f)))) := fun w _ => by
  have h : (Op.equalIn Op.maxDepth T (.agg #[.int .i64 a, .int .i64 b]) (.agg #[.int .i64 c, .int .i64 f])).run P w = .ok ((a == c) && (b == f)) w := run_eq2 (P := P) 9998 hT hE hi hs a b c f w
  unfold execOp
  simp [ho, hx, hy, eqGuard, binOp, Op.equal, h, hg]
theorem yl_eq2' {e : Env} {S : World → Prop} {o : Oper} {T T' : TypeId} (E : TypeId) {x y : Operand} {a b c f : Int} (ho : o.op = .binOp .eql T x y T') (hT : (P.underlying T, P.underlying E, (P.info? E).map (·.size), P.eqGuardType P.depth T) = (some (.array 2 E), some (.int .i64), some 1, false))
    (hx : rho e x = .agg #[.int .i64 a, .int .i64 b]) (hy : rho e y = .agg #[.int .i64 c, .int .i64 f]) : Yl P S e o (.bool ((a == c) && (b == f))) := by
  simp only [Prod.mk.injEq] at hT
  obtain ⟨h1, h2, h3, h4⟩ := hT
  obtain ⟨i, hi, hs⟩ := Option.map_eq_some_iff.1 h3
  exact yl_eq2 ho h1 h2 hi hs h4 hx hy
theorem yl_ne2' {e : Env} {S : World → Prop} {o : Oper} {T T' : TypeId} (E : TypeId) {x y : Operand} {a b c f : Int} (ho : o.op = .binOp .neq T x y T') (hT : (P.underlying T, P.underlying E, (P.info? E).map (·.size), P.eqGuardType P.depth T) = (some (.array 2 E), some (.int .i64), some 1, false))
    (hx : rho e x = .agg #[.int .i64 a, .int .i64 b]) (hy : rho e y = .agg #[.int .i64 c, .int .i64 f]) : Yl P S e o (.bool (!((a == c) && (b == f)))) := by
  simp only [Prod.mk.injEq] at hT
  obtain ⟨h1, h2, h3, h4⟩ := hT
  obtain ⟨i, hi, hs⟩ := Option.map_eq_some_iff.1 h3
  exact yl_ne2 ho h1 h2 hi hs h4 hx hy
section
variable {ops : Array Oper} {Q : Exit → Act → World → Prop} {n : Nat} {e : Env}
/-- append(nil, s...): a row that the call owns -/
theorem wl_appendN {wb : World} {L : List Blk} {o : Oper} {rest : List Oper} {d : Nat} {s x : Operand} {t : TypeId} (E : TypeId) (z : Value) (size bytes : Nat) (rows : List (List D)) {v : Value}
    (hf : fit ops n e o (some d) = true) (ho : o.op = .call { callee := .builtin .append, args := #[s, x], argTypes := #[t, t] })
    (hT : (P.underlying t, (P.info? E).map (fun i => (i.zero, i.size, i.bytes))) = (some (.slice E), some (some z, size, bytes))) (hz : z.cells.size = size) (hs0 : 0 < size)
    (hs : rho e s = .slice none 0 0) (hx : rho e x = v) (hrd : Rd (Im wb L) wb (.sl rows) v) (hes : ∀ r ∈ rows, r.length = size) (h63 : rows.length ≤ maxLen) (hby : rows.length * bytes ≤ 140737488355328)
    (kk : ∀ w' v' R' rv, Own E size v' rows.length rv.flatten R' → RdR (Im w' (L ++ R')) w' rows rv → Tr wb L w' (L ++ R') → WL P ops Q n ((d, v') :: e) (SH w' (L ++ R')) rest) : WL P ops Q n e (SH wb L) (o :: rest) := by
  obtain ⟨h1', h2, h3, h4⟩ := fit_some hf
  refine wl_run (σ := { x : World × Value × List Blk × List (List Value) // Own E size x.2.1 rows.length x.2.2.2.flatten x.2.2.1 ∧ RdR (Im x.1 (L ++ x.2.2.1)) x.1 rows x.2.2.2 ∧ Tr wb L x.1 (L ++ x.2.2.1) }) (fun x => x.1.2.1) (fun x => SH x.1.1 (L ++ x.1.2.2.1)) h1' h2 h3 h4 (fun w hw => ?_) (fun x => kk x.1.1 x.1.2.1 x.1.2.2.1 x.1.2.2.2 x.2.1 x.2.2.1 x.2.2.2)
  rw [Rd] at hrd
  obtain ⟨a, cap, rfl, hr⟩ := hrd
  rcases hr with rfl | ⟨g, off, rfl, hI, hg, hR⟩
  · refine ⟨⟨(w, .slice none 0 0, [], []), Own.nil _ _, trivial, by rw [List.append_nil]; exact hw.trHere⟩, w, ?_, (show SH w (L ++ []) w from by rw [List.append_nil]; exact hw.here)⟩
    unfold execOp
    simp only [ho, resolve, invoke, builtin, Sem.run_bind, Sem.run_pure, Result.andThen_ok, List.map_toArray, List.map_cons, List.map_nil, hs, hx, run_append_none t o.type E z size bytes hT a cap w, List.length_nil]
  · obtain ⟨rv, r1, r2⟩ := RdRows.vals hR
    obtain ⟨v', R', w', hr, ho', hsh, htr, _⟩ := append_sh (P := P) (R := []) t o.type E z size bytes hT hz hs0 (.slice none 0 0) 0 [] (Own.nil E size) (show SH wb ([] ++ L) w from hw) ⟨g, off, none⟩ rows.length cap rv.flatten ((r1.flat hes).2) (fun j u hj => by
      rw [Addr.add_mid, hw.cellIm hI]; exact r2 j u hj) r1.oneCell (by omega) (by rw [Nat.zero_add]; exact hby)
    have hT' : Tr wb L w' (L ++ R') := htr.less (fun y hy => by simp only [List.mem_append] at hy ⊢; exact hy.symm)
    refine ⟨⟨(w', v', R', rv), by rw [Nat.zero_add, List.nil_append] at ho'; exact ho', r1.stays hT'.stays, hT'⟩, w', ?_, hsh.swap⟩
    unfold execOp
    simp only [ho, resolve, invoke, builtin, Sem.run_bind, Sem.run_pure, Result.andThen_ok, List.map_toArray, List.map_cons, List.map_nil, hs, hx, hr]
end
variable {n : Nat} {e : Env}
theorem ret_cellT {fn : Func} {R : Ending → World → Prop} {wb : World} {L : List Blk} {a T a' : Nat} {b off : Nat} {c : Array Value} {t : TypeId} {v v' : Value} (p : Nat) (hr : fn.results = #[.cell a T, .tmp a'])
    (ha : look e a = some (.pointer (some ⟨b, off, none⟩))) (hp : L[p]? = some ⟨b, c, t⟩) (hv : readAt P T c off = some v) (ha' : look e a' = some v') (hR : ∀ w, SH wb L w → R (.returned (.tuple #[v, v'])) w) :
    ∀ x w, Has e n x → SH wb L w → bodyPost P fn R .ret x w := fun x w hx hw => by
  refine bodyPost_ret (v := .tuple #[v, v']) ?_ hx.defers (hR w hw)
  have h1 := hx.at_ a _ ha
  have h2 := run_readAt w T b off c v (fun i => hw.cell p hp i) hv
  have h3 := hx.at_ a' _ ha'
  simp [results, hr, h1, asAddr, h2, h3]
end
end Go.Sx
