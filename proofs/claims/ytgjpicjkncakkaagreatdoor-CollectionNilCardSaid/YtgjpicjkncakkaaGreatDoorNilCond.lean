/- What the law's laid data give: the cells of two tables of names. Printed by a program of this repository (gen/nilcard.py). -/
import Derived.Test.YtgjpicjkncakkaaGreatDoorTab
import Derived.Test.YtgjpicjkncakkaaGreatDoorRows
import Derived.Test.YtgjpicjkncakkaaGreatDoorCalc
import Derived.Lib.LaidU8
import Derived.Lib.LaidTab
import Derived.ProofKit
namespace Go.Proofs.YtgjpicjkncakkaaGreatDoor
open Go.RowKit Go.Sx Go.Ev Go.Lib
set_option linter.unusedVariables false
set_option linter.unusedSimpArgs false

theorem str_cell {P : Program} {w : World} {n : String} {g : Nat} {t e : TypeId} {k : Nat} {ds : List (DataW Unit)} (hg : P.globalNamed n = some g) (hty : (P.globals[g]?).map (·.type) = some t) (ht : P.underlying t = some (.array k e)) (he : P.underlying e = some .string) (hc : P.cellsOf e = 1)
    (h : VarReads P w n (.agg ds)) (i : Nat) (hi : i < k) (bs : List UInt8) (hd : ds[i]? = some (.lit (.string bs))) : w.cell? ⟨g, i, none⟩ = some (.string ⟨bs.toArray⟩) := by
  obtain ⟨g', t', cs, fuel, p, hg', hty', hvar, hr⟩ := h
  obtain rfl := Option.some.inj (hg.symm.trans hg')
  obtain rfl := Option.some.inj (hty.symm.trans hty')
  obtain ⟨f', d, q, hdi, hel⟩ := array_elem ht hr i hi
  rw [hc, Nat.mul_one] at hel
  obtain ⟨s, hs, hx, _⟩ := DataW.trod_string he hel
  rw [hd] at hdi
  obtain rfl := Option.some.inj hdi
  have hb : bs = s.data.toList := by
    have := congrArg Prod.fst hx
    simpa using this
  rw [World.var?_cell hg hvar i, ← Array.getElem?_toList]
  have h0 := congrArg (·[0]?) hs
  have h1 : cs.toList[i]? = some (.string s) := by simpa [List.getElem?_take, List.getElem?_drop] using h0
  rw [h1, hb]
def ss4 : List (List UInt8) := [[], [36, 118, 97, 108, 117, 101], [], [], [36, 97, 100, 100], [36, 115, 117, 98], [36, 109, 117, 108], [36, 100, 105, 118], [36, 109, 111, 100], [36, 99, 109, 112], [36, 101, 113], [36, 110, 101], [36, 103, 116], [36, 103, 101], [36, 108, 116], [36, 108, 101], [36, 97, 110, 100], [36, 111, 114], [36, 110, 111, 116], [36, 105, 102], [36, 105, 102, 78, 117, 108, 108], [36, 99, 111, 110, 99, 97, 116], [36, 108, 111, 119, 101, 114], [36, 117, 112, 112, 101, 114], [36, 108, 101, 110, 103, 116, 104], [36, 115, 108, 105, 99, 101], [36, 115, 105, 122, 101], [36, 97, 116], [36, 105, 110], [36, 106, 111, 105, 110], [36, 114, 101, 118, 101, 114, 115, 101], [36, 115, 117, 109], [36, 109, 97, 112], [36, 102, 105, 108, 116, 101, 114], [], [], [36, 107, 105, 110, 100], [36, 109, 101, 114, 103, 101]]
theorem laid4_eq : (Rows.laid_docstore_expr_names : DataW Unit) = .agg (ss4.map fun bs => .lit (.string bs)) := by kernel_rfl
theorem gl4_eq : gl4 = ss4.map fun bs => Value.string ⟨bs.toArray⟩ := by kernel_rfl
theorem gN4 : Tryz.prog.globalNamed "docstore/expr.names" = some 4 := by kernel_rfl
theorem gT4 : (Tryz.prog.globals[4]?).map (·.type) = some 523 := by kernel_rfl
theorem gl4_at {W : World} (h : VarReads Tryz.prog W "docstore/expr.names" (Rows.laid_docstore_expr_names : DataW Unit)) (k : Nat) (v : Value) (hv : gl4[k]? = some v) : W.cell? ⟨4, k, none⟩ = some v := by
  rw [laid4_eq] at h
  rw [gl4_eq] at hv
  rw [List.getElem?_map] at hv
  obtain ⟨bs, hb, rfl⟩ := Option.map_eq_some_iff.1 hv
  have hk : k < 38 := by
    have := (List.getElem?_eq_some_iff.1 hb).1
    have e : ss4.length = 38 := by kernel_rfl
    omega
  exact str_cell gN4 gT4 Tryz.underlying523 Tryz.underlying9 (by kernel_rfl) h k hk bs (by rw [List.getElem?_map, hb]; rfl)
def ss0 : List (List UInt8) := [[], [], [36, 101, 113], [36, 110, 101], [36, 103, 116], [36, 103, 101], [36, 108, 116], [36, 108, 101], [36, 105, 110], [36, 110, 111, 116, 73, 110], [36, 101, 120, 105, 115, 116, 115], [36, 107, 105, 110, 100], [36, 109, 111, 100], [36, 115, 105, 122, 101], [36, 97, 108, 108], [36, 101, 108, 101, 109], [36, 112, 114, 101, 102, 105, 120], [36, 108, 105, 107, 101], [36, 119, 105, 116, 104, 105, 110], [36, 119, 111, 114, 100, 115], [], [], [], [36, 110, 111, 116], []]
theorem laid0_eq : (Rows.laid_docstore_predicate_names : DataW Unit) = .agg (ss0.map fun bs => .lit (.string bs)) := by kernel_rfl
theorem gl0_eq : gl0 = ss0.map fun bs => Value.string ⟨bs.toArray⟩ := by kernel_rfl
theorem gN0 : Tryz.prog.globalNamed "docstore/predicate.names" = some 0 := by kernel_rfl
theorem gT0 : (Tryz.prog.globals[0]?).map (·.type) = some 349 := by kernel_rfl
theorem gl0_at {W : World} (h : VarReads Tryz.prog W "docstore/predicate.names" (Rows.laid_docstore_predicate_names : DataW Unit)) (k : Nat) (v : Value) (hv : gl0[k]? = some v) : W.cell? ⟨0, k, none⟩ = some v := by
  rw [laid0_eq] at h
  rw [gl0_eq] at hv
  rw [List.getElem?_map] at hv
  obtain ⟨bs, hb, rfl⟩ := Option.map_eq_some_iff.1 hv
  have hk : k < 25 := by
    have := (List.getElem?_eq_some_iff.1 hb).1
    have e : ss0.length = 25 := by kernel_rfl
    omega
  exact str_cell gN0 gT0 Tryz.underlying349 Tryz.underlying9 (by kernel_rfl) h k hk bs (by rw [List.getElem?_map, hb]; rfl)
theorem gl_ok {W : World} (h : laidMetH Tryz.prog Rows.collectionNilRow.laid W) : Gl W := by
  intro g vs hg k v hv
  have hm := T.mem_list hg
  rw [show tab.gl.list = [(0, gl0), (4, gl4)] from by kernel_rfl] at hm
  simp only [List.mem_cons, Prod.mk.injEq, List.not_mem_nil, or_false] at hm
  rcases hm with ⟨rfl, rfl⟩ | ⟨rfl, rfl⟩
  · exact gl0_at (Lib.laidMet.reads h (.tail _ (.tail _ (.tail _ (.tail _ (.tail _ (.head _))))))) k v hv
  · exact gl4_at (Lib.laidMet.reads h (.tail _ (.tail _ (.tail _ (.tail _ (.head _)))))) k v hv
end Go.Proofs.YtgjpicjkncakkaaGreatDoor
