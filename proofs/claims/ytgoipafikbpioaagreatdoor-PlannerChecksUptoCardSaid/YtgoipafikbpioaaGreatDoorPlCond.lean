/- What the law's laid data give: the cells of two tables of names, and the tables of unicode/utf8. Printed by a program of this repository (gen/plcard.py). -/
import Derived.Test.YtgoipafikbpioaaGreatDoorTab
import Derived.Test.YtgoipafikbpioaaGreatDoorUv
import Derived.Test.YtgoipafikbpioaaGreatDoorRows
import Derived.Test.YtgoipafikbpioaaGreatDoorCalc
import Derived.Lib.LaidU8T
import Derived.ProofKit
namespace Go.Proofs.YtgoipafikbpioaaGreatDoor
open Go.RowKit Go.Sx Go.Ev Go.Lib
set_option linter.unusedVariables false
set_option linter.unusedSimpArgs false
theorem str_cell {P : Program} {w : World} {n : String} {g : Nat} {t e : TypeId} {k : Nat} {ds : List (DataW Unit)} (hg : P.globalNamed n = some g) (hty : (P.globals[g]?).map (·.type) = some t) (ht : P.underlying t = some (.array k e)) (he : P.underlying e = some .string) (hc : P.cellsOf e = 1)
    (h : VarReads P w n (.agg ds)) (i : Nat) (hi : i < k) (bs : List UInt8) (hd : ds[i]? = some (.lit (.string bs))) : w.cell? ⟨g, i, none⟩ = some (.string ⟨bs.toArray⟩) := by
  obtain ⟨g', t', cs, fuel, p, hg', hty', hvar, hr⟩ := h
  obtain rfl := Option.some.inj (hg.symm.trans hg')
  obtain rfl := Option.some.inj (hty.symm.trans hty')
  obtain ⟨f', d, q, hdi, hel⟩ := array_elem ht hr i hi
  rw [hc, Nat.mul_one] at hel
  obtain ⟨s, hs, hx, _⟩ := DataW.trod_string he hel
  rw [hd] at hdi
  obtain rfl := Option.some.inj hdi
  have hb : bs = s.data.toList := by
    have := congrArg Prod.fst hx
    simpa using this
  rw [World.var?_cell hg hvar i, ← Array.getElem?_toList]
  have h0 := congrArg (·[0]?) hs
  have h1 : cs.toList[i]? = some (.string s) := by simpa [List.getElem?_take, List.getElem?_drop] using h0
  rw [h1, hb]
def ss0 : List (List UInt8) := [[], [], [36, 101, 113], [36, 110, 101], [36, 103, 116], [36, 103, 101], [36, 108, 116], [36, 108, 101], [36, 105, 110], [36, 110, 111, 116, 73, 110], [36, 101, 120, 105, 115, 116, 115], [36, 107, 105, 110, 100], [36, 109, 111, 100], [36, 115, 105, 122, 101], [36, 97, 108, 108], [36, 101, 108, 101, 109], [36, 112, 114, 101, 102, 105, 120], [36, 108, 105, 107, 101], [36, 119, 105, 116, 104, 105, 110], [36, 119, 111, 114, 100, 115], [], [], [], [36, 110, 111, 116], []]
theorem laid0_eq : (Rows.laid_docstore_predicate_names : DataW Unit) = .agg (ss0.map fun bs => .lit (.string bs)) := by kernel_rfl
theorem gl0_eq : gl0 = ss0.map fun bs => Value.string ⟨bs.toArray⟩ := by kernel_rfl
theorem gN0 : Tryz.prog.globalNamed "docstore/predicate.names" = some 0 := by kernel_rfl
theorem gT0 : (Tryz.prog.globals[0]?).map (·.type) = some 188 := by kernel_rfl
theorem gl0_at {W : World} (h : VarReads Tryz.prog W "docstore/predicate.names" (Rows.laid_docstore_predicate_names : DataW Unit)) (k : Nat) (v : Value) (hv : gl0[k]? = some v) : W.cell? ⟨0, k, none⟩ = some v := by
  rw [laid0_eq] at h
  rw [gl0_eq] at hv
  rw [List.getElem?_map] at hv
  obtain ⟨bs, hb, rfl⟩ := Option.map_eq_some_iff.1 hv
  have hk : k < 25 := by
    have := (List.getElem?_eq_some_iff.1 hb).1
    have e : ss0.length = 25 := by kernel_rfl
    omega
  exact str_cell gN0 gT0 Tryz.underlying188 Tryz.underlying9 (by kernel_rfl) h k hk bs (by rw [List.getElem?_map, hb]; rfl)
def ss1 : List (List UInt8) := [[], [36, 118, 97, 108, 117, 101], [], [], [36, 97, 100, 100], [36, 115, 117, 98], [36, 109, 117, 108], [36, 100, 105, 118], [36, 109, 111, 100], [36, 99, 109, 112], [36, 101, 113], [36, 110, 101], [36, 103, 116], [36, 103, 101], [36, 108, 116], [36, 108, 101], [36, 97, 110, 100], [36, 111, 114], [36, 110, 111, 116], [36, 105, 102], [36, 105, 102, 78, 117, 108, 108], [36, 99, 111, 110, 99, 97, 116], [36, 108, 111, 119, 101, 114], [36, 117, 112, 112, 101, 114], [36, 108, 101, 110, 103, 116, 104], [36, 115, 108, 105, 99, 101], [36, 115, 105, 122, 101], [36, 97, 116], [36, 105, 110], [36, 106, 111, 105, 110], [36, 114, 101, 118, 101, 114, 115, 101], [36, 115, 117, 109], [36, 109, 97, 112], [36, 102, 105, 108, 116, 101, 114], [], [], [36, 107, 105, 110, 100], [36, 109, 101, 114, 103, 101]]
theorem laid1_eq : (Rows.laid_docstore_expr_names : DataW Unit) = .agg (ss1.map fun bs => .lit (.string bs)) := by kernel_rfl
theorem gl1_eq : gl1 = ss1.map fun bs => Value.string ⟨bs.toArray⟩ := by kernel_rfl
theorem gN1 : Tryz.prog.globalNamed "docstore/expr.names" = some 1 := by kernel_rfl
theorem gT1 : (Tryz.prog.globals[1]?).map (·.type) = some 276 := by kernel_rfl
theorem gl1_at {W : World} (h : VarReads Tryz.prog W "docstore/expr.names" (Rows.laid_docstore_expr_names : DataW Unit)) (k : Nat) (v : Value) (hv : gl1[k]? = some v) : W.cell? ⟨1, k, none⟩ = some v := by
  rw [laid1_eq] at h
  rw [gl1_eq] at hv
  rw [List.getElem?_map] at hv
  obtain ⟨bs, hb, rfl⟩ := Option.map_eq_some_iff.1 hv
  have hk : k < 38 := by
    have := (List.getElem?_eq_some_iff.1 hb).1
    have e : ss1.length = 38 := by kernel_rfl
    omega
  exact str_cell gN1 gT1 Tryz.underlying276 Tryz.underlying9 (by kernel_rfl) h k hk bs (by rw [List.getElem?_map, hb]; rfl)
theorem gl_bl {w w' : World} (h : Gl w) (b : Bl w w') : Gl w' := fun g vs hg k v hv => b.cell (h g vs hg k v hv)
theorem firstEq : (Rows.laid_unicode_utf8_first : DataW Unit) = Lib.firstData := by kernel_rfl
theorem acceptEq : (Rows.laid_unicode_utf8_acceptRanges : DataW Unit) = Lib.acceptData := by kernel_rfl
theorem gl_ok {W : World} (h : laidMetH Tryz.prog Rows.plannerChecksUptoRow.laid W) : Gl W := by
  intro g vs hg k v hv
  have hm := T.mem_list hg
  rw [show tab.gl.list = [(0, gl0), (1, gl1)] from by kernel_rfl] at hm
  simp only [List.mem_cons, Prod.mk.injEq, List.not_mem_nil, or_false] at hm
  rcases hm with ⟨rfl, rfl⟩ | ⟨rfl, rfl⟩
  · exact gl0_at (Lib.laidMet.reads h (.tail _ (.tail _ (.tail _ (.tail _ (.tail _ (.head _))))))) k v hv
  · exact gl1_at (Lib.laidMet.reads h (.tail _ (.tail _ (.tail _ (.tail _ (.head _)))))) k v hv
theorem tb_ok {W : World} (h : laidMetH Tryz.prog Rows.plannerChecksUptoRow.laid W) : Tb W :=
  utf8Tabs_of_readsT (U8Types.of196 shValid) ⟨by kernel_rfl, by kernel_rfl, by kernel_rfl, by kernel_rfl, by kernel_rfl, by kernel_rfl, by kernel_rfl⟩ (firstEq ▸ Lib.laidMet.reads h (.tail _ (.tail _ (.tail _ (.tail _ (.tail _ (.tail _ (.head _)))))))) (acceptEq ▸ Lib.laidMet.reads h (.tail _ (.tail _ (.tail _ (.head _)))))
theorem len_szR : ∀ R : List (List D), R.length ≤ szR R
  | [] => Nat.zero_le _
  | r :: rs => by have := len_szR rs; simp only [szR, List.length_cons]; omega
theorem paths_le {v : List D} (h : 33 ≤ v.length) : ((fR (sub v 28 5) 1).length + (fR (sub v 28 5) 3).length + (fR (sub v 28 5) 4).length) ≤ 3 * szL v := by
  have h1 := sz_nth (sub v 28 5) 1
  have h3 := sz_nth (sub v 28 5) 3
  have h4 := sz_nth (sub v 28 5) 4
  have hs : szL (sub v 28 5) ≤ szL v := szL_sub (by omega)
  have l1 := len_szR (fR (sub v 28 5) 1)
  have l3 := len_szR (fR (sub v 28 5) 3)
  have l4 := len_szR (fR (sub v 28 5) 4)
  omega
end Go.Proofs.YtgoipafikbpioaaGreatDoor
