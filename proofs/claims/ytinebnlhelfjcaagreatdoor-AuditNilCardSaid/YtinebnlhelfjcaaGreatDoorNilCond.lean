/- What the law's laid data give: the cells of two tables of names. Printed by a program of this repository (gen/nilcard.py). -/
import Derived.Test.YtinebnlhelfjcaaGreatDoorTab
import Derived.Test.YtinebnlhelfjcaaGreatDoorRows
import Derived.Test.YtinebnlhelfjcaaGreatDoorCalc
import Derived.Lib.LaidU8
import Derived.Lib.LaidTab
import Derived.ProofKit
namespace Go.Proofs.YtinebnlhelfjcaaGreatDoor
open Go.RowKit Go.Sx Go.Ev Go.Lib
set_option linter.unusedVariables false
set_option linter.unusedSimpArgs false

theorem str_cell {P : Program} {w : World} {n : String} {g : Nat} {t e : TypeId} {k : Nat} {ds : List (DataW Unit)} (hg : P.globalNamed n = some g) (hty : (P.globals[g]?).map (·.type) = some t) (ht : P.underlying t = some (.array k e)) (he : P.underlying e = some .string) (hc : P.cellsOf e = 1)
    (h : VarReads P w n (.agg ds)) (i : Nat) (hi : i < k) (bs : List UInt8) (hd : ds[i]? = some (.lit (.string bs))) : w.cell? ⟨g, i, none⟩ = some (.string ⟨bs.toArray⟩) := by
  obtain ⟨g', t', cs, fuel, p, hg', hty', hvar, hr⟩ := h
  obtain rfl := Option.some.inj (hg.symm.trans hg')
  obtain rfl := Option.some.inj (hty.symm.trans hty')
  obtain ⟨f', d, q, hdi, hel⟩ := array_elem ht hr i hi
  rw [hc, Nat.mul_one] at hel
  obtain ⟨s, hs, hx, _⟩ := DataW.trod_string he hel
  rw [hd] at hdi
  obtain rfl := Option.some.inj hdi
  have hb : bs = s.data.toList := by
    have := congrArg Prod.fst hx
    simpa using this
  rw [World.var?_cell hg hvar i, ← Array.getElem?_toList]
  have h0 := congrArg (·[0]?) hs
  have h1 : cs.toList[i]? = some (.string s) := by simpa [List.getElem?_take, List.getElem?_drop] using h0
  rw [h1, hb]
theorem gl_ok {W : World} (h : laidMetH Tryz.prog Rows.auditNilRow.laid W) : Gl W := by
  intro g vs hg k v hv
  have hm := T.mem_list hg
  rw [show tab.gl.list = [] from by kernel_rfl] at hm
  cases hm
end Go.Proofs.YtinebnlhelfjcaaGreatDoor
