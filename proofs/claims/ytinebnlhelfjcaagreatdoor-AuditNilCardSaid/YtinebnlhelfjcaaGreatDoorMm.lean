/- Short names for known calls (printed by gen/memos.py). -/
import Derived.Test.YtinebnlhelfjcaaGreatDoorTab
namespace Go.Proofs.YtinebnlhelfjcaaGreatDoor
open Go.RowKit Go.Sx Go.Ev
set_option linter.unusedVariables false
set_option linter.unusedSimpArgs false

def qi (n : Int) : AV := .pl (.int .i64 n)
def qs (l : List UInt8) : AV := .pl (.string ⟨l.toArray⟩)
def qz : AV := .pl (.string ⟨#[]⟩)
def ql : AV := .pl (.slice none 0 0)
def qt : AV := .pl (.bool true)
def qf : AV := .pl (.bool false)
def qn : AV := .pl (.pointer none)
def qk (c : List AV) (t : TypeId) (m : Bool) (e f : Nat) : ABlk := ⟨c, t, m, e, f, .c⟩
def qm (es : List (AV × AV × Nat)) (c : Nat) : ABlk := ⟨[], 0, false, 0, 0, .m es c⟩
noncomputable def tabM (l : List Memo) : Tab := ⟨tyT, fnT, idfT, orcT, glT, mnzT, ovlT, splT, extT, l⟩
theorem tabM_ok {w : World} (hg : Gl w) (l : List Memo) : TOk Tryz.prog (tabM l) w := ⟨(tab_ok hg).ty, (tab_ok hg).fn, (tab_ok hg).mix, (tab_ok hg).idf, (tab_ok hg).gl, (tab_ok hg).mnz, (tab_ok hg).ovl, (tab_ok hg).ext⟩
end Go.Proofs.YtinebnlhelfjcaaGreatDoor
