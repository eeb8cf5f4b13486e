/- What keys and elements maps have; the globals and the parameters, in parts; printed by a program of this repository (gen/light.py). -/
import Derived.Test.YtinebnlhelfjcaaGreatDoorLya
import Derived.Test.YtinebnlhelfjcaaGreatDoorLga
import Derived.ProofKit
namespace Go.Proofs.YtinebnlhelfjcaaGreatDoor
open Go.Cl Go.Ev
set_option linter.unusedVariables false
set_option maxRecDepth 1000000
def mrF (P : Program) (t : Nat) : Bool := match P.underlying t with | some (.map _ e) => decide (e < P.types.size) | _ => true
def pkF (P : Program) (t : Nat) : Bool := match P.underlying t with
  | some (.map k _) => (match P.underlying k with | some (.array _ _) | some (.struct _) => false | _ => true)
  | _ => true
def paF (P : Program) (n i : Nat) : Bool := (P.funcs[i]?).all fun f => f.params.all fun t => Nat.blt t n
theorem params_of {P : Program} {n k : Nat} (hk : P.types.size = k) (hn : P.funcs.size = n) (h : ∀ i, i < n → paF P k i = true) : P.funcs.all (fun f => f.params.all fun t => decide (t < P.types.size)) = true := by
  rw [Array.all_eq_true]
  intro i hi
  have h1 := h i (hn ▸ hi)
  unfold paF at h1
  rw [Array.getElem?_eq_getElem hi] at h1
  simp only [Option.all_some] at h1
  rw [Array.all_eq_true] at h1 ⊢
  intro j hj
  have h2 := h1 j hj
  rw [decide_eq_true_eq, hk]
  rw [Nat.blt_eq] at h2
  exact h2
def shF (P : Program) (i : Nat) : Bool := (P.funcs[i]?).all fun fn => (Stop.rowOf fn).isNone || !fn.norace
theorem heard_of {P : Program} {n : Nat} (hn : P.funcs.size = n) (h : ∀ i, i < n → shF P i = true) : P.stopsHeard = true := by
  unfold Program.stopsHeard
  rw [Array.all_eq_true]
  intro i hi
  have h1 := h i (hn ▸ hi)
  unfold shF at h1
  rw [Array.getElem?_eq_getElem hi] at h1
  exact h1
theorem sh0 : rAll (shF Tryz.prog) 0 48 = true := by kernel_rfl
theorem sh1 : rAll (shF Tryz.prog) 48 48 = true := by kernel_rfl
theorem sh2 : rAll (shF Tryz.prog) 96 48 = true := by kernel_rfl
theorem sh3 : rAll (shF Tryz.prog) 144 48 = true := by kernel_rfl
theorem sh4 : rAll (shF Tryz.prog) 192 48 = true := by kernel_rfl
theorem sh5 : rAll (shF Tryz.prog) 240 48 = true := by kernel_rfl
theorem sh6 : rAll (shF Tryz.prog) 288 48 = true := by kernel_rfl
theorem sh7 : rAll (shF Tryz.prog) 336 48 = true := by kernel_rfl
theorem sh8 : rAll (shF Tryz.prog) 384 48 = true := by kernel_rfl
theorem sh9 : rAll (shF Tryz.prog) 432 48 = true := by kernel_rfl
theorem sh10 : rAll (shF Tryz.prog) 480 48 = true := by kernel_rfl
theorem sh11 : rAll (shF Tryz.prog) 528 48 = true := by kernel_rfl
theorem sh12 : rAll (shF Tryz.prog) 576 48 = true := by kernel_rfl
theorem sh13 : rAll (shF Tryz.prog) 624 48 = true := by kernel_rfl
theorem sh14 : rAll (shF Tryz.prog) 672 48 = true := by kernel_rfl
theorem sh15 : rAll (shF Tryz.prog) 720 48 = true := by kernel_rfl
theorem sh16 : rAll (shF Tryz.prog) 768 48 = true := by kernel_rfl
theorem sh17 : rAll (shF Tryz.prog) 816 48 = true := by kernel_rfl
theorem sh18 : rAll (shF Tryz.prog) 864 48 = true := by kernel_rfl
theorem sh19 : rAll (shF Tryz.prog) 912 48 = true := by kernel_rfl
theorem sh20 : rAll (shF Tryz.prog) 960 48 = true := by kernel_rfl
theorem sh21 : rAll (shF Tryz.prog) 1008 48 = true := by kernel_rfl
theorem sh22 : rAll (shF Tryz.prog) 1056 18 = true := by kernel_rfl
theorem sh_all : ∀ i, i < 1074 → shF Tryz.prog i = true := rAll_app (rAll_app (rAll_app (rAll_app (rAll_app (rAll_app (rAll_app (rAll_app (rAll_app (rAll_app (rAll_app (rAll_app (rAll_app (rAll_app (rAll_app (rAll_app (rAll_app (rAll_app (rAll_app (rAll_app (rAll_app (rAll_app (rAll_app rAll_none sh0 rfl) sh1 rfl) sh2 rfl) sh3 rfl) sh4 rfl) sh5 rfl) sh6 rfl) sh7 rfl) sh8 rfl) sh9 rfl) sh10 rfl) sh11 rfl) sh12 rfl) sh13 rfl) sh14 rfl) sh15 rfl) sh16 rfl) sh17 rfl) sh18 rfl) sh19 rfl) sh20 rfl) sh21 rfl) sh22 rfl
theorem o_heard : Tryz.prog.stopsHeard = true := heard_of nFuncs sh_all
theorem mr0 : rAll (mrF Tryz.prog) 0 48 = true := by kernel_rfl
theorem mr1 : rAll (mrF Tryz.prog) 48 48 = true := by kernel_rfl
theorem mr2 : rAll (mrF Tryz.prog) 96 48 = true := by kernel_rfl
theorem mr3 : rAll (mrF Tryz.prog) 144 48 = true := by kernel_rfl
theorem mr4 : rAll (mrF Tryz.prog) 192 48 = true := by kernel_rfl
theorem mr5 : rAll (mrF Tryz.prog) 240 48 = true := by kernel_rfl
theorem mr6 : rAll (mrF Tryz.prog) 288 48 = true := by kernel_rfl
theorem mr7 : rAll (mrF Tryz.prog) 336 48 = true := by kernel_rfl
theorem mr8 : rAll (mrF Tryz.prog) 384 48 = true := by kernel_rfl
theorem mr9 : rAll (mrF Tryz.prog) 432 48 = true := by kernel_rfl
theorem mr10 : rAll (mrF Tryz.prog) 480 48 = true := by kernel_rfl
theorem mr11 : rAll (mrF Tryz.prog) 528 48 = true := by kernel_rfl
theorem mr12 : rAll (mrF Tryz.prog) 576 48 = true := by kernel_rfl
theorem mr13 : rAll (mrF Tryz.prog) 624 48 = true := by kernel_rfl
theorem mr14 : rAll (mrF Tryz.prog) 672 48 = true := by kernel_rfl
theorem mr15 : rAll (mrF Tryz.prog) 720 48 = true := by kernel_rfl
theorem mr16 : rAll (mrF Tryz.prog) 768 48 = true := by kernel_rfl
theorem mr17 : rAll (mrF Tryz.prog) 816 48 = true := by kernel_rfl
theorem mr18 : rAll (mrF Tryz.prog) 864 48 = true := by kernel_rfl
theorem mr19 : rAll (mrF Tryz.prog) 912 48 = true := by kernel_rfl
theorem mr20 : rAll (mrF Tryz.prog) 960 48 = true := by kernel_rfl
theorem mr21 : rAll (mrF Tryz.prog) 1008 19 = true := by kernel_rfl
theorem mr_all : ∀ i, i < 1027 → mrF Tryz.prog i = true := rAll_app (rAll_app (rAll_app (rAll_app (rAll_app (rAll_app (rAll_app (rAll_app (rAll_app (rAll_app (rAll_app (rAll_app (rAll_app (rAll_app (rAll_app (rAll_app (rAll_app (rAll_app (rAll_app (rAll_app (rAll_app (rAll_app rAll_none mr0 rfl) mr1 rfl) mr2 rfl) mr3 rfl) mr4 rfl) mr5 rfl) mr6 rfl) mr7 rfl) mr8 rfl) mr9 rfl) mr10 rfl) mr11 rfl) mr12 rfl) mr13 rfl) mr14 rfl) mr15 rfl) mr16 rfl) mr17 rfl) mr18 rfl) mr19 rfl) mr20 rfl) mr21 rfl
theorem pk0 : rAll (pkF Tryz.prog) 0 48 = true := by kernel_rfl
theorem pk1 : rAll (pkF Tryz.prog) 48 48 = true := by kernel_rfl
theorem pk2 : rAll (pkF Tryz.prog) 96 48 = true := by kernel_rfl
theorem pk3 : rAll (pkF Tryz.prog) 144 48 = true := by kernel_rfl
theorem pk4 : rAll (pkF Tryz.prog) 192 48 = true := by kernel_rfl
theorem pk5 : rAll (pkF Tryz.prog) 240 48 = true := by kernel_rfl
theorem pk6 : rAll (pkF Tryz.prog) 288 48 = true := by kernel_rfl
theorem pk7 : rAll (pkF Tryz.prog) 336 48 = true := by kernel_rfl
theorem pk8 : rAll (pkF Tryz.prog) 384 48 = true := by kernel_rfl
theorem pk9 : rAll (pkF Tryz.prog) 432 48 = true := by kernel_rfl
theorem pk10 : rAll (pkF Tryz.prog) 480 48 = true := by kernel_rfl
theorem pk11 : rAll (pkF Tryz.prog) 528 48 = true := by kernel_rfl
theorem pk12 : rAll (pkF Tryz.prog) 576 48 = true := by kernel_rfl
theorem pk13 : rAll (pkF Tryz.prog) 624 48 = true := by kernel_rfl
theorem pk14 : rAll (pkF Tryz.prog) 672 48 = true := by kernel_rfl
theorem pk15 : rAll (pkF Tryz.prog) 720 48 = true := by kernel_rfl
theorem pk16 : rAll (pkF Tryz.prog) 768 48 = true := by kernel_rfl
theorem pk17 : rAll (pkF Tryz.prog) 816 48 = true := by kernel_rfl
theorem pk18 : rAll (pkF Tryz.prog) 864 48 = true := by kernel_rfl
theorem pk19 : rAll (pkF Tryz.prog) 912 48 = true := by kernel_rfl
theorem pk20 : rAll (pkF Tryz.prog) 960 48 = true := by kernel_rfl
theorem pk21 : rAll (pkF Tryz.prog) 1008 19 = true := by kernel_rfl
theorem pk_all : ∀ i, i < 1027 → pkF Tryz.prog i = true := rAll_app (rAll_app (rAll_app (rAll_app (rAll_app (rAll_app (rAll_app (rAll_app (rAll_app (rAll_app (rAll_app (rAll_app (rAll_app (rAll_app (rAll_app (rAll_app (rAll_app (rAll_app (rAll_app (rAll_app (rAll_app (rAll_app rAll_none pk0 rfl) pk1 rfl) pk2 rfl) pk3 rfl) pk4 rfl) pk5 rfl) pk6 rfl) pk7 rfl) pk8 rfl) pk9 rfl) pk10 rfl) pk11 rfl) pk12 rfl) pk13 rfl) pk14 rfl) pk15 rfl) pk16 rfl) pk17 rfl) pk18 rfl) pk19 rfl) pk20 rfl) pk21 rfl
theorem pa0 : rAll (paF Tryz.prog 1027) 0 48 = true := by kernel_rfl
theorem pa1 : rAll (paF Tryz.prog 1027) 48 48 = true := by kernel_rfl
theorem pa2 : rAll (paF Tryz.prog 1027) 96 48 = true := by kernel_rfl
theorem pa3 : rAll (paF Tryz.prog 1027) 144 48 = true := by kernel_rfl
theorem pa4 : rAll (paF Tryz.prog 1027) 192 48 = true := by kernel_rfl
theorem pa5 : rAll (paF Tryz.prog 1027) 240 48 = true := by kernel_rfl
theorem pa6 : rAll (paF Tryz.prog 1027) 288 48 = true := by kernel_rfl
theorem pa7 : rAll (paF Tryz.prog 1027) 336 48 = true := by kernel_rfl
theorem pa8 : rAll (paF Tryz.prog 1027) 384 48 = true := by kernel_rfl
theorem pa9 : rAll (paF Tryz.prog 1027) 432 48 = true := by kernel_rfl
theorem pa10 : rAll (paF Tryz.prog 1027) 480 48 = true := by kernel_rfl
theorem pa11 : rAll (paF Tryz.prog 1027) 528 48 = true := by kernel_rfl
theorem pa12 : rAll (paF Tryz.prog 1027) 576 48 = true := by kernel_rfl
theorem pa13 : rAll (paF Tryz.prog 1027) 624 48 = true := by kernel_rfl
theorem pa14 : rAll (paF Tryz.prog 1027) 672 48 = true := by kernel_rfl
theorem pa15 : rAll (paF Tryz.prog 1027) 720 48 = true := by kernel_rfl
theorem pa16 : rAll (paF Tryz.prog 1027) 768 48 = true := by kernel_rfl
theorem pa17 : rAll (paF Tryz.prog 1027) 816 48 = true := by kernel_rfl
theorem pa18 : rAll (paF Tryz.prog 1027) 864 48 = true := by kernel_rfl
theorem pa19 : rAll (paF Tryz.prog 1027) 912 48 = true := by kernel_rfl
theorem pa20 : rAll (paF Tryz.prog 1027) 960 48 = true := by kernel_rfl
theorem pa21 : rAll (paF Tryz.prog 1027) 1008 48 = true := by kernel_rfl
theorem pa22 : rAll (paF Tryz.prog 1027) 1056 18 = true := by kernel_rfl
theorem pa_all : ∀ i, i < 1074 → paF Tryz.prog 1027 i = true := rAll_app (rAll_app (rAll_app (rAll_app (rAll_app (rAll_app (rAll_app (rAll_app (rAll_app (rAll_app (rAll_app (rAll_app (rAll_app (rAll_app (rAll_app (rAll_app (rAll_app (rAll_app (rAll_app (rAll_app (rAll_app (rAll_app (rAll_app rAll_none pa0 rfl) pa1 rfl) pa2 rfl) pa3 rfl) pa4 rfl) pa5 rfl) pa6 rfl) pa7 rfl) pa8 rfl) pa9 rfl) pa10 rfl) pa11 rfl) pa12 rfl) pa13 rfl) pa14 rfl) pa15 rfl) pa16 rfl) pa17 rfl) pa18 rfl) pa19 rfl) pa20 rfl) pa21 rfl) pa22 rfl
theorem laid_b : Tryz.prog.globals.all (fun g => decide (g.type < Tryz.prog.types.size)) = true := by
  rw [nTypes]
  kernel_rfl
theorem laid : laidOutB Tryz.prog = true := by
  unfold laidOutB
  rw [range_of nTypes rf_all, laid_b, params_of nTypes nFuncs pa_all]
  rfl
theorem mapsR : mapsRowed Tryz.prog = true := range_of nTypes mr_all
theorem keysP : Tryz.prog.plainKeys = true := range_of nTypes pk_all
end Go.Proofs.YtinebnlhelfjcaaGreatDoor
