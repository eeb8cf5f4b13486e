/- The law docstorelaw26.TableNil returns true, whatever its argument (printed by gen/tablenil.py). -/
import Derived.Test.YtpdichhabjieeaaGreatDoorOpq
import Derived.Test.YtpdichhabjieeaaGreatDoorCpb
import Derived.Test.YtpdichhabjieeaaGreatDoorTnRun0
import Derived.Test.YtpdichhabjieeaaGreatDoorTnRun1
import Derived.Test.YtpdichhabjieeaaGreatDoorTnRun2
import Derived.Test.YtpdichhabjieeaaGreatDoorTnRun3
import Derived.Test.YtpdichhabjieeaaGreatDoorTnRun4
import Derived.Test.YtpdichhabjieeaaGreatDoorTnRun5
namespace Go.Proofs.YtpdichhabjieeaaGreatDoor
open Go.RowKit Go.Sx Go.Ev
set_option linter.unusedVariables false
set_option linter.unusedSimpArgs false

theorem tn_walk {S : Nat → Prop} {w : World} {ds : List D} {cs : List Value} {ks : List K} (hr : RdL S w ds cs) (hf : FitL sh by_ ds (.int :: .int :: .int :: .str :: .sl 0 :: .sl 1 :: .str :: .sl 21 :: ks)) (hk : ks.length = 32) : Calls Tryz.prog 3 #[.agg cs.toArray] w (fun e w' => e = .returned (.bool true) ∧ Below w.heap.size w w') := by
  obtain ⟨d0, e0, rfl, f0, g0⟩ := FitL.cons hf
  obtain ⟨c0, r0, rfl, h0, k0⟩ := RdL.cons hr
  obtain ⟨d1, e1, rfl, f1, g1⟩ := FitL.cons g0
  obtain ⟨c1, r1, rfl, h1, k1⟩ := RdL.cons k0
  obtain ⟨d2, e2, rfl, f2, g2⟩ := FitL.cons g1
  obtain ⟨c2, r2, rfl, h2, k2⟩ := RdL.cons k1
  obtain ⟨d3, e3, rfl, f3, g3⟩ := FitL.cons g2
  obtain ⟨c3, r3, rfl, h3, k3⟩ := RdL.cons k2
  obtain ⟨d4, e4, rfl, f4, g4⟩ := FitL.cons g3
  obtain ⟨c4, r4, rfl, h4, k4⟩ := RdL.cons k3
  obtain ⟨d5, e5, rfl, f5, g5⟩ := FitL.cons g4
  obtain ⟨c5, r5, rfl, h5, k5⟩ := RdL.cons k4
  obtain ⟨d6, e6, rfl, f6, g6⟩ := FitL.cons g5
  obtain ⟨c6, r6, rfl, h6, k6⟩ := RdL.cons k5
  obtain ⟨d7, e7, rfl, f7, g7⟩ := FitL.cons g6
  obtain ⟨c7, r7, rfl, h7, k7⟩ := RdL.cons k6
  obtain ⟨n, rfl, _⟩ := f0.int
  rw [Rd] at h0
  subst h0
  have hv : VRL [] (.o1 :: .o1 :: .o1 :: .o1 :: .o1 :: .o1 :: .vv c7 :: List.replicate ks.length .o1) (c1 :: c2 :: c3 :: c4 :: c5 :: c6 :: c7 :: r7) := VRL.mk (by rw [VR]; exact rd_one h1 f1) (VRL.mk (by rw [VR]; exact rd_one h2 f2) (VRL.mk (by rw [VR]; exact rd_one h3 f3) (VRL.mk (by rw [VR]; exact rd_one h4 f4) (VRL.mk (by rw [VR]; exact rd_one h5 f5) (VRL.mk (by rw [VR]; exact rd_one h6 f6) (VRL.mk (by rw [VR]; exact ⟨rfl, rd_one h7 f7⟩) (vrl_o1 (ρ := []) k7 g7)))))))
  rw [hk] at hv
  have key : ∀ x : AV, VR [] x (.int .i64 n) → VRL [] [.agg (x :: .o1 :: .o1 :: .o1 :: .o1 :: .o1 :: .o1 :: .vv c7 :: List.replicate 32 .o1)] [.agg (.int .i64 n :: c1 :: c2 :: c3 :: c4 :: c5 :: c6 :: c7 :: r7).toArray] := fun x hx => VRL.mk (by rw [VR]; exact ⟨_, rfl, VRL.mk hx hv⟩) VRL.mk0
  have horc : ∀ e ∈ [((78 : Nat), [AV.vv c7])], OrcC Tryz.prog w e.1 e.2 := by
    intro e he
    simp only [List.mem_singleton] at he
    subst he
    obtain ⟨rows, rfl, b7, fR⟩ := f7.sl
    obtain ⟨a, c, rfl⟩ := h7.slv
    intro ρ w1 vs hvs hb
    obtain ⟨v, r, rfl, hv1, hv2⟩ := hvs.cons
    obtain rfl := hv2.nil
    rw [VR] at hv1
    obtain ⟨rfl, _⟩ := hv1
    refine callsIn_wide.2 ((cb_ok rows a c fR b7 w1 _ (h7.any.stays (Bl.stays hb))).mono fun e w' hR => ?_)
    obtain ⟨y, rfl, _, hb2⟩ := hR
    exact ⟨_, rfl, rfl, hb2⟩
  by_cases e : [(1 : Int), (2 : Int), (3 : Int), (8 : Int), (9 : Int)].contains n = true
  · simp only [List.contains_cons, List.contains_nil, Bool.or_false, Bool.or_eq_true, beq_iff_eq] at e
    rcases e with rfl | rfl | rfl | rfl | rfl
    · exact call_log tab_ok 3000 (tn_run0 c7) w horc (key _ VR.pl)
    · exact call_log tab_ok 3000 (tn_run1 c7) w horc (key _ VR.pl)
    · exact call_log tab_ok 3000 (tn_run2 c7) w horc (key _ VR.pl)
    · exact call_log tab_ok 3000 (tn_run3 c7) w horc (key _ VR.pl)
    · exact call_log tab_ok 3000 (tn_run4 c7) w horc (key _ VR.pl)
  · exact call_log tab_ok 3000 (tn_run5 c7) w horc (key _ (by rw [VR]; exact ⟨n, rfl, by simpa using e⟩))
end Go.Proofs.YtpdichhabjieeaaGreatDoor
