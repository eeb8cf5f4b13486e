/- Struct values built of parts whose cells are known in segments, for the calculus 'Sx'. No statement is proved here. -/
import Derived.Test.YtpdichhabjieeaaGreatDoorCa
namespace Go.Sx
open Go.RowKit
set_option linter.unusedVariables false

theorem szR_mem {rs : List (List D)} {r : List D} (h : r ∈ rs) : szL r < szR rs := by
  obtain ⟨i, hi⟩ := List.getElem?_of_mem h
  exact szR_get hi
theorem FitR.mem {sh : Nat → List K} {by_ : Nat → Nat} {rs : List (List D)} {ks : List K} (h : FitR sh by_ rs ks) {r : List D} (hr : r ∈ rs) : FitL sh by_ r ks := by
  obtain ⟨i, hi⟩ := List.getElem?_of_mem hr
  exact h.get i r hi

theorem foldl_setS : ∀ (vs : List Value) (k off : Nat) (cs : Array Value), off + k + vs.length ≤ cs.size →
    ((vs.zipIdx k).foldl (fun (cs : Array Value) (p : Value × Nat) => cs.setIfInBounds (off + p.2) p.1) cs).toList = cs.toList.take (off + k) ++ (vs ++ cs.toList.drop (off + k + vs.length))
  | [], k, off, cs, h => by simp
  | v :: r, k, off, cs, h => by
    simp only [List.zipIdx_cons, List.foldl_cons]
    simp only [List.length_cons] at h
    rw [foldl_setS r (k + 1) off _ (by simp; omega)]
    simp only [Array.toList_setIfInBounds, List.length_cons]
    have hlt : off + k < cs.toList.length := by simp; omega
    rw [show off + (k + 1) = off + k + 1 by omega, show off + k + 1 + r.length = off + k + (r.length + 1) by omega]
    rw [List.take_set, List.drop_set_of_lt (by omega), List.take_succ_eq_append_getElem hlt]
    rw [List.set_append_right _ _ (by simp; omega)]
    simp [Nat.min_eq_left (Nat.le_of_lt (by simpa using hlt))]

section
variable {P : Program} {S : World → Prop} {e : Env}
theorem fill_seg {place : Nat → Option (Nat × Nat)} {i off size : Nat} {v : Value} {rest : List (Nat × Value)} {pre mid post : List Value} (seg : List Value) (hp : place i = some (off, size)) (hv : v.cells = seg.toArray) (hs : seg.length = size) (ho : pre.length = off) (hm : mid.length = size) :
    Instr.fill place (pre ++ mid ++ post).toArray ((i, v) :: rest) = Instr.fill place (pre ++ seg ++ post).toArray rest := by
  simp only [Instr.fill, hp]
  rw [if_neg (by simp [hv, hs]; omega)]
  congr 1
  apply Array.toList_inj.1
  rw [← Array.foldl_toList, Array.toList_zipIdx, hv]
  have := foldl_setS seg 0 off (pre ++ mid ++ post).toArray (by simp; omega)
  simp only [Nat.add_zero] at this
  subst ho
  have hd : List.drop (pre.length + seg.length) (pre ++ mid ++ post) = post := by rw [hs, ← hm, ← List.length_append, List.drop_left]
  have ht : List.take pre.length (pre ++ mid ++ post) = pre := by rw [List.append_assoc, List.take_left]
  refine Eq.trans ?_ (this.trans ?_)
  · rfl
  · simp only [hd, ht]; simp
def placesL (P : Program) : List Field → Option (List (Nat × Nat))
  | [] => some []
  | f :: fs => match P.info? f.type, placesL P fs with | some i, some l => some ((f.offset, i.size) :: l) | _, _ => none
theorem places_run (w : World) : ∀ {fs : List Field} {l : List (Nat × Nat)}, placesL P fs = some l → (fs.mapM (fun f => (do pure (f.offset, ← sizeOf f.type) : Sem (Nat × Nat)))).run P w = .ok l w
  | [], l, h => by cases h; simp
  | f :: fs, l, h => by
    simp only [placesL] at h
    split at h
    · rename_i i l' h1 h2
      cases h
      have := places_run w h2
      have hf : (do pure (f.offset, ← sizeOf f.type) : Sem (Nat × Nat)).run P w = .ok (f.offset, i.size) w := by simp [sizeOf, typeInfo, h1]
      rw [List.mapM_cons, Sem.run_bind, hf, Result.andThen_ok, Sem.run_bind, this, Result.andThen_ok, Sem.run_pure]
    · cases h
def placesT (P : Program) (t : TypeId) : Option (List (Nat × Nat)) := match P.underlying t with | some (.struct fs) => placesL P fs.toList | _ => none
theorem yl_build {o : Oper} {t : TypeId} {ps : Array (Nat × Operand)} (z : Value) (pl : List (Nat × Nat)) (pv : List (Nat × Value)) {c : Array Value} (ho : o.op = .build t ps)
    (hz : (P.info? t).bind (·.zero) = some z) (hp : placesT P t = some pl) (hv : ps.toList.map (fun x => (x.1, rho e x.2)) = pv) (hf : Instr.fill (fun j => pl[j]?) z.cells pv = some c) : Yl P S e o (.agg c) := fun w _ => by
  obtain ⟨inf, hinf, hz⟩ := Option.bind_eq_some_iff.1 hz
  obtain ⟨fs, hu, hp⟩ : ∃ fs, P.underlying t = some (.struct fs) ∧ placesL P fs.toList = some pl := by
    unfold placesT at hp
    split at hp
    · rename_i fs hu; exact ⟨fs, hu, hp⟩
    · cases hp
  have hlist : (ps.map fun (x : Nat × Operand) => match x with | (i, x) => (i, rho e x)).toList = pv := by rw [← hv]; simp
  have hmap : (fs.mapM (fun f => (do pure (f.offset, ← sizeOf f.type) : Sem (Nat × Nat)))).run P w = .ok pl.toArray w := by
    rw [Array.mapM_eq_mapM_toList, map_eq_pure_bind, Sem.run_bind, places_run w hp, Result.andThen_ok, Sem.run_pure]
  have hzv : (zeroValue t).run P w = .ok z w := by simp [zeroValue, typeInfo, hinf, hz]
  have hul : (underlying t).run P w = .ok (.struct fs) w := by simp [underlying, hu]
  unfold execOp
  simp only [ho]
  simp only [Instr.build, Sem.run_bind, hzv, Result.andThen_ok, hul, hlist, hmap, List.getElem?_toArray, hf, Sem.run_pure]
end
end Go.Sx
