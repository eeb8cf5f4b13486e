/- The evaluator, a part between the fourth and the fifth: maps that are read. No statement is proved here. -/
import Derived.Test.YtpdichhabjieeaaGreatDoorEw4
namespace Go.Ev
open Go.RowKit Go.Sx
set_option linter.unusedVariables false
set_option linter.unusedSimpArgs false

section
variable {P : Program} {tb : Tab} {w0 : World} {n : Nat} {ds : List Deferred}

def tkA (tb : Tab) (t : TypeId) : TK := match tb.ty.get t with | some i => i.k | none => .oth
theorem tkA_ok (ok : TOk P tb) {t : TypeId} {k : TK} (h : tkA tb t = k) (hk : k ≠ .oth) : ∃ d, P.underlying t = some d ∧ kindT d = k := by
  unfold tkA at h
  split at h
  · rename_i i hi
    obtain ⟨d, inf, z, hd, _, _, hkk, _⟩ := ok.at_ hi
    exact ⟨d, hd, hkk ▸ h⟩
  · exact absurd h.symm hk

/-- types whose values are compared at once, as keys of maps -/
def descA : TK → Option TypeDesc
  | .int k => some (.int k)
  | .str => some .string
  | _ => none
theorem descA_ok (ok : TOk P tb) {t : TypeId} {d : TypeDesc} (h : descA (tkA tb t) = some d) : P.underlying t = some d ∧ ((∃ k, d = .int k) ∨ d = .string) := by
  cases hk : tkA tb t <;> rw [hk] at h <;> simp only [descA] at h <;> try (cases h; done)
  all_goals
    cases h
    obtain ⟨d, hu, hd⟩ := tkA_ok ok hk (by simp)
    cases d <;> simp only [kindT] at hd <;> try (cases hd; done)
  · exact ⟨hu, .inr rfl⟩
  · cases hd; exact ⟨hu, .inl ⟨_, rfl⟩⟩
theorem mapT_ok (ok : TOk P tb) {t k e : TypeId} (h : tkA tb t = .mp k e) : P.underlying t = some (.map k e) := by
  obtain ⟨d, hu, hd⟩ := tkA_ok ok h (by simp)
  cases d <;> simp only [kindT] at hd <;> try (cases hd; done)
  cases hd; exact hu
theorem checkKey_ok {b : Bool} {t : TypeId} {d : TypeDesc} (hu : P.underlying t = some d) (hd : (∃ k, d = .int k) ∨ d = .string) (v : Value) (w : World) : (Instr.checkKey b 10000 t v).run P w = .ok () w := by
  refine (show ∀ m, (Instr.checkKey b (m + 1) t v).run P w = .ok () w from fun m => ?_) 9999
  rcases hd with ⟨k, rfl⟩ | rfl <;> simp [Instr.checkKey, run_underlying hu]

def findA (d : TypeDesc) (k : Value) : List (AV × AV × Nat) → Nat → Option (Option (Nat × AV))
  | [], _ => some none
  | (q, v, _) :: r, i => (match plain q with
    | some u => (match Instr.sameNow d k u with
      | some true => some (some (i, v))
      | some false => findA d k r (i + 1)
      | none => none)
    | none => none)
def FOk (ρ : Names) (d : TypeDesc) (k : Value) (en : List MapEntry) (i : Nat) : Option (Nat × AV) → Prop
  | none => Instr.findNow d k en i = some none
  | some (j, x) => ∃ v, Instr.findNow d k en i = some (some (j, v)) ∧ VR ρ x v
theorem findA_ok {ρ : Names} {d : TypeDesc} {k : Value} : ∀ {es : List (AV × AV × Nat)} {en : List MapEntry} {i : Nat} {r : Option (Nat × AV)}, ER ρ es en → findA d k es i = some r → FOk ρ d k en i r
  | [], en, i, r, he, h => by
    cases h
    have : en = [] := he
    subst this; rfl
  | (q, v, b) :: es, en, i, r, he, h => by
    obtain ⟨e, en', rfl, h1, h2, h3, h4⟩ := he
    simp only [findA] at h
    split at h <;> try (cases h; done)
    rename_i u hu
    have hk := VR.plain q u _ hu h1
    split at h <;> try (cases h; done)
    · rename_i hs
      cases h
      exact ⟨e.val, by simp [Instr.findNow, hk, hs], h2⟩
    · rename_i hs
      have ih := findA_ok h4 h
      cases r with
      | none => simpa [FOk, Instr.findNow, hk, hs] using ih
      | some p =>
        obtain ⟨j, x⟩ := p
        obtain ⟨y, g1, g2⟩ := ih
        exact ⟨y, by simp [Instr.findNow, hk, hs, g1], g2⟩

def lookupA (tb : Tab) (es : List (AV × AV × Nat)) (xt : TypeId) (kv : Value) (ok : Bool) : Option AV :=
  match tkA tb xt with
  | .mp kt et => (match descA (tkA tb kt), tb.ty.get et with
    | some d, some ti => (match findA d kv es 0 with
      | some (some (_, v)) => some (bif ok then .tup [v, .pl (.bool true)] else v)
      | some none => some (bif ok then .tup [.pl ti.zv, .pl (.bool false)] else .pl ti.zv)
      | none => none)
    | _, _ => none)
  | _ => none
theorem lookupA_ok (ok : TOk P tb) {ρ : Names} {es : List (AV × AV × Nat)} {en : List MapEntry} {xt : TypeId} {kv : Value} {co : Bool} {x : AV} {m : Value} {w : World} (h : lookupA tb es xt kv co = some x) (he : ER ρ es en)
    (hm : (m = .map none ∧ en = []) ∨ ∃ r cl, m = .map (some r) ∧ w.heap[r]? = some (.map en.toArray cl)) :
    ∃ v, VR ρ x v ∧ ∀ w' : World, (∀ r, m = .map (some r) → w'.heap[r]? = w.heap[r]?) → (Instr.lookup xt m kv co).run P w' = .ok v w' := by
  unfold lookupA at h
  split at h <;> try (cases h; done)
  rename_i kt et hT
  split at h <;> try (cases h; done)
  rename_i d ti hd hti
  obtain ⟨hu, hk⟩ := descA_ok ok hd
  have hM := mapT_ok ok hT
  obtain ⟨inf, hinf, hz⟩ := ok.zv hti
  have hck : ∀ (b : Bool) (w' : World), (Instr.checkKey b 10000 kt kv).run P w' = .ok () w' := fun b w' => checkKey_ok hu hk kv w'
  split at h <;> try (cases h; done)
  · rename_i j v hf
    obtain ⟨y, g1, g2⟩ := findA_ok he hf
    have hfk : ∀ w', (Instr.findKey kt kv en).run P w' = .ok (some (j, y)) w' := fun w' => by simp [Instr.findKey, run_underlying hu, g1]
    cases co
    · cases h
      refine ⟨y, g2, fun w' hw' => ?_⟩
      rcases hm with ⟨rfl, rfl⟩ | ⟨r, cl, rfl, hr⟩
      · simp [Instr.lookup, run_underlying hM, hck, hfk]
      · have hg : (getObj r).run P w' = .ok (.map en.toArray cl) w' := by simp [getObj, Sem.run, hw' r rfl, hr]
        simp [Instr.lookup, run_underlying hM, hck, hfk, hg]
    · cases h
      refine ⟨.tuple #[y, .bool true], by show VR ρ (.tup [v, .pl (.bool true)]) _; rw [VR]; exact ⟨[y, .bool true], rfl, VRL.mk g2 (VRL.mk VR.pl VRL.mk0)⟩, fun w' hw' => ?_⟩
      rcases hm with ⟨rfl, rfl⟩ | ⟨r, cl, rfl, hr⟩
      · simp [Instr.lookup, run_underlying hM, hck, hfk]
      · have hg : (getObj r).run P w' = .ok (.map en.toArray cl) w' := by simp [getObj, Sem.run, hw' r rfl, hr]
        simp [Instr.lookup, run_underlying hM, hck, hfk, hg]
  · rename_i hf
    have g1 : Instr.findNow d kv en 0 = some none := findA_ok he hf
    have hfk : ∀ w', (Instr.findKey kt kv en).run P w' = .ok none w' := fun w' => by simp [Instr.findKey, run_underlying hu, g1]
    have hzv : ∀ w', (zeroValue et).run P w' = .ok ti.zv w' := fun w' => by simp [zeroValue, typeInfo, hinf, hz]
    cases co
    · cases h
      refine ⟨ti.zv, VR.pl, fun w' hw' => ?_⟩
      rcases hm with ⟨rfl, rfl⟩ | ⟨r, cl, rfl, hr⟩
      · simp [Instr.lookup, run_underlying hM, hck, hfk, hzv]
      · have hg : (getObj r).run P w' = .ok (.map en.toArray cl) w' := by simp [getObj, Sem.run, hw' r rfl, hr]
        simp [Instr.lookup, run_underlying hM, hck, hfk, hg, hzv]
    · cases h
      refine ⟨.tuple #[ti.zv, .bool false], by show VR ρ (.tup [.pl ti.zv, .pl (.bool false)]) _; rw [VR]; exact ⟨[ti.zv, .bool false], rfl, VRL.mk VR.pl (VRL.mk VR.pl VRL.mk0)⟩, fun w' hw' => ?_⟩
      rcases hm with ⟨rfl, rfl⟩ | ⟨r, cl, rfl, hr⟩
      · simp [Instr.lookup, run_underlying hM, hck, hfk, hzv]
      · have hg : (getObj r).run P w' = .ok (.map en.toArray cl) w' := by simp [getObj, Sem.run, hw' r rfl, hr]
        simp [Instr.lookup, run_underlying hM, hck, hfk, hg, hzv]
/-- the entries of a map -/
def entA (H : AH) : AV → Option (List (AV × AV × Nat))
  | .mp id => (match H.get id with | some k => (match k.k with | .m es _ => some es | _ => none) | none => none)
  | .pl (.map none) => some []
  | _ => none
theorem ER.length {ρ : Names} : ∀ {l : List (AV × AV × Nat)} {en : List MapEntry}, ER ρ l en → en.length = l.length
  | [], en, h => by rw [show en = [] from h]; rfl
  | (k, v, b) :: r, _, h => by obtain ⟨e, es, rfl, _, _, _, h5⟩ := h; simp [ER.length h5]
theorem entA_ok {ρ : Names} {H : AH} {w : World} (hH : HR w0 ρ H w) {x : AV} {m : Value} {es : List (AV × AV × Nat)} (h : entA H x = some es) (hv : VR ρ x m) :
    ∃ en, ER ρ es en ∧ ((m = .map none ∧ en = []) ∨ ∃ r cl, m = .map (some r) ∧ w.heap[r]? = some (.map en.toArray cl)) ∧ (∀ r, m = .map (some r) → ∃ id b, x = .mp id ∧ ρ[id]? = some b ∧ b.1 = r) := by
  unfold entA at h
  split at h
  · rename_i id
    split at h <;> try (cases h; done)
    rename_i k hk
    split at h <;> try (cases h; done)
    rename_i es' cl hkk
    cases h
    rw [VR] at hv
    obtain ⟨b, hb, rfl⟩ := hv
    obtain ⟨_, _, hO⟩ := (hH.at_ hk hb).o (by rw [hkk]; simp)
    rw [hkk] at hO
    obtain ⟨en, h1, h2⟩ := hO
    exact ⟨en, h2, .inr ⟨b.1, cl, rfl, h1⟩, fun r hr => ⟨id, b, rfl, hb, by cases hr; rfl⟩⟩
  · cases h
    rw [VR] at hv
    exact ⟨[], rfl, .inl ⟨hv, rfl⟩, fun r hr => by rw [hv] at hr; cases hr⟩
  · cases h
end
end Go.Ev
