/- The evaluator, fifth part: one operation that reads at the most. No statement is proved here. -/
import Derived.Test.YtpdichhabjieeaaGreatDoorEw4m
namespace Go.Ev
open Go.RowKit Go.Sx
set_option linter.unusedVariables false
set_option linter.unusedSimpArgs false

section
variable {P : Program} {tb : Tab} {w0 : World} {n : Nat} {ds : List Deferred}

def execQ (P : Program) (tb : Tab) (E : T AV) (H : AH) (o : Oper) : Option AV :=
  match o.op with
  | .move x => opnd E x
  | .assign x => opnd E x
  | .pick c x y => (match pv E c with
    | some (.bool true) => opnd E x
    | some (.bool false) => opnd E y
    | _ => none)
  | .load t x => (match opnd E x with
    | some (.ptr id off) => (match H.get id, kindA tb t with
      | some k, some kd => readA k.cells off kd
      | _, _ => none)
    | _ => none)
  | .nilCheck x => (match opnd E x with
    | some (.ptr id off) => some (.ptr id off)
    | some (.fn (.func f) a c) => some (.fn (.func f) a c)
    | _ => plainOp P E o)
  | .fieldAddr s x f => (match opnd E x with | some y => fieldAddrA tb s y f | none => none)
  | .field s x f => (match opnd E x with
    | some (.agg l) => fieldA tb s (.agg l) f
    | _ => plainOp P E o)
  | .indexAddr t x i => (match opnd E x, pv E i with
    | some y, some v => (match natV v with | some i => indexAddrA tb t y i | none => none)
    | _, _ => none)
  | .index t x i => (match opnd E x, pv E i with
    | some (.agg l), some v => (match natV v with | some i => indexA tb t (.agg l) i | none => none)
    | _, _ => plainOp P E o)
  | .slice t x lo hi mx => (match mx, opnd E x with
    | none, some (.sl id off len cap) => (match bnd E 0 lo, bnd E len hi with
      | some l, some h => sliceA tb t (.sl id off len cap) l h
      | _, _ => none)
    | none, some .em => (match bnd E 0 lo, bnd E 0 hi with
      | some l, some h => sliceA tb t .em l h
      | _, _ => none)
    | some mo, some (.sl id off len cap) => (match hi with
      | some ho => (match bnd E 0 lo, bnd E 0 (some ho), bnd E 0 (some mo) with
        | some l, some h, some m => slice3A tb t (.sl id off len cap) l h m
        | _, _, _ => none)
      | none => none)
    | _, _ => plainOp P E o)
  | .lookup xt x ix co => (match opnd E x, pv E ix with
    | some y, some kv => (match entA H y with
      | some es => lookupA tb es xt kv co
      | none => plainOp P E o)
    | _, _ => none)
  | .extract x i => (match opnd E x with
    | some (.tup l) => extractA (.tup l) i
    | _ => plainOp P E o)
  | .makeFunc f a c => (match opnds E a.toList, opnds E c.toList with
    | some x, some y => some (.fn f x y)
    | _, _ => none)
  | .makeInterface t x => (match opnd E x, tb.ty.get t with
    | some y, some i => (match i.k with | .ifc => none | _ => some (.ifc t y))
    | _, _ => none)
  | .build t ps => buildA tb E t ps.toList
  | .binOp op t x y _ => (match pv E x, pv E y with
    | some u, some v => (match pureVal P (do eqGuard op t x y u v; binOp op t u v) with | some r => some (.pl r) | none => none)
    | _, _ => (match opnd E x, opnd E y with | some a, some b => eqA tb H op t a b | _, _ => none))
  | .call c => (match c.callee, c.args.toList, c.argTypes.toList with
    | .builtin .len, [x], [t] => (match opnd E x with
      | some (.sl _ _ len _) => (match slA tb t with | some _ => some (.pl (.int .i64 (len : Int))) | none => none)
      | some .em => (match slA tb t with | some _ => some (.pl (.int .i64 0)) | none => none)
      | some (.mp id) => (match entA H (.mp id), tkA tb t with
        | some es, .mp _ _ => some (.pl (.int .i64 (es.length : Int)))
        | _, _ => none)
      | _ => plainOp P E o)
    | .builtin .cap, [x], [t] => (match opnd E x, slA tb t with
      | some (.sl _ _ _ (.k c)), some _ => some (.pl (.int .i64 (c : Int)))
      | _, _ => plainOp P E o)
    | .builtin .unsafeSliceData, [x], _ => (match opnd E x with
      | some (.sl id off (_ + 1) _) => some (.ptr id off)
      | _ => plainOp P E o)
    | .builtin _, _, _ => plainOp P E o
    | _, _, _ => none)
  | .alloc _ | .box _ _ | .buildSlice _ _ _ | .store _ _ _ | .makeSlice _ _ _ => none
  | _ => plainOp P E o

def touch (E : T AV) (o : Oper) : Option Nat :=
  match o.op with
  | .load _ x => (match opnd E x with | some (.ptr id _) => some id | _ => none)
  | .lookup _ x _ _ => (match opnd E x with | some (.mp id) => some id | _ => none)
  | .call c => (match c.callee, c.args.toList with
    | .builtin .len, [x] => (match opnd E x with | some (.mp id) => some id | _ => none)
    | _, _ => none)
  | _ => none

def QOk (P : Program) (ρ : Names) (E : T AV) (a : Act) (w : World) (o : Oper) (x : AV) : Prop :=
  ∃ v, VR ρ x v ∧ ∀ w', (∀ (id : Nat) (b : Nat × Nat), touch E o = some id → ρ[id]? = some b → w'.heap[b.1]? = w.heap[b.1]?) → (execOp a.eval o).run P w' = .ok (.value v) w'

theorem qok_plain {ρ : Names} {E : T AV} {a : Act} {w : World} (hF : FR n ds ρ E a) {o : Oper} {x : AV} (h : plainOp P E o = some x) : QOk P ρ E a w o x := by
  obtain ⟨v, rfl, hr⟩ := plainOp_ok hF h
  exact ⟨v, VR.pl, fun w' _ => hr w'⟩
theorem qok_of {ρ : Names} {E : T AV} {a : Act} {w : World} {o : Oper} {x : AV} {s : Sem Value} (he : execOp a.eval o = (do pure (Next.value (← s)))) (h : ∃ r, VR ρ x r ∧ ∀ w, s.run P w = .ok r w) : QOk P ρ E a w o x := by
  obtain ⟨r, h1, h2⟩ := h
  exact ⟨r, h1, fun w' _ => by rw [he]; simp [h2]⟩

theorem execQ_ok (ok : TOk P tb) {ρ : Names} {E : T AV} {a : Act} {H : AH} {w : World} (hF : FR n ds ρ E a) (hH : HR w0 ρ H w) {o : Oper} {x : AV} (h : execQ P tb E H o = some x) : QOk P ρ E a w o x := by
  obtain ⟨dst, op, type, pos, after, guard⟩ := o
  cases op <;> simp only [execQ] at h
  case move y => exact qok_of (s := pure (a.eval y)) rfl ⟨_, hF.opnd h, fun w => by simp⟩
  case assign y => exact qok_of (s := pure (a.eval y)) rfl ⟨_, hF.opnd h, fun w => by simp⟩
  case pick c y z =>
    split at h
    · rename_i hc; exact ⟨_, hF.opnd h, fun w' _ => by simp [execOp, hF.pv hc, asBool]⟩
    · rename_i hc; exact ⟨_, hF.opnd h, fun w' _ => by simp [execOp, hF.pv hc, asBool]⟩
    · cases h
  case load t y =>
    split at h
    · rename_i id off hy
      split at h
      · rename_i k kd hk hkd
        have hv := hF.opnd hy
        rw [VR] at hv
        obtain ⟨b, hb, he⟩ := hv
        obtain ⟨v, hr, hx⟩ := load_ok (hH.at_ hk hb) (kindA_ok ok hkd) h
        refine ⟨v, hx, fun w' hw' => ?_⟩
        have := hr w' (hw' id b (by simp [touch, hy]) hb)
        simp [execOp, Instr.loadAt, he, Instr.sureAddr, this]
      · cases h
    · cases h
  case nilCheck y =>
    split at h
    · rename_i id off hy
      cases h
      have hv := hF.opnd hy
      have hv' := hv
      rw [VR] at hv
      obtain ⟨b, hb, he⟩ := hv
      exact ⟨_, hv', fun w' _ => by simp [execOp, he]⟩
    · rename_i f p q hy
      cases h
      have hv := hF.opnd hy
      have hv' := hv
      rw [VR] at hv
      obtain ⟨vs, us, he, _⟩ := hv
      exact ⟨_, hv', fun w' _ => by simp [execOp, he]⟩
    · exact qok_plain hF h
  case fieldAddr s y f =>
    split at h
    · rename_i z hz; exact qok_of rfl (fieldAddrA_ok ok h (hF.opnd hz))
    · cases h
  case field s y f =>
    split at h
    · rename_i l hl; exact qok_of rfl (fieldA_ok ok h (hF.opnd hl))
    · exact qok_plain hF h
  case indexAddr t y i =>
    split at h
    · rename_i z v hz hv
      split at h
      · rename_i m hm
        have := indexAddrA_ok ok h (hF.opnd hz) hm
        exact qok_of (s := Instr.indexAt t (a.eval y) (a.eval i)) rfl (by rw [hF.pv hv]; exact this)
      · cases h
    · cases h
  case index t y i =>
    split at h
    · rename_i l v hz hv
      split at h
      · rename_i m hm
        have := indexA_ok ok h (hF.opnd hz) hm
        exact qok_of (s := Instr.index t (a.eval y) (a.eval i)) rfl (by rw [hF.pv hv]; exact this)
      · cases h
    · exact qok_plain hF h
  case slice t y lo hi mx =>
    split at h
    · rename_i id off len cap hy
      split at h
      · rename_i l m hl hm
        exact qok_of rfl (sliceA_ok ok hF h rfl (hF.opnd hy) hl hm)
      · cases h
    · rename_i hy
      split at h
      · rename_i l m hl hm
        exact qok_of rfl (sliceA_ok ok hF h rfl (hF.opnd hy) hl hm)
      · cases h
    · rename_i mo id off len cap hy
      split at h
      · rename_i ho
        split at h
        · rename_i l q m hl hq hm
          exact qok_of rfl (slice3A_ok ok hF h (hF.opnd hy) hl hq hm)
        · cases h
      · cases h
    · exact qok_plain hF h
  case lookup xt y ix co =>
    split at h
    · rename_i z kv hz hkv
      split at h
      · rename_i es hes
        obtain ⟨en, h1, h2, h3⟩ := entA_ok hH hes (hF.opnd hz)
        obtain ⟨v, g1, g2⟩ := lookupA_ok ok h h1 h2
        refine ⟨v, g1, fun w' hw' => ?_⟩
        have := g2 w' (fun r hr => by
          obtain ⟨id, b, rfl, hb, rfl⟩ := h3 r hr
          exact hw' id b (by simp [touch, hz]) hb)
        simp [execOp, hF.pv hkv, this]
      · exact qok_plain hF h
    · cases h
  case extract y i =>
    split at h
    · rename_i l hl; exact qok_of rfl (extractA_ok h (hF.opnd hl))
    · exact qok_plain hF h
  case makeFunc f p q =>
    split at h
    · rename_i y z hy hz
      cases h
      refine qok_of (s := Instr.makeFunc f (p.map a.eval) (q.map a.eval)) rfl ⟨_, ?_, fun w => by simp [Instr.makeFunc]; rfl⟩
      rw [VR]
      have am : ∀ r : Array Operand, r.map a.eval = (r.toList.map a.eval).toArray := fun r => by apply Array.toList_inj.1; simp
      exact ⟨_, _, by rw [am p, am q], hF.opnds hy, hF.opnds hz⟩
    · cases h
  case makeInterface t y =>
    split at h
    · rename_i z i hz hi
      obtain ⟨d, inf, zz, hd, _, _, hk, _⟩ := ok.at_ hi
      rw [hk] at h
      refine qok_of (s := Instr.makeInterface t (a.eval y)) rfl ⟨.iface t (a.eval y), ?_, fun w => ?_⟩
      · have : x = .ifc t z := by cases d <;> simp only [kindT] at h <;> cases h <;> rfl
        subst this
        rw [VR]; exact ⟨_, rfl, hF.opnd hz⟩
      · cases d <;> simp only [kindT] at h <;> first | (cases h; done) | simp [Instr.makeInterface, run_underlying hd]
    · cases h
  case build t ps => exact qok_of rfl (buildA_ok ok hF h)
  case binOp op t y z yt =>
    split at h
    · rename_i u v hu hv
      split at h
      · rename_i r hr
        cases h
        refine ⟨r, VR.pl, fun w' _ => ?_⟩
        have := pureVal_run _ _ hr w'
        simp only [execOp, hF.pv hu, hF.pv hv]
        rw [Sem.run_bind, this, Result.andThen_ok, Sem.run_pure]
      · cases h
    · split at h
      · rename_i p q hp hq
        exact qok_of rfl (eqA_ok ok hH h (hF.opnd hp) (hF.opnd hq) y z)
      · cases h
  case call c =>
    obtain ⟨callee, args, argTypes⟩ := c
    split at h
    · rename_i y t hc hargs hts
      simp only at hc hargs hts
      subst hc
      split at h
      · rename_i id off len cap hy
        split at h <;> try (cases h; done)
        rename_i z hz
        cases h
        obtain ⟨e, s⟩ := z
        obtain ⟨hT, _⟩ := slA_ok ok hz
        have hv := hF.opnd hy
        rw [VR] at hv
        obtain ⟨b, c, _, he, _⟩ := hv
        refine ⟨_, VR.pl, fun w' _ => ?_⟩
        have h1 : args = #[y] := by apply Array.toList_inj.1; simpa using hargs
        have h2 : argTypes = #[t] := by apply Array.toList_inj.1; simpa using hts
        subst h1 h2
        simp [execOp, resolve, invoke, builtin, Builtin.len_, run_underlying hT, he, goInt]
      · rename_i hy
        split at h <;> try (cases h; done)
        rename_i z hz
        cases h
        obtain ⟨e, s⟩ := z
        obtain ⟨hT, _⟩ := slA_ok ok hz
        have hv := hF.opnd hy
        rw [VR] at hv
        obtain ⟨b, c, he, _⟩ := hv
        refine ⟨_, VR.pl, fun w' _ => ?_⟩
        have h1 : args = #[y] := by apply Array.toList_inj.1; simpa using hargs
        have h2 : argTypes = #[t] := by apply Array.toList_inj.1; simpa using hts
        subst h1 h2
        simp [execOp, resolve, invoke, builtin, Builtin.len_, run_underlying hT, he, goInt]
      · rename_i id hy
        split at h <;> try (cases h; done)
        rename_i es kt et hes hT
        cases h
        have hM := mapT_ok ok hT
        obtain ⟨en, g1, g2, g3⟩ := entA_ok hH hes (hF.opnd hy)
        have h1 : args = #[y] := by apply Array.toList_inj.1; simpa using hargs
        have h2 : argTypes = #[t] := by apply Array.toList_inj.1; simpa using hts
        subst h1 h2
        refine ⟨_, VR.pl, fun w' hw' => ?_⟩
        rcases g2 with ⟨e1, _⟩ | ⟨r, cl, e1, e2⟩
        · have hv := hF.opnd hy
          rw [VR] at hv
          obtain ⟨b, _, he⟩ := hv
          rw [e1] at he; cases he
        · obtain ⟨id', b, e3, hb, rfl⟩ := g3 r e1
          cases e3
          have := hw' id b (by simp [touch, hy]) hb
          rw [e2] at this
          simp [execOp, resolve, invoke, builtin, Builtin.len_, run_underlying hM, e1, goInt, getObj, Sem.run, this, g1.length]
      · exact qok_plain hF h
    · rename_i y t hc hargs hts
      simp only at hc hargs hts
      subst hc
      split at h
      · rename_i id off len cap z hy hz
        cases h
        obtain ⟨e, s⟩ := z
        obtain ⟨hT, _⟩ := slA_ok ok hz
        have hv := hF.opnd hy
        rw [VR] at hv
        obtain ⟨b, c, _, he, _, _, hcap⟩ := hv
        have hcc := hcap
        simp only [CapOk] at hcc
        refine ⟨_, VR.pl, fun w' _ => ?_⟩
        have h1 : args = #[y] := by apply Array.toList_inj.1; simpa using hargs
        have h2 : argTypes = #[t] := by apply Array.toList_inj.1; simpa using hts
        subst h1 h2
        simp [execOp, resolve, invoke, builtin, Builtin.cap_, run_underlying hT, he, goInt, hcc]
      · exact qok_plain hF h
    · rename_i y hc hargs
      simp only at hc hargs
      subst hc
      split at h
      · rename_i id off m cap hy
        cases h
        have hv := hF.opnd hy
        rw [VR] at hv
        obtain ⟨b, c, hb, he, hlc, _⟩ := hv
        refine ⟨.pointer (some ⟨b.1, off, none⟩), by rw [VR]; exact ⟨b, hb, rfl⟩, fun w' _ => ?_⟩
        have h1 : args = #[y] := by apply Array.toList_inj.1; simpa using hargs
        subst h1
        have hc0 : c ≠ 0 := by omega
        have hsd : ∀ ats ty, (Builtin.unsafeSliceData_ ats ty #[.slice (some ⟨b.1, off, none⟩) (m + 1) c]).run P w' = .ok (.pointer (some ⟨b.1, off, none⟩)) w' := fun ats ty => by
          show Sem.run P (if c ≠ 0 then pure (Value.pointer (some ⟨b.1, off, none⟩)) else _) w' = _
          rw [if_pos hc0]; rfl
        simp [execOp, resolve, invoke, builtin, he, hsd]
      · exact qok_plain hF h
    · exact qok_plain hF h
    · cases h
  all_goals first
    | (cases h; done)
    | exact qok_plain hF h
end
end Go.Ev
