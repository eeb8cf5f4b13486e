/- The evaluator, seventh part: append, copy, conversions of strings, calls. No statement is proved here. -/
import Derived.Test.YtpdichhabjieeaaGreatDoorEw6
namespace Go.Ev
open Go.RowKit Go.Sx
set_option linter.unusedVariables false
set_option linter.unusedSimpArgs false

section
variable {P : Program} {tb : Tab} {w0 : World} {n : Nat} {ds : List Deferred}

def isStr (tb : Tab) (t : TypeId) : Bool := match tb.ty.get t with | some i => (match i.k with | .str => true | _ => false) | none => false
theorem isStr_ok (ok : TOk P tb) {t : TypeId} (h : isStr tb t = true) : P.underlying t = some .string := by
  unfold isStr at h
  split at h
  · rename_i i hi
    obtain ⟨d, inf, z, hd, _, _, hk, _⟩ := ok.at_ hi
    rw [hk] at h
    cases d <;> simp only [kindT] at h <;> first | (cases h; done) | exact hd
  · cases h
def isU8 (tb : Tab) (t : TypeId) : Bool := match tb.ty.get t with | some i => (match i.k with | .int .u8 => true | _ => false) | none => false
theorem isU8_ok (ok : TOk P tb) {t : TypeId} (h : isU8 tb t = true) : P.underlying t = some (.int .u8) := by
  unfold isU8 at h
  split at h
  · rename_i i hi
    obtain ⟨d, inf, z, hd, _, _, hk, _⟩ := ok.at_ hi
    rw [hk] at h
    cases d <;> simp only [kindT] at h <;> try (cases h; done)
    rename_i k
    cases k <;> simp only at h <;> first | (cases h; done) | exact hd
  · cases h

/-- what is appended or copied: how many elements, their cells -/
def srcA (tb : Tab) (H : AH) (es : Nat) (tx : TypeId) (x : AV) : Option (Nat × List AV) :=
  match x with
  | .sl id off m _ => (match H.get id, slA tb tx with
    | some k, some _ => let l := (k.cells.drop off).take (m * es); bif Nat.beq l.length (m * es) && l.all isOne then some (m, l) else none
    | _, _ => none)
  | .pl (.slice none 0 _) => (match slA tb tx with | some _ => some (0, []) | none => none)
  | .em => (match slA tb tx with | some _ => some (0, []) | none => none)
  | .pl (.string s) => bif isStr tb tx && Nat.beq es 1 then some (s.size, plMap (byteCells s)) else none
  | _ => none
theorem srcA_ok (ok : TOk P tb) {ρ : Names} {H : AH} {w : World} (hH : HR w0 ρ H w) {es m : Nat} {tx : TypeId} {x : AV} {v : Value} {l : List AV} (h : srcA tb H es tx x = some (m, l)) (hv : VR ρ x v) :
    ∃ news, Src P es tx v m news w ∧ VRL ρ l news ∧ l.all isOne = true := by
  unfold srcA at h
  split at h
  · rename_i id off m' cap
    rw [VR] at hv
    obtain ⟨b, c, hb, rfl, _⟩ := hv
    split at h
    · rename_i k z hk hz
      obtain ⟨e', s'⟩ := z
      obtain ⟨hT, _⟩ := slA_ok ok hz
      cases hq : (Nat.beq ((k.cells.drop off).take (m' * es)).length (m' * es) && ((k.cells.drop off).take (m' * es)).all isOne) with
      | false => simp only [hq] at h; cases h
      | true =>
        simp only [hq, cond_true, Option.some.injEq, Prod.mk.injEq] at h
        obtain ⟨rfl, rfl⟩ := h
        simp only [Bool.and_eq_true] at hq
        obtain ⟨vs, hvs, hc⟩ := (hH.at_ hk hb).cell
        have hl := (hvs.drop off).take (m' * es)
        refine ⟨_, Src.ofSlice w hT ⟨b.1, off, none⟩ m' c ((vs.drop off).take (m' * es)) (by rw [hl.length]; exact Nat.eq_of_beq_eq_true hq.1) (fun j u hu => ?_) (hl.one hq.2), hl, hq.2⟩
        rw [Addr.add_mid]
        exact rangeAt_of hc off (m' * es) j u hu
    · cases h
  · rename_i c
    rw [VR] at hv
    subst hv
    split at h
    · rename_i z hz
      obtain ⟨e', s'⟩ := z
      obtain ⟨hT, _⟩ := slA_ok ok hz
      cases h
      exact ⟨[], Src.ofNil w hT c, VRL.mk0, rfl⟩
    · cases h
  · rw [VR] at hv
    obtain ⟨a9, c, rfl, _⟩ := hv
    split at h
    · rename_i z hz
      obtain ⟨e', s'⟩ := z
      obtain ⟨hT, _⟩ := slA_ok ok hz
      cases h
      exact ⟨[], Src.ofSlice w hT a9 0 c [] (by simp) (fun j u hu => by simp at hu) (fun u hu => by simp at hu), VRL.mk0, rfl⟩
    · cases h
  · rename_i s
    rw [VR] at hv
    subst hv
    cases hq : (isStr tb tx && Nat.beq es 1) with
    | false => rw [hq] at h; cases h
    | true =>
      rw [hq] at h
      simp only [cond_true, Option.some.injEq, Prod.mk.injEq] at h
      obtain ⟨rfl, rfl⟩ := h
      simp only [Bool.and_eq_true] at hq
      obtain rfl := Nat.eq_of_beq_eq_true hq.2
      refine ⟨byteCells s, Src.ofString w (isStr_ok ok hq.1) s, VRL.plMap _, ?_⟩
      simp only [plMap, byteCells, List.all_map]
      rw [List.all_eq_true]
      intro y _
      rfl
  · cases h

theorem BR.head {ρ : Names} {k : ABlk} {cp : Nat} {o : Option Obj} (h : BR ρ k cp o) (hm : k.more = true) (m : Nat) : BR ρ { k with cells := k.cells.take m } cp o := by
  rcases h with ⟨hkk, vs, rest, fr, h1, h2, h3, h4, h5⟩ | ⟨_, h2, _⟩
  rotate_left
  · rw [h2] at hm; cases hm
  have e : vs.take m ++ (vs.drop m ++ rest) = vs ++ rest := by rw [← List.append_assoc, List.take_append_drop]
  exact .inl ⟨hkk, vs.take m, vs.drop m ++ rest, fr, by rw [e]; exact h1, h2.take m, (fun h => by have h' : k.more = false := h; rw [hm] at h'; cases h'), (fun _ => by rw [e]; exact h4 hm), h5⟩

theorem app_none (t tx ty e : TypeId) (i : TypeInfo) (ht : P.underlying t = some (.slice e)) (hi : P.info? e = some i) (x : Value) {w : World} (hs : Src P i.size tx x 0 [] w) :
    (Builtin.append_ #[t, tx] ty #[.slice none 0 0, x]).run P w = .ok (.slice none 0 0) w := by
  have hc := hs.cells
  rcases hs.kind with ⟨e', hk⟩ | hk <;> simp [Builtin.append_, run_underlying ht, run_underlying hk, sizeOf, typeInfo, hi, hs.len, hc]
theorem app_zero (t tx ty e : TypeId) (i : TypeInfo) (ht : P.underlying t = some (.slice e)) (hi : P.info? e = some i) (x : Value) {w : World} (hs : Src P i.size tx x 0 [] w) (b off len cap : Nat) (hlc : len ≤ cap) :
    (Builtin.append_ #[t, tx] ty #[.slice (some ⟨b, off, none⟩) len cap, x]).run P w = .ok (.slice (some ⟨b, off, none⟩) len cap) w := by
  have := run_append_room_src (P := P) w t tx ty e i ht hi b off len cap x 0 [] hs (by omega) (fun j hj => by simp at hj) (fun j hj => by simp at hj)
  simpa [World.setCells] using this

/-- the new row of an append that grows -/
theorem grow_ok {ρ : Names} {H : AH} {w : World} (hH : HR w0 ρ H w) (fz : Nat) (t tx ty e : TypeId) (i : TypeInfo) (z : Value) (ht : P.underlying t = some (.slice e)) (hi : P.info? e = some i) (hz : i.zero = some z) (hzs : z.cells.size = i.size)
    (base : Option Addr) (sLen sCap m : Nat) (olds news : List Value) (lo ln : List AV) (hold : (Builtin.firstCells i.size sLen (.slice base sLen sCap)).run P w.drew = .ok olds.toArray w.drew) (ho : VRL ρ lo olds) (hol : olds.length = sLen * i.size)
    (x : Value) (hs : Src P i.size tx x m news w) (hn : VRL ρ ln news) (hg : sCap < sLen + m) (hb : (sLen + m) * i.bytes ≤ 140737488355328) (hml : sLen + m ≤ 4611686018427387904) :
    ∃ ρ' w' v, (Builtin.append_ #[t, tx] ty #[.slice base sLen sCap, x]).run P w = .ok v w' ∧ Post w0 ρ H w ρ' (H.new ⟨lo ++ ln, e, true, i.size, fz, .c⟩) w' ∧ VR ρ' (.sl H.next 0 (sLen + m) (.u 0)) v := by
  have hr := run_append_grow_src (P := P) w t tx ty e i z ht hi hz base sLen sCap olds hold x m news hs hg (by omega) (growslice_fits hg hb)
  have hge := grownCap_ge w (sLen + m) sCap e
  have hle := grownCap_le_maxLen w (sLen + m) sCap e (by simp only [maxLen]; omega)
  have ha := Post.alloc hH.drew ⟨lo ++ ln, e, true, i.size, fz, .c⟩ (grownCap w (sLen + m) sCap e) (olds ++ news) (Builtin.zeroCells z.cells (grownCap w (sLen + m) sCap e - (sLen + m))).toList rfl (ho.app hn) (fun h => by cases h) (fun _ => by
    simp only [List.length_append, Array.length_toList, size_zeroCells, hol, hs.newsLen, hzs]
    rw [← Nat.add_mul, ← Nat.add_mul]
    congr 1
    omega)
  have e1 : ((olds ++ news ++ (Builtin.zeroCells z.cells (grownCap w (sLen + m) sCap e - (sLen + m))).toList).toArray : Array Value) = (olds ++ news).toArray ++ Builtin.zeroCells z.cells (grownCap w (sLen + m) sCap e - (sLen + m)) := by
    apply Array.toList_inj.1; simp
  rw [e1] at ha
  refine ⟨_, _, _, hr, ⟨ha.1.ext, ha.1.hr, ha.1.wr, ha.1.same, ha.1.kept, ha.1.size, ha.1.frame, ha.1.fresh⟩, ?_⟩
  rw [VR]
  exact ⟨_, _, ha.2, rfl, hge, hle, rfl⟩

def appendA (tb : Tab) (H : AH) (t tx : TypeId) (s x : AV) : Option (AV × AH) :=
  match slA tb t with
  | some (e, es) => (match tb.ty.get e, srcA tb H es tx x with
    | some i, some (m, l) => bif Nat.beq i.zero.length es then (match s with
      | .pl (.slice none 0 0) => (match m with
        | 0 => some (.pl (.slice none 0 0), H)
        | m => bif Nat.ble (m * i.bytes) 140737488355328 && Nat.ble m 4611686018427387904 then some (.sl H.next 0 (0 + m) (.u 0), H.new ⟨[] ++ l, e, true, es, 0, .c⟩) else none)
      | .sl id off len cap => (match m with
        | 0 => some (.sl id off len cap, H)
        | m => (match H.get id with
          | some k => (match cap with
            | .k c => bif Nat.ble (len + m) c
              then (bif Nat.ble (off + len * es + l.length) k.cells.length && Nat.ble k.frz (off + len * es) then some (.sl id off (len + m) (.k c), H.put id { k with cells := k.cells.take (off + len * es) ++ (l ++ k.cells.drop (off + len * es + l.length)) }) else none)
              else (let o := (k.cells.drop off).take (len * es)
                bif Nat.beq o.length (len * es) && Nat.ble ((len + m) * i.bytes) 140737488355328 && Nat.ble (len + m) 4611686018427387904 then some (.sl H.next 0 (len + m) (.u 0), H.new ⟨o ++ l, e, true, es, 0, .c⟩) else none)
            | .u d => bif Nat.beq d 0 && Nat.beq off 0 && k.more && Nat.beq k.es es && Nat.beq k.ty e && Nat.ble k.frz (len * es) && Nat.ble (len * es) k.cells.length && Nat.ble ((len + m) * i.bytes) 140737488355328 && Nat.ble (len + m) 4611686018427387904
              then some (.sl H.next 0 (len + m) (.u 0), (H.del id).new ⟨k.cells.take (len * es) ++ l, e, true, es, k.frz, .c⟩) else none)
          | none => none))
      | _ => none) else none
    | _, _ => none)
  | none => none

theorem first_slice {w : World} (b off len cap size : Nat) (vs : List Value) (hl : vs.length = len * size) (h : w.rangeAt b off vs) : (Builtin.firstCells size len (.slice (some ⟨b, off, none⟩) len cap)).run P w = .ok vs.toArray w :=
  run_firstCells_some w size len ⟨b, off, none⟩ len cap vs hl (fun j u hu => by rw [Addr.add_mid]; exact h j u hu)

theorem appendA_ok (ok : TOk P tb) {ρ : Names} {H H' : AH} {w : World} (hH : HR w0 ρ H w) {t tx ty : TypeId} {s x y : AV} {vs vx : Value} (h : appendA tb H t tx s x = some (y, H')) (hs : VR ρ s vs) (hx : VR ρ x vx) :
    ∃ ρ' w' v, (Builtin.append_ #[t, tx] ty #[vs, vx]).run P w = .ok v w' ∧ Post w0 ρ H w ρ' H' w' ∧ VR ρ' y v := by
  unfold appendA at h
  split at h
  · rename_i e es he
    obtain ⟨hT, inf', hinf', hsz⟩ := slA_ok ok he
    split at h
    · rename_i i m l hi hsrc
      obtain ⟨d, inf, z, hd, hinf, hz, hk, hs', hby, hzero⟩ := ok.at_ hi
      obtain rfl : inf = inf' := by rw [hinf] at hinf'; exact Option.some.inj hinf'
      subst hsz
      obtain ⟨news, hS, hl, hone⟩ := srcA_ok ok hH hsrc hx
      cases hzl : Nat.beq i.zero.length inf.size with
      | false => rw [hzl] at h; cases h
      | true =>
        rw [hzl] at h
        simp only [cond_true] at h
        have hzs : z.cells.size = inf.size := by rw [← Array.length_toList, ← hzero]; exact Nat.eq_of_beq_eq_true hzl
        have hnl := hS.newsLen
        have hll : l.length = news.length := hl.length.symm
        split at h
        · rw [VR] at hs
          subst hs
          split at h
          · cases h
            have : news = [] := List.eq_nil_of_length_eq_zero (by simpa using hnl)
            subst this
            exact ⟨ρ, w, _, app_none t tx ty e inf hT hinf vx hS, Post.refl hH, VR.pl⟩
          · rename_i m' hm0
            cases hq : (Nat.ble (m * i.bytes) 140737488355328 && Nat.ble m 4611686018427387904) with
            | false => rw [hq] at h; cases h
            | true =>
              rw [hq] at h
              cases h
              simp only [Bool.and_eq_true, Nat.ble_eq] at hq
              exact grow_ok hH 0 t tx ty e inf z hT hinf hz hzs none 0 0 m [] news [] l (run_firstCells_none w.drew inf.size 0 0 0) VRL.mk0 (by simp) vx hS hl (by
                have : m ≠ 0 := fun e => hm0 e
                omega) (by rw [← hby]; simpa using hq.1) (by omega)
        · rename_i id off len cap
          rw [VR] at hs
          obtain ⟨b, c, hb, rfl, hlc, hcm, hcap⟩ := hs
          split at h
          · cases h
            have : news = [] := List.eq_nil_of_length_eq_zero (by simpa using hnl)
            subst this
            exact ⟨ρ, w, _, app_zero t tx ty e inf hT hinf vx hS b.1 off len c hlc, Post.refl hH, by rw [VR]; exact ⟨b, c, hb, rfl, hlc, hcm, hcap⟩⟩
          · rename_i m' hm0
            split at h
            · rename_i k hkk
              have hB := hH.at_ hkk hb
              split at h
              · rename_i c'
                have hc' : c = c' := hcap
                subst hc'
                cases hroom : Nat.ble (len + m) c with
                | true =>
                  rw [hroom] at h
                  simp only [cond_true] at h
                  have hroom' : len + m ≤ c := by simpa using hroom
                  cases hq : (Nat.ble (off + len * inf.size + l.length) k.cells.length && Nat.ble k.frz (off + len * inf.size)) with
                  | false => rw [hq] at h; cases h
                  | true =>
                    rw [hq] at h
                    cases h
                    simp only [Bool.and_eq_true, Nat.ble_eq] at hq
                    have hfr := hB.free (m := l.length) hq.2 (.inl hq.1)
                    have hr := run_append_room_src (P := P) w t tx ty e inf hT hinf b.1 off len c vx m news hS hroom' (fun j hj => hfr.1 j (by omega)) (fun j hj => hfr.2 j (by omega))
                    exact ⟨ρ, _, _, hr, Post.write hH hkk hb hl hq.1, by rw [VR]; exact ⟨b, c, hb, rfl, hroom', hcm, rfl⟩⟩
                | false =>
                  rw [hroom] at h
                  simp only [cond_false] at h
                  have hroom' : c < len + m := by
                    rcases Nat.lt_or_ge c (len + m) with h9 | h9
                    · exact h9
                    · rw [Nat.ble_eq_true_of_le h9] at hroom; cases hroom
                  cases hq : (Nat.beq ((k.cells.drop off).take (len * inf.size)).length (len * inf.size) && Nat.ble ((len + m) * i.bytes) 140737488355328 && Nat.ble (len + m) 4611686018427387904) with
                  | false => rw [hq] at h; cases h
                  | true =>
                    rw [hq] at h
                    cases h
                    simp only [Bool.and_eq_true, Nat.ble_eq] at hq
                    obtain ⟨us, hus, hcl⟩ := hB.cell
                    have ho := (hus.drop off).take (len * inf.size)
                    have hol : ((us.drop off).take (len * inf.size)).length = len * inf.size := by rw [ho.length]; exact Nat.eq_of_beq_eq_true hq.1.1
                    exact grow_ok hH 0 t tx ty e inf z hT hinf hz hzs _ len c m _ news _ l (first_slice b.1 off len c inf.size _ hol (by have := rangeAt_of hcl off (len * inf.size); exact fun j u hu => this j u hu)) ho hol vx hS hl hroom' (by rw [← hby]; exact hq.1.2) hq.2
              · rename_i dd
                cases hq : (Nat.beq dd 0 && Nat.beq off 0 && k.more && Nat.beq k.es inf.size && Nat.beq k.ty e && Nat.ble k.frz (len * inf.size) && Nat.ble (len * inf.size) k.cells.length && Nat.ble ((len + m) * i.bytes) 140737488355328 && Nat.ble (len + m) 4611686018427387904) with
                | false => rw [hq] at h; cases h
                | true =>
                  rw [hq] at h
                  cases h
                  simp only [Bool.and_eq_true, Nat.ble_eq] at hq
                  obtain ⟨⟨⟨⟨⟨⟨⟨⟨q1, q2⟩, q3⟩, q4⟩, q5⟩, q6⟩, q7⟩, q8⟩, q9⟩ := hq
                  obtain rfl := Nat.eq_of_beq_eq_true q1
                  obtain rfl := Nat.eq_of_beq_eq_true q2
                  have q4 := Nat.eq_of_beq_eq_true q4
                  have q5 := Nat.eq_of_beq_eq_true q5
                  have hcp : c = b.2 := by have : c + 0 = b.2 := hcap; omega
                  have hdel := Post.del hH id
                  obtain ⟨us, hus, hcl⟩ := hB.cell
                  have ho := hus.take (len * inf.size)
                  have hol : (us.take (len * inf.size)).length = len * inf.size := by rw [List.length_take, hus.length]; omega
                  by_cases hroom : len + m ≤ c
                  · have hle : 0 + len * inf.size + l.length ≤ b.2 * k.es := by
                      rw [hll, hnl, q4, ← hcp, Nat.zero_add, ← Nat.add_mul]; exact Nat.mul_le_mul_right _ hroom
                    have hfr := hB.free (off := 0 + len * inf.size) (m := l.length) (by omega) (.inr ⟨q3, hle⟩)
                    have hr := run_append_room_src (P := P) w t tx ty e inf hT hinf b.1 0 len c vx m news hS hroom (fun j hj => hfr.1 j (by omega)) (fun j hj => hfr.2 j (by omega))
                    have hBw := (hB.head q3 (len * inf.size)).write (off := 0 + len * inf.size) hl (by simp; omega) (.inr ⟨q3, hle⟩)
                    have hkc : k.k = .c := by
                      rcases hB with h9 | ⟨_, h9, _⟩
                      · exact h9.1
                      · rw [q3] at h9; cases h9
                    have e1 : ({ k with cells := (k.cells.take (len * inf.size)).take (0 + len * inf.size) ++ (l ++ (k.cells.take (len * inf.size)).drop (0 + len * inf.size + l.length)) } : ABlk) = ⟨k.cells.take (len * inf.size) ++ l, e, true, inf.size, k.frz, .c⟩ := by
                      rw [Nat.zero_add, List.take_take, Nat.min_self, List.drop_eq_nil_of_le (by simp; omega), List.append_nil, q5, q3, q4, hkc]
                    rw [e1] at hBw
                    have hbig := (hH.rng id b hb)
                    have hP := HR.name hdel.hr ⟨k.cells.take (len * inf.size) ++ l, e, true, inf.size, k.frz, .c⟩ b.1 b.2 (w' := w.setCells b.1 (0 + len * inf.size) news) (hH.bel.trans (Lib.below_setCells_w hbig.1 _ _ _)) (by rw [setCells_size]; exact Nat.le_refl _) (by rw [setCells_size]; exact hbig)
                      (fun j g xx hj hg he' => (AH.get_del hj).1 (hH.inj j id g b xx k (AH.get_del hj).2 hkk hg hb he')) (fun j g xx hj hg => setCells_other (fun he' => (AH.get_del hj).1 (hH.inj j id g b xx k (AH.get_del hj).2 hkk hg hb he')) _ _ _) hBw
                    refine ⟨_, _, _, hr, ⟨Ext.snoc _ _, hP.1, fun j hj => List.mem_cons_of_mem _ hj, fun j xx hj hn => AH.new_same hdel.hr _ (hdel.same j xx hj hn), fun j g xx hj hn hg => setCells_other (fun he' => hn (by rw [hH.inj j id g b xx k hj hkk hg hb he']; exact List.mem_cons_self ..)) _ _ _, by rw [setCells_size]; exact Nat.le_refl _, fun c' _ hu => setCells_other (fun he' => hu id b k hkk hb he'.symm) _ _ _, fun j g xx hj hg => ?_⟩, ?_⟩
                    · rcases name_fresh hdel.hr hj hg with h1 | ⟨h1, h2⟩
                      · exact .inr ⟨id, b, k, hkk, hb, h1.symm⟩
                      · exact .inr ⟨j, g, xx, (AH.get_del h1).2, h2, rfl⟩
                    · rw [VR]
                      exact ⟨_, c, hP.2, rfl, hroom, hcm, by show c + 0 = b.2; omega⟩
                  · have hg := grow_ok hdel.hr k.frz t tx ty e inf z hT hinf hz hzs (some ⟨b.1, 0, none⟩) len c m (us.take (len * inf.size)) news (k.cells.take (len * inf.size)) l (first_slice b.1 0 len c inf.size _ hol (by have := rangeAt_of hcl 0 (len * inf.size); simpa using this)) ho hol vx hS hl (by omega) (by rw [← hby]; exact q8) q9
                    obtain ⟨ρ', w', v, g1, g2, g3⟩ := hg
                    refine ⟨ρ', w', v, g1, ?_, g3⟩
                    exact hdel.trans g2
            · cases h
        · cases h
    · cases h
  · cases h
end
end Go.Ev
