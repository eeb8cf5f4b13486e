/- The evaluator, a part ahead of the ninth: plans for regions that draw their order; results. No statement is proved here. -/
import Derived.Test.YtpdichhabjieeaaGreatDoorEw8m
namespace Go.Ev
open Go.RowKit Go.Sx
set_option linter.unusedVariables false
set_option linter.unusedSimpArgs false

inductive AX where
  | normal
  | exit (id : Nat)
  | ret
def AX.to : AX → Exit
  | .normal => .normal
  | .exit id => .exit id
  | .ret => .ret

def guardA (ops : Array Oper) (E : T AV) (o : Oper) : Option Bool :=
  match o.guard with
  | none => some true
  | some (j, want) => (match ops[j]? with
    | some q => (match q.dst with
      | some d => (match E.get d with
        | some (.pl (.bool b)) => some (b == want)
        | some (.pl (.tuple _)) => some false
        | _ => none)
      | none => none)
    | none => none)

def putA (n : Nat) (E : T AV) (dst : Option Nat) (x : AV) : Option (T AV) :=
  match dst with
  | some d => bif Nat.blt d n then some (E.set d (some x)) else none
  | none => some E

/-- may the operation write or make memory, or call? -/
def loudOp (tb : Tab) : Op → Bool
  | .alloc _ | .box _ _ | .buildSlice _ _ _ | .makeSlice _ _ _ | .store _ _ _ | .makeMap _ _ | .mapUpdate _ _ _ _ | .insert _ _ _ _ | .range _ _ | .next _ _ => true
  | .convert s d _ => (match tkA tb s, tkA tb d with | .int _, .int _ => false | _, _ => true)
  | .call c => (match c.callee with | .builtin .append | .builtin .copy | .builtin .unsafeString | .builtin .clear | .builtin .delete => true | .builtin _ => false | _ => true)
  | _ => false
def headLen : List Oper → Nat → Nat → Nat
  | [], _, m => m
  | o :: r, i, m => headLen r (i + 1) (match o.dst with | none => m | some _ => i + 1)
def pickQ (tb : Tab) (ops : Array Oper) : List Nat → Option Nat
  | [] => none
  | i :: r => match ops[i]? with
    | some o => bif loudOp tb o.op then pickQ tb ops r else some i
    | none => pickQ tb ops r
def mkPlan (tb : Tab) (ops : Array Oper) : Nat → Array Bool → List (Nat × Bool)
  | 0, _ => []
  | f + 1, listed => match Region.ready .any ops listed with
    | [] => []
    | r => match pickQ tb ops r with
      | some i => (i, true) :: mkPlan tb ops f (listed.setIfInBounds i true)
      | none => match r with
        | i :: _ => (i, false) :: mkPlan tb ops f (listed.setIfInBounds i true)
        | [] => []
def listIs : List Nat → Nat → Bool
  | [j], i => Nat.beq j i
  | _, _ => false
def planOk (ops : Array Oper) (m : Nat) : Array Bool → List (Nat × Bool) → Bool
  | listed, [] => Region.seqB .any ops (ops.size - m) m listed
  | listed, (i, true) :: r => takeOk ops m listed i && planOk ops m (listed.setIfInBounds i true) r
  | listed, (i, false) :: r => listIs (Region.ready .any ops listed) i && Nat.blt i m && planOk ops m (listed.setIfInBounds i true) r

theorem listIs_ok {l : List Nat} {i : Nat} (h : listIs l i = true) : l = [i] := by
  match l with
  | [] => cases h
  | [j] => rw [Nat.eq_of_beq_eq_true h]
  | _ :: _ :: _ => cases h

def lateOf (ops : Array Oper) : List Oper → Nat → Option (Nat × Nat × TypeId)
  | [], _ => none
  | o :: r, i => match o.op, o.dst, o.guard with
    | .alloc t, some d, none => some (i, d, t)
    | _, _, _ => lateOf ops r (i + 1)
def noDst (d : Nat) (i : Nat) : List Oper → Nat → Bool
  | [], _ => true
  | o :: r, j => (Nat.beq j i || (match o.dst with | some e => !(Nat.beq e d) | none => true)) && noDst d i r (j + 1)
def without (i : Nat) : List Nat → List Nat
  | [] => []
  | j :: r => bif Nat.beq j i then without i r else j :: without i r
def mkPlanL (tb : Tab) (ops : Array Oper) (i : Nat) : Nat → Array Bool → List (Nat × Bool)
  | 0, _ => []
  | f + 1, listed => match without i (Region.ready .any ops listed) with
    | [] => []
    | r => match pickQ tb ops r with
      | some q => (q, true) :: mkPlanL tb ops i f (listed.setIfInBounds q true)
      | none => match r with
        | q :: _ => (q, false) :: mkPlanL tb ops i f (listed.setIfInBounds q true)
        | [] => []
def planOkL (ops : Array Oper) (m i : Nat) : Array Bool → List (Nat × Bool) → Bool
  | listed, [] => listIs (Region.ready .any ops listed) i && Region.seqB .any ops (ops.size - m) m (listed.setIfInBounds i true)
  | listed, (q, true) :: r => !(Nat.beq q i) && takeOk ops m listed q && takeOk ops m (listed.setIfInBounds i true) q && planOkL ops m i (listed.setIfInBounds q true) r
  | listed, (q, false) :: r => !(Nat.beq q i) && listIs (without i (Region.ready .any ops listed)) q && listIs (Region.ready .any ops (listed.setIfInBounds i true)) q && Nat.blt q m && planOkL ops m i (listed.setIfInBounds q true) r

def resA (tb : Tab) (E : T AV) (H : AH) : ResultVar → Option AV
  | .tmp t => E.get t
  | .cell p t => (match E.get p with
    | some (.ptr id off) => (match H.get id, kindA tb t with
      | some k, some kd => readA k.cells off kd
      | _, _ => none)
    | _ => none)
def resAs (tb : Tab) (E : T AV) (H : AH) : List ResultVar → Option (List AV)
  | [] => some []
  | r :: rs => match resA tb E H r, resAs tb E H rs with | some x, some l => some (x :: l) | _, _ => none
def resV (l : List AV) : AV := match l with | [x] => x | _ => .tup l
def rvar (tmps : Array Value) : ResultVar → Sem Value
  | .tmp t => pure (tmps.getD t undef)
  | .cell a t => do loadVar t (← asAddr (tmps.getD a undef))
def envF : Nat → List AV → T AV → T AV
  | _, [], E => E
  | i, x :: r, E => envF (i + 1) r (E.set i (some x))
def envOf (args : List AV) : T AV := envF 0 args .l
end Go.Ev
