/- From the model's code to the small one. No program. -/
import Derived.Test.YtfaieigeojiiiaaGreatVo
import Derived.Test.YtfaieigeojiiiaaGreatCg
set_option linter.unusedVariables false
set_option linter.unusedSectionVars false
set_option linter.unusedSimpArgs false
noncomputable section
namespace Go.Va
open Go Go.Sh
variable [Vb]

/-- A region's plan: its head's length; its head in order: 0: what turns nothing, 1: what floats, 2: an effect. -/
structure RP where
  hd : Nat
  ord : List (Nat × Nat)
def tmpsOf : List Operand → List Nat
  | [] => []
  | .tmp t :: r => t :: tmpsOf r
  | _ :: r => tmpsOf r
def gdst (ops : Array Oper) (o : Oper) : List Nat := match o.guard with
  | none => []
  | some (j, _) => match (ops[j]?).bind (·.dst) with
    | some d => [d]
    | none => []
def tsOf (ops : Array Oper) (o : Oper) : List Nat := gdst ops o ++ tmpsOf o.op.operands.toList
def depsAt (ops : Array Oper) (i : Nat) : List Nat := match ops[i]? with
  | some o => depsOf o
  | none => []
/-- What an operation hangs on, through others too. -/
inductive Anc (ops : Array Oper) : Nat → Nat → Prop
  | one {i j : Nat} : j ∈ depsAt ops i → Anc ops i j
  | more {i j k : Nat} : j ∈ depsAt ops i → Anc ops j k → Anc ops i k
def ancN (ops : Array Oper) : Nat → Nat → List Nat
  | 0, _ => []
  | n + 1, i => depsAt ops i ++ (depsAt ops i).flatMap (ancN ops n)
theorem ancN_ok {ops : Array Oper} : ∀ {n i j : Nat}, j ∈ ancN ops n i → Anc ops i j
  | 0, _, _, h => by cases h
  | n + 1, i, j, h => by
    rcases List.mem_append.1 h with h | h
    · exact .one h
    · obtain ⟨k, hk, h⟩ := List.mem_flatMap.1 h
      exact .more hk (ancN_ok h)
def isAlc : MOp → Bool
  | .alc _ => true
  | .box _ => true
  | .bsl _ _ _ _ _ => true
  | .mks _ _ _ _ _ => true
  | _ => false
/-- What floats and is read. -/
def ancQ (P : Program) (ops : Array Oper) (m : MOp) (i : Nat) : List Nat := bif isLd m then ((ancN ops 6 i).filter fun j => match ops[j]? with
  | some o => isAlc (copN P o)
  | none => false) else []
theorem ancQ_ok {P : Program} {ops : Array Oper} {m : MOp} {i j : Nat} (h : j ∈ ancQ P ops m i) : Anc ops i j := by
  unfold ancQ at h
  cases hb : isLd m with
  | false => rw [hb] at h; cases h
  | true => rw [hb] at h; exact ancN_ok (List.mem_filter.1 h).1
def cRE (P : Program) (n : Nat) (ops : Array Oper) (k i : Nat) : Option RE := match ops[i]? with
  | some o => match cO P n ops o with
    | some c => match k with
      | 0 => some (.q i (tsOf ops o) c (ancQ P ops c.m i))
      | 1 => some (.a i (tsOf ops o) c)
      | _ => some (.e i (tsOf ops o) c (depsOf o))
    | none => none
  | none => none
def cREL (P : Program) (n : Nat) (ops : Array Oper) : List (Nat × Nat) → Option (List RE)
  | [] => some []
  | p :: r => match cRE P n ops p.1 p.2, cREL P n ops r with
    | some c, some l => some (c :: l)
    | _, _ => none
def tsAt (ops : Array Oper) (i : Nat) : List Nat := match ops[i]? with
  | some o => tsOf ops o
  | none => []
/-- All that an operation hangs on stands ahead; what stands behind an effect hangs on it, or on what stands behind it. -/
def okOrd (ops : Array Oper) : List (Nat × Nat) → List Nat → Bool
  | [], _ => true
  | p :: r, seen => (depsAt ops p.2).all (fun j => memN j seen) && (bif Nat.ble 2 p.1 then r.all (fun q => (depsAt ops q.2).any fun j => Nat.beq j p.2 || r.any fun s => Nat.beq s.2 j) else true) && okOrd ops r (p.2 :: seen)
def nodupN : List Nat → Bool
  | [] => true
  | i :: r => (memN i r).not && nodupN r
def okTs (ops : Array Oper) (hd : Nat) (i : Nat) : Bool := (tsAt ops i).all fun t => (List.range hd).all fun j => match (ops[j]?).bind (·.dst) with
  | some d => (Nat.beq d t).not || memN j (depsAt ops i) || memN i (depsAt ops j)
  | none => true
def okPlan (ops : Array Oper) (p : RP) : Bool :=
  comB ops p.hd && Nat.beq p.ord.length p.hd && nodupN (p.ord.map (·.2)) && p.ord.all (fun q => Nat.blt q.2 p.hd) && okOrd ops p.ord [] && p.ord.all (fun q => okTs ops p.hd q.2)
def lkP : List (Nat × RP) → Nat → Option RP
  | [], _ => none
  | (j, x) :: r, i => bif Nat.beq i j then some x else lkP r i
/-- A code's first region: a loop's name. -/
def fid : Code → Option Nat
  | .region id _ _ => some id
  | .seq a b => match fid a with
    | some i => some i
    | none => fid b
  | .cond _ a b => match fid a with
    | some i => some i
    | none => fid b
  | .block _ a => fid a
  | .loop a => fid a
  | _ => none
def fidN (c : Code) : Nat := match fid c with
  | some i => i
  | none => 0
/-- A region that is never run: what stands there is left out. -/
def deadP (pls : List (Nat × RP)) (i : Nat) : Bool := match lkP pls i with
  | some p => Nat.beq p.hd 999
  | none => false
def isBad : FC → Bool
  | .bad => true
  | _ => false
theorem isBad_t {a : FC} (h : isBad a = true) : a = .bad := by cases a <;> first | rfl | cases h
def cC (P : Program) (n m : Nat) (pls : List (Nat × RP)) : Code → Option FC
  | .skip => some .skip
  | .label _ => some .skip
  | .region id ops draw => bif deadP pls id then some .bad else match draw with
    | false => match cOL P n ops ops.toList with
      | some l => some (.seqr (match lkP pls id with | some _ => false | none => true) m l)
      | none => none
    | true => match lkP pls id with
      | some p => bif P.follows .mixedOrders && okPlan ops p then match cREL P n ops p.ord with
          | some l => match cOL P n ops (ops.toList.drop p.hd) with
            | some r => some (.com m l r)
            | none => none
          | none => none
        else none
      | none => some .bad
  | .seq a b => match cC P n m pls a with
    | some x => bif isBad x then some .bad else match cC P n m pls b with
      | some y => some (.seq x y)
      | none => none
    | none => none
  | .cond c a b => match c1 c with
    | some z => match cC P n m pls a with
      | some x => match cC P n m pls b with
        | some y => some (.cond z x y)
        | none => none
      | none => none
    | none => some .bad
  | .block i a => match cC P n m pls a with
    | some x => bif isBad x then some .bad else some (.block i x)
    | none => none
  | .loop a => match cC P n m pls a with
    | some x => bif isBad x then some .bad else some (.loop m (fidN a) x)
    | none => none
  | .exit i => some (.exit i)
  | .ret => some .ret
  | _ => some .bad
def cRV (P : Program) (n : Nat) : List ResultVar → Option (List RV)
  | [] => some []
  | .tmp t :: r => match cRV P n r with
    | some l => bif Nat.blt t n then some (.t t :: l) else none
    | none => none
  | .cell a t :: r => match agO P t, szO P t, cRV P n r with
    | some b, some k, some l => bif Nat.blt a n && Nat.blt 0 k then some (.c a k b :: l) else none
    | _, _, _ => none
inductive FSn where
  | f (np m b : Nat) (rs : List RV) (code : FC)
def FSn.fn : FSn → FFn
  | .f np m b rs c => .f np m b rs (evC c)
def cF (P : Program) (pls : List (Nat × RP)) (np m : Nat) (fn : Func) : Option FSn := match fn.body with
  | some c => match cRV P fn.ntmps fn.results.toList with
    | some rs => match cC P fn.ntmps m pls c with
      | some x => bif Nat.ble np fn.ntmps && (List.range np).all (fun i => (bitN m i).not) then some (.f np m (Nat.succ (Nat.log2 fn.ntmps)) rs x) else none
      | none => none
    | none => none
  | none => none
end Go.Va
