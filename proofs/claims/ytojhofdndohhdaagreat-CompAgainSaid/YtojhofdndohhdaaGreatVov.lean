/- Told values held against one another; summaries at a call. No program. -/
import Derived.Test.YtojhofdndohhdaaGreatVhr
set_option linter.unusedVariables false
set_option linter.unusedSectionVars false
set_option linter.unusedSimpArgs false
noncomputable section
namespace Go.Va
open Go Go.Sh
variable [Vl]

def memN (i : Nat) : List Nat → Bool
  | [] => false
  | j :: r => bif Nat.beq i j then true else memN i r
def keqF (a b : Fn) : Bool := match a, b with
  | .func f, .func g => Nat.beq f g
  | _, _ => false
def eqXB : List SB → List SB → Bool
  | [], [] => true
  | .k a :: x, .k b :: y => bif Nat.beq a b then eqXB x y else false
  | .v a l h :: x, .v b l' h' :: y => bif eqE a b && ieq l l' && ieq h h' then eqXB x y else false
  | _, _ => false
mutual
def eqV : FV → FV → Bool
  | .bool a, .bool b => (match a with | true => b | false => b.not)
  | .int k a, .int k' b => bif keq k k' then ieq a b else false
  | .str a, .str b => leq a b
  | .sy k a l h, .sy k' b l' h' => keq k k' && eqE a b && ieq l l' && ieq h h'
  | .sx a, .sx b => eqXB a b
  | .sstr i, .sstr j => Nat.beq i j
  | .nilp, .nilp => true
  | .ptr a b, .ptr c d => bif Nat.beq a c then Nat.beq b d else false
  | .nsl, .nsl => true
  | .sl a b c d e, .sl a' b' c' d' e' => Nat.beq a a' && Nat.beq b b' && Nat.beq c c' && Nat.beq d d' && (match e, e' with
    | .lit x, .lit y => Nat.beq x y
    | .hid x, .hid y => Nat.beq x y
    | _, _ => false)
  | .nilf, .nilf => true
  | .nili, .nili => true
  | .nilm, .nilm => true
  | .map a, .map b => Nat.beq a b
  | .fn f a b, .fn g c d => keqF f g && eqVL a c && eqVL b d
  | .agg a, .agg b => eqVL a b
  | .tup a, .tup b => eqVL a b
  | _, _ => false
def eqVL : List FV → List FV → Bool
  | [], [] => true
  | a :: x, b :: y => bif eqV a b then eqVL x y else false
  | _, _ => false
end
/-- The same. -/
def eqK (x y : FV) (R : Prop) : Prop := bif eqV x y then R else False
def eqKL (x y : List FV) (R : Prop) : Prop := bif eqVL x y then R else False
/-- Bounds that are known, or told. -/
def bLo (l l' : Int) (b : SE) : Bool := bif ile l l' then true else match lkC Vl.f (.le (.c l) b) with
  | some t => t
  | none => false
def bHi (h h' : Int) (b : SE) : Bool := bif ile h' h then true else match lkC Vl.f (.le b (.c h)) with
  | some t => t
  | none => false
/-- A number of a summary, and what stands for it: known to lie there, or known to be it. -/
def leN (k : IntKind) (a : SE) (l h : Int) (y : FV) : Bool := match y with
  | .sy k' b l' h' => keq k k' && eqE a b && bLo l l' b && bHi h h' b
  | .int k' c => keq k k' && (eqE a (.c c) || (match lkC Vl.f (.eq a (.c c)) with
    | some t => t
    | none => false)) && ile l c && ile c h
  | _ => false
def leB : List SB → List SB → Bool
  | [], [] => true
  | .k a :: x, .k b :: y => bif Nat.beq a b then leB x y else false
  | .v a l h :: x, .v b l' h' :: y => bif eqE a b && ile l l' && ile h' h && (ile (.ofNat 0) l && ilt h (.ofNat 256)) then leB x y else false
  | _, _ => false
mutual
/-- May the second stand where a summary tells of the first? -/
def leV (x y : FV) : Bool := match x with
  | .sy k a l h => leN k a l h y
  | .sx a => match y with
    | .sx b => leB a b
    | _ => false
  | .agg a => match y with
    | .agg b => leVL a b
    | _ => false
  | .tup a => match y with
    | .tup b => leVL a b
    | _ => false
  | x => eqV x y
def leVL : List FV → List FV → Bool
  | [], [] => true
  | a :: x, b :: y => bif leV a b then leVL x y else false
  | _, _ => false
end
mutual
/-- The same under other ids; none where an id has none. -/
def rnV (s : Nat → Option Nat) : FV → Option FV
  | .bool b => some (.bool b)
  | .int k n => some (.int k n)
  | .sy k n l h => some (.sy k n l h)
  | .sb b => some (.sb b)
  | .sstr t => some (.sstr t)
  | .sx l => some (.sx l)
  | .str l => some (.str l)
  | .nilp => some .nilp
  | .ptr i o => match s i with
    | some j => some (.ptr j o)
    | none => none
  | .nsl => some .nsl
  | .sl i a b n c => match s i with
    | some j => some (.sl j a b n c)
    | none => none
  | .nilm => some .nilm
  | .map i => match s i with
    | some j => some (.map j)
    | none => none
  | .nilf => some .nilf
  | .fn f a b => match rnL s a, rnL s b with
    | some x, some y => some (.fn f x y)
    | _, _ => none
  | .nili => some .nili
  | .ifc t v => match rnV s v with
    | some x => some (.ifc t x)
    | none => none
  | .agg cs => match rnL s cs with
    | some x => some (.agg x)
    | none => none
  | .tup cs => match rnL s cs with
    | some x => some (.tup x)
    | none => none
def rnL (s : Nat → Option Nat) : List FV → Option (List FV)
  | [] => some []
  | x :: r => match rnV s x, rnL s r with
    | some y, some l => some (y :: l)
    | _, _ => none
end
def rnM (s : Nat → Option Nat) : List (FV × FV) → Option (List (FV × FV))
  | [] => some []
  | p :: r => match rnV s p.2, rnM s r with
    | some y, some l => some ((p.1, y) :: l)
    | _, _ => none
def rnO (s : Nat → Option Nat) : TO → Option TO
  | .cells cs k => match rnL s cs with
    | some l => some (.cells l k)
    | none => none
  | .map d m => match rnM s m with
    | some l => some (.map d l)
    | none => none
  | .it _ _ _ => none
  | .ro _ => none
structure Sm where
  l0 : List FV
  t0 : List (Nat × TO)
  nx0 : Nat
  x1 : FV
  t1 : List (Nat × TO)
  nx1 : Nat
/-- A loop: the temporaries that are told ahead of it and behind it, the exit that it takes, which loop of its function it is (by its first region), and what it comes to: as a summary whose arguments and answers are these temporaries. -/
structure LS where
  i0 : List Nat
  i1 : List Nat
  e : Nat
  l : Nat
  s : Sm
structure LF where
  n : Nat
  ls : List LS
def leM : List (FV × FV) → List (FV × FV) → Bool
  | [], [] => true
  | p :: r, q :: t => bif eqV p.1 q.1 && leV p.2 q.2 then leM r t else false
  | _, _ => false
def leO (a b : TO) : Bool := match a with
  | .cells x k => match b with
    | .cells y k' => Nat.beq k k' && leVL x y
    | _ => false
  | .map d m => match b with
    | .map d' m' => kdq d d' && leM m m'
    | _ => false
  | _ => false
/-- Takes out of a tree what stands for the blocks of a list. -/
def chk (s : Nat → Option Nat) : List (Nat × TO) → Tr TO → (Tr TO → Prop) → Prop
  | [], t, R => R t
  | p :: r, t, R => match s p.1 with
    | some j => match t.get j with
      | some o => match rnO s p.2 with
        | some o' => bif leO o' o then chk s r (t.del j) R else False
        | none => False
      | none => False
    | none => False
def putT (s : Nat → Option Nat) : List (Nat × TO) → Tr TO → (Tr TO → Prop) → Prop
  | [], t, R => R t
  | p :: r, t, R => match s p.1 with
    | some j => match rnO s p.2 with
      | some o => putT s r (t.put j o) R
      | none => False
    | none => False
/-- Names of what was there, of those blocks alone that were told. -/
def sIn (S : Sm) (s : Nat → Option Nat) (i : Nat) : Option Nat := bif Nat.blt i S.nx0 && memN i (S.t0.map (·.1)) then s i else none
def sOut (S : Sm) (s : Nat → Option Nat) (nx i : Nat) : Option Nat := bif Nat.blt i S.nx0 then sIn S s i else bif Nat.blt i S.nx1 then some (nx + (i - S.nx0)) else none
def runS (S : Sm) (s : Nat → Option Nat) (l : List FV) (th : TH) (K : FV → TH → Prop) : Prop := match rnL (sIn S s) S.l0 with
  | some l' => bif leVL l' l then chk (sIn S s) S.t0 th.t (fun t => putT (sOut S s th.nx) S.t1 t fun t' => match rnV (sOut S s th.nx) S.x1 with
    | some y => K y ⟨t', th.nx + (S.nx1 - S.nx0), th.scr⟩
    | none => False) else False
  | none => False
mutual
/-- Which ids stand for which: not to be trusted. -/
def mtV : FV → FV → Tr Nat → Tr Nat
  | .ptr i _, y, t => match y with
    | .ptr j _ => t.put i j
    | _ => t
  | .sl i _ _ _ _, y, t => match y with
    | .sl j _ _ _ _ => t.put i j
    | _ => t
  | .map i, y, t => match y with
    | .map j => t.put i j
    | _ => t
  | .fn _ a b, y, t => match y with
    | .fn _ c d => mtL b d (mtL a c t)
    | _ => t
  | .ifc _ v, y, t => match y with
    | .ifc _ w => mtV v w t
    | _ => t
  | .agg a, y, t => match y with
    | .agg b => mtL a b t
    | _ => t
  | .tup a, y, t => match y with
    | .tup b => mtL a b t
    | _ => t
  | _, _, t => t
def mtL : List FV → List FV → Tr Nat → Tr Nat
  | a :: x, y, t => match y with
    | b :: z => mtL x z (mtV a b t)
    | [] => t
  | [], _, t => t
end
def mtM : List (FV × FV) → List (FV × FV) → Tr Nat → Tr Nat
  | a :: x, y, t => match y with
    | b :: z => mtM x z (mtV a.2 b.2 t)
    | [] => t
  | [], _, t => t
def mtB (m : Tr TO) : List (Nat × TO) → Tr Nat → Tr Nat
  | [], t => t
  | p :: r, t => mtB m r (match t.get p.1 with
    | some j => match m.get j with
      | some (.cells y _) => match p.2 with
        | .cells x _ => mtL x y t
        | _ => t
      | some (.map _ y) => match p.2 with
        | .map _ x => mtM x y t
        | _ => t
      | _ => t
    | none => t)
def bnd (S : Sm) (l : List FV) (m : Tr TO) (i : Nat) : Option Nat := (mtB m S.t0 (mtL S.l0 l .nil)).get i
def nthS (l : List Sm) (n : Nat) : Option Sm := hd? (dropF n l)
def nthL (l : List LS) (n : Nat) : Option LS := hd? (dropF n l)
end Go.Va
