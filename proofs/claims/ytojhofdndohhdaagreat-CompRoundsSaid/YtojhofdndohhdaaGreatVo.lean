/- Told values held against one another; summaries at a call. No program. -/
import Derived.Test.YtojhofdndohhdaaGreatVhr
set_option linter.unusedVariables false
set_option linter.unusedSectionVars false
set_option linter.unusedSimpArgs false
noncomputable section
namespace Go.Va
open Go Go.Sh
variable [Vl]

def memN (i : Nat) : List Nat → Bool
  | [] => false
  | j :: r => bif Nat.beq i j then true else memN i r
def keqF (a b : Fn) : Bool := match a, b with
  | .func f, .func g => Nat.beq f g
  | _, _ => false
def eqXB : List SB → List SB → Bool
  | [], [] => true
  | .k a :: x, .k b :: y => bif Nat.beq a b then eqXB x y else false
  | .v a l h :: x, .v b l' h' :: y => bif eqE a b && ieq l l' && ieq h h' then eqXB x y else false
  | _, _ => false
mutual
def eqV : FV → FV → Bool
  | .bool a, .bool b => (match a with | true => b | false => b.not)
  | .int k a, .int k' b => bif keq k k' then ieq a b else false
  | .str a, .str b => leq a b
  | .sy k a l h, .sy k' b l' h' => keq k k' && eqE a b && ieq l l' && ieq h h'
  | .sx a, .sx b => eqXB a b
  | .sstr i, .sstr j => Nat.beq i j
  | .nilp, .nilp => true
  | .ptr a b, .ptr c d => bif Nat.beq a c then Nat.beq b d else false
  | .nsl, .nsl => true
  | .sl a b c d e, .sl a' b' c' d' e' => Nat.beq a a' && Nat.beq b b' && Nat.beq c c' && Nat.beq d d' && (match e, e' with
    | .lit x, .lit y => Nat.beq x y
    | .hid x, .hid y => Nat.beq x y
    | _, _ => false)
  | .nilf, .nilf => true
  | .nili, .nili => true
  | .nilm, .nilm => true
  | .map a, .map b => Nat.beq a b
  | .fn f a b, .fn g c d => keqF f g && eqVL a c && eqVL b d
  | .agg a, .agg b => eqVL a b
  | .tup a, .tup b => eqVL a b
  | _, _ => false
def eqVL : List FV → List FV → Bool
  | [], [] => true
  | a :: x, b :: y => bif eqV a b then eqVL x y else false
  | _, _ => false
end
/-- The same. -/
def eqK (x y : FV) (R : Prop) : Prop := bif eqV x y then R else False
def eqKL (x y : List FV) (R : Prop) : Prop := bif eqVL x y then R else False
/-- Bounds that are known, or told. -/
def bLo (l l' : Int) (b : SE) : Bool := bif ile l l' then true else match lkC Vl.f (.le (.c l) b) with
  | some t => t
  | none => false
def bHi (h h' : Int) (b : SE) : Bool := bif ile h' h then true else match lkC Vl.f (.le b (.c h)) with
  | some t => t
  | none => false
/-- A number of a summary, and what stands for it: known to lie there, or known to be it. -/
def leN (k : IntKind) (a : SE) (l h : Int) (y : FV) : Bool := match y with
  | .sy k' b l' h' => keq k k' && eqE a b && bLo l l' b && bHi h h' b
  | .int k' c => keq k k' && (eqE a (.c c) || (match lkC Vl.f (.eq a (.c c)) with
    | some t => t
    | none => false)) && ile l c && ile c h
  | _ => false
def leB : List SB → List SB → Bool
  | [], [] => true
  | .k a :: x, .k b :: y => bif Nat.beq a b then leB x y else false
  | .v a l h :: x, .v b l' h' :: y => bif eqE a b && ile l l' && ile h' h && (ile (.ofNat 0) l && ilt h (.ofNat 256)) then leB x y else false
  | _, _ => false
mutual
/-- May the second stand where a summary tells of the first? -/
def leV (x y : FV) : Bool := match x with
  | .sy k a l h => leN k a l h y
  | .sx a => match y with
    | .sx b => leB a b
    | _ => false
  | .agg a => match y with
    | .agg b => leVL a b
    | _ => false
  | .tup a => match y with
    | .tup b => leVL a b
    | _ => false
  | x => eqV x y
def leVL : List FV → List FV → Bool
  | [], [] => true
  | a :: x, b :: y => bif leV a b then leVL x y else false
  | _, _ => false
end
mutual
/-- The same under other ids; none where an id has none. -/
def rnV (s : Nat → Option Nat) : FV → Option FV
  | .bool b => some (.bool b)
  | .int k n => some (.int k n)
  | .sy k n l h => some (.sy k n l h)
  | .sb b => some (.sb b)
  | .sstr t => some (.sstr t)
  | .sx l => some (.sx l)
  | .str l => some (.str l)
  | .nilp => some .nilp
  | .ptr i o => match s i with
    | some j => some (.ptr j o)
    | none => none
  | .nsl => some .nsl
  | .sl i a b n c => match s i with
    | some j => some (.sl j a b n c)
    | none => none
  | .nilm => some .nilm
  | .map i => match s i with
    | some j => some (.map j)
    | none => none
  | .nilf => some .nilf
  | .fn f a b => match rnL s a, rnL s b with
    | some x, some y => some (.fn f x y)
    | _, _ => none
  | .nili => some .nili
  | .ifc t v => match rnV s v with
    | some x => some (.ifc t x)
    | none => none
  | .agg cs => match rnL s cs with
    | some x => some (.agg x)
    | none => none
  | .tup cs => match rnL s cs with
    | some x => some (.tup x)
    | none => none
def rnL (s : Nat → Option Nat) : List FV → Option (List FV)
  | [] => some []
  | x :: r => match rnV s x, rnL s r with
    | some y, some l => some (y :: l)
    | _, _ => none
end
def rnM (s : Nat → Option Nat) : List (FV × FV) → Option (List (FV × FV))
  | [] => some []
  | p :: r => match rnV s p.2, rnM s r with
    | some y, some l => some ((p.1, y) :: l)
    | _, _ => none
def rnO (s : Nat → Option Nat) : TO → Option TO
  | .cells cs k => match rnL s cs with
    | some l => some (.cells l k)
    | none => none
  | .map d m => match rnM s m with
    | some l => some (.map d l)
    | none => none
  | .it _ _ _ => none
  | .ro _ => none
structure Sm where
  l0 : List FV
  t0 : List (Nat × TO)
  nx0 : Nat
  x1 : FV
  t1 : List (Nat × TO)
  nx1 : Nat
/-- A loop: the temporaries that are told ahead of it and behind it, the exit that it takes, which loop of its function it is (by its first region), and what it comes to: as a summary whose arguments and answers are these temporaries. -/
structure LS where
  i0 : List Nat
  i1 : List Nat
  e : Nat
  l : Nat
  s : Sm
structure LF where
  n : Nat
  ls : List LS
def leM : List (FV × FV) → List (FV × FV) → Bool
  | [], [] => true
  | p :: r, q :: t => bif eqV p.1 q.1 && leV p.2 q.2 then leM r t else false
  | _, _ => false
def leO (a b : TO) : Bool := match a with
  | .cells x k => match b with
    | .cells y k' => Nat.beq k k' && leVL x y
    | _ => false
  | .map d m => match b with
    | .map d' m' => kdq d d' && leM m m'
    | _ => false
  | _ => false
/-- Takes out of a tree what stands for the blocks of a list. -/
def chk (s : Nat → Option Nat) : List (Nat × TO) → Tr TO → (Tr TO → Prop) → Prop
  | [], t, R => R t
  | p :: r, t, R => match s p.1 with
    | some j => match t.get j with
      | some o => match rnO s p.2 with
        | some o' => bif leO o' o then chk s r (t.del j) R else False
        | none => False
      | none => False
    | none => False
def putT (s : Nat → Option Nat) : List (Nat × TO) → Tr TO → (Tr TO → Prop) → Prop
  | [], t, R => R t
  | p :: r, t, R => match s p.1 with
    | some j => match rnO s p.2 with
      | some o => putT s r (t.put j o) R
      | none => False
    | none => False
/-- Names of what was there, of those blocks alone that were told. -/
def sIn (S : Sm) (s : Nat → Option Nat) (i : Nat) : Option Nat := bif Nat.blt i S.nx0 && memN i (S.t0.map (·.1)) then s i else none
def sOut (S : Sm) (s : Nat → Option Nat) (nx i : Nat) : Option Nat := bif Nat.blt i S.nx0 then sIn S s i else bif Nat.blt i S.nx1 then some (nx + (i - S.nx0)) else none
def runS (S : Sm) (s : Nat → Option Nat) (l : List FV) (th : TH) (K : FV → TH → Prop) : Prop := match rnL (sIn S s) S.l0 with
  | some l' => bif leVL l' l then chk (sIn S s) S.t0 th.t (fun t => putT (sOut S s th.nx) S.t1 t fun t' => match rnV (sOut S s th.nx) S.x1 with
    | some y => K y ⟨t', th.nx + (S.nx1 - S.nx0), th.scr⟩
    | none => False) else False
  | none => False
mutual
/-- Which ids stand for which: not to be trusted. -/
def mtV : FV → FV → Tr Nat → Tr Nat
  | .ptr i _, y, t => match y with
    | .ptr j _ => t.put i j
    | _ => t
  | .sl i _ _ _ _, y, t => match y with
    | .sl j _ _ _ _ => t.put i j
    | _ => t
  | .map i, y, t => match y with
    | .map j => t.put i j
    | _ => t
  | .fn _ a b, y, t => match y with
    | .fn _ c d => mtL b d (mtL a c t)
    | _ => t
  | .ifc _ v, y, t => match y with
    | .ifc _ w => mtV v w t
    | _ => t
  | .agg a, y, t => match y with
    | .agg b => mtL a b t
    | _ => t
  | .tup a, y, t => match y with
    | .tup b => mtL a b t
    | _ => t
  | _, _, t => t
def mtL : List FV → List FV → Tr Nat → Tr Nat
  | a :: x, y, t => match y with
    | b :: z => mtL x z (mtV a b t)
    | [] => t
  | [], _, t => t
end
def mtM : List (FV × FV) → List (FV × FV) → Tr Nat → Tr Nat
  | a :: x, y, t => match y with
    | b :: z => mtM x z (mtV a.2 b.2 t)
    | [] => t
  | [], _, t => t
def mtB (m : Tr TO) : List (Nat × TO) → Tr Nat → Tr Nat
  | [], t => t
  | p :: r, t => mtB m r (match t.get p.1 with
    | some j => match m.get j with
      | some (.cells y _) => match p.2 with
        | .cells x _ => mtL x y t
        | _ => t
      | some (.map _ y) => match p.2 with
        | .map _ x => mtM x y t
        | _ => t
      | _ => t
    | none => t)
def bnd (S : Sm) (l : List FV) (m : Tr TO) (i : Nat) : Option Nat := (mtB m S.t0 (mtL S.l0 l .nil)).get i
def nthS (l : List Sm) (n : Nat) : Option Sm := hd? (dropF n l)
def nthL (l : List LS) (n : Nat) : Option LS := hd? (dropF n l)
end Go.Va
/- Regions, code, functions, over told values. No program. -/
set_option linter.unusedVariables false
set_option linter.unusedSectionVars false
set_option linter.unusedSimpArgs false
noncomputable section
namespace Go.Va
open Go Go.Sh
variable [Vl]

/-! ### A region that draws its order: each effect behind the one ahead; what reads is read anew behind each; what is made of constants floats -/
inductive RE where
  | q (i : Nat) (ts : List Nat) (c : CO)
  | a (i : Nat) (ts : List Nat) (c : CO)
  | e (i : Nat) (ts : List Nat) (c : CO) (dp : List Nat)
structure PE where
  i : Nat
  fr : Fr
  c : CO
  x : FV
structure HE where
  i : Nat
  id : Nat
  o : TO
def pickF (fr : Fr) : List Nat → Fr
  | [] => .base 0 .nil
  | t :: ts => match fr.get t with
    | some x => (pickF fr ts).put t x
    | none => pickF fr ts
def isLd : MOp → Bool
  | .ld _ _ _ => true
  | .lkp _ _ _ _ _ => true
  | .lenM _ => true
  | .ent _ => true
  | _ => false
/-- What was read is read again. -/
def recheck (th : Tr TO) : List PE → Prop → Prop
  | [], R => R
  | p :: r, R => bif isLd p.c.m then match gst p.fr p.c.g with
      | .go => match evQ p.fr th p.c.m with
        | some y => eqK p.x y (recheck th r R)
        | none => False
      | _ => recheck th r R
    else recheck th r R
def dropP (dp : List Nat) : List PE → List PE
  | [] => []
  | p :: r => bif memN p.i dp then dropP dp r else p :: dropP dp r
/-- What floated and is surely made. -/
def relH (dp : List Nat) (t : Tr TO) : List HE → Tr TO
  | [] => t
  | p :: r => bif memN p.i dp then (relH dp t r).put p.id p.o else relH dp t r
def keepH (dp : List Nat) : List HE → List HE
  | [] => []
  | p :: r => bif memN p.i dp then keepH dp r else p :: keepH dp r
def allH (t : Tr TO) : List HE → Tr TO
  | [] => t
  | p :: r => (allH t r).put p.id p.o
/-- Told by itself. -/
def cst : FV → Bool
  | .bool _ => true
  | .int _ _ => true
  | .str l => bytesOk l
  | .nilp => true
  | .nsl => true
  | .nilm => true
  | .nilf => true
  | .nili => true
  | .fn _ a b => match a with
    | [] => (match b with
      | [] => true
      | _ => false)
    | _ => false
  | _ => false
def cstL : List FV → Bool
  | [] => true
  | x :: r => bif cst x then cstL r else false
def cstO : Opd → Bool
  | .t _ => true
  | .c v => cst v
def cstP : List (Nat × Opd) → Bool
  | [] => true
  | p :: r => bif cstO p.2 then cstP r else false
/-- What makes a block of its own, and no more. -/
def alF (fr : Fr) : MOp → Option (FV × TO)
  | .alc z => bif cstL z && z.all oneF then some (.ptr 0 0, .cells z 0) else none
  | .box x => bif cstO x then match evO fr x with
      | some v => bif notTup v then some (.ptr 0 0, .cells (cellsV v) 0) else none
      | none => none
    else none
  | .bsl _ n z pl ps => bif cstL z && z.all oneF && cstP ps then match evP fr ps with
      | some l => match fillF z pl l with
        | some cs => some (.sl 0 0 0 n (.lit n), .cells cs 0)
        | none => none
      | none => none
    else none
  | .mks _ b z l c => bif cstL z && z.all oneF then match evN fr l with
      | some l => match evN fr c with
        | some c => bif Nat.beq l c && (Nat.ble l c && Nat.ble (b * c) 140737488355328 && Nat.ble c 4611686018427387904) then some (.sl 0 0 0 c (.lit c), .cells (repF z c) 0) else none
        | none => none
      | none => none
    else none
  | _ => none
def reid (i : Nat) : FV → FV
  | .ptr _ o => .ptr i o
  | .sl _ a b c d => .sl i a b c d
  | x => x
def evR (cl : Cl) : List RE → Fr → TH → List HE → List PE → (Fr → TH → Prop) → Prop
  | [], fr, th, hs, _, K => K fr ⟨allH th.t hs, th.nx, th.scr⟩
  | .q i ts c :: r, fr, th, hs, ps, K => (fun fp => match gst fp c.g with
    | .go => match evQ fp th.t c.m with
      | some x => rsl x th fun y th => evR cl r (putO fr c.dst y) th hs (⟨i, fp, c, x⟩ :: ps) K
      | none => False
    | .skip => evR cl r (putO fr c.dst undF) th hs (⟨i, fp, c, undF⟩ :: ps) K
    | .bad => False) (pickF fr ts)
  | .a i ts c :: r, fr, th, hs, ps, K => (fun fp => match gst fp c.g with
    | .go => match alF fp c.m with
      | some p => evR cl r (putO fr c.dst (reid th.nx p.1)) ⟨th.t, th.nx.succ, th.scr⟩ (⟨i, th.nx, p.2⟩ :: hs) (⟨i, fp, c, undF⟩ :: ps) K
      | none => False
    | .skip => evR cl r (putO fr c.dst undF) th hs (⟨i, fp, c, undF⟩ :: ps) K
    | .bad => False) (pickF fr ts)
  | .e i ts c dp :: r, fr, th, hs, ps, K => (fun fp => match gst fp c.g with
    | .go => evX cl fp ⟨relH dp th.t hs, th.nx, th.scr⟩ c.m fun x th' => recheck th'.t (dropP dp ps) (evR cl r (putO fr c.dst x) th' (keepH dp hs) (dropP dp ps) K)
    | .skip => recheck (relH dp th.t hs) (dropP dp ps) (evR cl r (putO fr c.dst undF) ⟨relH dp th.t hs, th.nx, th.scr⟩ (keepH dp hs) (dropP dp ps) K)
    | .bad => False) (pickF fr ts)

/-! ### Code -/
inductive FC where
  | skip
  | seqr (fl : Bool) (m : Nat) (l : List CO)
  | com (m : Nat) (l : List RE) (r : List CO)
  | seq (a b : FC)
  | cond (c : Opd) (a b : FC)
  | block (i : Nat) (a : FC)
  | loop (m i : Nat) (a : FC)
  | exit (i : Nat)
  | ret
  | bad
abbrev BF := Fr → TH → KF → (Nat → KF) → KF → Prop
abbrev CF := Cl → LF → BF
def getL (fr : Fr) : List Nat → Option (List FV)
  | [] => some []
  | i :: r => match fr.get i with
    | some x => match getL fr r with
      | some l => some (x :: l)
      | none => none
    | none => none
def putL (m : Nat) (fr : Fr) : List Nat → List FV → Option Fr
  | [], xs => match xs with
    | [] => some fr
    | _ => none
  | i :: r, xs => match xs with
    | [] => none
    | x :: xs => bif bitN m i then none else putL m (fr.put i x) r xs
/-- A loop's summary at its head. -/
def runL (m : Nat) (S : LS) (q : Scr) (fr : Fr) (th : TH) (kE : Nat → KF) : Prop := match getL fr S.i0 with
  | some l => runS S.s (bnd S.s l th.t) l ⟨th.t, th.nx, q⟩ fun y th => match y with
    | .tup us => match putL m (.base m .nil) S.i1 us with
      | some fr => kE S.e fr th
      | none => False
    | _ => False
  | none => False
def anyL (i : Nat) : List LS → Bool
  | [] => false
  | S :: r => bif Nat.beq S.l i then true else anyL i r
/-- At a loop's head: '.u' takes a summary of this loop, '.f' passes it. -/
def hookL (m i : Nat) (ls : List LS) (fr : Fr) (th : TH) (kE : Nat → KF) (body : TH → Prop) : Prop := match ls with
  | [] => body th
  | _ :: _ => match th.scr with
    | .u k q => match nthL ls k with
      | some S => bif Nat.beq S.l i then runL m S q fr th kE else body th
      | none => body th
    | .f _ q => bif anyL i ls then body ⟨th.t, th.nx, q⟩ else body th
    | .auto p l => match p with
      | .u k q => match nthL ls k with
        | some S => bif Nat.beq S.l i then runL m S (.auto q l) fr th kE else body th
        | none => body th
      | .f _ q => bif anyL i ls then body ⟨th.t, th.nx, .auto q l⟩ else body th
      | _ => body th
    | _ => body th
def lpN (m i : Nat) (g : Cl) (a : CF) (ls : List LS) : Nat → BF
  | 0 => fun _ _ _ _ _ => False
  | n + 1 => fun fr th kN kE kR => hookL m i ls fr th kE fun th => a g ⟨n, ls⟩ fr th (fun fr th => lpN m i g a ls n fr th kN kE kR) kE kR
def cSkip : CF := fun _ _ fr th kN _ _ => kN fr th
def cRow (m : Nat) (s : SF) : CF := fun g n fr th kN _ _ => s g fr th fun fr th => kN (fr.fl m) th
def cRowN (s : SF) : CF := fun g n fr th kN _ _ => s g fr th kN
def cCom (m : Nat) (l : List RE) (s : SF) : CF := fun g n fr th kN _ _ => evR g l fr th [] [] fun fr th => s g fr th fun fr th => kN (fr.fl m) th
def cSeq (a b : CF) : CF := fun g n fr th kN kE kR => a g n fr th (fun fr th => b g n fr th kN kE kR) kE kR
def cIf (c : Opd) (a b : CF) : CF := fun g n fr th kN kE kR => match evO fr c with
  | some v => match v with
    | .bool t => match t with
      | true => a g n fr th kN kE kR
      | false => b g n fr th kN kE kR
    | _ => False
  | none => False
def cBlk (i : Nat) (a : CF) : CF := fun g n fr th kN kE kR => a g n fr th kN (fun j => bif Nat.beq j i then kN else kE j) kR
def cLoop (m i : Nat) (a : CF) : CF := fun g n fr th kN kE kR => lpN m i g a n.ls n.n fr th kN kE kR
def cExit (i : Nat) : CF := fun _ _ fr th _ kE _ => kE i fr th
def cRet : CF := fun _ _ fr th _ _ kR => kR fr th
def cBad : CF := fun _ _ _ _ _ _ _ => False
def evC : FC → CF
  | .skip => cSkip
  | .seqr fl m l => match fl with
    | true => cRow m (evH l [] (outsOf m l))
    | false => cRowN (evH l [] (outsOf m l))
  | .com m l r => cCom m l (evS r)
  | .seq a b => cSeq (evC a) (evC b)
  | .cond c a b => cIf c (evC a) (evC b)
  | .block i a => cBlk i (evC a)
  | .loop m i a => cLoop m i (evC a)
  | .exit i => cExit i
  | .ret => cRet
  | .bad => cBad
inductive RV where
  | t (i : Nat)
  | c (i k : Nat) (agg : Bool)
/-- Functions without a body. -/
inductive XK where
  | cmp
inductive FFn where
  | f (np m b : Nat) (rs : List RV) (code : CF)
  | x (k : XK)
  | t
  | s (l : List Sm) (g : FFn)
  | l (l : List LS) (g : FFn)
  | p (q : List FV → TH → Prop)
  | col (ks : List Nat)
def evE : XK → List FV → Option FV
  | .cmp, l => match l with
    | [x, y] => match x with
      | .str a => match y with
        | .str b => some (.int .i64 (bif llt a b then .negSucc 0 else bif leq a b then .ofNat 0 else .ofNat 1))
        | _ => none
      | _ => none
    | _ => none
def evRV (fr : Fr) (th : Tr TO) : List RV → Option (List FV)
  | [] => some []
  | .t i :: r => match fr.get i with
    | some x => match evRV fr th r with
      | some l => some (x :: l)
      | none => none
    | none => none
  | .c i k agg :: r => match fr.get i with
    | some x => match ldF th k agg x with
      | some y => match evRV fr th r with
        | some l => some (y :: l)
        | none => none
      | none => none
    | none => none
def one1 : List FV → FV
  | [x] => x
  | l => .tup l
def retK (rs : List RV) (K : FV → TH → Prop) : KF := fun fr th => match evRV fr th.t rs with
  | some l => K (one1 l) th
  | none => False
def frame : Nat → List FV → Fr → Fr
  | _, [], t => t
  | i, x :: r, t => frame i.succ r (t.put i x)
abbrev Fn1 := Nat → List FV → TH → (FV → TH → Prop) → Prop
def callF (fn : Fn1) : Cl := fun f l th K => match f with
  | .fn g a b => match g with
    | .func i => fn i (a ++ (l ++ b)) th K
    | _ => False
  | _ => False
/-- slices.Collect of a map's keys, where there is one at most. -/
def colM (m : List (FV × FV)) (th : TH) (K : FV → TH → Prop) : Prop := match m with
  | [] => K .nsl th
  | p :: r => match r with
    | [] => match p.1 with
      | .str l => bif Nat.ble l.length 1000 then K (.sl th.nx 0 0 1 (.hid 0)) (th.new (.cells [p.1] 1)) else False
      | _ => False
    | _ => False
def colB (ks : List Nat) (k : Nat) (b : List FV) (th : TH) (K : FV → TH → Prop) : Prop := bif memN k ks then match b with
  | [] => False
  | x :: r => match r with
    | [] => match x with
      | .ptr j o => match o with
        | 0 => match th.t.get j with
          | some (.cells cs z) => match z with
            | 0 => match cs with
              | [] => False
              | y :: _ => match y with
                | .map i => match th.t.get i with
                  | some (.map d m) => match d with
                    | .s => colM m th K
                    | _ => False
                  | _ => False
                | _ => False
            | _ => False
          | _ => False
        | _ => False
      | _ => False
    | _ => False
  else False
def colF (ks : List Nat) (l : List FV) (th : TH) (K : FV → TH → Prop) : Prop := match l with
  | [] => False
  | x :: r => match r with
    | [] => match x with
      | .fn g a b => match g with
        | .func k => match a with
          | [] => colB ks k b th K
          | _ => False
        | _ => False
      | _ => False
    | _ => False
def runF (lf : LF) (g : Cl) (f : FFn) (l : List FV) (th : TH) (K : FV → TH → Prop) : Prop := match f with
  | .f np m b rs code => bif Nat.beq l.length np then code g lf (frame 0 l (.base m (skel b 0))) th (retK rs K) (fun _ _ _ => False) (retK rs K) else False
  | .x k => match evE k l with
    | some v => K v th
    | none => False
  | .t => match l with
    | [] => K (.bool true) th
    | _ => False
  | .s ss f => match th.scr with
    | .u n r => match nthS ss n with
      | some S => runS S (bnd S l th.t) l ⟨th.t, th.nx, r⟩ K
      | none => False
    | .auto q m => match q with
      | .u n r => match nthS ss n with
        | some S => runS S (bnd S l th.t) l ⟨th.t, th.nx, .auto r m⟩ K
        | none => False
      | _ => runF lf g f l th K
    | _ => runF lf g f l th K
  | .l ls f => runF ⟨lf.n, ls⟩ g f l th K
  | .p q => q l th
  | .col ks => colF ks l th K
def eng (tab : Tr FFn) (lf : Nat) : Nat → Fn1
  | 0 => fun _ _ _ _ => False
  | n + 1 => fun i l th K => match tab.get i with
    | some f => runF ⟨lf, []⟩ (callF (eng tab lf n)) f l th K
    | none => False
end Go.Va
