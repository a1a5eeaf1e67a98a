/- Regions, code, functions, over told values. No program. -/
import Derived.Test.YtojhofdndohhdaaGreatVov
set_option linter.unusedVariables false
set_option linter.unusedSectionVars false
set_option linter.unusedSimpArgs false
noncomputable section
namespace Go.Va
open Go Go.Sh
variable [Vl]

/-! ### A region that draws its order: each effect behind the one ahead; what reads is read anew behind each; what is made of constants floats -/
inductive RE where
  | q (i : Nat) (ts : List Nat) (c : CO)
  | a (i : Nat) (ts : List Nat) (c : CO)
  | e (i : Nat) (ts : List Nat) (c : CO) (dp : List Nat)
structure PE where
  i : Nat
  fr : Fr
  c : CO
  x : FV
structure HE where
  i : Nat
  id : Nat
  o : TO
def pickF (fr : Fr) : List Nat → Fr
  | [] => .base 0 .nil
  | t :: ts => match fr.get t with
    | some x => (pickF fr ts).put t x
    | none => pickF fr ts
def isLd : MOp → Bool
  | .ld _ _ _ => true
  | .lkp _ _ _ _ _ => true
  | .lenM _ => true
  | .ent _ => true
  | _ => false
/-- What was read is read again. -/
def recheck (th : Tr TO) : List PE → Prop → Prop
  | [], R => R
  | p :: r, R => bif isLd p.c.m then match gst p.fr p.c.g with
      | .go => match evQ p.fr th p.c.m with
        | some y => eqK p.x y (recheck th r R)
        | none => False
      | _ => recheck th r R
    else recheck th r R
def dropP (dp : List Nat) : List PE → List PE
  | [] => []
  | p :: r => bif memN p.i dp then dropP dp r else p :: dropP dp r
/-- What floated and is surely made. -/
def relH (dp : List Nat) (t : Tr TO) : List HE → Tr TO
  | [] => t
  | p :: r => bif memN p.i dp then (relH dp t r).put p.id p.o else relH dp t r
def keepH (dp : List Nat) : List HE → List HE
  | [] => []
  | p :: r => bif memN p.i dp then keepH dp r else p :: keepH dp r
def allH (t : Tr TO) : List HE → Tr TO
  | [] => t
  | p :: r => (allH t r).put p.id p.o
/-- Told by itself. -/
def cst : FV → Bool
  | .bool _ => true
  | .int _ _ => true
  | .str l => bytesOk l
  | .nilp => true
  | .nsl => true
  | .nilm => true
  | .nilf => true
  | .nili => true
  | .fn _ a b => match a with
    | [] => (match b with
      | [] => true
      | _ => false)
    | _ => false
  | _ => false
def cstL : List FV → Bool
  | [] => true
  | x :: r => bif cst x then cstL r else false
def cstO : Opd → Bool
  | .t _ => true
  | .c v => cst v
def cstP : List (Nat × Opd) → Bool
  | [] => true
  | p :: r => bif cstO p.2 then cstP r else false
/-- What makes a block of its own, and no more. -/
def alF (fr : Fr) : MOp → Option (FV × TO)
  | .alc z => bif cstL z && z.all oneF then some (.ptr 0 0, .cells z 0) else none
  | .box x => bif cstO x then match evO fr x with
      | some v => bif notTup v then some (.ptr 0 0, .cells (cellsV v) 0) else none
      | none => none
    else none
  | .bsl _ n z pl ps => bif cstL z && z.all oneF && cstP ps then match evP fr ps with
      | some l => match fillF z pl l with
        | some cs => some (.sl 0 0 0 n (.lit n), .cells cs 0)
        | none => none
      | none => none
    else none
  | .mks _ b z l c => bif cstL z && z.all oneF then match evN fr l with
      | some l => match evN fr c with
        | some c => bif Nat.beq l c && (Nat.ble l c && Nat.ble (b * c) 140737488355328 && Nat.ble c 4611686018427387904) then some (.sl 0 0 0 c (.lit c), .cells (repF z c) 0) else none
        | none => none
      | none => none
    else none
  | _ => none
def reid (i : Nat) : FV → FV
  | .ptr _ o => .ptr i o
  | .sl _ a b c d => .sl i a b c d
  | x => x
def evR (cl : Cl) : List RE → Fr → TH → List HE → List PE → (Fr → TH → Prop) → Prop
  | [], fr, th, hs, _, K => K fr ⟨allH th.t hs, th.nx, th.scr⟩
  | .q i ts c :: r, fr, th, hs, ps, K => (fun fp => match gst fp c.g with
    | .go => match evQ fp th.t c.m with
      | some x => rsl x th fun y th => evR cl r (putO fr c.dst y) th hs (⟨i, fp, c, x⟩ :: ps) K
      | none => False
    | .skip => evR cl r (putO fr c.dst undF) th hs (⟨i, fp, c, undF⟩ :: ps) K
    | .bad => False) (pickF fr ts)
  | .a i ts c :: r, fr, th, hs, ps, K => (fun fp => match gst fp c.g with
    | .go => match alF fp c.m with
      | some p => evR cl r (putO fr c.dst (reid th.nx p.1)) ⟨th.t, th.nx.succ, th.scr⟩ (⟨i, th.nx, p.2⟩ :: hs) (⟨i, fp, c, undF⟩ :: ps) K
      | none => False
    | .skip => evR cl r (putO fr c.dst undF) th hs (⟨i, fp, c, undF⟩ :: ps) K
    | .bad => False) (pickF fr ts)
  | .e i ts c dp :: r, fr, th, hs, ps, K => (fun fp => match gst fp c.g with
    | .go => evX cl fp ⟨relH dp th.t hs, th.nx, th.scr⟩ c.m fun x th' => recheck th'.t (dropP dp ps) (evR cl r (putO fr c.dst x) th' (keepH dp hs) (dropP dp ps) K)
    | .skip => recheck (relH dp th.t hs) (dropP dp ps) (evR cl r (putO fr c.dst undF) ⟨relH dp th.t hs, th.nx, th.scr⟩ (keepH dp hs) (dropP dp ps) K)
    | .bad => False) (pickF fr ts)

/-! ### Code -/
inductive FC where
  | skip
  | seqr (fl : Bool) (m : Nat) (l : List CO)
  | com (m : Nat) (l : List RE) (r : List CO)
  | seq (a b : FC)
  | cond (c : Opd) (a b : FC)
  | block (i : Nat) (a : FC)
  | loop (m i : Nat) (a : FC)
  | exit (i : Nat)
  | ret
  | bad
abbrev BF := Fr → TH → KF → (Nat → KF) → KF → Prop
abbrev CF := Cl → LF → BF
def getL (fr : Fr) : List Nat → Option (List FV)
  | [] => some []
  | i :: r => match fr.get i with
    | some x => match getL fr r with
      | some l => some (x :: l)
      | none => none
    | none => none
def putL (m : Nat) (fr : Fr) : List Nat → List FV → Option Fr
  | [], xs => match xs with
    | [] => some fr
    | _ => none
  | i :: r, xs => match xs with
    | [] => none
    | x :: xs => bif bitN m i then none else putL m (fr.put i x) r xs
/-- A loop's summary at its head. -/
def runL (m : Nat) (S : LS) (q : Scr) (fr : Fr) (th : TH) (kE : Nat → KF) : Prop := match getL fr S.i0 with
  | some l => runS S.s (bnd S.s l th.t) l ⟨th.t, th.nx, q⟩ fun y th => match y with
    | .tup us => match putL m (.base m .nil) S.i1 us with
      | some fr => kE S.e fr th
      | none => False
    | _ => False
  | none => False
def anyL (i : Nat) : List LS → Bool
  | [] => false
  | S :: r => bif Nat.beq S.l i then true else anyL i r
/-- At a loop's head: '.u' takes a summary of this loop, '.f' passes it. -/
def hookL (m i : Nat) (ls : List LS) (fr : Fr) (th : TH) (kE : Nat → KF) (body : TH → Prop) : Prop := match ls with
  | [] => body th
  | _ :: _ => match th.scr with
    | .u k q => match nthL ls k with
      | some S => bif Nat.beq S.l i then runL m S q fr th kE else body th
      | none => body th
    | .f _ q => bif anyL i ls then body ⟨th.t, th.nx, q⟩ else body th
    | .auto p l => match p with
      | .u k q => match nthL ls k with
        | some S => bif Nat.beq S.l i then runL m S (.auto q l) fr th kE else body th
        | none => body th
      | .f _ q => bif anyL i ls then body ⟨th.t, th.nx, .auto q l⟩ else body th
      | _ => body th
    | _ => body th
def lpN (m i : Nat) (g : Cl) (a : CF) (ls : List LS) : Nat → BF
  | 0 => fun _ _ _ _ _ => False
  | n + 1 => fun fr th kN kE kR => hookL m i ls fr th kE fun th => a g ⟨n, ls⟩ fr th (fun fr th => lpN m i g a ls n fr th kN kE kR) kE kR
def cSkip : CF := fun _ _ fr th kN _ _ => kN fr th
def cRow (m : Nat) (s : SF) : CF := fun g n fr th kN _ _ => s g fr th fun fr th => kN (fr.fl m) th
def cRowN (s : SF) : CF := fun g n fr th kN _ _ => s g fr th kN
def cCom (m : Nat) (l : List RE) (s : SF) : CF := fun g n fr th kN _ _ => evR g l fr th [] [] fun fr th => s g fr th fun fr th => kN (fr.fl m) th
def cSeq (a b : CF) : CF := fun g n fr th kN kE kR => a g n fr th (fun fr th => b g n fr th kN kE kR) kE kR
def cIf (c : Opd) (a b : CF) : CF := fun g n fr th kN kE kR => match evO fr c with
  | some v => match v with
    | .bool t => match t with
      | true => a g n fr th kN kE kR
      | false => b g n fr th kN kE kR
    | _ => False
  | none => False
def cBlk (i : Nat) (a : CF) : CF := fun g n fr th kN kE kR => a g n fr th kN (fun j => bif Nat.beq j i then kN else kE j) kR
def cLoop (m i : Nat) (a : CF) : CF := fun g n fr th kN kE kR => lpN m i g a n.ls n.n fr th kN kE kR
def cExit (i : Nat) : CF := fun _ _ fr th _ kE _ => kE i fr th
def cRet : CF := fun _ _ fr th _ _ kR => kR fr th
def cBad : CF := fun _ _ _ _ _ _ _ => False
def evC : FC → CF
  | .skip => cSkip
  | .seqr fl m l => match fl with
    | true => cRow m (evH l [] (outsOf m l))
    | false => cRowN (evH l [] (outsOf m l))
  | .com m l r => cCom m l (evS r)
  | .seq a b => cSeq (evC a) (evC b)
  | .cond c a b => cIf c (evC a) (evC b)
  | .block i a => cBlk i (evC a)
  | .loop m i a => cLoop m i (evC a)
  | .exit i => cExit i
  | .ret => cRet
  | .bad => cBad
inductive RV where
  | t (i : Nat)
  | c (i k : Nat) (agg : Bool)
/-- Functions without a body. -/
inductive XK where
  | cmp
inductive FFn where
  | f (np m b : Nat) (rs : List RV) (code : CF)
  | x (k : XK)
  | t
  | s (l : List Sm) (g : FFn)
  | l (l : List LS) (g : FFn)
  | p (q : List FV → TH → Prop)
  | col (ks : List Nat)
def evE : XK → List FV → Option FV
  | .cmp, l => match l with
    | [x, y] => match x with
      | .str a => match y with
        | .str b => some (.int .i64 (bif llt a b then .negSucc 0 else bif leq a b then .ofNat 0 else .ofNat 1))
        | _ => none
      | _ => none
    | _ => none
def evRV (fr : Fr) (th : Tr TO) : List RV → Option (List FV)
  | [] => some []
  | .t i :: r => match fr.get i with
    | some x => match evRV fr th r with
      | some l => some (x :: l)
      | none => none
    | none => none
  | .c i k agg :: r => match fr.get i with
    | some x => match ldF th k agg x with
      | some y => match evRV fr th r with
        | some l => some (y :: l)
        | none => none
      | none => none
    | none => none
def one1 : List FV → FV
  | [x] => x
  | l => .tup l
def retK (rs : List RV) (K : FV → TH → Prop) : KF := fun fr th => match evRV fr th.t rs with
  | some l => K (one1 l) th
  | none => False
def frame : Nat → List FV → Fr → Fr
  | _, [], t => t
  | i, x :: r, t => frame i.succ r (t.put i x)
abbrev Fn1 := Nat → List FV → TH → (FV → TH → Prop) → Prop
def callF (fn : Fn1) : Cl := fun f l th K => match f with
  | .fn g a b => match g with
    | .func i => fn i (a ++ (l ++ b)) th K
    | _ => False
  | _ => False
/-- slices.Collect of a map's keys, where there is one at most. -/
def colM (m : List (FV × FV)) (th : TH) (K : FV → TH → Prop) : Prop := match m with
  | [] => K .nsl th
  | p :: r => match r with
    | [] => match p.1 with
      | .str l => bif Nat.ble l.length 1000 then K (.sl th.nx 0 0 1 (.hid 0)) (th.new (.cells [p.1] 1)) else False
      | _ => False
    | _ => False
def colB (ks : List Nat) (k : Nat) (b : List FV) (th : TH) (K : FV → TH → Prop) : Prop := bif memN k ks then match b with
  | [] => False
  | x :: r => match r with
    | [] => match x with
      | .ptr j o => match o with
        | 0 => match th.t.get j with
          | some (.cells cs z) => match z with
            | 0 => match cs with
              | [] => False
              | y :: _ => match y with
                | .map i => match th.t.get i with
                  | some (.map d m) => match d with
                    | .s => colM m th K
                    | _ => False
                  | _ => False
                | _ => False
            | _ => False
          | _ => False
        | _ => False
      | _ => False
    | _ => False
  else False
def colF (ks : List Nat) (l : List FV) (th : TH) (K : FV → TH → Prop) : Prop := match l with
  | [] => False
  | x :: r => match r with
    | [] => match x with
      | .fn g a b => match g with
        | .func k => match a with
          | [] => colB ks k b th K
          | _ => False
        | _ => False
      | _ => False
    | _ => False
def runF (lf : LF) (g : Cl) (f : FFn) (l : List FV) (th : TH) (K : FV → TH → Prop) : Prop := match f with
  | .f np m b rs code => bif Nat.beq l.length np then code g lf (frame 0 l (.base m (skel b 0))) th (retK rs K) (fun _ _ _ => False) (retK rs K) else False
  | .x k => match evE k l with
    | some v => K v th
    | none => False
  | .t => match l with
    | [] => K (.bool true) th
    | _ => False
  | .s ss f => match th.scr with
    | .u n r => match nthS ss n with
      | some S => runS S (bnd S l th.t) l ⟨th.t, th.nx, r⟩ K
      | none => False
    | .auto q m => match q with
      | .u n r => match nthS ss n with
        | some S => runS S (bnd S l th.t) l ⟨th.t, th.nx, .auto r m⟩ K
        | none => False
      | _ => runF lf g f l th K
    | _ => runF lf g f l th K
  | .l ls f => runF ⟨lf.n, ls⟩ g f l th K
  | .p q => q l th
  | .col ks => colF ks l th K
def eng (tab : Tr FFn) (lf : Nat) : Nat → Fn1
  | 0 => fun _ _ _ _ => False
  | n + 1 => fun i l th K => match tab.get i with
    | some f => runF ⟨lf, []⟩ (callF (eng tab lf n)) f l th K
    | none => False
end Go.Va
