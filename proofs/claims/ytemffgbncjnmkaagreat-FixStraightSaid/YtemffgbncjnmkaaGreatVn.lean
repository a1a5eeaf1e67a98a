import Derived.Test.YtemffgbncjnmkaaGreatVxo
import Derived.LoopN
set_option linter.unusedVariables false
set_option linter.unusedSectionVars false
set_option linter.unusedSimpArgs false
noncomputable section
namespace Go.Va
open Go Go.Sh
variable [Vb]
variable {P:Program}{ds:List Deferred}
def beqB (a b:Bool):Bool:=match a with
 | true=>b
 | false=>b.not
theorem QKR {a b:Bool}(h:beqB a b=true):a=b:=by cases a<;>cases b<;>first | rfl | cases h
def rsl0 (x:FV)(th:TH)(K:FV→TH→Prop):Prop:=match x with
 | .sb b=>match th.scr with
  | .f c r=>b.ev=c∧K (.bool c) (th.scrp r)
  | .s l r=>(b.ev=true→K (.bool true) (th.scrp l))∧(b.ev=false→K (.bool false) (th.scrp r))
  | .n r=>K (.sb b) (th.scrp r)
  | _=>bif b.ev then K (.bool true) th else K (.bool false) th
 | x=>K x th
def altK (n:Int)(th:TH)(K:FV→TH→Prop):Nat→List FV→Prop
 | _,[]=>True
 | j,x::l=>bif decide (n=Int.ofNat j) then K x th else altK n th K j.succ l
def rsl (x:FV)(th:TH)(K:FV→TH→Prop):Prop:=match x with
 | .obl c y=>c.ev=true∧rsl0 y th K
 | .alt n l=>(0≤n.ev∧n.ev<Int.ofNat l.length)∧altK n.ev th K 0 l
 | x=>rsl0 x th K
theorem QvD {x:FV}{th:TH}{K:FV→TH→Prop}(hx:rsl0 x th K):∃y s,(∀E v,den E x=some v→den E y=some v)∧K y (th.scrp s):=by
 have same:∀s,K x (th.scrp s)→∃y s,(∀E v,den E x=some v→den E y=some v)∧K y (th.scrp s):=fun s hk=>⟨x,s,fun _ _ h=>h,hk⟩
 cases x<;>try (exact same th.scr hx)
 rename_i b
 have tell:∀ {c:Bool}{q:Scr},b.ev=c→K (.bool c) (th.scrp q)→∃y s,(∀E v,den E (.sb b)=some v→den E y=some v)∧K y (th.scrp s):=fun {c q} e hk=>by
  subst e
  exact⟨.bool b.ev,q,fun F u h=>h,hk⟩
 have both:(bif b.ev then K (.bool true) th else K (.bool false) th)→∃y s,(∀E v,den E (.sb b)=some v→den E y=some v)∧K y (th.scrp s):=fun h=>by
  cases hb:b.ev with
  | true=>rw[hb] at h;exact tell (q:=th.scr) hb h
  | false=>rw[hb] at h;exact tell (q:=th.scr) hb h
 simp only[rsl0] at hx
 cases hs:th.scr with
 | f c q=>rw[hs] at hx;exact tell hx.1 hx.2
 | s l q=>
  rw[hs] at hx
  cases hb:b.ev with
  | true=>exact tell hb (hx.1 hb)
  | false=>exact tell hb (hx.2 hb)
 | n q=>rw[hs] at hx;exact same q hx
 | _=>rw[hs] at hx;exact both hx
theorem QC5 {n:Int}{th:TH}{K:FV→TH→Prop}:∀ {l:List FV}{j:Nat},altK n th K j l→(j:Int)≤n→n<j+l.length→K (l.getD (n.toNat - j) .nilp) th
 | [],j,_,h1,h2=>by simp at h2;omega
 | x::l,j,h,h1,h2=>by
  simp only[altK] at h
  by_cases e:n=Int.ofNat j
  ·have:n.toNat - j=0:=by have:n=(j:Int):=e;omega
   rw[this];rw[decide_eq_true e] at h;exact h
  ·have e':n≠(j:Int):=e
   rw[decide_eq_false e] at h
   have:=QC5 h (by show ((j+1:Nat):Int)≤n;omega) (by simp only[List.length_cons] at h2;show n<((j+1:Nat):Int)+_;omega)
   have e2:n.toNat - j=(n.toNat - j.succ)+1:=by omega
   rw[e2,List.getD_cons_succ];exact this
theorem Qtq {x:FV}{th:TH}{K:FV→TH→Prop}(hx:rsl x th K):obH x∧∃y s,(∀E v,den E (strip x)=some v→den E y=some v)∧K y (th.scrp s):=by
 cases x<;>first | exact⟨trivial,QvD hx⟩ | exact⟨hx.1,QvD hx.2⟩ | skip
 rename_i n l
 refine⟨hx.1,l.getD n.ev.toNat .nilp,th.scr,fun E v h=>h,?_⟩
 have h1:n.ev<(l.length:Int):=hx.1.2
 exact QC5 (j:=0) hx.2 hx.1.1 (by omega)
theorem QFM {E:Env}{th:TH}{h0 h:Heap}{L:List HP}(r:Rep E th h0 h L){x:FV}{v:Value}(hd:den E (strip x)=some v){K:FV→TH→Prop}(hx:rsl x th K):∃y th',den E y=some v∧Rep E th' h0 h L∧K y th':=by
 obtain⟨_,y,s,h1,h2⟩:=Qtq hx
 exact⟨y,_,h1 E v hd,r.scrp s,h2⟩
def AgF (E:Env)(n:Nat)(fr:Fr)(f:Nat→Value):Prop:=∀t x,fr.get t=some x→t<n∧den E x=some (f t)
theorem AgF.mono {E F:Env}{n:Nat}{fr:Fr}{f:Nat→Value}(h:AgF E n fr f)(he:E.Le F):AgF F n fr f:=fun t x hx=>⟨(h t x hx).1,QbR he (h t x hx).2⟩
theorem AgF.fl (m:Nat){E:Env}{n:Nat}{fr:Fr}{f:Nat→Value}(h:AgF E n fr f):AgF E n (fr.fl m) f:=fun t x hx=>h t x (Fr.fl_get hx)
theorem AgF.put {E:Env}{n:Nat}{fr:Fr}{f:Nat→Value}(h:AgF E n fr f){d:Nat}{x:FV}{v:Value}(hd:d<n)(hx:den E x=some v):AgF E n (fr.put d x) (upd f d v):=fun t y hy=>by
 by_cases ht:t=d
 ·subst ht
  rw[Fr.get_eq] at hy;simp only[Option.some.injEq] at hy;subst hy
  exact⟨hd,by simp[upd,hx]⟩
 ·rw[Fr.get_ne _ _ ht] at hy
  refine⟨(h t y hy).1,?_⟩
  have:Nat.beq t d=false:=Qct ht
  simp only[upd,this,cond_false]
  exact (h t y hy).2
theorem AgF.ago {E:Env}{n:Nat}{fr:Fr}{f:Nat→Value}(h:AgF E n fr f):AgO E fr (evf n f):=fun y z v hc hv=>by
 cases y with
 | tmp t=>
  simp only[c1,Option.some.injEq] at hc;subst hc
  obtain⟨h1,h2⟩:=h t v hv
  simp only[evf,Qs6 h1,cond_true];exact h2
 | const u=>
  simp only[c1] at hc
  cases ho:ofV u with
  | none=>rw[ho] at hc;cases hc
  | some x=>
   rw[ho] at hc;simp only[Option.some.injEq] at hc;subst hc
   simp only[evO,Option.some.injEq] at hv;subst hv
   exact QyC E ho
 | func g=>
  simp only[c1,Option.some.injEq] at hc;subst hc
  simp only[evO,Option.some.injEq] at hv;subst hv
  rfl
 | global g=>cases hc
structure CO where
 dst:Option Nat
 m:MOp
 g:Option (Nat×Bool)
inductive G3 where
 | go
 | skip
 | bad
def gst (fr:Fr):Option (Nat×Bool)→G3
 | none=>.go
 | some p=>match fr.get p.1 with
  | some v=>match v with
   | .bool b=>match b with
    | true=>(match p.2 with
     | true=>.go
     | false=>.skip)
    | false=>(match p.2 with
     | true=>.skip
     | false=>.go)
   | .tup l=>match l with
    | []=>.skip
    | _=>.bad
   | _=>.bad
  | none=>.bad
def putO (fr:Fr)(d:Option Nat)(x:FV):Fr:=match d with
 | some d=>fr.put d x
 | none=>fr
def dOk (n:Nat):Option Nat→Bool
 | some d=>Nat.blt d n
 | none=>true
def copN (P:Program)(o:Oper):MOp:=match copA P o with
 | some m=>m
 | none=>.no
def cO (P:Program)(n:Nat)(ops:Array Oper)(o:Oper):Option CO:=bif dOk n o.dst then match o.guard with
  | none=>some ⟨o.dst,copN P o,none⟩
  | some (j,want)=>match (ops[j]?).bind (·.dst) with
   | some d=>bif Nat.blt d n then some ⟨o.dst,copN P o,some (d,want)⟩ else none
   | none=>none
 else none
def cOL (P:Program)(n:Nat)(ops:Array Oper):List Oper→Option (List CO)
 | []=>some []
 | o::r=>match cO P n ops o,cOL P n ops r with
  | some c,some l=>some (c::l)
  | _,_=>none
abbrev KF:=Fr→TH→Prop
abbrev SF:=Cl→Fr→TH→KF→Prop
def sN:SF:=fun _ fr th K=>K fr th
def sBad:SF:=fun _ _ _ _=>False
def sQ (d:Option Nat)(m:MOp)(r:SF):SF:=fun cl fr th K=>match evQ fr th.t m with
 | some x=>rsl x th fun y th=>r cl (putO fr d y) th K
 | none=>False
def sE (d:Option Nat)(m:MOp)(r:SF):SF:=fun cl fr th K=>evXA cl fr th m fun v th=>r cl (putO fr d v) th K
def sX (d:Option Nat)(x:Fr→TH→(FV→TH→Prop)→Prop)(r:SF):SF:=fun cl fr th K=>x fr th fun v th=>r cl (putO fr d v) th K
def sK (d:Option Nat)(f:Opd)(l:List Opd)(r:SF):SF:=fun cl fr th K=>QA0 cl f l fr th fun v th=>r cl (putO fr d v) th K
def sS (d:Option Nat)(x:Opd)(lo hi:Option Opd)(r:SF):SF:=fun cl fr th K=>match evQ fr th.t (.slcS x lo hi) with
 | some v=>rsl v th fun y th=>r cl (putO fr d y) th K
 | none=>Qtf x lo hi fr th fun v th=>r cl (putO fr d v) th K
def sSl (d:Option Nat)(k:Nat)(x:Opd)(lo hi mx:Option Opd)(r:SF):SF:=fun cl fr th K=>match evQ fr th.t (.slc k x lo hi mx) with
 | some v=>rsl v th fun y th=>r cl (putO fr d y) th K
 | none=>xSlo k x lo hi mx fr th fun v th=>r cl (putO fr d v) th K
def sL (d:Option Nat)(kd:KD)(z:FV)(ok:Bool)(x k:Opd)(r:SF):SF:=fun cl fr th K=>match evQ fr th.t (.lkp kd z ok x k) with
 | some v=>rsl v th fun y th=>r cl (putO fr d y) th K
 | none=>xLkm kd z ok x k fr th fun v th=>r cl (putO fr d v) th K
def sG (g:Nat)(w:Bool)(d:Option Nat)(s:SF→SF)(r:SF):SF:=fun cl fr th K=>match gst fr (some (g,w)) with
 | .go=>s r cl fr th K
 | .skip=>r cl (putO fr d undF) th K
 | .bad=>False
def QA7 (d:Option Nat)(m:MOp)(r:SF):SF:=match m with
 | .slcS x lo hi=>sS d x lo hi r
 | .lkp kd z ok x k=>sL d kd z ok x k r
 | .slc k x lo hi mx=>sSl d k x lo hi mx r
 | .alc z=>sX d (xAlc z) r
 | .box x=>sX d (xBox x) r
 | .st k a v=>sE d (.st k a v) r
 | .bsl _ n z pl ps=>sX d (xBsl n z pl ps) r
 | .mks _ b z l c=>sX d (xMks b z l c) r
 | .app k b s x=>sE d (.app k b s x) r
 | .call f l=>sK d f l r
 | .mkm k x=>sX d (xMkm k x) r
 | .mup k x i v=>sX d (xMup k x i v) r
 | .bs0=>sX d (fun _ th K=>xBs0 th K) r
 | .rng x=>sX d (xRng x) r
 | .nxt x=>sX d (xNxt x) r
 | .apc k b z s n=>sX d (xApc k b z s n) r
 | .inv _ _ _=>sBad
 | .xx x=>sE d (.xx x) r
 | m=>sQ d m r
def QFo (c:CO)(r:SF):SF:=match c.g with
 | none=>QA7 c.dst c.m r
 | some p=>sG p.1 p.2 c.dst (QA7 c.dst c.m) r
def evS:List CO→SF
 | []=>sN
 | c::r=>QFo c (evS r)
theorem QLa {d:Option Nat}{m:MOp}{r:SF}{cl:Cl}{fr:Fr}{th:TH}{K:KF}(h:sQ d m r cl fr th K):∃x,evQ fr th.t m=some x∧rsl x th fun y th=>r cl (putO fr d y) th K:=by
 unfold sQ at h
 cases hq:evQ fr th.t m with
 | none=>rw[hq] at h;exact h.elim
 | some x=>rw[hq] at h;exact⟨x,rfl,h⟩
theorem QK9 {d:Option Nat}{x:Opd}{lo hi:Option Opd}{r:SF}{cl:Cl}{fr:Fr}{th:TH}{K:KF}(h:sS d x lo hi r cl fr th K) :
  (∃v,evQ fr th.t (.slcS x lo hi)=some v∧rsl v th fun y th=>r cl (putO fr d y) th K)∨evXA cl fr th (.slcS x lo hi) fun v th=>r cl (putO fr d v) th K:=by
 unfold sS at h
 cases hq:evQ fr th.t (.slcS x lo hi) with
 | none=>rw[hq] at h;exact .inr h
 | some v=>rw[hq] at h;exact .inl ⟨v,rfl,h⟩
theorem QLb {d:Option Nat}{kd:KD}{z:FV}{ok:Bool}{x k:Opd}{r:SF}{cl:Cl}{fr:Fr}{th:TH}{K:KF}(h:sL d kd z ok x k r cl fr th K) :
  (∃v,evQ fr th.t (.lkp kd z ok x k)=some v∧rsl v th fun y th=>r cl (putO fr d y) th K)∨evXA cl fr th (.lkp kd z ok x k) fun v th=>r cl (putO fr d v) th K:=by
 unfold sL at h
 cases hq:evQ fr th.t (.lkp kd z ok x k) with
 | none=>rw[hq] at h;exact .inr h
 | some v=>rw[hq] at h;exact .inl ⟨v,rfl,h⟩
theorem QJ9 {d:Option Nat}{k:Nat}{x:Opd}{lo hi mx:Option Opd}{r:SF}{cl:Cl}{fr:Fr}{th:TH}{K:KF}(h:sSl d k x lo hi mx r cl fr th K) :
  (∃v,evQ fr th.t (.slc k x lo hi mx)=some v∧rsl v th fun y th=>r cl (putO fr d y) th K)∨evXA cl fr th (.slc k x lo hi mx) fun v th=>r cl (putO fr d v) th K:=by
 unfold sSl at h
 cases hq:evQ fr th.t (.slc k x lo hi mx) with
 | none=>rw[hq] at h;exact .inr h
 | some v=>rw[hq] at h;exact .inl ⟨v,rfl,h⟩
theorem QHr {d:Option Nat}{m:MOp}{r:SF}{cl:Cl}{fr:Fr}{th:TH}{K:KF}(h:QA7 d m r cl fr th K) :
  (∃x,evQ fr th.t m=some x∧rsl x th fun y th=>r cl (putO fr d y) th K)∨evXA cl fr th m fun v th=>r cl (putO fr d v) th K:=by
 cases m<;>first
  | exact .inl (QLa h)
  | exact QK9 h
  | exact QLb h
  | exact QJ9 h
  | exact .inr h
  | exact h.elim
theorem QHG {c:CO}{r:SF}{cl:Cl}{fr:Fr}{th:TH}{K:KF}(h:QFo c r cl fr th K):match gst fr c.g with
  | .go=>QA7 c.dst c.m r cl fr th K
  | .skip=>r cl (putO fr c.dst undF) th K
  | .bad=>False:=by
 unfold QFo at h
 cases hg:c.g with
 | none=>rw[hg] at h;exact h
 | some p=>rw[hg] at h;exact h
structure COk (P:Program)(n:Nat)(ops:Array Oper)(o:Oper)(c:CO):Prop where
 m:c.m≠.no→copA P o=some c.m
 d:c.dst=o.dst
 lt:∀d,o.dst=some d→d<n
 g:(o.guard=none∧c.g=none)∨∃j want d,o.guard=some (j,want)∧(ops[j]?).bind (·.dst)=some d∧d<n∧c.g=some (d,want)
theorem QEr {o:Oper}(h:copN P o≠.no):copA P o=some (copN P o):=by
 unfold copN at *
 cases hm:copA P o with
 | none=>rw[hm] at h;exact absurd rfl h
 | some m=>rfl
theorem QBe {n:Nat}{ops:Array Oper}{o:Oper}{c:CO}(h:cO P n ops o=some c):COk P n ops o c:=by
 unfold cO at h
 cases hd:dOk n o.dst with
 | false=>rw[hd] at h;cases h
 | true=>
  rw[hd] at h
  simp only[cond_true] at h
  have hlt:∀d,o.dst=some d→d<n:=fun d e=>by rw[e] at hd;exact QaQ hd
  cases hg:o.guard with
  | none=>rw[hg] at h;simp only[Option.some.injEq] at h;subst h;exact⟨QEr,rfl,hlt,.inl ⟨hg,rfl⟩⟩
  | some p=>
   obtain⟨j,want⟩:=p
   rw[hg] at h
   simp only at h
   cases hj:(ops[j]?).bind (·.dst) with
   | none=>rw[hj] at h;cases h
   | some d=>
    rw[hj] at h
    simp only at h
    cases hb:Nat.blt d n with
    | false=>rw[hb] at h;cases h
    | true=>rw[hb] at h;simp only[cond_true,Option.some.injEq] at h;subst h;exact⟨QEr,rfl,hlt,.inr ⟨j,want,d,hg,hj,QaQ hb,rfl⟩⟩
theorem QKC {fr:Fr}{th:Tr TO}{m:MOp}{x:FV}(h:evQ fr th m=some x):m≠.no:=fun e=>by subst e;simp[evQ,evQ0,evZ] at h
theorem QCt {cl:Cl}{fr:Fr}{th:TH}{m:MOp}{K:FV→TH→Prop}(h:evXA cl fr th m K):m≠.no:=fun e=>by subst e;exact h
theorem Qwy {n:Nat}{ops:Array Oper}{o:Oper}{r:List Oper}{l:List CO}(h:cOL P n ops (o::r)=some l):∃c l',cO P n ops o=some c∧cOL P n ops r=some l'∧l=c::l':=by
 simp only[cOL] at h
 cases h1:cO P n ops o with
 | none=>rw[h1] at h;cases h
 | some c=>
  cases h2:cOL P n ops r with
  | none=>rw[h1,h2] at h;cases h
  | some l'=>rw[h1,h2] at h;simp only[Option.some.injEq] at h;exact⟨c,l',rfl,rfl,h.symm⟩
theorem Qss {E:Env}{n:Nat}{ops:Array Oper}{o:Oper}{c:CO}{fr:Fr}{f:Nat→Value}(hc:COk P n ops o c)(ha:AgF E n fr f)(h:gst fr c.g=.go):Region.wanted o (yielded ops (mkD ds n f).tmps)=true:=by
 rcases hc.g with⟨h1,h2⟩ | ⟨j,want,d,h1,h2,h3,h4⟩
 ·exact Qjs h1
 ·rw[h4] at h
  simp only[gst] at h
  cases hv:fr.get d with
  | none=>rw[hv] at h;cases h
  | some v=>
   rw[hv] at h
   obtain⟨_,h5⟩:=ha d v hv
   cases v<;>try (cases h;done)
   case bool b=>
    simp only[den,Option.some.injEq] at h5
    refine QEG h1 h2 (Qs6 h3) ?_
    rw[←h5]
    cases b<;>cases want<;>first | rfl | cases h
   case tup l=>cases l<;>cases h
theorem Qp2 {E:Env}{n:Nat}{ops:Array Oper}{o:Oper}{c:CO}{fr:Fr}{f:Nat→Value}(hc:COk P n ops o c)(ha:AgF E n fr f)(h:gst fr c.g=.skip):Region.wanted o (yielded ops (mkD ds n f).tmps)=false:=by
 rcases hc.g with⟨h1,h2⟩ | ⟨j,want,d,h1,h2,h3,h4⟩
 ·rw[h2] at h;cases h
 ·rw[h4] at h
  simp only[gst] at h
  cases hv:fr.get d with
  | none=>rw[hv] at h;cases h
  | some v=>
   rw[hv] at h
   obtain⟨_,h5⟩:=ha d v hv
   cases v<;>try (cases h;done)
   case bool b=>
    simp only[den,Option.some.injEq] at h5
    refine QFw h1 h2 (Qs6 h3) ?_
    rw[←h5]
    cases b<;>cases want<;>first | rfl | cases h
   case tup l=>
    cases l with
    | nil=>
     simp only[den,denL,Option.some.injEq] at h5
     exact QBn h1 h2 (Qs6 h3) (by rw[←h5];rfl)
    | cons a r=>cases h
theorem QvE {E:Env}{th:TH}{h0 h:Heap}{L:List HP}{n:Nat}{fr:Fr}{f:Nat→Value}{o:Oper}{c:CO}{ops:Array Oper}{x:FV}(r:Rep E th h0 h L)(ha:AgF E n fr f)(hc:COk P n ops o c)(hx:evQ fr th.t c.m=some x)(hob:obH x) :
  Sq P (Eq h) (execOp (evf n f) o) fun v=>den E (strip x)=some v:=QJe r ha.ago (hc.m (QKC hx)) hx hob
theorem QCu [Gd]{cl:Cl}(hcl:ClOk P cl){n:Nat}{ops:Array Oper}{h0:Heap}{L:List HP}{w0:World}{Q:Exit→Act→World→Prop}(hp:PnOk ds Q w0 (fun _ _=>True)):∀(l:List Oper)(cs:List CO)(fr:Fr)(th:TH)(K:Fr→TH→Prop)(E:Env)(f:Nat→Value)(w:World),
  cOL P n ops l=some cs→evS cs cl fr th K→AgF E n fr f→Rep E th h0 w.heap L→Qx w0 w →
  (∀F fr' th' f' w',E.Le F→AgF F n fr' f'→Rep F th' h0 w'.heap L→Qx w0 w'→K fr' th'→Q .normal (mkD ds n f') w')→wpList P ops Q l (mkD ds n f) w
 | [],cs,fr,th,K,E,f,w,hc,hx,ha,r,hs,fin=>by
  simp only[cOL,Option.some.injEq] at hc;subst hc
  exact QDX (fin E fr th f w (Env.Le.refl E) ha r hs hx)
 | o::l,cs,fr,th,K,E,f,w,hc,hx,ha,r,hs,fin=>by
  obtain⟨c,cs',h1,h2,rfl⟩:=Qwy hc
  have ok:=QBe h1
  have hx:=QHG hx
  have next:∀(F:Env) (x:FV) (th':TH) (v:Value) (w':World),E.Le F→den F x=some v→Rep F th' h0 w'.heap L→Qx w0 w'→evS cs' cl (putO fr c.dst x) th' K →
    (∀d,o.dst=some d→wpList P ops Q l (mkD ds n (upd f d v)) w')∧(o.dst=none→wpList P ops Q l (mkD ds n f) w'):=fun F x th' v w' hle hd hr hs' hx'=>by
   constructor
   ·intro d hd'
    rw[ok.d,hd'] at hx'
    exact QCu hcl hp l cs' _ th' K F _ w' h2 hx' ((ha.mono hle).put (ok.lt d hd') hd) hr hs' fun F' fr' th2 f' w2 a b c' d' e=>fin F' fr' th2 f' w2 (hle.trans a) b c' d' e
   ·intro hd'
    rw[ok.d,hd'] at hx'
    exact QCu hcl hp l cs' _ th' K F _ w' h2 hx' (ha.mono hle) hr hs' fun F' fr' th2 f' w2 a b c' d' e=>fin F' fr' th2 f' w2 (hle.trans a) b c' d' e
  cases hg:gst fr c.g with
  | bad=>rw[hg] at hx;exact hx.elim
  | skip=>
   rw[hg] at hx
   have hw:=Qp2 (ds:=ds) ok ha hg
   obtain⟨n1,n2⟩:=next E undF th undef w (Env.Le.refl E) (Qhv E) r hs hx
   cases hd:o.dst with
   | none=>exact Qzq hw hd (n2 hd)
   | some d=>exact QBB hw hd (n1 d hd)
  | go=>
   rw[hg] at hx
   have hw:=Qss (ds:=ds) ok ha hg
   simp only at hx
   rcases QHr hx with⟨x,hq,hx⟩ | hx
   ·have sq:=QvE r ha ok hq (Qtq hx).1
    obtain⟨v,hv1,hv2⟩:=sq
    obtain⟨y,th',g1,g2,g3⟩:∃y th',den E y=some v∧Rep E th' h0 w.heap L∧evS cs' cl (putO fr c.dst y) th' K:=by
     exact QFM r hv2 hx
    obtain⟨n1,n2⟩:=next E y th' v w (Env.Le.refl E) g1 g2 hs g3
    have sq':Sq P (Eq w.heap) (execOp (evf n f) o) (fun u=>u=v):=⟨v,hv1,rfl⟩
    cases hd:o.dst with
    | none=>
     refine Qdt hw ?_
     rw[hv1 w rfl,Oper.upon_value,hd,Qn3]
     exact n2 hd
    | some d=>exact QEM rfl sq' rfl hw hd fun u hu=>by rw[hu];exact n1 d hd
   ·have sx:=QtH hcl r ha.ago (ok.m (QCt hx)) hx
    cases hd:o.dst with
    | none=>
     refine QHV rfl sx rfl hw hd (fun v h' w' e1 e2 ⟨F,x,th',g1,g2,g3,g4⟩=>?_) hs trivial
     subst e1
     exact (next F x th' v w' g1 g2 g3 (hs.trans e2) g4).2 hd
    | some d=>
     refine QEL rfl sx rfl hw hd (fun v h' w' e1 e2 ⟨F,x,th',g1,g2,g3,g4⟩=>?_) hs trivial
     subst e1
     exact (next F x th' v w' g1 g2 g3 (hs.trans e2) g4).1 d hd
end Go.Va
