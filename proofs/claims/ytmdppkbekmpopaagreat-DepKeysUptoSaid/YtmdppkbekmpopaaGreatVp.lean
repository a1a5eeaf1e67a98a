import Derived.Test.YtmdppkbekmpopaaGreatVov
import Derived.Lib.Bytealg
import GoSem.Extern.BytealgIndexByte
set_option linter.unusedVariables false
set_option linter.unusedSimpArgs false
set_option linter.unusedSectionVars false
noncomputable section
namespace Go.Va
open Go Go.Sh
variable [Vb]
inductive RE where
 | q (i:Nat) (ts:List Nat) (c:CO) (dq:List Nat)
 | a (i:Nat) (ts:List Nat) (c:CO)
 | e (i:Nat) (ts:List Nat) (c:CO) (dp:List Nat)
structure PE where
 i:Nat
 fr:Fr
 c:CO
 x:FV
 dq:List Nat
structure HE where
 i:Nat
 id:Nat
 o:TO
def QcW (fr:Fr):List Nat→Fr
 | []=>.base 0 .nil
 | t::ts=>match fr.get t with
  | some x=>(QcW fr ts).put t x
  | none=>QcW fr ts
def isLd:MOp→Bool
 | .ld _ _ _=>true
 | .lkp _ _ _ _ _=>true
 | .lenM _=>true
 | .ent _=>true
 | .iadr _ _ _=>true
 | .lenS _=>true
 | _=>false
def QgM (dp:List Nat):List PE→List PE
 | []=>[]
 | p::r=>bif memN p.i dp then QgM dp r else p::QgM dp r
def relH (dp:List Nat)(t:Tr TO):List HE→Tr TO
 | []=>t
 | p::r=>bif memN p.i dp then (relH dp t r).put p.id p.o else relH dp t r
def rdT (fr:Fr)(m:MOp):Bool:=match m with
 | .iadr _ x _=>match evO fr x with
  | some (.os _ _)=>true
  | _=>false
 | .lenS x=>match evO fr x with
  | some (.os _ _)=>true
  | _=>false
 | .ld _ _ x=>match evO fr x with
  | some (.dp _ _)=>false
  | some (.dn _ _ _)=>false
  | _=>true
 | m=>isLd m
def Qhf (th:Tr TO)(hs:List HE):List PE→Prop→Prop
 | [],R=>R
 | p::r,R=>bif rdT p.fr p.c.m then match gst p.fr p.c.g with
   | .go=>match evQ p.fr (relH p.dq th hs) p.c.m with
    | some y=>eqK p.x y (Qhf th hs r R)
    | none=>False
   | _=>Qhf th hs r R
  else Qhf th hs r R
def Qc3 (dp:List Nat):List HE→List HE
 | []=>[]
 | p::r=>bif memN p.i dp then Qc3 dp r else p::Qc3 dp r
def allH (t:Tr TO):List HE→Tr TO
 | []=>t
 | p::r=>(allH t r).put p.id p.o
def cstL:List FV→Bool
 | []=>true
 | x::r=>bif cst x then cstL r else false
def cstO:Opd→Bool
 | .t _=>true
 | .c v=>cst v
def cstP:List (Nat×Opd)→Bool
 | []=>true
 | p::r=>bif cstO p.2 then cstP r else false
def alF (fr:Fr):MOp→Option (FV×TO)
 | .alc z=>bif cstL z&&z.all oneF then some (.ptr 0 0,.cells z 0) else none
 | .box x=>bif cstO x then match evO fr x with
   | some v=>bif QfE v then some (.ptr 0 0,.cells (QbI v) 0) else none
   | none=>none
  else none
 | .bsl _ n z pl ps=>bif cstL z&&z.all oneF&&cstP ps then match evP fr ps with
   | some l=>match Qc4 z pl l with
    | some cs=>some (.sl 0 0 0 n (.lit n),.cells cs 0)
    | none=>none
   | none=>none
  else none
 | .mks _ b z l c=>match QpQ fr c with
  | some _=>none
  | none=>bif cstL z&&z.all oneF then match evN fr l with
    | some l=>match evN fr c with
     | some c=>bif Nat.beq l c&&(Nat.ble l c&&Nat.ble (b * c) 140737488355328&&Nat.ble c 4611686018427387904) then some (.sl 0 0 0 c (.lit c),.cells (repF z c) 0) else none
     | none=>none
    | none=>none
   else none
 | _=>none
def reid (i:Nat):FV→FV
 | .ptr _ o=>.ptr i o
 | .sl _ a b c d=>.sl i a b c d
 | x=>x
def evR (cl:Cl):List RE→Fr→TH→List HE→List PE→(Fr→TH→Prop)→Prop
 | [],fr,th,hs,_,K=>K fr ⟨allH th.t hs,th.nx,th.scr⟩
 | .q i ts c dq::r,fr,th,hs,ps,K=>(fun fp=>match gst fp c.g with
  | .go=>match evQ fp (relH dq th.t hs) c.m with
   | some x=>rsl x th fun y th=>evR cl r (putO fr c.dst y) th hs (⟨i,fp,c,x,dq⟩::ps) K
   | none=>False
  | .skip=>evR cl r (putO fr c.dst undF) th hs (⟨i,fp,c,undF,dq⟩::ps) K
  | .bad=>False) (QcW fr ts)
 | .a i ts c::r,fr,th,hs,ps,K=>(fun fp=>match gst fp c.g with
  | .go=>match alF fp c.m with
   | some p=>evR cl r (putO fr c.dst (reid th.nx p.1)) ⟨th.t,th.nx.succ,th.scr⟩ (⟨i,th.nx,p.2⟩::hs) (⟨i,fp,c,undF,[]⟩::ps) K
   | none=>False
  | .skip=>evR cl r (putO fr c.dst undF) th hs (⟨i,fp,c,undF,[]⟩::ps) K
  | .bad=>False) (QcW fr ts)
 | .e i ts c dp::r,fr,th,hs,ps,K=>(fun fp=>match gst fp c.g with
  | .go=>evXA cl fp ⟨relH dp th.t hs,th.nx,th.scr⟩ c.m fun x th'=>Qhf th'.t (Qc3 dp hs) (QgM dp ps) (evR cl r (putO fr c.dst x) th' (Qc3 dp hs) (QgM dp ps) K)
  | .skip=>Qhf (relH dp th.t hs) (Qc3 dp hs) (QgM dp ps) (evR cl r (putO fr c.dst undF) ⟨relH dp th.t hs,th.nx,th.scr⟩ (Qc3 dp hs) (QgM dp ps) K)
  | .bad=>False) (QcW fr ts)
inductive FC where
 | skip
 | seqr (fl:Bool) (m:Nat) (l:List CO)
 | com (m:Nat) (l:List RE) (r:List CO)
 | seq (a b:FC)
 | cond (c:Opd) (a b:FC)
 | block (i:Nat) (a:FC)
 | loop (m i:Nat) (a:FC)
 | loopv (m ti:Nat) (b:Int) (keep:List Nat) (a:FC)
 | exit (i:Nat)
 | ret
 | chk (t g k:Nat)
 | bad
abbrev BF:=Fr→TH→KF→(Nat→KF)→KF→Prop
abbrev CF:=Cl→LF→BF
def getL (fr:Fr):List Nat→Option (List FV)
 | []=>some []
 | i::r=>match fr.get i with
  | some x=>match getL fr r with
   | some l=>some (x::l)
   | none=>none
  | none=>none
def putL (m:Nat)(fr:Fr):List Nat→List FV→Option Fr
 | [],xs=>match xs with
  | []=>some fr
  | _=>none
 | i::r,xs=>match xs with
  | []=>none
  | x::xs=>bif bitN m i then none else putL m (fr.put i x) r xs
def QES (m:Nat)(S:LCt)(fr:Fr)(th:TH)(kE:Nat→KF)(kR:KF):Prop:=match getL fr S.i0 with
 | some l=>runQ S.c l th fun e vs th=>match S.es[e]? with
  | some q=>match putL m (.base m .nil) q.2 vs with
   | some fr=>match q.1 with
    | some x=>kE x fr th
    | none=>kR fr th
   | none=>False
  | none=>False
 | none=>False
def lkLC (i:Nat):List LCt→Option LCt
 | []=>none
 | S::r=>bif Nat.beq S.l i then some S else lkLC i r
def QIe (m i:Nat)(ls:List LCt)(fr:Fr)(th:TH)(kE:Nat→KF)(kR:KF)(body:Prop):Prop:=match lkLC i ls with
 | some S=>QES m S fr th kE kR
 | none=>body
def lpN (m i:Nat)(g:Cl)(a:CF)(ls:List LCt):Nat→BF
 | 0=>fun _ _ _ _ _=>False
 | n+1=>fun fr th kN kE kR=>QIe m i ls fr th kE kR (a g ⟨n,ls⟩ fr th (fun fr th=>lpN m i g a ls n fr th kN kE kR) kE kR)
def QLn:CF:=fun _ _ fr th kN _ _=>kN fr th
def cRow (m:Nat)(s:SF):CF:=fun g n fr th kN _ _=>s g fr th fun fr th=>kN (fr.fl m) th
def QLo (s:SF):CF:=fun g n fr th kN _ _=>s g fr th kN
def cCom (m:Nat)(l:List RE)(s:SF):CF:=fun g n fr th kN _ _=>evR g l fr th [] [] fun fr th=>s g fr th fun fr th=>kN (fr.fl m) th
def cSeq (a b:CF):CF:=fun g n fr th kN kE kR=>a g n fr th (fun fr th=>b g n fr th kN kE kR) kE kR
def cIf (c:Opd)(a b:CF):CF:=fun g n fr th kN kE kR=>match evO fr c with
 | some v=>match v with
  | .bool t=>match t with
   | true=>a g n fr th kN kE kR
   | false=>b g n fr th kN kE kR
  | .sb t=>bif t.ev then a g n fr th kN kE kR else b g n fr th kN kE kR
  | _=>False
 | none=>False
def cBlk (i:Nat)(a:CF):CF:=fun g n fr th kN kE kR=>a g n fr th kN (fun j=>bif Nat.beq j i then kN else kE j) kR
def QLp (m i:Nat)(a:CF):CF:=fun g n fr th kN kE kR=>lpN m i g a n.ls n.n fr th kN kE kR
def QLq (i:Nat):CF:=fun _ _ fr th _ kE _=>kE i fr th
def cRet:CF:=fun _ _ fr th _ _ kR=>kR fr th
def fnq (f g:Fn):Bool:=match f with
 | .func i=>match g with
  | .func j=>Nat.beq i j
  | _=>false
 | _=>false
def capq (a b:FCap):Bool:=match a with
 | .lit c=>match b with
  | .lit d=>Nat.beq c d
  | _=>false
 | .hid c=>match b with
  | .hid d=>Nat.beq c d
  | _=>false
mutual
def eqFV:FV→FV→Bool
 | .bool a,.bool b=>beqB a b
 | .int k n,.int k' n'=>keq k k'&&ieq n n'
 | .str a,.str b=>leq a b
 | .nilp,.nilp=>true
 | .ptr i o,.ptr j o'=>Nat.beq i j&&Nat.beq o o'
 | .nsl,.nsl=>true
 | .sl i a b l c,.sl j a' b' l' c'=>Nat.beq i j&&(Nat.beq a a'&&(Nat.beq b b'&&(Nat.beq l l'&&capq c c')))
 | .nilm,.nilm=>true
 | .map i,.map j=>Nat.beq i j
 | .nilf,.nilf=>true
 | .nili,.nili=>true
 | .fn f a b,.fn g a' b'=>fnq f g&&(QlR a a'&&QlR b b')
 | .ifc t v,.ifc t' v'=>Nat.beq t t'&&eqFV v v'
 | .agg l,.agg l'=>QlR l l'
 | _,_=>false
def QlR:List FV→List FV→Bool
 | [],[]=>true
 | a::r,b::s=>eqFV a b&&QlR r s
 | _,_=>false
end
def kdr (a b:KD):Bool:=match a with
 | .s=>match b with
  | .s=>true
  | _=>false
 | .i k=>match b with
  | .i k'=>keq k k'
  | _=>false
 | .o n d=>match b with
  | .o m e=>Nat.beq n m&&(match d with
   | .s=>(match e with
    | .s=>true
    | _=>false)
   | .i k=>(match e with
    | .i k'=>keq k k'
    | _=>false)
   | _=>false)
  | _=>false
def eqPL:List (FV×FV)→List (FV×FV)→Bool
 | [],[]=>true
 | a::r,b::s=>eqFV a.1 b.1&&(eqFV a.2 b.2&&eqPL r s)
 | _,_=>false
def eqTO:TO→TO→Bool
 | .cells cs k,.cells cs' k'=>Nat.beq k k'&&QlR cs cs'
 | .map d m,.map d' m'=>kdr d d'&&eqPL m m'
 | _,_=>false
def Qw0 (t:Tr TO):List (Nat×TO)→Bool
 | []=>true
 | p::r=>bif memN p.1 (r.map (·.1)) then false else match t.get p.1 with
  | some o=>bif eqTO o p.2 then Qw0 t r else false
  | none=>false
def QnC (fr:Fr):List Nat→Fr→Fr
 | [],g=>g
 | t::r,g=>match fr.get t with
  | some x=>QnC fr r (g.put t x)
  | none=>QnC fr r g
def QEO (fr fr':Fr):List Nat→Prop
 | []=>True
 | t::r=>fr'.get t=fr.get t∧QEO fr fr' r
def QFr (ti:Nat)(b:Int)(keep:List Nat)(fr:Fr)(th:TH)(i:Int)(fr':Fr)(th':TH):Prop:=bif Qw0 th'.t th.t.all then QEO fr fr' keep∧(match fr'.get ti with
 | some v=>match zbn v with
  | some q=>bif keq q.1 .i64 then q.2.1.ev=i+1∧i+1≤b else False
  | none=>False
 | none=>False) else False
def QC1 (m ti:Nat)(b:Int)(keep:List Nat)(a:CF):CF:=fun g n fr th _ kE kR=>(bif bitN m ti||keep.any (fun t=>bitN m t||Nat.beq t ti) then False else match fr.get ti with
 | some v=>match v with
  | .int k z=>bif keq k .i64&&(ieq z (.ofNat 0)&&ile (.ofNat 0) b) then ∀i:Int,0≤i→i≤b→a g n ((QnC fr keep (.base m .nil)).put ti (.sy .i64 (.o i) (.ofNat 0) b)) th (fun fr' th'=>QFr ti b keep fr th i fr' th') kE kR else False
  | _=>False
 | none=>False)
def cChk (t g k:Nat):CF:=fun _ _ fr th kN _ _=>match fr.get t with
 | some v=>match v with
  | .fn f a b=>match f with
   | .func i=>bif Nat.beq i g&&(Nat.beq a.length 0&&Nat.beq b.length k) then kN fr th else False
   | _=>False
  | _=>False
 | none=>False
def cBad:CF:=fun _ _ _ _ _ _ _=>False
def evC:FC→CF
 | .skip=>QLn
 | .seqr fl m l=>match fl with
  | true=>cRow m (evH l [] (Qbh m l))
  | false=>QLo (evH l [] (Qbh m l))
 | .com m l r=>cCom m l (evS r)
 | .seq a b=>cSeq (evC a) (evC b)
 | .cond c a b=>cIf c (evC a) (evC b)
 | .block i a=>cBlk i (evC a)
 | .loop m i a=>QLp m i (evC a)
 | .loopv m ti b keep a=>QC1 m ti b keep (evC a)
 | .exit i=>QLq i
 | .ret=>cRet
 | .chk t g k=>cChk t g k
 | .bad=>cBad
inductive RV where
 | t (i:Nat)
 | c (i k:Nat) (agg:Bool)
inductive XK where
 | cmp
 | ixb
def ixN (c:Nat):List Nat→Nat→Option Nat
 | [],_=>none
 | a::r,i=>bif Nat.beq a c then some i else ixN c r i.succ
inductive FFn where
 | f (np m b:Nat) (rs:List RV) (code:CF)
 | x (k:XK)
 | t
 | ce (k:Nat)
 | l (l:List LCt) (g:FFn)
 | q (c:Ctr)
 | p (q:List FV→TH→Prop)
def cmpN (x y:FV):Option FV:=match strV x with
 | some s=>match strV y with
  | some t=>some (.sy .i64 (.o (Lib.compareBytes s t)) (.negSucc 0) (.ofNat 1))
  | none=>none
 | none=>none
def evE:XK→List FV→Option FV
 | .cmp,l=>match l with
  | [x,y]=>match x with
   | .str a=>match y with
    | .str b=>some (.int .i64 (bif llt a b then .negSucc 0 else bif leq a b then .ofNat 0 else .ofNat 1))
    | y=>cmpN (.str a) y
   | x=>cmpN x y
  | _=>none
 | .ixb,l=>match l with
  | [x,y]=>match x with
   | .str a=>match y with
    | .int k n=>match n with
     | .ofNat c=>bif keq k .u8&&Nat.blt c 256 then some (.int .i64 (match ixN c a 0 with
       | some i=>.ofNat i
       | none=>.negSucc 0)) else none
     | _=>none
    | _=>none
   | _=>none
  | _=>none
def evRV (fr:Fr)(th:Tr TO):List RV→Option (List FV)
 | []=>some []
 | .t i::r=>match fr.get i with
  | some x=>match evRV fr th r with
   | some l=>some (x::l)
   | none=>none
  | none=>none
 | .c i k agg::r=>match fr.get i with
  | some x=>match ldF th k agg x with
   | some y=>match evRV fr th r with
    | some l=>some (y::l)
    | none=>none
   | none=>none
  | none=>none
def one1:List FV→FV
 | [x]=>x
 | l=>.tup l
def retK (rs:List RV)(K:FV→TH→Prop):KF:=fun fr th=>match evRV fr th.t rs with
 | some l=>K (one1 l) th
 | none=>False
def frame:Nat→List FV→Fr→Fr
 | _,[],t=>t
 | i,x::r,t=>frame i.succ r (t.put i x)
abbrev Fn1:=Nat→List FV→TH→(FV→TH→Prop)→Prop
def QBd (fn:Fn1):Cl:=fun f l th K=>match f with
 | .fn g a b=>match g with
  | .func i=>fn i (a++(l++b)) th K
  | _=>False
 | _=>False
def runF (lf:LF)(g:Cl)(f:FFn)(l:List FV)(th:TH)(K:FV→TH→Prop):Prop:=match f with
 | .f np m b rs code=>bif Nat.beq l.length np then code g lf (frame 0 l (.base m (skel b 0))) th (retK rs K) (fun _ _ _=>False) (retK rs K) else False
 | .x k=>match evE k l with
  | some v=>K v th
  | none=>False
 | .t=>match l with
  | []=>K (.bool true) th
  | _=>False
 | .ce k=>False
 | .l ls f=>runF ⟨lf.n,ls⟩ g f l th K
 | .q c=>runQ c l th fun _ vs th=>rsl0 (one1 vs) th K
 | .p q=>q l th
def eng (tab:Tr FFn)(lf:Nat):Nat→Fn1
 | 0=>fun _ _ _ _=>False
 | n+1=>fun i l th K=>match tab.get i with
  | some f=>runF ⟨lf,[]⟩ (QBd (eng tab lf n)) f l th K
  | none=>False
end Go.Va
namespace Go.Va
open Go Go.Sh
def ys (k a b:Nat):CO:=⟨none,.st k (.t a) (.t b),none⟩
def y1 (d f a:Nat):CO:=⟨some d,.call (.c (.fn (.func f) [] [])) [.t a],none⟩
def y2 (d f a b:Nat):CO:=⟨some d,.call (.c (.fn (.func f) [] [])) [.t a,.t b],none⟩
def yt (d:Nat):CO:=⟨some d,.mov (.c (.bool true)),none⟩
def letP {α:Type}(F:α)(f:α→Prop):Prop:=f F
theorem QB6 {α:Type}{F:α}{f:α→Prop}(h:∀C,C=F→f C):letP F f:=h F rfl
variable [Vb]
structure RP where
 hd:Nat
 ord:List (Nat×Nat)
def tmpsOf:List Operand→List Nat
 | []=>[]
 | .tmp t::r=>t::tmpsOf r
 | _::r=>tmpsOf r
def gdst (ops:Array Oper)(o:Oper):List Nat:=match o.guard with
 | none=>[]
 | some (j,_)=>match (ops[j]?).bind (·.dst) with
  | some d=>[d]
  | none=>[]
def tsOf (ops:Array Oper)(o:Oper):List Nat:=gdst ops o++tmpsOf o.op.operands.toList
def QaS (ops:Array Oper)(i:Nat):List Nat:=match ops[i]? with
 | some o=>Qa8 o
 | none=>[]
inductive Anc (ops:Array Oper):Nat→Nat→Prop
 | one {i j:Nat}:j∈QaS ops i→Anc ops i j
 | more {i j k:Nat}:j∈QaS ops i→Anc ops j k→Anc ops i k
def ancN (ops:Array Oper):Nat→Nat→List Nat
 | 0,_=>[]
 | n+1,i=>QaS ops i++(QaS ops i).flatMap (ancN ops n)
theorem QEB {ops:Array Oper}:∀ {n i j:Nat},j∈ancN ops n i→Anc ops i j
 | 0,_,_,h=>by cases h
 | n+1,i,j,h=>by
  rcases List.mem_append.1 h with h | h
  ·exact .one h
  ·obtain⟨k,hk,h⟩:=List.mem_flatMap.1 h
   exact .more hk (QEB h)
def QLh:MOp→Bool
 | .alc _=>true
 | .box _=>true
 | .bsl _ _ _ _ _=>true
 | .mks _ _ _ _ _=>true
 | _=>false
def ancQ (P:Program)(ops:Array Oper)(m:MOp)(i:Nat):List Nat:=bif isLd m then ((ancN ops 6 i).filter fun j=>match ops[j]? with
 | some o=>QLh (copN P o)
 | none=>false) else []
theorem QEA {P:Program}{ops:Array Oper}{m:MOp}{i j:Nat}(h:j∈ancQ P ops m i):Anc ops i j:=by
 unfold ancQ at h
 cases hb:isLd m with
 | false=>rw[hb] at h;cases h
 | true=>rw[hb] at h;exact QEB (List.mem_filter.1 h).1
def cRE (P:Program)(n:Nat)(ops:Array Oper)(k i:Nat):Option RE:=match ops[i]? with
 | some o=>match cO P n ops o with
  | some c=>match k with
   | 0=>some (.q i (tsOf ops o) c (ancQ P ops c.m i))
   | 1=>some (.a i (tsOf ops o) c)
   | _=>some (.e i (tsOf ops o) c (Qa8 o))
  | none=>none
 | none=>none
def cREL (P:Program)(n:Nat)(ops:Array Oper):List (Nat×Nat)→Option (List RE)
 | []=>some []
 | p::r=>match cRE P n ops p.1 p.2,cREL P n ops r with
  | some c,some l=>some (c::l)
  | _,_=>none
def tsAt (ops:Array Oper)(i:Nat):List Nat:=match ops[i]? with
 | some o=>tsOf ops o
 | none=>[]
def Qtu (ops:Array Oper):List (Nat×Nat)→List Nat→Bool
 | [],_=>true
 | p::r,seen=>(QaS ops p.2).all (fun j=>memN j seen)&&(bif Nat.ble 2 p.1 then r.all (fun q=>(QaS ops q.2).any fun j=>Nat.beq j p.2||r.any fun s=>Nat.beq s.2 j) else true)&&Qtu ops r (p.2::seen)
def Qxm:List Nat→Bool
 | []=>true
 | i::r=>(memN i r).not&&Qxm r
def okTs (ops:Array Oper)(hd:Nat)(i:Nat):Bool:=(tsAt ops i).all fun t=>(List.range hd).all fun j=>match (ops[j]?).bind (·.dst) with
 | some d=>(Nat.beq d t).not||memN j (QaS ops i)||memN i (QaS ops j)
 | none=>true
def Qxe (ops:Array Oper)(p:RP):Bool:=
 comB ops p.hd&&Nat.beq p.ord.length p.hd&&Qxm (p.ord.map (·.2))&&p.ord.all (fun q=>Nat.blt q.2 p.hd)&&Qtu ops p.ord []&&p.ord.all (fun q=>okTs ops p.hd q.2)
def lkP:List (Nat×RP)→Nat→Option RP
 | [],_=>none
 | (j,x)::r,i=>bif Nat.beq i j then some x else lkP r i
def fid:Code→Option Nat
 | .region id _ _=>some id
 | .seq a b=>match fid a with
  | some i=>some i
  | none=>fid b
 | .cond _ a b=>match fid a with
  | some i=>some i
  | none=>fid b
 | .block _ a=>fid a
 | .loop a=>fid a
 | _=>none
def fidN (c:Code):Nat:=match fid c with
 | some i=>i
 | none=>0
def QIj (pls:List (Nat×RP))(i:Nat):Bool:=match lkP pls i with
 | some p=>Nat.beq p.hd 999
 | none=>false
def invP (pls:List (Nat×RP))(i:Nat):Option (Nat×Nat×List Nat):=match lkP pls i with
 | some p=>bif Nat.beq p.hd 998 then match p.ord with
   | q::r=>some (q.1,q.2,r.map (·.1))
   | []=>none
  else none
 | none=>none
def isBad:FC→Bool
 | .bad=>true
 | _=>false
def cC (P:Program)(n m:Nat)(pls:List (Nat×RP)):Code→Option FC
 | .skip=>some .skip
 | .label _=>some .skip
 | .region id ops draw=>bif QIj pls id then some .bad else match draw with
  | false=>match cOL P n ops ops.toList with
   | some l=>some (.seqr (match lkP pls id with | some _=>false | none=>true) m l)
   | none=>none
  | true=>match lkP pls id with
   | some p=>bif P.follows .mixedOrders&&Qxe ops p then match cREL P n ops p.ord with
     | some l=>match cOL P n ops (ops.toList.drop p.hd) with
      | some r=>some (.com m l r)
      | none=>none
     | none=>none
    else none
   | none=>some .bad
 | .seq a b=>match cC P n m pls a with
  | some x=>bif isBad x then some .bad else match cC P n m pls b with
   | some y=>some (.seq x y)
   | none=>none
  | none=>none
 | .cond c a b=>match c1 c with
  | some z=>match cC P n m pls a with
   | some x=>match cC P n m pls b with
    | some y=>some (.cond z x y)
    | none=>none
   | none=>none
  | none=>some .bad
 | .block i a=>match cC P n m pls a with
  | some x=>bif isBad x then some .bad else some (.block i x)
  | none=>none
 | .loop a=>match cC P n m pls a with
  | some x=>bif isBad x then some .bad else some (match invP pls (1000000+fidN a) with
   | some q=>.loopv m q.1 (.ofNat q.2.1) q.2.2 x
   | none=>.loop m (fidN a) x)
  | none=>none
 | .exit i=>some (.exit i)
 | .ret=>some .ret
 | _=>some .bad
def cRV (P:Program)(n:Nat):List ResultVar→Option (List RV)
 | []=>some []
 | .tmp t::r=>match cRV P n r with
  | some l=>bif Nat.blt t n then some (.t t::l) else none
  | none=>none
 | .cell a t::r=>match agO P t,szO P t,cRV P n r with
  | some b,some k,some l=>bif Nat.blt a n&&Nat.blt 0 k then some (.c a k b::l) else none
  | _,_,_=>none
inductive FSn where
 | f (np m b:Nat) (rs:List RV) (code:FC)
def FSn.fn:FSn→FFn
 | .f np m b rs c=>.f np m b rs (evC c)
def cF (P:Program)(pls:List (Nat×RP))(np m:Nat)(fn:Func):Option FSn:=match fn.body with
 | some c=>match cRV P fn.ntmps fn.results.toList with
  | some rs=>match cC P fn.ntmps m pls c with
   | some x=>bif Nat.ble np fn.ntmps&&(List.range np).all (fun i=>(bitN m i).not) then some (.f np m (Nat.succ (Nat.log2 fn.ntmps)) rs x) else none
   | none=>none
  | none=>none
 | none=>none
end Go.Va
