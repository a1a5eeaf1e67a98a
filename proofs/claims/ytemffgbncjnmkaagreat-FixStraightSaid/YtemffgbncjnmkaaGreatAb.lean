import Derived.Test.YtemffgbncjnmkaaGreatVhr
import Derived.Lib.Bytealg
import GoSem.Extern.BytealgIndexByte
set_option linter.unusedVariables false
set_option linter.unusedSectionVars false
set_option linter.unusedSimpArgs false
noncomputable section
namespace Go.Va
open Go Go.Sh
variable [Vb]
def memN (i:Nat):List Nat→Bool
 | []=>false
 | j::r=>bif Nat.beq i j then true else memN i r
def keqF (a b:Fn):Bool:=match a,b with
 | .func f,.func g=>Nat.beq f g
 | _,_=>false
def eqXB:List SB→List SB→Bool
 | [],[]=>true
 | .k a::x,.k b::y=>bif Nat.beq a b then eqXB x y else false
 | .v a l h::x,.v b l' h'::y=>bif eqE a b&&ieq l l'&&ieq h h' then eqXB x y else false
 | _,_=>false
mutual
def eqV:FV→FV→Bool
 | .bool a,.bool b=>(match a with | true=>b | false=>b.not)
 | .int k a,.int k' b=>bif keq k k' then ieq a b else false
 | .str a,.str b=>leq a b
 | .sy k a l h,.sy k' b l' h'=>keq k k'&&eqE a b&&ieq l l'&&ieq h h'
 | .sx a,.sx b=>eqXB a b
 | .nilp,.nilp=>true
 | .ptr a b,.ptr c d=>bif Nat.beq a c then Nat.beq b d else false
 | .nsl,.nsl=>true
 | .sl a b c d e,.sl a' b' c' d' e'=>Nat.beq a a'&&Nat.beq b b'&&Nat.beq c c'&&Nat.beq d d'&&(match e,e' with
  | .lit x,.lit y=>Nat.beq x y
  | .hid x,.hid y=>Nat.beq x y
  | _,_=>false)
 | .nilf,.nilf=>true
 | .nili,.nili=>true
 | .nilm,.nilm=>true
 | .map a,.map b=>Nat.beq a b
 | .os a b,.os c d=>Nat.beq a c&&Nat.beq b d
 | .fn f a b,.fn g c d=>keqF f g&&eqVL a c&&eqVL b d
 | .agg a,.agg b=>eqVL a b
 | .tup a,.tup b=>eqVL a b
 | _,_=>false
def eqVL:List FV→List FV→Bool
 | [],[]=>true
 | a::x,b::y=>bif eqV a b then eqVL x y else false
 | _,_=>false
end
def eqSP:SE→SE→Prop
 | .o x,.o y=>x=y
 | .add a b,.add c d=>eqSP a c∧eqSP b d
 | .sub a b,.sub c d=>eqSP a c∧eqSP b d
 | .wrap k a,.wrap k' b=>bif keq k k' then eqSP a b else False
 | a,b=>bif eqE a b then True else a=b
def eqCP:SC→SC→Prop
 | .o x,.o y=>x=y
 | .no a,.no b=>eqCP a b
 | .lt a b,.lt c d=>eqSP a c∧eqSP b d
 | .le a b,.le c d=>eqSP a c∧eqSP b d
 | .eq a b,.eq c d=>eqSP a c∧eqSP b d
 | a,b=>a=b
mutual
def eqVP:FV→FV→Prop
 | .sy k a l h,.sy k' b l' h'=>bif keq k k'&&(ieq l l'&&ieq h h') then eqSP a b else False
 | .sb c,.sb d=>eqCP c d
 | .sstr s,.sstr t=>s=t
 | .dp t d,.dp t' d'=>bif Nat.beq t t' then d=d' else False
 | .dn t d o,.dn t' d' o'=>bif Nat.beq t t'&&Nat.beq o o' then d=d' else False
 | .ds t d,.ds t' d'=>bif Nat.beq t t' then d=d' else False
 | .agg a,.agg b=>Qp6 a b
 | .tup a,.tup b=>Qp6 a b
 | .obl c x,.obl d y=>eqCP c d∧eqVP x y
 | a,b=>bif eqV a b then True else a=b
def Qp6:List FV→List FV→Prop
 | [],[]=>True
 | a::x,b::y=>eqVP a b∧Qp6 x y
 | _,_=>False
end
def eqK (x y:FV)(R:Prop):Prop:=bif eqV x y then R else (eqVP x y∧R)
inductive Pt where
 | h (k:CK)
 | x (v:FV)
 | p (j o:Nat)
 | m (j t:Nat) (ag:Bool)
 | s (j t:Nat)
 | f (g:Fn) (a b:List Pt)
 | a (l:List Pt)
 | i (t:TypeId) (p:Pt)
inductive OP where
 | c (l:List Pt) (k:Nat)
 | r (t:Nat)
 | k (t:Nat)
 | m (t:Nat) (ag:Bool)
 | z (t:Nat) (ag:Bool)
 | q (j t:Nat) (ag:Bool)
mutual
def ksP:Pt→List CK
 | .h k=>[k]
 | .x _=>[]
 | .p _ _=>[]
 | .m _ _ _=>[]
 | .s _ _=>[]
 | .f _ a b=>ksPL a++ksPL b
 | .a l=>ksPL l
 | .i _ p=>ksP p
def ksPL:List Pt→List CK
 | []=>[]
 | p::r=>ksP p++ksPL r
end
def ksO:OP→List CK
 | .c l _=>ksPL l
 | .r t=>[.r t]
 | .k t=>[.r t]
 | .m t _=>[.r t]
 | .z t _=>[.r t]
 | .q _ t _=>[.r t]
def ksOL:List OP→List CK
 | []=>[]
 | o::r=>ksO o++ksOL r
mutual
def fvP (ids:Nat→Nat)(ys:Nat→LD):Pt→Nat→FV
 | .h k,n=>leaf k (ys n)
 | .x v,_=>v
 | .p j o,_=>.ptr (ids j) o
 | .m j _ _,_=>.map (ids j)
 | .s j t,_=>.os t (ids j)
 | .f g a b,n=>.fn g (fvPL ids ys a n) (fvPL ids ys b (n+(ksPL a).length))
 | .a l,n=>.agg (fvPL ids ys l n)
 | .i t p,n=>.ifc t (fvP ids ys p n)
def fvPL (ids:Nat→Nat)(ys:Nat→LD):List Pt→Nat→List FV
 | [],_=>[]
 | p::r,n=>fvP ids ys p n::fvPL ids ys r (n+(ksP p).length)
end
def toO (ids:Nat→Nat)(ys:Nat→LD)(n:Nat):OP→TO
 | .c l k=>.cells (fvPL ids ys l n) k
 | .r t=>.row t (ys n).cs
 | .k t=>.row t (ys n).cs
 | .m t ag=>.mp t ag (ys n).cs
 | .z t ag=>.mf t ag (ys n).cs
 | .q j t ag=>.im (ids j) t ag (ys n).cs none
def tosO (ids:Nat→Nat)(ys:Nat→LD):List OP→Nat→Nat→List (Nat×TO)
 | [],_,_=>[]
 | o::r,j,n=>(ids j,toO ids ys n o)::tosO ids ys r j.succ (n+(ksO o).length)
def cst:FV→Bool
 | .bool _=>true
 | .int _ _=>true
 | .str l=>Q0 l
 | .nilp=>true
 | .nsl=>true
 | .nilm=>true
 | .nilf=>true
 | .nili=>true
 | .fn _ a b=>match a with
  | []=>(match b with
   | []=>true
   | _=>false)
  | _=>false
 | _=>false
abbrev Prs:=List (Nat×Nat)
mutual
def mtP (p:Pt)(v:FV):Option (List LD×Prs):=match p with
 | .h k=>match toLD k v with
  | some d=>some ([d],[])
  | none=>none
 | .x u=>bif eqV u v&&cst u then some ([],[]) else none
 | .p j o=>match v with
  | .ptr i o'=>bif Nat.beq o o' then some ([],[(j,i)]) else none
  | _=>none
 | .m j _ _=>match v with
  | .map i=>some ([],[(j,i)])
  | _=>none
 | .s j t=>match v with
  | .os t' i=>bif Nat.beq t t' then some ([],[(j,i)]) else none
  | _=>none
 | .f g a b=>match v with
  | .fn g' a' b'=>bif keqF g g' then (match mtL a a' with
   | some q=>match mtL b b' with
    | some q'=>some (q.1++q'.1,q.2++q'.2)
    | none=>none
   | none=>none) else none
  | _=>none
 | .a l=>match v with
  | .agg l'=>mtL l l'
  | _=>none
 | .i t p=>match v with
  | .ifc t' v=>bif Nat.beq t t' then mtP p v else none
  | _=>none
def mtL (l:List Pt)(vs:List FV):Option (List LD×Prs):=match l with
 | []=>match vs with
  | []=>some ([],[])
  | _=>none
 | p::r=>match vs with
  | []=>none
  | v::vs=>match mtP p v with
   | some q=>match mtL r vs with
    | some q'=>some (q.1++q'.1,q.2++q'.2)
    | none=>none
   | none=>none
end
def emptyS (off offz len:Nat)(cap:FCap)(cs:List FV):Bool:=(Nat.beq off 0&&Nat.beq offz 0)&&Nat.beq len 0&&(match cap with
 | .hid j=>Nat.beq j 0
 | _=>false)&&(match cs with
 | []=>true
 | _=>false)
theorem QHE {off offz len:Nat}{cap:FCap}{cs:List FV}(h:emptyS off offz len cap cs=true):off=0∧offz=0∧len=0∧cap=.hid 0∧cs=[]:=by
 simp only[emptyS,Bool.and_eq_true] at h
 obtain⟨⟨⟨⟨h1,h1z⟩,h2⟩,h3⟩,h4⟩:=h
 refine⟨Qm h1,Qm h1z,Qm h2,?_,?_⟩
 ·cases cap with
  | hid j=>rw[Qm h3]
  | lit j=>cases h3
 ·cases cs with
  | nil=>rfl
  | cons _ _=>cases h4
def slR (t:Nat)(ks:List CK)(k i off offz len:Nat)(cap:FCap)(cs:List FV)(th:TH)(K:Nat→TH→Prop):Prop:=
 bif emptyS off offz len cap cs&&(Nat.beq ks.length k&&Nat.blt 0 ks.length) then K th.nx ((th.del i).new (.row t []))
 else bif (Nat.beq off 0&&Nat.beq offz 0)&&(capT cap len k ks.length cs.length&&(Nat.blt 0 ks.length&&Nat.ble len 1000000)) then frzE (frz fzD) ks len cs (th.del i) fun es th=>K th.nx (th.new (.row t es)) else False
def mpG (j t:Nat)(g:Bool)(i:Nat)(o:TO)(th:TH)(K:Prs→TH→Prop):Prop:=match o with
 | .map _ m=>cvMp t g i m th fun th=>K [(j,i)] th
 | _=>K [(j,i)] th
def mtG (ag:Pt→FV→TH→(List LD→Prs→TH→Prop)→Prop):List Pt→List FV→TH→(List LD→Prs→TH→Prop)→Prop
 | [],vs,th,K=>match vs with
  | []=>K [] [] th
  | _=>False
 | p::r,vs,th,K=>match vs with
  | []=>False
  | v::vs=>match p with
   | .h k=>frz fzD k v th fun d th=>mtG ag r vs th fun ds prs th=>K (d::ds) prs th
   | .s j t=>match v with
    | .nsl=>match lyG t with
     | some ks=>bif Nat.blt 0 ks.length then mtG ag r vs (th.new (.row t [])) fun ds prs th'=>K ds ((j,th.nx)::prs) th' else False
     | none=>False
    | .sl i off offz len cap=>match th.t.get i with
     | some (.cells cs k)=>match lyG t with
      | some ks=>slR t ks k i off offz len cap cs th fun n th1=>mtG ag r vs th1 fun ds prs th'=>K ds ((j,n)::prs) th'
      | none=>False
     | _=>False
    | .os t' i=>bif Nat.beq t t' then mtG ag r vs th fun ds prs th=>K ds ((j,i)::prs) th else False
    | _=>False
   | .m j t g=>match v with
    | .map i=>match th.t.get i with
     | some o=>mpG j t g i o th fun prs' th=>mtG ag r vs th fun ds prs th=>K ds (prs'++prs) th
     | none=>mtG ag r vs th fun ds prs th=>K ds ([(j,i)]++prs) th
    | _=>False
   | p=>ag p v th fun ds' prs' th=>mtG ag r vs th fun ds prs th=>K (ds'++ds) (prs'++prs) th
def ag0 (p:Pt)(v:FV)(th:TH)(K:List LD→Prs→TH→Prop):Prop:=match mtP p v with
 | some q=>K q.1 q.2 th
 | none=>False
def ag1 (p:Pt)(v:FV)(th:TH)(K:List LD→Prs→TH→Prop):Prop:=match p with
 | .a l=>match v with
  | .agg l'=>mtG ag0 l l' th K
  | _=>False
 | p=>ag0 p v th K
def mtA:List Pt→List FV→TH→(List LD→Prs→TH→Prop)→Prop:=mtG ag1
def lkA (j:Nat):Prs→Option Nat
 | []=>none
 | q::r=>bif Nat.beq q.1 j then some q.2 else lkA j r
def mtO:List OP→Nat→Prs→TH→(List LD→Prs→TH→Prop)→Prop
 | [],_,prs,th,K=>K [] prs th
 | o::r,j,prs,th,K=>match lkA j prs with
  | some i=>match th.t.get i with
   | some (.cells cs k)=>match o with
    | .c l k'=>bif Nat.beq k k' then mtA l cs (th.del i) fun ds prs' th=>mtO r j.succ (prs++prs') th fun ds' prs th=>K (ds++ds') prs th else False
    | _=>False
   | some (.row t es)=>match o with
    | .r t'=>bif Nat.beq t t' then mtO r j.succ prs (th.del i) fun ds' prs th=>K (.t es::ds') prs th else False
    | .k t'=>bif Nat.beq t t' then mtO r j.succ prs (th.del i) fun ds' prs th=>K (.t es::ds') prs th else False
    | _=>False
   | some (.mp t g es)=>match o with
    | .m t' g'=>bif Nat.beq t t'&&bqB g g' then mtO r j.succ prs (th.del i) fun ds' prs th=>K (.t es::ds') prs th else False
    | _=>False
   | some (.mf t g es)=>match o with
    | .z t' g'=>bif Nat.beq t t'&&bqB g g' then mtO r j.succ prs (th.del i) fun ds' prs th=>K (.t es::ds') prs th else False
    | _=>False
   | some (.im i2 t g rest _)=>match o with
    | .q j2 t' g'=>bif Nat.beq t t'&&bqB g g' then mtO r j.succ (prs++[(j2,i2)]) (th.del i) fun ds' prs th=>K (.t rest::ds') prs th else False
    | _=>False
   | _=>False
  | none=>False
def okA (n:Nat)(prs:Prs):Prs→Bool
 | []=>true
 | q::r=>Nat.blt q.1 n&&(match lkA q.1 prs with
  | some i=>Nat.beq i q.2
  | none=>false)&&okA n prs r
def idsA (prs:Prs)(j:Nat):Nat:=match lkA j prs with
 | some i=>i
 | none=>0
structure SPt where
 ps:List Pt
 os:List OP
def SPt.ks (s:SPt):List CK:=ksPL s.ps++ksOL s.os
def mtS (s:SPt)(prs:Prs)(l:List FV)(th:TH)(K:List LD→Prs→TH→Prop):Prop:=
 mtA s.ps l th fun ds prs' th=>mtO s.os 0 (prs++prs') th fun ds' prs th=>bif okA s.os.length prs prs then K (ds++ds') prs th else False
def nthD (ys:List LD)(j:Nat):LD:=ys.getD j .nul
def QpG:List (Nat×TO)→Tr TO→Tr TO
 | [],t=>t
 | p::r,t=>QpG r (t.put p.1 p.2)
abbrev QF:=List LD→List (List LD→Prop)→Prop
def nthK (Ks:List (List LD→Prop))(e:Nat):List LD→Prop:=match Ks[e]? with
 | some K=>K
 | none=>fun _=>False
structure Ctr where
 i:SPt
 o:List SPt
 q:QF
def QeV:List OP→Nat→Bool
 | [],_=>false
 | o::r,j=>match j with
  | 0=>match o with
   | .r _=>false
   | _=>true
  | j+1=>QeV r j
theorem QCd:∀ {I:List OP}{j:Nat},QeV I j=true→j<I.length
 | [],_,h=>by simp only[QeV] at h;cases h
 | _::_,0,_=>Nat.zero_lt_succ _
 | _::r,j+1,h=>Nat.succ_lt_succ (QCd (I:=r) h)
def QgL:List OP→Nat
 | []=>0
 | o::r=>match QgL r with
  | 0=>match o with
   | .r _=>0
   | _=>1
  | n+1=>n+2
theorem Qxv:∀ {I:List OP}{j:Nat},QeV I j=true→j<QgL I
 | [],_,h=>by simp only[QeV] at h;cases h
 | o::r,0,h=>by
  simp only[QgL]
  cases QgL r with
  | zero=>
   cases o with
   | r _=>simp[QeV] at h
   | _=>exact Nat.zero_lt_one
  | succ n=>exact Nat.zero_lt_succ _
 | o::r,j+1,h=>by
  have:=Qxv (I:=r) h
  simp only[QgL]
  cases hk:QgL r with
  | zero=>rw[hk] at this;exact absurd this (Nat.not_lt_zero _)
  | succ n=>rw[hk] at this;exact Nat.succ_lt_succ this
theorem QCe:∀ {I:List OP},QgL I≤I.length
 | []=>Nat.le_refl _
 | o::r=>by
  have:=QCe (I:=r)
  simp only[QgL]
  cases hk:QgL r with
  | zero=>cases o<;>simp
  | succ n=>rw[hk] at this;exact Nat.succ_le_succ this
def outK (prs:Prs)(I:List OP)(th:TH)(s:SPt)(ys:List LD)(K:List FV→TH→Prop):Prop:=
 (fun ids=>K (fvPL ids (nthD ys) s.ps 0) ⟨QpG (tosO ids (nthD ys) s.os 0 (ksPL s.ps).length) th.t,th.nx+s.os.length,th.scr⟩) fun j=>bif QeV I j then idsA prs j else th.nx+j
def Tel:Nat→Type
 | 0=>Prop
 | n+1=>LD→Tel n
def apT:(n:Nat)→Tel n→List LD→Prop
 | 0,f,l=>match l with
  | []=>f
  | _=>True
 | n+1,f,l=>match l with
  | []=>True
  | y::r=>apT n (f y) r
def cuT:(n:Nat)→(List LD→Prop)→Tel n
 | 0,f=>f []
 | n+1,f=>fun y=>cuT n fun l=>f (y::l)
theorem QEz:∀ {n:Nat}{f:List LD→Prop}{l:List LD},l.length=n→apT n (cuT n f) l→f l
 | 0,f,[],_,h=>h
 | n+1,f,y::r,e,h=>QEz (n:=n) (f:=fun l=>f (y::l)) (by simpa using e) h
theorem QDI:∀ {cs:List LD}{ks:List CK},wtL cs ks→cs.length=ks.length
 | [],[],_=>rfl
 | _::_,[],h=>by simp only[wtL] at h
 | [],_::_,h=>by simp only[wtL] at h
 | _::_,_::_,h=>by simp only[wtL] at h;simp[QDI h.2]
def Qxd (prs:Prs)(I:List OP)(th:TH)(K:Nat→List FV→TH→Prop):List SPt→Nat→List (List LD→Prop)
 | [],_=>[]
 | s::r,e=>(fun m=>apT m (cuT m fun ys=>wtL ys s.ks→outK prs I th s ys (K e))) s.ks.length::Qxd prs I th K r e.succ
def runQ (c:Ctr)(l:List FV)(th:TH)(K:Nat→List FV→TH→Prop):Prop:=
 mtS c.i [] l th fun xs prs th=>c.q xs (Qxd prs c.i.os th K c.o 0)
theorem Qzx (prs:Prs)(I:List OP)(th:TH)(K:Nat→List FV→TH→Prop):∀ {o:List SPt}{e j:Nat}{s:SPt},o[j]?=some s→(Qxd prs I th K o e)[j]?=some (apT s.ks.length (cuT s.ks.length fun ys=>wtL ys s.ks→outK prs I th s ys (K (e+j))))
 | _::_,e,0,s,h=>by simp only[List.getElem?_cons_zero,Option.some.injEq] at h;subst h;rfl
 | _::r,e,j+1,s,h=>by
  simp only[List.getElem?_cons_succ] at h
  simp only[Qxd,List.getElem?_cons_succ]
  rw[Qzx prs I th K (e:=e.succ) h,Nat.succ_add_eq_add_succ]
theorem Qzw {prs:Prs}{I:List OP}{th:TH}{K:Nat→List FV→TH→Prop}{o:List SPt}{j:Nat}{s:SPt}{ys:List LD}(h:o[j]?=some s)(k:nthK (Qxd prs I th K o 0) j ys)(w:wtL ys s.ks):outK prs I th s ys (K j):=by
 unfold nthK at k
 rw[Qzx prs I th K h] at k
 have:=QEz (QDI w) k w
 simpa using this
structure LCt where
 l:Nat
 i0:List Nat
 es:List (Option Nat×List Nat)
 c:Ctr
structure LF where
 n:Nat
 ls:List LCt
end Go.Va
namespace Go.Va
open Go Go.Sh
variable [Vb]
inductive RE where
 | q (i:Nat) (ts:List Nat) (c:CO) (dq:List Nat)
 | a (i:Nat) (ts:List Nat) (c:CO)
 | e (i:Nat) (ts:List Nat) (c:CO) (dp:List Nat)
structure PE where
 i:Nat
 fr:Fr
 c:CO
 x:FV
 dq:List Nat
structure HE where
 i:Nat
 id:Nat
 o:TO
def QcW (fr:Fr):List Nat→Fr
 | []=>.base 0 .nil
 | t::ts=>match fr.get t with
  | some x=>(QcW fr ts).put t x
  | none=>QcW fr ts
def isLd:MOp→Bool
 | .ld _ _ _=>true
 | .lkp _ _ _ _ _=>true
 | .lenM _=>true
 | .ent _=>true
 | .iadr _ _ _=>true
 | .lenS _=>true
 | _=>false
def QgM (dp:List Nat):List PE→List PE
 | []=>[]
 | p::r=>bif memN p.i dp then QgM dp r else p::QgM dp r
def relH (dp:List Nat)(t:Tr TO):List HE→Tr TO
 | []=>t
 | p::r=>bif memN p.i dp then (relH dp t r).put p.id p.o else relH dp t r
def rdT (fr:Fr)(m:MOp):Bool:=match m with
 | .iadr _ x _=>match evO fr x with
  | some (.os _ _)=>true
  | _=>false
 | .lenS x=>match evO fr x with
  | some (.os _ _)=>true
  | _=>false
 | .ld _ _ x=>match evO fr x with
  | some (.dp _ _)=>false
  | some (.dn _ _ _)=>false
  | _=>true
 | m=>isLd m
def Qhf (th:Tr TO)(hs:List HE):List PE→Prop→Prop
 | [],R=>R
 | p::r,R=>bif rdT p.fr p.c.m then match gst p.fr p.c.g with
   | .go=>match evQ p.fr (relH p.dq th hs) p.c.m with
    | some y=>eqK p.x y (Qhf th hs r R)
    | none=>False
   | _=>Qhf th hs r R
  else Qhf th hs r R
def Qc3 (dp:List Nat):List HE→List HE
 | []=>[]
 | p::r=>bif memN p.i dp then Qc3 dp r else p::Qc3 dp r
def allH (t:Tr TO):List HE→Tr TO
 | []=>t
 | p::r=>(allH t r).put p.id p.o
def cstL:List FV→Bool
 | []=>true
 | x::r=>bif cst x then cstL r else false
def cstO:Opd→Bool
 | .t _=>true
 | .c v=>cst v
def cstP:List (Nat×Opd)→Bool
 | []=>true
 | p::r=>bif cstO p.2 then cstP r else false
def alF (fr:Fr):MOp→Option (FV×TO)
 | .alc z=>bif cstL z&&z.all oneF then some (.ptr 0 0,.cells z 0) else none
 | .box x=>bif cstO x then match evO fr x with
   | some v=>bif QfE v then some (.ptr 0 0,.cells (QbI v) 0) else none
   | none=>none
  else none
 | .bsl _ n z pl ps=>bif cstL z&&z.all oneF&&cstP ps then match evP fr ps with
   | some l=>match Qc4 z pl l with
    | some cs=>some (.sl 0 0 0 n (.lit n),.cells cs 0)
    | none=>none
   | none=>none
  else none
 | .mks _ b z l c=>match QpQ fr c with
  | some _=>none
  | none=>bif cstL z&&z.all oneF then match evN fr l with
    | some l=>match evN fr c with
     | some c=>bif Nat.beq l c&&(Nat.ble l c&&Nat.ble (b * c) 140737488355328&&Nat.ble c 4611686018427387904) then some (.sl 0 0 0 c (.lit c),.cells (repF z c) 0) else none
     | none=>none
    | none=>none
   else none
 | .xx x=>match x with
  | .mkz _ b z l c=>match QpQ fr l with
   | some _=>none
   | none=>bif cstL z&&z.all oneF then match evN fr l with
     | some l=>match evN fr c with
      | some c=>bif Nat.beq l c&&(Nat.ble l c&&Nat.ble (b * c) 140737488355328&&Nat.ble c 4611686018427387904) then some (.sl 0 0 0 c (.lit c),.cells (repF z c) 0) else none
      | none=>none
     | none=>none
    else none
  | _=>none
 | _=>none
def reid (i:Nat):FV→FV
 | .ptr _ o=>.ptr i o
 | .sl _ a b c d=>.sl i a b c d
 | x=>x
def evR (cl:Cl):List RE→Fr→TH→List HE→List PE→(Fr→TH→Prop)→Prop
 | [],fr,th,hs,_,K=>K fr ⟨allH th.t hs,th.nx,th.scr⟩
 | .q i ts c dq::r,fr,th,hs,ps,K=>(fun fp=>match gst fp c.g with
  | .go=>match evQ fp (relH dq th.t hs) c.m with
   | some x=>rsl x th fun y th=>evR cl r (putO fr c.dst y) th hs (⟨i,fp,c,x,dq⟩::ps) K
   | none=>False
  | .skip=>evR cl r (putO fr c.dst undF) th hs (⟨i,fp,c,undF,dq⟩::ps) K
  | .bad=>False) (QcW fr ts)
 | .a i ts c::r,fr,th,hs,ps,K=>(fun fp=>match gst fp c.g with
  | .go=>match alF fp c.m with
   | some p=>evR cl r (putO fr c.dst (reid th.nx p.1)) ⟨th.t,th.nx.succ,th.scr⟩ (⟨i,th.nx,p.2⟩::hs) (⟨i,fp,c,undF,[]⟩::ps) K
   | none=>False
  | .skip=>evR cl r (putO fr c.dst undF) th hs (⟨i,fp,c,undF,[]⟩::ps) K
  | .bad=>False) (QcW fr ts)
 | .e i ts c dp::r,fr,th,hs,ps,K=>(fun fp=>match gst fp c.g with
  | .go=>evXA cl fp ⟨relH dp th.t hs,th.nx,th.scr⟩ c.m fun x th'=>Qhf th'.t (Qc3 dp hs) (QgM dp ps) (evR cl r (putO fr c.dst x) th' (Qc3 dp hs) (QgM dp ps) K)
  | .skip=>Qhf (relH dp th.t hs) (Qc3 dp hs) (QgM dp ps) (evR cl r (putO fr c.dst undF) ⟨relH dp th.t hs,th.nx,th.scr⟩ (Qc3 dp hs) (QgM dp ps) K)
  | .bad=>False) (QcW fr ts)
inductive FC where
 | skip
 | seqr (fl:Bool) (m:Nat) (l:List CO)
 | com (m:Nat) (l:List RE) (r:List CO)
 | seq (a b:FC)
 | cond (c:Opd) (a b:FC)
 | block (i:Nat) (a:FC)
 | loop (m i:Nat) (a:FC)
 | loopv (m ti:Nat) (b:Int) (keep:List Nat) (a:FC)
 | exit (i:Nat)
 | ret
 | chk (t g k:Nat)
 | bad
abbrev BF:=Fr→TH→KF→(Nat→KF)→KF→Prop
abbrev CF:=Cl→LF→BF
def getL (fr:Fr):List Nat→Option (List FV)
 | []=>some []
 | i::r=>match fr.get i with
  | some x=>match getL fr r with
   | some l=>some (x::l)
   | none=>none
  | none=>none
def putL (m:Nat)(fr:Fr):List Nat→List FV→Option Fr
 | [],xs=>match xs with
  | []=>some fr
  | _=>none
 | i::r,xs=>match xs with
  | []=>none
  | x::xs=>bif bitN m i then none else putL m (fr.put i x) r xs
def QES (m:Nat)(S:LCt)(fr:Fr)(th:TH)(kE:Nat→KF)(kR:KF):Prop:=match getL fr S.i0 with
 | some l=>runQ S.c l th fun e vs th=>match S.es[e]? with
  | some q=>match putL m (.base m .nil) q.2 vs with
   | some fr=>match q.1 with
    | some x=>kE x fr th
    | none=>kR fr th
   | none=>False
  | none=>False
 | none=>False
def lkLC (i:Nat):List LCt→Option LCt
 | []=>none
 | S::r=>bif Nat.beq S.l i then some S else lkLC i r
def QIe (m i:Nat)(ls:List LCt)(fr:Fr)(th:TH)(kE:Nat→KF)(kR:KF)(body:Prop):Prop:=match lkLC i ls with
 | some S=>QES m S fr th kE kR
 | none=>body
def lpN (m i:Nat)(g:Cl)(a:CF)(ls:List LCt):Nat→BF
 | 0=>fun _ _ _ _ _=>False
 | n+1=>fun fr th kN kE kR=>QIe m i ls fr th kE kR (a g ⟨n,ls⟩ fr th (fun fr th=>lpN m i g a ls n fr th kN kE kR) kE kR)
def QLn:CF:=fun _ _ fr th kN _ _=>kN fr th
def cRow (m:Nat)(s:SF):CF:=fun g n fr th kN _ _=>s g fr th fun fr th=>kN (fr.fl m) th
def QLo (s:SF):CF:=fun g n fr th kN _ _=>s g fr th kN
def cCom (m:Nat)(l:List RE)(s:SF):CF:=fun g n fr th kN _ _=>evR g l fr th [] [] fun fr th=>s g fr th fun fr th=>kN (fr.fl m) th
def cSeq (a b:CF):CF:=fun g n fr th kN kE kR=>a g n fr th (fun fr th=>b g n fr th kN kE kR) kE kR
def cIf (c:Opd)(a b:CF):CF:=fun g n fr th kN kE kR=>match evO fr c with
 | some v=>match v with
  | .bool t=>match t with
   | true=>a g n fr th kN kE kR
   | false=>b g n fr th kN kE kR
  | .sb t=>bif t.ev then a g n fr th kN kE kR else b g n fr th kN kE kR
  | _=>False
 | none=>False
def cBlk (i:Nat)(a:CF):CF:=fun g n fr th kN kE kR=>a g n fr th kN (fun j=>bif Nat.beq j i then kN else kE j) kR
def QLp (m i:Nat)(a:CF):CF:=fun g n fr th kN kE kR=>lpN m i g a n.ls n.n fr th kN kE kR
def QLq (i:Nat):CF:=fun _ _ fr th _ kE _=>kE i fr th
def cRet:CF:=fun _ _ fr th _ _ kR=>kR fr th
def fnq (f g:Fn):Bool:=match f with
 | .func i=>match g with
  | .func j=>Nat.beq i j
  | _=>false
 | _=>false
def capq (a b:FCap):Bool:=match a with
 | .lit c=>match b with
  | .lit d=>Nat.beq c d
  | _=>false
 | .hid c=>match b with
  | .hid d=>Nat.beq c d
  | _=>false
mutual
def eqFV:FV→FV→Bool
 | .bool a,.bool b=>beqB a b
 | .int k n,.int k' n'=>keq k k'&&ieq n n'
 | .str a,.str b=>leq a b
 | .nilp,.nilp=>true
 | .ptr i o,.ptr j o'=>Nat.beq i j&&Nat.beq o o'
 | .nsl,.nsl=>true
 | .sl i a b l c,.sl j a' b' l' c'=>Nat.beq i j&&(Nat.beq a a'&&(Nat.beq b b'&&(Nat.beq l l'&&capq c c')))
 | .nilm,.nilm=>true
 | .map i,.map j=>Nat.beq i j
 | .nilf,.nilf=>true
 | .nili,.nili=>true
 | .fn f a b,.fn g a' b'=>fnq f g&&(QlR a a'&&QlR b b')
 | .ifc t v,.ifc t' v'=>Nat.beq t t'&&eqFV v v'
 | .agg l,.agg l'=>QlR l l'
 | _,_=>false
def QlR:List FV→List FV→Bool
 | [],[]=>true
 | a::r,b::s=>eqFV a b&&QlR r s
 | _,_=>false
end
def kdr (a b:KD):Bool:=match a with
 | .s=>match b with
  | .s=>true
  | _=>false
 | .i k=>match b with
  | .i k'=>keq k k'
  | _=>false
 | .o n d=>match b with
  | .o m e=>Nat.beq n m&&(match d with
   | .s=>(match e with
    | .s=>true
    | _=>false)
   | .i k=>(match e with
    | .i k'=>keq k k'
    | _=>false)
   | _=>false)
  | _=>false
def eqPL:List (FV×FV)→List (FV×FV)→Bool
 | [],[]=>true
 | a::r,b::s=>eqFV a.1 b.1&&(eqFV a.2 b.2&&eqPL r s)
 | _,_=>false
def eqTO:TO→TO→Bool
 | .cells cs k,.cells cs' k'=>Nat.beq k k'&&QlR cs cs'
 | .map d m,.map d' m'=>kdr d d'&&eqPL m m'
 | _,_=>false
def Qw0 (t:Tr TO):List (Nat×TO)→Bool
 | []=>true
 | p::r=>bif memN p.1 (r.map (·.1)) then false else match t.get p.1 with
  | some o=>bif eqTO o p.2 then Qw0 t r else false
  | none=>false
def QnC (fr:Fr):List Nat→Fr→Fr
 | [],g=>g
 | t::r,g=>match fr.get t with
  | some x=>QnC fr r (g.put t x)
  | none=>QnC fr r g
def QEO (fr fr':Fr):List Nat→Prop
 | []=>True
 | t::r=>fr'.get t=fr.get t∧QEO fr fr' r
def QFr (ti:Nat)(b:Int)(keep:List Nat)(fr:Fr)(th:TH)(i:Int)(fr':Fr)(th':TH):Prop:=bif Qw0 th'.t th.t.all then QEO fr fr' keep∧(match fr'.get ti with
 | some v=>match zbn v with
  | some q=>bif keq q.1 .i64 then q.2.1.ev=i+1∧i+1≤b else False
  | none=>False
 | none=>False) else False
def QC1 (m ti:Nat)(b:Int)(keep:List Nat)(a:CF):CF:=fun g n fr th _ kE kR=>(bif bitN m ti||keep.any (fun t=>bitN m t||Nat.beq t ti) then False else match fr.get ti with
 | some v=>match v with
  | .int k z=>bif keq k .i64&&(ieq z (.ofNat 0)&&ile (.ofNat 0) b) then ∀i:Int,0≤i→i≤b→a g n ((QnC fr keep (.base m .nil)).put ti (.sy .i64 (.o i) (.ofNat 0) b)) th (fun fr' th'=>QFr ti b keep fr th i fr' th') kE kR else False
  | _=>False
 | none=>False)
def cChk (t g k:Nat):CF:=fun _ _ fr th kN _ _=>match fr.get t with
 | some v=>match v with
  | .fn f a b=>match f with
   | .func i=>bif Nat.beq i g&&(Nat.beq a.length 0&&Nat.beq b.length k) then kN fr th else False
   | _=>False
  | _=>False
 | none=>False
def cBad:CF:=fun _ _ _ _ _ _ _=>False
def evC:FC→CF
 | .skip=>QLn
 | .seqr fl m l=>match fl with
  | true=>cRow m (evH l [] (Qbh m l))
  | false=>QLo (evH l [] (Qbh m l))
 | .com m l r=>cCom m l (evS r)
 | .seq a b=>cSeq (evC a) (evC b)
 | .cond c a b=>cIf c (evC a) (evC b)
 | .block i a=>cBlk i (evC a)
 | .loop m i a=>QLp m i (evC a)
 | .loopv m ti b keep a=>QC1 m ti b keep (evC a)
 | .exit i=>QLq i
 | .ret=>cRet
 | .chk t g k=>cChk t g k
 | .bad=>cBad
inductive RV where
 | t (i:Nat)
 | c (i k:Nat) (agg:Bool)
inductive XK where
 | cmp
 | ixb
def ixN (c:Nat):List Nat→Nat→Option Nat
 | [],_=>none
 | a::r,i=>bif Nat.beq a c then some i else ixN c r i.succ
inductive FFn where
 | f (np m b:Nat) (rs:List RV) (code:CF)
 | x (k:XK)
 | t
 | ce (k:Nat)
 | l (l:List LCt) (g:FFn)
 | q (c:Ctr)
 | p (q:List FV→TH→Prop)
def cmpN (x y:FV):Option FV:=match strV x with
 | some s=>match strV y with
  | some t=>some (.sy .i64 (.o (Lib.compareBytes s t)) (.negSucc 0) (.ofNat 1))
  | none=>none
 | none=>none
def evE:XK→List FV→Option FV
 | .cmp,l=>match l with
  | [x,y]=>match x with
   | .str a=>match y with
    | .str b=>some (.int .i64 (bif llt a b then .negSucc 0 else bif leq a b then .ofNat 0 else .ofNat 1))
    | y=>cmpN (.str a) y
   | x=>cmpN x y
  | _=>none
 | .ixb,l=>match l with
  | [x,y]=>match x with
   | .str a=>match y with
    | .int k n=>match n with
     | .ofNat c=>bif keq k .u8&&Nat.blt c 256 then some (.int .i64 (match ixN c a 0 with
       | some i=>.ofNat i
       | none=>.negSucc 0)) else none
     | _=>none
    | _=>none
   | _=>none
  | _=>none
def colB (k' k:Nat)(b:List FV)(th:TH)(K:FV→TH→Prop):Prop:=bif Nat.beq k' k then match b with
 | []=>False
 | x::r=>match r with
  | []=>match x with
   | .ptr j o=>match o with
    | 0=>match th.t.get j with
     | some (.cells cs z)=>match z with
      | 0=>match cs with
       | []=>False
       | y::_=>match y with
        | .map i=>match th.t.get i with
         | some (.map d m)=>match m with
          | []=>K .nsl th
          | _=>False
         | _=>False
        | _=>False
      | _=>False
     | _=>False
    | _=>False
   | _=>False
  | _=>False
 else False
def colF (k':Nat)(l:List FV)(th:TH)(K:FV→TH→Prop):Prop:=match l with
 | []=>False
 | x::r=>match r with
  | []=>match x with
   | .fn g a b=>match g with
    | .func k=>match a with
     | []=>colB k' k b th K
     | _=>False
    | _=>False
   | _=>False
  | _=>False
def evRV (fr:Fr)(th:Tr TO):List RV→Option (List FV)
 | []=>some []
 | .t i::r=>match fr.get i with
  | some x=>match evRV fr th r with
   | some l=>some (x::l)
   | none=>none
  | none=>none
 | .c i k agg::r=>match fr.get i with
  | some x=>match ldF th k agg x with
   | some y=>match evRV fr th r with
    | some l=>some (y::l)
    | none=>none
   | none=>none
  | none=>none
def one1:List FV→FV
 | [x]=>x
 | l=>.tup l
def retK (rs:List RV)(K:FV→TH→Prop):KF:=fun fr th=>match evRV fr th.t rs with
 | some l=>K (one1 l) th
 | none=>False
def frame:Nat→List FV→Fr→Fr
 | _,[],t=>t
 | i,x::r,t=>frame i.succ r (t.put i x)
abbrev Fn1:=Nat→List FV→TH→(FV→TH→Prop)→Prop
def QBd (fn:Fn1):Cl:=fun f l th K=>match f with
 | .fn g a b=>match g with
  | .func i=>fn i (a++(l++b)) th K
  | _=>False
 | _=>False
def runF (lf:LF)(g:Cl)(f:FFn)(l:List FV)(th:TH)(K:FV→TH→Prop):Prop:=match f with
 | .f np m b rs code=>bif Nat.beq l.length np then code g lf (frame 0 l (.base m (skel b 0))) th (retK rs K) (fun _ _ _=>False) (retK rs K) else False
 | .x k=>match evE k l with
  | some v=>K v th
  | none=>False
 | .t=>match l with
  | []=>K (.bool true) th
  | _=>False
 | .ce k=>colF k l th K
 | .l ls f=>runF ⟨lf.n,ls⟩ g f l th K
 | .q c=>runQ c l th fun _ vs th=>rsl0 (one1 vs) th K
 | .p q=>q l th
def eng (tab:Tr FFn)(lf:Nat):Nat→Fn1
 | 0=>fun _ _ _ _=>False
 | n+1=>fun i l th K=>match tab.get i with
  | some f=>runF ⟨lf,[]⟩ (QBd (eng tab lf n)) f l th K
  | none=>False
end Go.Va
namespace Go.Va
open Go Go.Sh
def yg (g:Nat)(c:CO):CO:=⟨c.dst,c.m,some (g,true)⟩
def yh (g:Nat)(c:CO):CO:=⟨c.dst,c.m,some (g,false)⟩
def ym (d a:Nat):CO:=⟨some d,.mov (.t a),none⟩
def yf (d o a:Nat):CO:=⟨some d,.fadr o (.t a),none⟩
def yl (d k a:Nat):CO:=⟨some d,.ld k false (.t a),none⟩
def yL (d k a:Nat):CO:=⟨some d,.ld k true (.t a),none⟩
def ys (k a b:Nat):CO:=⟨none,.st k (.t a) (.t b),none⟩
def yn (d a:Nat):CO:=⟨some d,.nilc (.t a),none⟩
def yc (d f:Nat)(l:List Opd):CO:=⟨some d,.call (.c (.fn (.func f) [] [])) l,none⟩
def y1 (d f a:Nat):CO:=⟨some d,.call (.c (.fn (.func f) [] [])) [.t a],none⟩
def y2 (d f a b:Nat):CO:=⟨some d,.call (.c (.fn (.func f) [] [])) [.t a,.t b],none⟩
def y3 (d f a b c:Nat):CO:=⟨some d,.call (.c (.fn (.func f) [] [])) [.t a,.t b,.t c],none⟩
def yi (d k a b:Nat):CO:=⟨some d,.iadr k (.t a) (.t b),none⟩
def ya (d a:Nat)(n:Int):CO:=⟨some d,.bin .add (.t a) (.c (.int .i64 n)),none⟩
def yu (d a:Nat)(n:Int):CO:=⟨some d,.bin .sub (.t a) (.c (.int .i64 n)),none⟩
def ye (d a:Nat)(n:Int):CO:=⟨some d,.bin .eql (.t a) (.c (.int .i64 n)),none⟩
def yz (d:Nat)(n:Int):CO:=⟨some d,.mov (.c (.int .i64 n)),none⟩
def yb (d:Nat)(op:BinOp)(a b:Nat):CO:=⟨some d,.bin op (.t a) (.t b),none⟩
def yA (d a b:Nat):CO:=⟨some d,.pick (.t a) (.t b) (.c (.bool false)),none⟩
def yO (d a b:Nat):CO:=⟨some d,.pick (.t a) (.c (.bool true)) (.t b),none⟩
def yx (d a i:Nat):CO:=⟨some d,.ext (.t a) i,none⟩
def yt (d:Nat):CO:=⟨some d,.mov (.c (.bool true)),none⟩
def yF (d:Nat):CO:=⟨some d,.mov (.c (.bool false)),none⟩
def yB (d a:Nat):CO:=⟨some d,.box (.t a),none⟩
def yS (d a:Nat):CO:=⟨some d,.lenS (.t a),none⟩
def yT (d a:Nat):CO:=⟨some d,.lenT (.t a),none⟩
def yN (d a:Nat):CO:=⟨some d,.not (.t a),none⟩
def yE (d:Nat):CO:=⟨some d,.mov (.c .nsl),none⟩
def yp (d k b s x:Nat):CO:=⟨some d,.app k b (.t s) (.t x),none⟩
def yI:Int→FV:=.int .i64
end Go.Va
