import Derived.Test.YtemffgbncjnmkaaGreatAb
set_option linter.unusedVariables false
set_option linter.unusedSectionVars false
set_option linter.unusedSimpArgs false
noncomputable section
namespace Go.Va
open Go Go.Sh
variable [Vb]
structure RP where
 hd:Nat
 ord:List (Nat×Nat)
def tmpsOf:List Operand→List Nat
 | []=>[]
 | .tmp t::r=>t::tmpsOf r
 | _::r=>tmpsOf r
def gdst (ops:Array Oper)(o:Oper):List Nat:=match o.guard with
 | none=>[]
 | some (j,_)=>match (ops[j]?).bind (·.dst) with
  | some d=>[d]
  | none=>[]
def tsOf (ops:Array Oper)(o:Oper):List Nat:=gdst ops o++tmpsOf o.op.operands.toList
def QaS (ops:Array Oper)(i:Nat):List Nat:=match ops[i]? with
 | some o=>Qa8 o
 | none=>[]
inductive Anc (ops:Array Oper):Nat→Nat→Prop
 | one {i j:Nat}:j∈QaS ops i→Anc ops i j
 | more {i j k:Nat}:j∈QaS ops i→Anc ops j k→Anc ops i k
def ancN (ops:Array Oper):Nat→Nat→List Nat
 | 0,_=>[]
 | n+1,i=>QaS ops i++(QaS ops i).flatMap (ancN ops n)
theorem QEB {ops:Array Oper}:∀ {n i j:Nat},j∈ancN ops n i→Anc ops i j
 | 0,_,_,h=>by cases h
 | n+1,i,j,h=>by
  rcases List.mem_append.1 h with h | h
  ·exact .one h
  ·obtain⟨k,hk,h⟩:=List.mem_flatMap.1 h
   exact .more hk (QEB h)
def QLh:MOp→Bool
 | .alc _=>true
 | .box _=>true
 | .bsl _ _ _ _ _=>true
 | .mks _ _ _ _ _=>true
 | .xx (.mkz _ _ _ _ _)=>true
 | _=>false
def ancQ (P:Program)(ops:Array Oper)(m:MOp)(i:Nat):List Nat:=bif isLd m then ((ancN ops 6 i).filter fun j=>match ops[j]? with
 | some o=>QLh (copN P o)
 | none=>false) else []
theorem QEA {P:Program}{ops:Array Oper}{m:MOp}{i j:Nat}(h:j∈ancQ P ops m i):Anc ops i j:=by
 unfold ancQ at h
 cases hb:isLd m with
 | false=>rw[hb] at h;cases h
 | true=>rw[hb] at h;exact QEB (List.mem_filter.1 h).1
def cRE (P:Program)(n:Nat)(ops:Array Oper)(k i:Nat):Option RE:=match ops[i]? with
 | some o=>match cO P n ops o with
  | some c=>match k with
   | 0=>some (.q i (tsOf ops o) c (ancQ P ops c.m i))
   | 1=>some (.a i (tsOf ops o) c)
   | _=>some (.e i (tsOf ops o) c (Qa8 o))
  | none=>none
 | none=>none
def cREL (P:Program)(n:Nat)(ops:Array Oper):List (Nat×Nat)→Option (List RE)
 | []=>some []
 | p::r=>match cRE P n ops p.1 p.2,cREL P n ops r with
  | some c,some l=>some (c::l)
  | _,_=>none
def tsAt (ops:Array Oper)(i:Nat):List Nat:=match ops[i]? with
 | some o=>tsOf ops o
 | none=>[]
def Qtu (ops:Array Oper):List (Nat×Nat)→List Nat→Bool
 | [],_=>true
 | p::r,seen=>(QaS ops p.2).all (fun j=>memN j seen)&&(bif Nat.ble 2 p.1 then r.all (fun q=>(QaS ops q.2).any fun j=>Nat.beq j p.2||r.any fun s=>Nat.beq s.2 j) else true)&&Qtu ops r (p.2::seen)
def Qxm:List Nat→Bool
 | []=>true
 | i::r=>(memN i r).not&&Qxm r
def okTs (ops:Array Oper)(hd:Nat)(i:Nat):Bool:=(tsAt ops i).all fun t=>(List.range hd).all fun j=>match (ops[j]?).bind (·.dst) with
 | some d=>(Nat.beq d t).not||memN j (QaS ops i)||memN i (QaS ops j)
 | none=>true
def Qxe (ops:Array Oper)(p:RP):Bool:=
 comB ops p.hd&&Nat.beq p.ord.length p.hd&&Qxm (p.ord.map (·.2))&&p.ord.all (fun q=>Nat.blt q.2 p.hd)&&Qtu ops p.ord []&&p.ord.all (fun q=>okTs ops p.hd q.2)
def lkP:List (Nat×RP)→Nat→Option RP
 | [],_=>none
 | (j,x)::r,i=>bif Nat.beq i j then some x else lkP r i
def fid:Code→Option Nat
 | .region id _ _=>some id
 | .seq a b=>match fid a with
  | some i=>some i
  | none=>fid b
 | .cond _ a b=>match fid a with
  | some i=>some i
  | none=>fid b
 | .block _ a=>fid a
 | .loop a=>fid a
 | _=>none
def fidN (c:Code):Nat:=match fid c with
 | some i=>i
 | none=>0
def QIj (pls:List (Nat×RP))(i:Nat):Bool:=match lkP pls i with
 | some p=>Nat.beq p.hd 999
 | none=>false
def invP (pls:List (Nat×RP))(i:Nat):Option (Nat×Nat×List Nat):=match lkP pls i with
 | some p=>bif Nat.beq p.hd 998 then match p.ord with
   | q::r=>some (q.1,q.2,r.map (·.1))
   | []=>none
  else none
 | none=>none
def isBad:FC→Bool
 | .bad=>true
 | _=>false
def cC (P:Program)(n m:Nat)(pls:List (Nat×RP)):Code→Option FC
 | .skip=>some .skip
 | .label _=>some .skip
 | .region id ops draw=>bif QIj pls id then some .bad else match draw with
  | false=>match cOL P n ops ops.toList with
   | some l=>some (.seqr (match lkP pls id with | some _=>false | none=>true) m l)
   | none=>none
  | true=>match lkP pls id with
   | some p=>bif P.follows .mixedOrders&&Qxe ops p then match cREL P n ops p.ord with
     | some l=>match cOL P n ops (ops.toList.drop p.hd) with
      | some r=>some (.com m l r)
      | none=>none
     | none=>none
    else none
   | none=>some .bad
 | .seq a b=>match cC P n m pls a with
  | some x=>bif isBad x then some .bad else match cC P n m pls b with
   | some y=>some (.seq x y)
   | none=>none
  | none=>none
 | .cond c a b=>match c1 c with
  | some z=>match cC P n m pls a with
   | some x=>match cC P n m pls b with
    | some y=>some (.cond z x y)
    | none=>none
   | none=>none
  | none=>some .bad
 | .block i a=>match cC P n m pls a with
  | some x=>bif isBad x then some .bad else some (.block i x)
  | none=>none
 | .loop a=>match cC P n m pls a with
  | some x=>bif isBad x then some .bad else some (match invP pls (1000000+fidN a) with
   | some q=>.loopv m q.1 (.ofNat q.2.1) q.2.2 x
   | none=>.loop m (fidN a) x)
  | none=>none
 | .exit i=>some (.exit i)
 | .ret=>some .ret
 | _=>some .bad
def cRV (P:Program)(n:Nat):List ResultVar→Option (List RV)
 | []=>some []
 | .tmp t::r=>match cRV P n r with
  | some l=>bif Nat.blt t n then some (.t t::l) else none
  | none=>none
 | .cell a t::r=>match agO P t,szO P t,cRV P n r with
  | some b,some k,some l=>bif Nat.blt a n&&Nat.blt 0 k then some (.c a k b::l) else none
  | _,_,_=>none
inductive FSn where
 | f (np m b:Nat) (rs:List RV) (code:FC)
def FSn.fn:FSn→FFn
 | .f np m b rs c=>.f np m b rs (evC c)
def cF (P:Program)(pls:List (Nat×RP))(np m:Nat)(fn:Func):Option FSn:=match fn.body with
 | some c=>match cRV P fn.ntmps fn.results.toList with
  | some rs=>match cC P fn.ntmps m pls c with
   | some x=>bif Nat.ble np fn.ntmps&&(List.range np).all (fun i=>(bitN m i).not) then some (.f np m (Nat.succ (Nat.log2 fn.ntmps)) rs x) else none
   | none=>none
  | none=>none
 | none=>none
end Go.Va
namespace Go.Va
open Go Go.Sh
variable [Vb]
variable {P:Program}
theorem Qeb {i:Nat}:∀ {l:List Nat},memN i l=true↔i∈l
 | []=>by simp[memN]
 | j::r=>by
  simp only[memN]
  cases h:Nat.beq i j with
  | true=>have:=Qm h;subst this;simp
  | false=>have:=QlU h;simp[this,Qeb]
theorem QHs {i:Nat}{l:List Nat}(h:memN i l=false):i ∉ l:=fun hm=>by rw[Qeb.2 hm] at h;cases h
theorem Qp1 {a b:Int}(h:ieq a b=true):a=b:=by rw[Qkg] at h;simpa using h
theorem QFb:∀ {a b:List Nat},leq a b=true→a=b
 | [],[],_=>rfl
 | [],_::_,h=>by rw[QGo] at h;cases h
 | _::_,[],h=>by rw[QB9] at h;cases h
 | a::x,b::y,h=>by
  rw[QCa] at h
  cases hb:Nat.beq a b with
  | true=>rw[hb] at h;have:=Qm hb;subst this;rw[QFb (a:=x) (b:=y) h]
  | false=>rw[hb] at h;cases h
theorem QGw {a b:Fn}(h:keqF a b=true):a=b:=by
 cases a<;>cases b<;>simp only[keqF] at h<;>try (cases h;done)
 rw[Qm h]
theorem QCv:∀ {x y:List SB},eqXB x y=true→x=y
 | [],[],_=>rfl
 | [],_::_,h=>by simp[eqXB] at h
 | .k _::_,[],h=>by simp[eqXB] at h
 | .v _ _ _::_,[],h=>by simp[eqXB] at h
 | .k a::x,.k b::y,h=>by
  simp only[eqXB] at h
  cases hb:Nat.beq a b with
  | false=>rw[hb] at h;cases h
  | true=>rw[hb] at h;rw[Qm hb,QCv h]
 | .v a l u::x,.v b l' u'::y,h=>by
  simp only[eqXB] at h
  cases hb:eqE a b&&ieq l l'&&ieq u u' with
  | false=>rw[hb] at h;cases h
  | true=>
   rw[hb] at h
   simp only[Bool.and_eq_true] at hb
   rw[QlS hb.1.1,Qp1 hb.1.2,Qp1 hb.2,QCv h]
 | .k _::_,.v _ _ _::_,h=>by simp[eqXB] at h
 | .v _ _ _::_,.k _::_,h=>by simp[eqXB] at h
mutual
theorem QxI:∀ {a b:FV},eqV a b=true→a=b
 | .bool a,b,h=>by
  cases b<;>simp only[eqV] at h<;>try (cases h;done)
  rename_i b
  cases a<;>cases b<;>first | rfl | cases h
 | .int k a,b,h=>by
  cases b<;>simp only[eqV] at h<;>try (cases h;done)
  rename_i k' b
  cases hk:keq k k' with
  | true=>rw[hk] at h;rw[QdB hk,Qp1 h]
  | false=>rw[hk] at h;cases h
 | .str a,b,h=>by
  cases b<;>simp only[eqV] at h<;>try (cases h;done)
  rw[QFb h]
 | .nilp,b,h=>by cases b<;>simp only[eqV] at h<;>first | rfl | cases h
 | .nsl,b,h=>by cases b<;>simp only[eqV] at h<;>first | rfl | cases h
 | .nilf,b,h=>by cases b<;>simp only[eqV] at h<;>first | rfl | cases h
 | .nili,b,h=>by cases b<;>simp only[eqV] at h<;>first | rfl | cases h
 | .nilm,b,h=>by cases b<;>simp only[eqV] at h<;>first | rfl | cases h
 | .ptr x y,b,h=>by
  cases b<;>simp only[eqV] at h<;>try (cases h;done)
  rename_i z w
  cases hb:Nat.beq x z with
  | true=>rw[hb] at h;rw[Qm hb,Qm h]
  | false=>rw[hb] at h;cases h
 | .sl x y z w c,b,h=>by
  cases b<;>simp only[eqV] at h<;>try (cases h;done)
  rename_i x' y' z' w' c'
  simp only[Bool.and_eq_true] at h
  obtain⟨⟨⟨⟨h1,h2⟩,h3⟩,h4⟩,h5⟩:=h
  have hc:c=c':=by
   cases c<;>cases c'<;>simp only at h5<;>first | (rw[Qm h5]) | cases h5
  rw[Qm h1,Qm h2,Qm h3,Qm h4,hc]
 | .map x,b,h=>by
  cases b<;>simp only[eqV] at h<;>try (cases h;done)
  rw[Qm h]
 | .fn f x y,b,h=>by
  cases b<;>simp only[eqV] at h<;>try (cases h;done)
  simp only[Bool.and_eq_true] at h
  rw[QGw h.1.1,Qsw h.1.2,Qsw h.2]
 | .agg x,b,h=>by
  cases b<;>simp only[eqV] at h<;>try (cases h;done)
  rw[Qsw h]
 | .tup x,b,h=>by
  cases b<;>simp only[eqV] at h<;>try (cases h;done)
  rw[Qsw h]
 | .sy k a l u,b,h=>by
  cases b<;>simp only[eqV] at h<;>try (cases h;done)
  simp only[Bool.and_eq_true] at h
  rw[QdB h.1.1.1,QlS h.1.1.2,Qp1 h.1.2,Qp1 h.2]
 | .sb _,b,h=>by simp[eqV] at h
 | .sstr _,b,h=>by simp[eqV] at h
 | .dp _ _,b,h=>by simp[eqV] at h
 | .dn _ _ _,b,h=>by simp[eqV] at h
 | .ds _ _,b,h=>by simp[eqV] at h
 | .obl _ _,b,h=>by simp[eqV] at h
 | .alt _ _,b,h=>by simp[eqV] at h
 | .os _ _,b,h=>by
  cases b<;>simp only[eqV] at h<;>try (cases h;done)
  simp only[Bool.and_eq_true] at h
  rw[Qm h.1,Qm h.2]
 | .oe _ _ _ _,b,h=>by simp[eqV] at h
 | .sx _,b,h=>by
  cases b<;>simp only[eqV] at h<;>try (cases h;done)
  rw[QCv h]
 | .ifc _ _,b,h=>by simp[eqV] at h
theorem Qsw:∀ {a b:List FV},eqVL a b=true→a=b
 | [],[],_=>rfl
 | [],_::_,h=>by simp[eqVL] at h
 | _::_,[],h=>by simp[eqVL] at h
 | a::x,b::y,h=>by
  simp only[eqVL] at h
  cases hv:eqV a b with
  | true=>rw[hv] at h;rw[QxI hv,Qsw h]
  | false=>rw[hv] at h;cases h
end
theorem Qx8 {c:Bool}{R:Prop}(h:bif c then R else False):c=true∧R:=by
 cases c with
 | true=>exact⟨rfl,h⟩
 | false=>exact h.elim
theorem QC3 {c:Bool}{p q:Prop}(h:bif c then p else q):(c=true∧p)∨(c=false∧q):=by
 cases c with
 | true=>exact .inl ⟨rfl,h⟩
 | false=>exact .inr ⟨rfl,h⟩
theorem QmL:∀ {a b:SE},eqSP a b→a=b:=by
 have dflt:∀ {a b:SE},(bif eqE a b then True else a=b)→a=b:=fun {a b} h=>by
  rcases QC3 h with⟨h,_⟩ | ⟨_,h⟩
  ·exact QlS h
  ·exact h
 intro a
 induction a with
 | o x=>intro b h;cases b<;>first | exact congrArg SE.o h | exact dflt h
 | add a b iha ihb=>intro c h;cases c<;>first | (obtain⟨h1,h2⟩:=h;rw[iha h1,ihb h2]) | exact dflt h
 | sub a b iha ihb=>intro c h;cases c<;>first | (obtain⟨h1,h2⟩:=h;rw[iha h1,ihb h2]) | exact dflt h
 | wrap k a iha=>
  intro c h
  cases c
  case wrap k' b=>
   obtain⟨h1,h2⟩:=Qx8 h
   rw[QdB h1,iha h2]
  all_goals exact dflt h
 | _=>intro b h;cases b<;>exact dflt h
theorem QGJ:∀ {a b:SC},eqCP a b→a=b:=by
 intro a
 induction a with
 | o x=>intro b h;cases b<;>first | exact congrArg SC.o h | exact h
 | no a ih=>intro b h;cases b<;>first | (rw[ih h]) | exact h
 | lt a b=>intro c h;cases c<;>first | (obtain⟨h1,h2⟩:=h;rw[QmL h1,QmL h2]) | exact h
 | le a b=>intro c h;cases c<;>first | (obtain⟨h1,h2⟩:=h;rw[QmL h1,QmL h2]) | exact h
 | eq a b=>intro c h;cases c<;>first | (obtain⟨h1,h2⟩:=h;rw[QmL h1,QmL h2]) | exact h
 | _=>intro b h;cases b<;>exact h
theorem QaR {a b:FV}(h:bif eqV a b then True else a=b):a=b:=by
 rcases QC3 h with⟨h,_⟩ | ⟨_,h⟩
 ·exact QxI h
 ·exact h
mutual
theorem QCw:∀ {a b:FV},eqVP a b→a=b
 | .sy k a l u,b,h=>by
  cases b
  case sy k' b l' u'=>
   simp only[eqVP] at h
   obtain⟨h1,h2⟩:=Qx8 h
   simp only[Bool.and_eq_true] at h1
   rw[QdB h1.1,Qp1 h1.2.1,Qp1 h1.2.2,QmL h2]
  all_goals (simp only[eqVP] at h;exact QaR h)
 | .sb c,b,h=>by
  cases b
  case sb d=>simp only[eqVP] at h;rw[QGJ h]
  all_goals (simp only[eqVP] at h;exact QaR h)
 | .sstr s,b,h=>by
  cases b
  case sstr d=>simp only[eqVP] at h;rw[h]
  all_goals (simp only[eqVP] at h;exact QaR h)
 | .dp t d,b,h=>by
  cases b
  case dp t' d'=>
   simp only[eqVP] at h
   obtain⟨h1,h2⟩:=Qx8 h
   rw[Qm h1,h2]
  all_goals (simp only[eqVP] at h;exact QaR h)
 | .dn t d o,b,h=>by
  cases b
  case dn t' d' o'=>
   simp only[eqVP] at h
   obtain⟨h1,h2⟩:=Qx8 h
   simp only[Bool.and_eq_true] at h1
   rw[Qm h1.1,Qm h1.2,h2]
  all_goals (simp only[eqVP] at h;exact QaR h)
 | .ds t d,b,h=>by
  cases b
  case ds t' d'=>
   simp only[eqVP] at h
   obtain⟨h1,h2⟩:=Qx8 h
   rw[Qm h1,h2]
  all_goals (simp only[eqVP] at h;exact QaR h)
 | .agg x,b,h=>by
  cases b
  case agg y=>simp only[eqVP] at h;rw[QyV h]
  all_goals (simp only[eqVP] at h;exact QaR h)
 | .tup x,b,h=>by
  cases b
  case tup y=>simp only[eqVP] at h;rw[QyV h]
  all_goals (simp only[eqVP] at h;exact QaR h)
 | .obl c x,b,h=>by
  cases b
  case obl d y=>simp only[eqVP] at h;rw[QGJ h.1,QCw h.2]
  all_goals (simp only[eqVP] at h;exact QaR h)
 | .bool _,b,h=>by simp only[eqVP] at h;exact QaR h
 | .int _ _,b,h=>by simp only[eqVP] at h;exact QaR h
 | .sx _,b,h=>by simp only[eqVP] at h;exact QaR h
 | .str _,b,h=>by simp only[eqVP] at h;exact QaR h
 | .nilp,b,h=>by simp only[eqVP] at h;exact QaR h
 | .ptr _ _,b,h=>by simp only[eqVP] at h;exact QaR h
 | .nsl,b,h=>by simp only[eqVP] at h;exact QaR h
 | .sl _ _ _ _ _,b,h=>by simp only[eqVP] at h;exact QaR h
 | .nilm,b,h=>by simp only[eqVP] at h;exact QaR h
 | .map _,b,h=>by simp only[eqVP] at h;exact QaR h
 | .nilf,b,h=>by simp only[eqVP] at h;exact QaR h
 | .fn _ _ _,b,h=>by simp only[eqVP] at h;exact QaR h
 | .nili,b,h=>by simp only[eqVP] at h;exact QaR h
 | .ifc _ _,b,h=>by simp only[eqVP] at h;exact QaR h
 | .alt _ _,b,h=>by simp only[eqVP] at h;exact QaR h
 | .os _ _,b,h=>by simp only[eqVP] at h;exact QaR h
 | .oe _ _ _ _,b,h=>by simp only[eqVP] at h;exact QaR h
theorem QyV:∀ {a b:List FV},Qp6 a b→a=b
 | [],[],_=>rfl
 | [],_::_,h=>by simp[Qp6] at h
 | _::_,[],h=>by simp[Qp6] at h
 | a::x,b::y,h=>by
  simp only[Qp6] at h
  rw[QCw h.1,QyV h.2]
end
theorem QLj {x y:FV}{R:Prop}(h:eqK x y R):x=y∧R:=by
 unfold eqK at h
 rcases QC3 h with⟨h1,h⟩ | ⟨_,h1,h⟩
 ·exact⟨QxI h1,h⟩
 ·exact⟨QCw h1,h⟩
theorem QpF {th:Tr TO}{hs:List HE}:∀ {ps:List PE}{R:Prop},Qhf th hs ps R→(∀p∈ps,rdT p.fr p.c.m=true→gst p.fr p.c.g=.go→evQ p.fr (relH p.dq th hs) p.c.m=some p.x)∧R
 | [],R,h=>⟨fun p hp=>(by cases hp),h⟩
 | q::r,R,h=>by
  simp only[Qhf] at h
  have skip:Qhf th hs r R→(rdT q.fr q.c.m=true→gst q.fr q.c.g=.go→evQ q.fr (relH q.dq th hs) q.c.m=some q.x)→(∀p∈q::r,rdT p.fr p.c.m=true→gst p.fr p.c.g=.go→evQ p.fr (relH p.dq th hs) p.c.m=some p.x)∧R:=fun h hq=>by
   obtain⟨h1,h2⟩:=QpF h
   refine⟨fun p hp=>?_,h2⟩
   rcases List.mem_cons.1 hp with rfl | hp
   ·exact hq
   ·exact h1 p hp
  cases hl:rdT q.fr q.c.m with
  | false=>rw[hl] at h;exact skip h fun e=>by rw[hl] at e;cases e
  | true=>
   rw[hl] at h
   simp only[cond_true] at h
   cases hg:gst q.fr q.c.g with
   | skip=>rw[hg] at h;exact skip h fun _ e=>by rw[hg] at e;cases e
   | bad=>rw[hg] at h;exact skip h fun _ e=>by rw[hg] at e;cases e
   | go=>
    rw[hg] at h
    simp only at h
    cases he:evQ q.fr (relH q.dq th hs) q.c.m with
    | none=>rw[he] at h;exact h.elim
    | some y=>
     rw[he] at h
     obtain⟨h1,h2⟩:=QLj h
     exact skip h2 fun _ _=>by rw[he,h1]
theorem QKz {fr:Fr}{th th':Tr TO}{m:MOp}(h:isLd m=false):evQ fr th m=evQ fr th' m:=by
 cases m<;>first | rfl | (simp[isLd] at h)
theorem QKA {fr:Fr}{th th':Tr TO}{m:MOp}(h:rdT fr m=false):evQ fr th m=evQ fr th' m:=by
 cases m<;>first | exact QKz h | skip
 case iadr k x i=>
  simp only[rdT] at h
  simp only[evQ,evQ0,evZ,QEW,o2]
  cases hx:evO fr x with
  | none=>rfl
  | some v=>
   rw[hx] at h
   cases v<;>first | (cases h;done) | rfl
 case lenS x=>
  simp only[rdT] at h
  simp only[evQ,evQ0,evZ,QEV,o1]
  cases hx:evO fr x with
  | none=>rfl
  | some v=>
   rw[hx] at h
   cases v<;>first | (cases h;done) | rfl
 case ld k b x=>
  simp only[rdT] at h
  simp only[evQ,evQ0,evZ,qLd,o1]
  cases hx:evO fr x with
  | none=>rfl
  | some v=>
   rw[hx] at h
   cases v<;>first | (cases h;done) | rfl
theorem Qhu {dp:List Nat}:∀ {ps:List PE}{p:PE},p∈QgM dp ps↔p∈ps∧memN p.i dp=false
 | [],p=>by simp[QgM]
 | q::r,p=>by
  simp only[QgM]
  cases h:memN q.i dp with
  | true=>
   simp only[cond_true,Qhu,List.mem_cons]
   constructor
   ·exact fun⟨a,b⟩=>⟨.inr a,b⟩
   ·rintro⟨rfl | a,b⟩
    ·rw[h] at b;cases b
    ·exact⟨a,b⟩
  | false=>
   simp only[cond_false,List.mem_cons,Qhu]
   constructor
   ·rintro (rfl | ⟨a,b⟩)
    ·exact⟨.inl rfl,h⟩
    ·exact⟨.inr a,b⟩
   ·rintro⟨rfl | a,b⟩
    ·exact .inl rfl
    ·exact .inr ⟨a,b⟩
theorem QfR {dp:List Nat}:∀ {hs:List HE}{p:HE},p∈Qc3 dp hs↔p∈hs∧memN p.i dp=false
 | [],p=>by simp[Qc3]
 | q::r,p=>by
  simp only[Qc3]
  cases h:memN q.i dp with
  | true=>
   simp only[cond_true,QfR,List.mem_cons]
   constructor
   ·exact fun⟨a,b⟩=>⟨.inr a,b⟩
   ·rintro⟨rfl | a,b⟩
    ·rw[h] at b;cases b
    ·exact⟨a,b⟩
  | false=>
   simp only[cond_false,List.mem_cons,QfR]
   constructor
   ·rintro (rfl | ⟨a,b⟩)
    ·exact⟨.inl rfl,h⟩
    ·exact⟨.inr a,b⟩
   ·rintro⟨rfl | a,b⟩
    ·exact .inl rfl
    ·exact .inr ⟨a,b⟩
theorem QrP {fr:Fr}:∀ {ts:List Nat}{t:Nat}{x:FV},(QcW fr ts).get t=some x→t∈ts∧fr.get t=some x
 | [],t,x,h=>by rw[QcW,Fr.get_nil] at h;cases h
 | u::ts,t,x,h=>by
  simp only[QcW] at h
  cases hu:fr.get u with
  | none=>rw[hu] at h;obtain⟨a,b⟩:=QrP h;exact⟨.tail _ a,b⟩
  | some y=>
   rw[hu] at h
   simp only at h
   by_cases ht:t=u
   ·subst ht
    rw[Fr.get_eq] at h;simp only[Option.some.injEq] at h;subst h
    exact⟨.head _,hu⟩
   ·rw[Fr.get_ne _ _ ht] at h;obtain⟨a,b⟩:=QrP h;exact⟨.tail _ a,b⟩
def Kn (E:Env)(x:Nat×TO):Prop:=match x.2 with
 | .cells cs _=>∃a vs,E.p x.1=some a∧denL E cs=some vs
 | .map d m=>∃a l,E.p x.1=some a∧denM E d m=some l
 | .it j _ _=>∃a m,E.p x.1=some a∧E.p j=some m
 | .row t es=>∃a v ks,Qju E x.1 t es a v ks
 | .mp t ag es=>∃a ks,MpIs E x.1 t ag es a ks
 | .mf t ag es=>∃a ks,MpIs E x.1 t ag es a ks∧FzM E a.block (es.map (entM ag ks))
 | .im i t ag rest cur=>∃z:ImZ,ImIs E x.1 i t ag rest cur z.a z.ma z.ks z.m z.st z.c z.dn
 | .ro cs=>∃a vs,E.p x.1=some a∧denL E cs=some vs∧E.rd a vs
theorem Qzv {E F:Env}(hle:E.Le0 F){x:Nat×TO}(hx:Kn E x){h:Heap}{S:Nat→Prop}(o:(part F x).own h S):(part E x).own h S:=by
 obtain⟨i,o'⟩:=x
 cases o' with
 | cells cs k=>
  obtain⟨z,hz,hc⟩:=o
  obtain⟨a,vs,h1,h2⟩:=hx
  obtain⟨g1,g2⟩:=hle.a i a h1
  have e1:z.1=a:=by have:=hz.1;rw[g1] at this;simpa using this.symm
  have e2:z.2.1=vs:=by have:=hz.2.1;rw[Qcj hle h2] at this;simpa using this.symm
  refine⟨z,⟨by rw[e1];exact h1,by rw[e2];exact h2,hz.2.2.1,hz.2.2.2.1,fun hk=>?_⟩,hc⟩
  rw[←g2];exact hz.2.2.2.2 hk
 | map d m=>
  obtain⟨z,hz,hc⟩:=o
  obtain⟨a,l,h1,h2⟩:=hx
  obtain⟨g1,g2⟩:=hle.a i a h1
  have e1:z.1=a:=by have:=hz.1;rw[g1] at this;simpa using this.symm
  have e2:z.2=l:=by have:=hz.2;rw[QlT hle h2] at this;simpa using this.symm
  exact⟨z,⟨by rw[e1];exact h1,by rw[e2];exact h2⟩,hc⟩
 | row t es=>
  obtain⟨z,hz,hc⟩:=o
  obtain⟨a,v,ks,hw⟩:=hx
  have e1:z.1=a:=by have:=hz.p;rw[(hle.a i a hw.p).1] at this;simpa using this.symm
  have e2:z.2.1=v:=hz.s.symm.trans ((hle.s i a hw.p).trans hw.s)
  have e3:z.2.2=ks:=by have:=hz.ly;rw[hw.ly] at this;simpa using this.symm
  refine⟨z,?_,hc⟩
  rw[e1,e2,e3];exact hw
 | mp t ag es=>
  obtain⟨z,hz,hc⟩:=o
  obtain⟨a,ks,hw⟩:=hx
  have e1:z.1=a:=by have:=hz.p;rw[(hle.a i a hw.p).1] at this;simpa using this.symm
  have e3:z.2=ks:=by have:=hz.ly;rw[hw.ly] at this;simpa using this.symm
  refine⟨z,?_,hc⟩
  rw[e1,e3];exact hw
 | mf t ag es=>
  obtain⟨z,hz,hc⟩:=o
  obtain⟨a,ks,hw,hf⟩:=hx
  have e1:z.1=a:=by have:=hz.1.p;rw[(hle.a i a hw.p).1] at this;simpa using this.symm
  have e3:z.2=ks:=by have:=hz.1.ly;rw[hw.ly] at this;simpa using this.symm
  refine⟨z,?_,hc⟩
  rw[e1,e3];exact⟨hw,hf⟩
 | im j t ag rest cur=>
  obtain⟨z,hz,hc⟩:=o
  obtain⟨y,hw⟩:=hx
  have e1:z.a=y.a:=by have:=hz.p;rw[(hle.a i _ hw.p).1] at this;simpa using this.symm
  have e2:z.ma=y.ma:=by have:=hz.pm;rw[(hle.a j _ hw.pm).1] at this;simpa using this.symm
  have e3:z.ks=y.ks:=by have:=hz.ly;rw[hw.ly] at this;simpa using this.symm
  obtain⟨e4,e5,e6⟩:=encZ_inj (hz.pin.symm.trans ((hle.s i _ hw.p).trans hw.pin))
  obtain⟨a,ma,ks,m,st,c,dn⟩:=z
  obtain⟨a',ma',ks',m',st',c',dn'⟩:=y
  simp only at e1 e2 e3 e4 e5 e6 hz hw
  subst e1;subst e2;subst e3;subst e4;subst e5;subst e6
  refine⟨⟨a,ma,ks,m,st,c,dn⟩,⟨hw.p,hw.pm,hw.pin,hw.ly,hw.one,hw.wt,hw.li,hw.ok,hw.z,hz.sub,hz.all,hz.rst,hz.nd,hz.len,fun e he=>⟨(hz.cur e he).1,(hw.cur e he).2.1,(hz.cur e he).2.2⟩⟩,hc⟩
 | it j c b=>
  obtain⟨z,hz,hc⟩:=o
  obtain⟨a,m,h1,h2⟩:=hx
  have g1:=(hle.a i a h1).1
  have g2:=(hle.a j m h2).1
  have e1:z.1=a:=by have:=hz.1;rw[g1] at this;simpa using this.symm
  have e2:z.2=m:=by have:=hz.2;rw[g2] at this;simpa using this.symm
  exact⟨z,⟨by rw[e1];exact h1,by rw[e2];exact h2⟩,hc⟩
 | ro cs=>
  obtain⟨z,hz,hc⟩:=o
  obtain⟨a,vs,h1,h2,h3⟩:=hx
  obtain⟨g1,g2⟩:=hle.a i a h1
  have e1:z.1=a:=by have:=hz.1;rw[g1] at this;simpa using this.symm
  have e2:z.2=vs:=by have:=hz.2.1;rw[Qcj hle h2] at this;simpa using this.symm
  exact⟨z,⟨by rw[e1];exact h1,by rw[e2];exact h2,hz.2.2.1,by rw[e1,e2];exact h3⟩,hc⟩
theorem Rep.known {E:Env}{th:TH}{h0 h:Heap}{L:List HP}(r:Rep E th h0 h L):∀x∈th.t.all.map (fun x=>x),Kn E x:=by
 intro x hx
 simp only[List.map_id'] at hx
 obtain⟨l1,l2,hl⟩:=List.append_of_mem hx
 have s:=r.st
 rw[hl] at s
 have s2:St h0 h (part E x::((l1++l2).map (part E)++(FzP E.z::L))):=s.perm (by
  rw[List.map_append,List.map_append,List.map_cons]
  refine ((List.perm_middle).append_right _).trans ?_
  simp)
 obtain⟨S,hA,_⟩:=s2.get
 obtain⟨i,o⟩:=x
 cases o with
 | cells cs k=>
  obtain⟨z,hz,_⟩:=hA
  exact⟨z.1,z.2.1,hz.1,hz.2.1⟩
 | map d m=>
  obtain⟨z,hz,_⟩:=hA
  exact⟨z.1,z.2,hz.1,hz.2⟩
 | row t es=>
  obtain⟨z,hz,_⟩:=hA
  exact⟨z.1,z.2.1,z.2.2,hz⟩
 | mp t ag es=>
  obtain⟨z,hz,_⟩:=hA
  exact⟨z.1,z.2,hz⟩
 | mf t ag es=>
  obtain⟨z,hz,_⟩:=hA
  exact⟨z.1,z.2,hz.1,hz.2⟩
 | im j t ag rest cur=>
  obtain⟨z,hz,_⟩:=hA
  exact⟨z,hz⟩
 | it j c b=>
  obtain⟨z,hz,_⟩:=hA
  exact⟨z.1,z.2,hz.1,hz.2⟩
 | ro cs=>
  obtain⟨z,hz,_⟩:=hA
  exact⟨z.1,z.2,hz.1,hz.2.1,hz.2.2.2⟩
end Go.Va
