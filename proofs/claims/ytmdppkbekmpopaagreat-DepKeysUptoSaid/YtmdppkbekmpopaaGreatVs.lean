import Derived.Test.YtmdppkbekmpopaaGreatVp
set_option linter.unusedVariables false
set_option linter.unusedSimpArgs false
set_option linter.unusedSectionVars false
namespace Go.Va
open Go Go.Sh
variable [Vb]
variable {P:Program}
theorem Qeb {i:Nat}:∀ {l:List Nat},memN i l=true↔i∈l
 | []=>by simp[memN]
 | j::r=>by
  simp only[memN]
  cases h:Nat.beq i j with
  | true=>have:=Qm h;subst this;simp
  | false=>have:=QlU h;simp[this,Qeb]
theorem QHs {i:Nat}{l:List Nat}(h:memN i l=false):i ∉ l:=fun hm=>by rw[Qeb.2 hm] at h;cases h
theorem Qp1 {a b:Int}(h:ieq a b=true):a=b:=by rw[Qkg] at h;simpa using h
theorem QFb:∀ {a b:List Nat},leq a b=true→a=b
 | [],[],_=>rfl
 | [],_::_,h=>by rw[QGo] at h;cases h
 | _::_,[],h=>by rw[QB9] at h;cases h
 | a::x,b::y,h=>by
  rw[QCa] at h
  cases hb:Nat.beq a b with
  | true=>rw[hb] at h;have:=Qm hb;subst this;rw[QFb (a:=x) (b:=y) h]
  | false=>rw[hb] at h;cases h
theorem QGw {a b:Fn}(h:keqF a b=true):a=b:=by
 cases a<;>cases b<;>simp only[keqF] at h<;>try (cases h;done)
 rw[Qm h]
theorem QCv:∀ {x y:List SB},eqXB x y=true→x=y
 | [],[],_=>rfl
 | [],_::_,h=>by simp[eqXB] at h
 | .k _::_,[],h=>by simp[eqXB] at h
 | .v _ _ _::_,[],h=>by simp[eqXB] at h
 | .k a::x,.k b::y,h=>by
  simp only[eqXB] at h
  cases hb:Nat.beq a b with
  | false=>rw[hb] at h;cases h
  | true=>rw[hb] at h;rw[Qm hb,QCv h]
 | .v a l u::x,.v b l' u'::y,h=>by
  simp only[eqXB] at h
  cases hb:eqE a b&&ieq l l'&&ieq u u' with
  | false=>rw[hb] at h;cases h
  | true=>
   rw[hb] at h
   simp only[Bool.and_eq_true] at hb
   rw[QlS hb.1.1,Qp1 hb.1.2,Qp1 hb.2,QCv h]
 | .k _::_,.v _ _ _::_,h=>by simp[eqXB] at h
 | .v _ _ _::_,.k _::_,h=>by simp[eqXB] at h
mutual
theorem QxI:∀ {a b:FV},eqV a b=true→a=b
 | .bool a,b,h=>by
  cases b<;>simp only[eqV] at h<;>try (cases h;done)
  rename_i b
  cases a<;>cases b<;>first | rfl | cases h
 | .int k a,b,h=>by
  cases b<;>simp only[eqV] at h<;>try (cases h;done)
  rename_i k' b
  cases hk:keq k k' with
  | true=>rw[hk] at h;rw[QdB hk,Qp1 h]
  | false=>rw[hk] at h;cases h
 | .str a,b,h=>by
  cases b<;>simp only[eqV] at h<;>try (cases h;done)
  rw[QFb h]
 | .nilp,b,h=>by cases b<;>simp only[eqV] at h<;>first | rfl | cases h
 | .nsl,b,h=>by cases b<;>simp only[eqV] at h<;>first | rfl | cases h
 | .nilf,b,h=>by cases b<;>simp only[eqV] at h<;>first | rfl | cases h
 | .nili,b,h=>by cases b<;>simp only[eqV] at h<;>first | rfl | cases h
 | .nilm,b,h=>by cases b<;>simp only[eqV] at h<;>first | rfl | cases h
 | .ptr x y,b,h=>by
  cases b<;>simp only[eqV] at h<;>try (cases h;done)
  rename_i z w
  cases hb:Nat.beq x z with
  | true=>rw[hb] at h;rw[Qm hb,Qm h]
  | false=>rw[hb] at h;cases h
 | .sl x y z w c,b,h=>by
  cases b<;>simp only[eqV] at h<;>try (cases h;done)
  rename_i x' y' z' w' c'
  simp only[Bool.and_eq_true] at h
  obtain⟨⟨⟨⟨h1,h2⟩,h3⟩,h4⟩,h5⟩:=h
  have hc:c=c':=by
   cases c<;>cases c'<;>simp only at h5<;>first | (rw[Qm h5]) | cases h5
  rw[Qm h1,Qm h2,Qm h3,Qm h4,hc]
 | .map x,b,h=>by
  cases b<;>simp only[eqV] at h<;>try (cases h;done)
  rw[Qm h]
 | .fn f x y,b,h=>by
  cases b<;>simp only[eqV] at h<;>try (cases h;done)
  simp only[Bool.and_eq_true] at h
  rw[QGw h.1.1,Qsw h.1.2,Qsw h.2]
 | .agg x,b,h=>by
  cases b<;>simp only[eqV] at h<;>try (cases h;done)
  rw[Qsw h]
 | .tup x,b,h=>by
  cases b<;>simp only[eqV] at h<;>try (cases h;done)
  rw[Qsw h]
 | .sy k a l u,b,h=>by
  cases b<;>simp only[eqV] at h<;>try (cases h;done)
  simp only[Bool.and_eq_true] at h
  rw[QdB h.1.1.1,QlS h.1.1.2,Qp1 h.1.2,Qp1 h.2]
 | .sb _,b,h=>by simp[eqV] at h
 | .sstr _,b,h=>by simp[eqV] at h
 | .dp _ _,b,h=>by simp[eqV] at h
 | .dn _ _ _,b,h=>by simp[eqV] at h
 | .ds _ _,b,h=>by simp[eqV] at h
 | .obl _ _,b,h=>by simp[eqV] at h
 | .alt _ _,b,h=>by simp[eqV] at h
 | .os _ _,b,h=>by
  cases b<;>simp only[eqV] at h<;>try (cases h;done)
  simp only[Bool.and_eq_true] at h
  rw[Qm h.1,Qm h.2]
 | .oe _ _ _ _,b,h=>by simp[eqV] at h
 | .sx _,b,h=>by
  cases b<;>simp only[eqV] at h<;>try (cases h;done)
  rw[QCv h]
 | .ifc _ _,b,h=>by simp[eqV] at h
theorem Qsw:∀ {a b:List FV},eqVL a b=true→a=b
 | [],[],_=>rfl
 | [],_::_,h=>by simp[eqVL] at h
 | _::_,[],h=>by simp[eqVL] at h
 | a::x,b::y,h=>by
  simp only[eqVL] at h
  cases hv:eqV a b with
  | true=>rw[hv] at h;rw[QxI hv,Qsw h]
  | false=>rw[hv] at h;cases h
end
variable {R:Prop}{c:Bool}
theorem Qx8 (h:bif c then R else False):c=true∧R:=by
 cases c with
 | true=>exact⟨rfl,h⟩
 | false=>exact h.elim
theorem QC3 {p q:Prop}(h:bif c then p else q):(c=true∧p)∨(c=false∧q):=by
 cases c with
 | true=>exact .inl ⟨rfl,h⟩
 | false=>exact .inr ⟨rfl,h⟩
theorem QmL:∀ {a b:SE},eqSP a b→a=b:=by
 have dflt:∀ {a b:SE},(bif eqE a b then True else a=b)→a=b:=fun {a b} h=>by
  rcases QC3 h with⟨h,_⟩ | ⟨_,h⟩
  ·exact QlS h
  ·exact h
 intro a
 induction a with
 | o x=>intro b h;cases b<;>first | exact congrArg SE.o h | exact dflt h
 | add a b iha ihb=>intro c h;cases c<;>first | (obtain⟨h1,h2⟩:=h;rw[iha h1,ihb h2]) | exact dflt h
 | sub a b iha ihb=>intro c h;cases c<;>first | (obtain⟨h1,h2⟩:=h;rw[iha h1,ihb h2]) | exact dflt h
 | wrap k a iha=>
  intro c h
  cases c
  case wrap k' b=>
   obtain⟨h1,h2⟩:=Qx8 h
   rw[QdB h1,iha h2]
  all_goals exact dflt h
 | _=>intro b h;cases b<;>exact dflt h
theorem QGJ:∀ {a b:SC},eqCP a b→a=b:=by
 intro a
 induction a with
 | o x=>intro b h;cases b<;>first | exact congrArg SC.o h | exact h
 | no a ih=>intro b h;cases b<;>first | (rw[ih h]) | exact h
 | lt a b=>intro c h;cases c<;>first | (obtain⟨h1,h2⟩:=h;rw[QmL h1,QmL h2]) | exact h
 | le a b=>intro c h;cases c<;>first | (obtain⟨h1,h2⟩:=h;rw[QmL h1,QmL h2]) | exact h
 | eq a b=>intro c h;cases c<;>first | (obtain⟨h1,h2⟩:=h;rw[QmL h1,QmL h2]) | exact h
 | _=>intro b h;cases b<;>exact h
theorem QaR {a b:FV}(h:bif eqV a b then True else a=b):a=b:=by
 rcases QC3 h with⟨h,_⟩ | ⟨_,h⟩
 ·exact QxI h
 ·exact h
mutual
theorem QCw:∀ {a b:FV},eqVP a b→a=b
 | .sy k a l u,b,h=>by
  cases b
  case sy k' b l' u'=>
   simp only[eqVP] at h
   obtain⟨h1,h2⟩:=Qx8 h
   simp only[Bool.and_eq_true] at h1
   rw[QdB h1.1,Qp1 h1.2.1,Qp1 h1.2.2,QmL h2]
  all_goals (simp only[eqVP] at h;exact QaR h)
 | .sb c,b,h=>by
  cases b
  case sb d=>simp only[eqVP] at h;rw[QGJ h]
  all_goals (simp only[eqVP] at h;exact QaR h)
 | .sstr s,b,h=>by
  cases b
  case sstr d=>simp only[eqVP] at h;rw[h]
  all_goals (simp only[eqVP] at h;exact QaR h)
 | .dp t d,b,h=>by
  cases b
  case dp t' d'=>
   simp only[eqVP] at h
   obtain⟨h1,h2⟩:=Qx8 h
   rw[Qm h1,h2]
  all_goals (simp only[eqVP] at h;exact QaR h)
 | .dn t d o,b,h=>by
  cases b
  case dn t' d' o'=>
   simp only[eqVP] at h
   obtain⟨h1,h2⟩:=Qx8 h
   simp only[Bool.and_eq_true] at h1
   rw[Qm h1.1,Qm h1.2,h2]
  all_goals (simp only[eqVP] at h;exact QaR h)
 | .ds t d,b,h=>by
  cases b
  case ds t' d'=>
   simp only[eqVP] at h
   obtain⟨h1,h2⟩:=Qx8 h
   rw[Qm h1,h2]
  all_goals (simp only[eqVP] at h;exact QaR h)
 | .agg x,b,h=>by
  cases b
  case agg y=>simp only[eqVP] at h;rw[QyV h]
  all_goals (simp only[eqVP] at h;exact QaR h)
 | .tup x,b,h=>by
  cases b
  case tup y=>simp only[eqVP] at h;rw[QyV h]
  all_goals (simp only[eqVP] at h;exact QaR h)
 | .obl c x,b,h=>by
  cases b
  case obl d y=>simp only[eqVP] at h;rw[QGJ h.1,QCw h.2]
  all_goals (simp only[eqVP] at h;exact QaR h)
 | .bool _,b,h=>by simp only[eqVP] at h;exact QaR h
 | .int _ _,b,h=>by simp only[eqVP] at h;exact QaR h
 | .sx _,b,h=>by simp only[eqVP] at h;exact QaR h
 | .str _,b,h=>by simp only[eqVP] at h;exact QaR h
 | .nilp,b,h=>by simp only[eqVP] at h;exact QaR h
 | .ptr _ _,b,h=>by simp only[eqVP] at h;exact QaR h
 | .nsl,b,h=>by simp only[eqVP] at h;exact QaR h
 | .sl _ _ _ _ _,b,h=>by simp only[eqVP] at h;exact QaR h
 | .nilm,b,h=>by simp only[eqVP] at h;exact QaR h
 | .map _,b,h=>by simp only[eqVP] at h;exact QaR h
 | .nilf,b,h=>by simp only[eqVP] at h;exact QaR h
 | .fn _ _ _,b,h=>by simp only[eqVP] at h;exact QaR h
 | .nili,b,h=>by simp only[eqVP] at h;exact QaR h
 | .ifc _ _,b,h=>by simp only[eqVP] at h;exact QaR h
 | .alt _ _,b,h=>by simp only[eqVP] at h;exact QaR h
 | .os _ _,b,h=>by simp only[eqVP] at h;exact QaR h
 | .oe _ _ _ _,b,h=>by simp only[eqVP] at h;exact QaR h
theorem QyV:∀ {a b:List FV},Qp6 a b→a=b
 | [],[],_=>rfl
 | [],_::_,h=>by simp[Qp6] at h
 | _::_,[],h=>by simp[Qp6] at h
 | a::x,b::y,h=>by
  simp only[Qp6] at h
  rw[QCw h.1,QyV h.2]
end
theorem QLj {x y:FV}(h:eqK x y R):x=y∧R:=by
 unfold eqK at h
 rcases QC3 h with⟨h1,h⟩ | ⟨_,h1,h⟩
 ·exact⟨QxI h1,h⟩
 ·exact⟨QCw h1,h⟩
theorem QpF {th:Tr TO}{hs:List HE}:∀ {ps:List PE}{R:Prop},Qhf th hs ps R→(∀p∈ps,rdT p.fr p.c.m=true→gst p.fr p.c.g=.go→evQ p.fr (relH p.dq th hs) p.c.m=some p.x)∧R
 | [],R,h=>⟨fun p hp=>(by cases hp),h⟩
 | q::r,R,h=>by
  simp only[Qhf] at h
  have skip:Qhf th hs r R→(rdT q.fr q.c.m=true→gst q.fr q.c.g=.go→evQ q.fr (relH q.dq th hs) q.c.m=some q.x)→(∀p∈q::r,rdT p.fr p.c.m=true→gst p.fr p.c.g=.go→evQ p.fr (relH p.dq th hs) p.c.m=some p.x)∧R:=fun h hq=>by
   obtain⟨h1,h2⟩:=QpF h
   refine⟨fun p hp=>?_,h2⟩
   rcases List.mem_cons.1 hp with rfl | hp
   ·exact hq
   ·exact h1 p hp
  cases hl:rdT q.fr q.c.m with
  | false=>rw[hl] at h;exact skip h fun e=>by rw[hl] at e;cases e
  | true=>
   rw[hl] at h
   simp only[cond_true] at h
   cases hg:gst q.fr q.c.g with
   | skip=>rw[hg] at h;exact skip h fun _ e=>by rw[hg] at e;cases e
   | bad=>rw[hg] at h;exact skip h fun _ e=>by rw[hg] at e;cases e
   | go=>
    rw[hg] at h
    simp only at h
    cases he:evQ q.fr (relH q.dq th hs) q.c.m with
    | none=>rw[he] at h;exact h.elim
    | some y=>
     rw[he] at h
     obtain⟨h1,h2⟩:=QLj h
     exact skip h2 fun _ _=>by rw[he,h1]
variable {fr:Fr}{m:MOp}{th th':Tr TO}
theorem QKz (h:isLd m=false):evQ fr th m=evQ fr th' m:=by
 cases m<;>first | rfl | (simp[isLd] at h)
theorem QKA (h:rdT fr m=false):evQ fr th m=evQ fr th' m:=by
 cases m<;>first | exact QKz h | skip
 case iadr k x i=>
  simp only[rdT] at h
  simp only[evQ,evQ0,evZ,QEW,o2]
  cases hx:evO fr x with
  | none=>rfl
  | some v=>
   rw[hx] at h
   cases v<;>first | (cases h;done) | rfl
 case lenS x=>
  simp only[rdT] at h
  simp only[evQ,evQ0,evZ,QEV,o1]
  cases hx:evO fr x with
  | none=>rfl
  | some v=>
   rw[hx] at h
   cases v<;>first | (cases h;done) | rfl
 case ld k b x=>
  simp only[rdT] at h
  simp only[evQ,evQ0,evZ,qLd,o1]
  cases hx:evO fr x with
  | none=>rfl
  | some v=>
   rw[hx] at h
   cases v<;>first | (cases h;done) | rfl
theorem Qhu {dp:List Nat}:∀ {ps:List PE}{p:PE},p∈QgM dp ps↔p∈ps∧memN p.i dp=false
 | [],p=>by simp[QgM]
 | q::r,p=>by
  simp only[QgM]
  cases h:memN q.i dp with
  | true=>
   simp only[cond_true,Qhu,List.mem_cons]
   constructor
   ·exact fun⟨a,b⟩=>⟨.inr a,b⟩
   ·rintro⟨rfl | a,b⟩
    ·rw[h] at b;cases b
    ·exact⟨a,b⟩
  | false=>
   simp only[cond_false,List.mem_cons,Qhu]
   constructor
   ·rintro (rfl | ⟨a,b⟩)
    ·exact⟨.inl rfl,h⟩
    ·exact⟨.inr a,b⟩
   ·rintro⟨rfl | a,b⟩
    ·exact .inl rfl
    ·exact .inr ⟨a,b⟩
theorem QfR {dp:List Nat}:∀ {hs:List HE}{p:HE},p∈Qc3 dp hs↔p∈hs∧memN p.i dp=false
 | [],p=>by simp[Qc3]
 | q::r,p=>by
  simp only[Qc3]
  cases h:memN q.i dp with
  | true=>
   simp only[cond_true,QfR,List.mem_cons]
   constructor
   ·exact fun⟨a,b⟩=>⟨.inr a,b⟩
   ·rintro⟨rfl | a,b⟩
    ·rw[h] at b;cases b
    ·exact⟨a,b⟩
  | false=>
   simp only[cond_false,List.mem_cons,QfR]
   constructor
   ·rintro (rfl | ⟨a,b⟩)
    ·exact⟨.inl rfl,h⟩
    ·exact⟨.inr a,b⟩
   ·rintro⟨rfl | a,b⟩
    ·exact .inl rfl
    ·exact .inr ⟨a,b⟩
theorem QrP {fr:Fr}:∀ {ts:List Nat}{t:Nat}{x:FV},(QcW fr ts).get t=some x→t∈ts∧fr.get t=some x
 | [],t,x,h=>by rw[QcW,Fr.get_nil] at h;cases h
 | u::ts,t,x,h=>by
  simp only[QcW] at h
  cases hu:fr.get u with
  | none=>rw[hu] at h;obtain⟨a,b⟩:=QrP h;exact⟨.tail _ a,b⟩
  | some y=>
   rw[hu] at h
   simp only at h
   by_cases ht:t=u
   ·subst ht
    rw[Fr.get_eq] at h;cases sJ h
    exact⟨.head _,hu⟩
   ·rw[Fr.get_ne _ _ ht] at h;obtain⟨a,b⟩:=QrP h;exact⟨.tail _ a,b⟩
def Kn (E:Env)(x:Nat×TO):Prop:=match x.2 with
 | .cells cs _=>∃a vs,E.p x.1=some a∧denL E cs=some vs
 | .map d m=>∃a l,E.p x.1=some a∧denM E d m=some l
 | .it j _ _=>∃a m,E.p x.1=some a∧E.p j=some m
 | .row t es=>∃a v ks,Qju E x.1 t es a v ks
 | .mp t ag es=>∃a ks,MpIs E x.1 t ag es a ks
 | .mf t ag es=>∃a ks,MpIs E x.1 t ag es a ks∧FzM E a.block (es.map (entM ag ks))
 | .im i t ag rest cur=>∃z:ImZ,ImIs E x.1 i t ag rest cur z.a z.ma z.ks z.m z.st z.c z.dn
 | .ro cs=>∃a vs,E.p x.1=some a∧denL E cs=some vs∧E.rd a vs
variable {E:Env}{h:Heap}
theorem Qzv {F:Env}(hle:E.Le0 F){x:Nat×TO}(hx:Kn E x){S:Nat→Prop}(o:(part F x).own h S):(part E x).own h S:=by
 obtain⟨i,o'⟩:=x
 cases o' with
 | cells cs k=>
  obtain⟨z,hz,hc⟩:=o
  obtain⟨a,vs,h1,h2⟩:=hx
  obtain⟨g1,g2⟩:=hle.a i a h1
  have e1:z.1=a:=by have:=hz.1;rw[g1] at this;simpa using this.symm
  have e2:z.2.1=vs:=by have:=hz.2.1;rw[Qcj hle h2] at this;simpa using this.symm
  refine⟨z,⟨by rw[e1];exact h1,by rw[e2];exact h2,hz.2.2.1,hz.2.2.2.1,fun hk=>?_⟩,hc⟩
  rw[←g2];exact hz.2.2.2.2 hk
 | map d m=>
  obtain⟨z,hz,hc⟩:=o
  obtain⟨a,l,h1,h2⟩:=hx
  obtain⟨g1,g2⟩:=hle.a i a h1
  have e1:z.1=a:=by have:=hz.1;rw[g1] at this;simpa using this.symm
  have e2:z.2=l:=by have:=hz.2;rw[QlT hle h2] at this;simpa using this.symm
  exact⟨z,⟨by rw[e1];exact h1,by rw[e2];exact h2⟩,hc⟩
 | row t es=>
  obtain⟨z,hz,hc⟩:=o
  obtain⟨a,v,ks,hw⟩:=hx
  have e1:z.1=a:=by have:=hz.p;rw[(hle.a i a hw.p).1] at this;simpa using this.symm
  have e2:z.2.1=v:=hz.s.symm.trans ((hle.s i a hw.p).trans hw.s)
  have e3:z.2.2=ks:=by have:=hz.ly;rw[hw.ly] at this;simpa using this.symm
  refine⟨z,?_,hc⟩
  rw[e1,e2,e3];exact hw
 | mp t ag es=>
  obtain⟨z,hz,hc⟩:=o
  obtain⟨a,ks,hw⟩:=hx
  have e1:z.1=a:=by have:=hz.p;rw[(hle.a i a hw.p).1] at this;simpa using this.symm
  have e3:z.2=ks:=by have:=hz.ly;rw[hw.ly] at this;simpa using this.symm
  refine⟨z,?_,hc⟩
  rw[e1,e3];exact hw
 | mf t ag es=>
  obtain⟨z,hz,hc⟩:=o
  obtain⟨a,ks,hw,hf⟩:=hx
  have e1:z.1=a:=by have:=hz.1.p;rw[(hle.a i a hw.p).1] at this;simpa using this.symm
  have e3:z.2=ks:=by have:=hz.1.ly;rw[hw.ly] at this;simpa using this.symm
  refine⟨z,?_,hc⟩
  rw[e1,e3];exact⟨hw,hf⟩
 | im j t ag rest cur=>
  obtain⟨z,hz,hc⟩:=o
  obtain⟨y,hw⟩:=hx
  have e1:z.a=y.a:=by have:=hz.p;rw[(hle.a i _ hw.p).1] at this;simpa using this.symm
  have e2:z.ma=y.ma:=by have:=hz.pm;rw[(hle.a j _ hw.pm).1] at this;simpa using this.symm
  have e3:z.ks=y.ks:=by have:=hz.ly;rw[hw.ly] at this;simpa using this.symm
  obtain⟨e4,e5,e6⟩:=encZ_inj (hz.pin.symm.trans ((hle.s i _ hw.p).trans hw.pin))
  obtain⟨a,ma,ks,m,st,c,dn⟩:=z
  obtain⟨a',ma',ks',m',st',c',dn'⟩:=y
  simp only at e1 e2 e3 e4 e5 e6 hz hw
  subst e1;subst e2;subst e3;subst e4;subst e5;subst e6
  refine⟨⟨a,ma,ks,m,st,c,dn⟩,⟨hw.p,hw.pm,hw.pin,hw.ly,hw.one,hw.wt,hw.li,hw.ok,hw.z,hz.sub,hz.all,hz.rst,hz.nd,hz.len,fun e he=>⟨(hz.cur e he).1,(hw.cur e he).2.1,(hz.cur e he).2.2⟩⟩,hc⟩
 | it j c b=>
  obtain⟨z,hz,hc⟩:=o
  obtain⟨a,m,h1,h2⟩:=hx
  have g1:=(hle.a i a h1).1
  have g2:=(hle.a j m h2).1
  have e1:z.1=a:=by have:=hz.1;rw[g1] at this;simpa using this.symm
  have e2:z.2=m:=by have:=hz.2;rw[g2] at this;simpa using this.symm
  exact⟨z,⟨by rw[e1];exact h1,by rw[e2];exact h2⟩,hc⟩
 | ro cs=>
  obtain⟨z,hz,hc⟩:=o
  obtain⟨a,vs,h1,h2,h3⟩:=hx
  obtain⟨g1,g2⟩:=hle.a i a h1
  have e1:z.1=a:=by have:=hz.1;rw[g1] at this;simpa using this.symm
  have e2:z.2=vs:=by have:=hz.2.1;rw[Qcj hle h2] at this;simpa using this.symm
  exact⟨z,⟨by rw[e1];exact h1,by rw[e2];exact h2,hz.2.2.1,by rw[e1,e2];exact h3⟩,hc⟩
theorem Rep.known {th:TH}{h0:Heap}{L:List HP}(r:Rep E th h0 h L):∀x∈th.t.all.map (fun x=>x),Kn E x:=by
 intro x hx
 simp only[List.map_id'] at hx
 obtain⟨l1,l2,hl⟩:=List.append_of_mem hx
 have s:=r.st
 rw[hl] at s
 have s2:St h0 h (part E x::((l1++l2).map (part E)++(FzP E.z::L))):=s.perm (by
  rw[List.map_append,List.map_append,List.map_cons]
  refine ((List.perm_middle).append_right _).trans ?_
  simp)
 obtain⟨S,hA,_⟩:=s2.get
 obtain⟨i,o⟩:=x
 cases o with
 | cells cs k=>
  obtain⟨z,hz,_⟩:=hA
  exact⟨z.1,z.2.1,hz.1,hz.2.1⟩
 | map d m=>
  obtain⟨z,hz,_⟩:=hA
  exact⟨z.1,z.2,hz.1,hz.2⟩
 | row t es=>
  obtain⟨z,hz,_⟩:=hA
  exact⟨z.1,z.2.1,z.2.2,hz⟩
 | mp t ag es=>
  obtain⟨z,hz,_⟩:=hA
  exact⟨z.1,z.2,hz⟩
 | mf t ag es=>
  obtain⟨z,hz,_⟩:=hA
  exact⟨z.1,z.2,hz.1,hz.2⟩
 | im j t ag rest cur=>
  obtain⟨z,hz,_⟩:=hA
  exact⟨z,hz⟩
 | it j c b=>
  obtain⟨z,hz,_⟩:=hA
  exact⟨z.1,z.2,hz.1,hz.2⟩
 | ro cs=>
  obtain⟨z,hz,_⟩:=hA
  exact⟨z.1,z.2,hz.1,hz.2.1,hz.2.2.2⟩
end Go.Va
namespace Go.Va
open Go Go.Sh
variable [Vb]
variable {P:Program}
def KT0 [Gd] (ds:List Deferred)(n:Nat)(h0:Heap)(L:List HP)(w0:World)(E:Env)(k:KF)(T:Act→World→Prop):Prop:=∀F fr th f w,E.Le F→AgF F n fr f→Rep F th h0 w.heap L→Qx w0 w→k fr th→T (mkD ds n f) w
def KT [Gd] (ds:List Deferred)(m n:Nat)(h0:Heap)(L:List HP)(w0:World)(E:Env)(k:KF)(T:Act→World→Prop):Prop:=∀F fr th f w,E.Le F→AgF F n fr f→Clean m fr→Rep F th h0 w.heap L→Qx w0 w→k fr th→T (mkD ds n f) w
variable {x:FV}
theorem QEp (E:Env)(h:cst x=true):∃v,den E x=some v:=by
  cases x<;>simp only[cst] at h<;>first
    | (cases h;done)
    | exact⟨_,rfl⟩
    | exact⟨_,by simp only[den];rw[if_pos h]⟩
    | (rename_i f a b
       cases a with
       | nil=>cases b with
         | nil=>exact⟨_,rfl⟩
         | cons _ _=>cases h
       | cons _ _=>cases h)
theorem Qqd (E:Env):∀ {l:List FV},cstL l=true→∃v,denL E l=some v
 | [],_=>⟨[],rfl⟩
 | x::r,h=>by
  simp only[cstL] at h
  cases hx:cst x with
  | false=>rw[hx] at h;cases h
  | true=>
   rw[hx] at h
   obtain⟨v,h1⟩:=QEp E hx
   obtain⟨vs,h2⟩:=Qqd E h
   exact⟨_,Qau h1 h2⟩
variable {E:Env}{f:Nat→Value}{fr:Fr}{n:Nat}
theorem QCN (ha:AgF E n fr f){x:Opd}{v:FV}(h:cstO x=true)(hv:evO fr x=some v):∃u,den E v=some u:=by
 cases x with
 | t i=>exact⟨_,(ha i v hv).2⟩
 | c w=>simp only[evO,sj] at hv;subst hv;exact QEp E h
theorem QCM {E:Env}{n:Nat}{fr:Fr}{f:Nat→Value}(ha:AgF E n fr f):∀ {ps:List (Nat×Opd)}{l:List (Nat×FV)},cstP ps=true→evP fr ps=some l→∃us,denL E (l.map (·.2))=some us
 | [],l,_,hl=>by simp only[evP,sj] at hl;subst hl;exact⟨[],rfl⟩
 | (i,x)::r,l,h,hl=>by
  simp only[cstP] at h
  cases hx:cstO x with
  | false=>rw[hx] at h;cases h
  | true=>
   rw[hx] at h
   simp only[evP] at hl
   cases h1:evO fr x with
   | none=>rw[h1] at hl;cases hl
   | some a=>
    cases h2:evP fr r with
    | none=>rw[h1,h2] at hl;cases hl
    | some l'=>
     rw[h1,h2] at hl;cases sJ hl
     obtain⟨u,g1⟩:=QCN ha hx h1
     obtain⟨us,g2⟩:=QCM ha h h2
     exact⟨_,Qau g1 g2⟩
theorem QzI {E:Env}:∀ {ps:List (Nat×FV)}{pl:List (Nat×Nat)}{cs r:List FV}{vs us:List Value},Qc4 cs pl ps=some r→denL E cs=some vs→denL E (ps.map (·.2))=some us→∃ws,denL E r=some ws
 | [],[],cs,r,vs,us,h,hd,_=>by simp only[Qc4,sj] at h;subst h;exact⟨vs,hd⟩
 | [],_::_,_,_,_,_,h,_,_=>by simp[Qc4] at h
 | _::_,[],_,_,_,_,h,_,_=>by simp[Qc4] at h
 | (i,v)::ps,(off,sz)::pl,cs,r,vs,us,h,hd,hu=>by
  simp only[Qc4] at h
  cases hb:(Nat.beq (QbI v).length sz&&QfE v) with
  | false=>rw[hb] at h;cases h
  | true=>
   rw[hb] at h
   simp only[cond_true] at h
   obtain⟨u,us',h1,h2,rfl⟩:=QR hu
   cases hs:splO (QbI v) off cs with
   | none=>rw[hs] at h;cases h
   | some cs'=>
    rw[hs] at h
    obtain⟨h3,h4⟩:=Qhd hs
    exact QzI h (by rw[h3];exact Qhw off hd (QcN h1)) h2
variable {m:MOp}
theorem QJK {o:TO}(ha:AgF E n fr f)(hx:alF fr m=some (x,o)) :
  ∃cs,o=.cells cs 0∧(∃vs,denL E cs=some vs)∧(x=.ptr 0 0∨∃k,x=.sl 0 0 0 k (.lit k))∧∀(cl:Cl) (th:TH) (K:FV→TH→Prop),K (reid th.nx x) (th.new o)→evXA cl fr th m K:=by
 cases m<;>simp only[alF] at hx<;>try (cases hx;done)
 case alc z=>
  cases hb:cstL z&&z.all oneF with
  | false=>rw[hb] at hx;cases hx
  | true=>
   rw[hb] at hx;simp only[cond_true,sj,Prod.mk.injEq] at hx
   obtain⟨rfl,rfl⟩:=hx
   simp only[Bool.and_eq_true] at hb
   exact⟨z,rfl,Qqd E hb.1,.inl rfl,fun cl th K h=>h⟩
 case box y=>
  cases hb:cstO y with
  | false=>rw[hb] at hx;cases hx
  | true=>
   rw[hb] at hx
   simp only[cond_true] at hx
   cases hv:evO fr y with
   | none=>rw[hv] at hx;cases hx
   | some v=>
    rw[hv] at hx
    simp only at hx
    cases hn:QfE v with
    | false=>rw[hn] at hx;cases hx
    | true=>
     rw[hn] at hx;simp only[cond_true,sj,Prod.mk.injEq] at hx
     obtain⟨rfl,rfl⟩:=hx
     obtain⟨u,hu⟩:=QCN ha hb hv
     refine⟨_,rfl,⟨_,QcN hu⟩,.inl rfl,fun cl th K h=>?_⟩
     simp only[evXA,evX,evX0,xBox,hv,hn]
     exact h
 case mks kq b z l c=>
  cases ho:QpQ fr c with
  | some n=>rw[ho] at hx;cases hx
  | none=>
  rw[ho] at hx
  simp only at hx
  cases hb:cstL z&&z.all oneF with
  | false=>rw[hb] at hx;cases hx
  | true=>
   rw[hb] at hx
   simp only[cond_true] at hx
   simp only[Bool.and_eq_true] at hb
   cases hl:evN fr l with
   | none=>rw[hl] at hx;cases hx
   | some ln=>
    cases hcn:evN fr c with
    | none=>rw[hl,hcn] at hx;cases hx
    | some cn=>
     rw[hl,hcn] at hx
     simp only at hx
     cases hq:Nat.beq ln cn&&(Nat.ble ln cn&&Nat.ble (b * cn) 140737488355328&&Nat.ble cn 4611686018427387904) with
     | false=>rw[hq] at hx;cases hx
     | true=>
      rw[hq] at hx;simp only[cond_true,sj,Prod.mk.injEq] at hx
      obtain⟨rfl,rfl⟩:=hx
      simp only[Bool.and_eq_true] at hq
      have e:=Qm hq.1
      subst e
      obtain⟨vz,h1⟩:=Qqd E hb.1
      have rep:∀m,∃vs,denL E (repF z m)=some vs:=fun m=>by
       induction m with
       | zero=>exact⟨[],rfl⟩
       | succ m ih=>obtain⟨vs,h⟩:=ih;exact⟨_,Qc7 h1 h⟩
      refine⟨_,rfl,rep ln,.inr ⟨ln,rfl⟩,fun cl th K h=>?_⟩
      have hq2:(Nat.ble ln ln&&Nat.ble (b * ln) 140737488355328&&Nat.ble ln 4611686018427387904)=true:=by simp only[Bool.and_eq_true];exact hq.2
      simp only[evXA,evX,evX0,xMks,Qtg,ho,hl,hcn,hq2,cond_true]
      exact h
 case bsl k nn z pl ps=>
  cases hb:cstL z&&z.all oneF&&cstP ps with
  | false=>rw[hb] at hx;cases hx
  | true=>
   rw[hb] at hx
   simp only[cond_true] at hx
   simp only[Bool.and_eq_true] at hb
   cases hl:evP fr ps with
   | none=>rw[hl] at hx;cases hx
   | some l=>
    rw[hl] at hx
    simp only at hx
    cases hf:Qc4 z pl l with
    | none=>rw[hf] at hx;cases hx
    | some cs=>
     rw[hf] at hx;simp only[sj,Prod.mk.injEq] at hx
     obtain⟨rfl,rfl⟩:=hx
     obtain⟨vz,h1⟩:=Qqd E hb.1.1
     obtain⟨us,h2⟩:=QCM ha hb.2 hl
     refine⟨cs,rfl,QzI hf h1 h2,.inr ⟨nn,rfl⟩,fun cl th K h=>?_⟩
     simp only[evXA,evX,evX0,xBsl,hl,hf]
     exact h
variable {h:Heap}
theorem QID [Gd]{s:Sem Next}{K K':Value→Heap→Prop}(hs:Sx P s h K)(hk:∀v h',K v h'→K' v h'):Sx P s h K':=by
 intro w hw
 have:=hs w hw
 generalize s.run P w=r at this ⊢
 match r,this with
 | .ok (.value v) w',⟨a,b⟩=>exact⟨a,hk _ _ b⟩
 | .ok .skip w',⟨a,b⟩=>exact⟨a,hk _ _ b⟩
 | .ok (.enter f args) w',⟨a,b⟩=>exact⟨a,b.mono hk⟩
 | .halt (.panic x) w',hh=>exact hh
theorem Qma {h:Heap}{α:Type}{f g:α→HP}{L:List HP}:∀ {l:List α}{U:Nat→Prop},(∀x∈l,∀S,(f x).own h S→(g x).own h S)→Sep h (l.map f++L) U→Sep h (l.map g++L) U
 | [],_,_,s=>s
 | x::l,_,hf,⟨S,a,b,c⟩=>⟨S,hf x (.head _) S a,b,Qma (fun y hy=>hf y (.tail _ hy)) c⟩
theorem QLs [Gd]{cl:Cl}(hcl:ClOk P cl){th:TH}{h0:Heap}{L:List HP}{o:Oper}{ob:TO}(r:Rep E th h0 h L)(ha:AgF E n fr f)(hc:copA P o=some m)(hx:alF fr m=some (x,ob)) :
  Sx P (execOp (evf n f) o) h fun v h'=>∃a c z,∀(id:Nat),E.p id=none→(∀i,th.nx≤i→i≠id)→(let E':Env:=⟨fun j=>if j=id then some a else E.p j,fun j=>if j=id then c else E.c j,fun j=>if j=id then false else E.r j,E.h,z,E.s⟩
   E.Le0 E'∧den E' (reid id x)=some v∧Rep E' th h0 h' (part E' (id,ob)::L)):=by
 obtain⟨cs,rfl,⟨vs,hvs⟩,hsh,hev⟩:=QJK ha hx
 have sx:=QtH hcl (K:=fun y th'=>y=reid th.nx x∧th'=th.new (.cells cs 0)) r ha.ago hc (hev cl th _ ⟨rfl,rfl⟩)
 refine QID sx fun v h' hpost=>?_
 obtain⟨F,y,th',hle,hd,rF,e1,e2⟩:=hpost
 subst e1 e2
 have hg:(th.new (.cells cs 0)).t.get th.nx=some (.cells cs 0):=Tr.get_eq _ _ _
 have hkn:=r.known
 have hnx:=r.nx
 have s1:St h0 h' (part F (th.nx,.cells cs 0)::(th.t.all.map (part F)++(FzP F.z::L))):=
  rF.st.perm (((Tr.perm_new (TO.cells cs 0) hnx).map (part F)).append_right _)
 obtain⟨z,s2⟩:=s1.ex
 obtain⟨hz,s3⟩:=s2.pure
 have hzv:z.2.1=vs:=by have:=hz.2.1;rw[QcO hle hvs] at this;simpa using this.symm
 refine⟨z.1,F.c th.nx,F.z,fun id hid hidn=>?_⟩
 have hidnx:id≠th.nx:=fun e=>hidn th.nx (nr) e.symm
 have le0:E.Le0 ⟨fun j=>if j=id then some z.1 else E.p j,fun j=>if j=id then F.c th.nx else E.c j,fun j=>if j=id then false else E.r j,E.h,F.z,E.s⟩:=⟨fun j b hb=>by
  have:j≠id:=fun e=>by rw[e,hid] at hb;cases hb
  simp[this,hb],rfl,hle.p.z,fun _ _ _=>rfl⟩
 refine⟨le0,?_,⟨?_,fun i hi=>?_,r.eh⟩⟩
 ·rcases hsh with rfl | ⟨k,rfl⟩
  ·simp only[reid,den,hz.1] at hd ⊢
   simpa using hd
  ·simp only[reid,den,hz.1] at hd ⊢
   simpa using hd
 ·have s4:St h0 h' (part ⟨fun j=>if j=id then some z.1 else E.p j,fun j=>if j=id then F.c th.nx else E.c j,fun j=>if j=id then false else E.r j,E.h,F.z,E.s⟩ (id,.cells cs 0)::(th.t.all.map (part F)++(FzP F.z::L))):=
   s3.imp fun S ho=>⟨z,⟨by simp,by rw[hzv];exact Qcj le0 hvs,hz.2.2.1,hz.2.2.2.1,fun h=>absurd rfl h⟩,ho⟩
  obtain⟨he,S,hA,hS,rest⟩:=s4
  have rest2:Sep h' (th.t.all.map (part ⟨fun j=>if j=id then some z.1 else E.p j,fun j=>if j=id then F.c th.nx else E.c j,fun j=>if j=id then false else E.r j,E.h,F.z,E.s⟩)++(FzP F.z::L)) (fun b=>(h0.size≤b∧b<h'.size)∧¬S b):=
   Qma (fun x hx S ho=>Qcs le0 (Qzv hle.p (hkn x (by simpa using hx)) ho)) rest
  exact St.perm (L:=part _ (id,.cells cs 0)::(th.t.all.map (part _)++(FzP F.z::L))) ⟨he,S,hA,hS,rest2⟩ (List.perm_middle.symm.trans (List.Perm.append_left _ (.swap _ _ _)))
 ·have:i≠id:=hidn i hi
  have:=r.fr i hi
  simp[*]
end Go.Va
