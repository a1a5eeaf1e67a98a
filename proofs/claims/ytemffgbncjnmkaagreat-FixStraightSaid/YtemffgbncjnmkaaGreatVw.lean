import Derived.Test.YtemffgbncjnmkaaGreatVr
set_option linter.unusedVariables false
set_option linter.unusedSectionVars false
set_option linter.unusedSimpArgs false
namespace Go.Va
open Go Go.Sh
variable [Vb]
variable {P:Program}
def KT0 [Gd] (ds:List Deferred)(n:Nat)(h0:Heap)(L:List HP)(w0:World)(E:Env)(k:KF)(T:Act→World→Prop):Prop:=∀F fr th f w,E.Le F→AgF F n fr f→Rep F th h0 w.heap L→Qx w0 w→k fr th→T (mkD ds n f) w
def KT [Gd] (ds:List Deferred)(m n:Nat)(h0:Heap)(L:List HP)(w0:World)(E:Env)(k:KF)(T:Act→World→Prop):Prop:=∀F fr th f w,E.Le F→AgF F n fr f→Clean m fr→Rep F th h0 w.heap L→Qx w0 w→k fr th→T (mkD ds n f) w
theorem QEp (E:Env){x:FV}(h:cst x=true):∃v,den E x=some v:=by
  cases x<;>simp only[cst] at h<;>first
    | (cases h;done)
    | exact⟨_,rfl⟩
    | exact⟨_,by simp only[den];rw[if_pos h]⟩
    | (rename_i f a b
       cases a with
       | nil=>cases b with
         | nil=>exact⟨_,rfl⟩
         | cons _ _=>cases h
       | cons _ _=>cases h)
theorem Qqd (E:Env):∀ {l:List FV},cstL l=true→∃v,denL E l=some v
 | [],_=>⟨[],rfl⟩
 | x::r,h=>by
  simp only[cstL] at h
  cases hx:cst x with
  | false=>rw[hx] at h;cases h
  | true=>
   rw[hx] at h
   obtain⟨v,h1⟩:=QEp E hx
   obtain⟨vs,h2⟩:=Qqd E h
   exact⟨_,Qau h1 h2⟩
theorem QCN {E:Env}{n:Nat}{fr:Fr}{f:Nat→Value}(ha:AgF E n fr f){x:Opd}{v:FV}(h:cstO x=true)(hv:evO fr x=some v):∃u,den E v=some u:=by
 cases x with
 | t i=>exact⟨_,(ha i v hv).2⟩
 | c w=>simp only[evO,Option.some.injEq] at hv;subst hv;exact QEp E h
theorem QCM {E:Env}{n:Nat}{fr:Fr}{f:Nat→Value}(ha:AgF E n fr f):∀ {ps:List (Nat×Opd)}{l:List (Nat×FV)},cstP ps=true→evP fr ps=some l→∃us,denL E (l.map (·.2))=some us
 | [],l,_,hl=>by simp only[evP,Option.some.injEq] at hl;subst hl;exact⟨[],rfl⟩
 | (i,x)::r,l,h,hl=>by
  simp only[cstP] at h
  cases hx:cstO x with
  | false=>rw[hx] at h;cases h
  | true=>
   rw[hx] at h
   simp only[evP] at hl
   cases h1:evO fr x with
   | none=>rw[h1] at hl;cases hl
   | some a=>
    cases h2:evP fr r with
    | none=>rw[h1,h2] at hl;cases hl
    | some l'=>
     rw[h1,h2] at hl;simp only[Option.some.injEq] at hl;subst hl
     obtain⟨u,g1⟩:=QCN ha hx h1
     obtain⟨us,g2⟩:=QCM ha h h2
     exact⟨_,Qau g1 g2⟩
theorem QzI {E:Env}:∀ {ps:List (Nat×FV)}{pl:List (Nat×Nat)}{cs r:List FV}{vs us:List Value},Qc4 cs pl ps=some r→denL E cs=some vs→denL E (ps.map (·.2))=some us→∃ws,denL E r=some ws
 | [],[],cs,r,vs,us,h,hd,_=>by simp only[Qc4,Option.some.injEq] at h;subst h;exact⟨vs,hd⟩
 | [],_::_,_,_,_,_,h,_,_=>by simp[Qc4] at h
 | _::_,[],_,_,_,_,h,_,_=>by simp[Qc4] at h
 | (i,v)::ps,(off,sz)::pl,cs,r,vs,us,h,hd,hu=>by
  simp only[Qc4] at h
  cases hb:(Nat.beq (QbI v).length sz&&QfE v) with
  | false=>rw[hb] at h;cases h
  | true=>
   rw[hb] at h
   simp only[cond_true] at h
   obtain⟨u,us',h1,h2,rfl⟩:=QR hu
   cases hs:splO (QbI v) off cs with
   | none=>rw[hs] at h;cases h
   | some cs'=>
    rw[hs] at h
    obtain⟨h3,h4⟩:=Qhd hs
    exact QzI h (by rw[h3];exact Qhw off hd (QcN h1)) h2
theorem QJK {E:Env}{n:Nat}{fr:Fr}{f:Nat→Value}{m:MOp}{x:FV}{o:TO}(ha:AgF E n fr f)(hx:alF fr m=some (x,o)) :
  ∃cs,o=.cells cs 0∧(∃vs,denL E cs=some vs)∧(x=.ptr 0 0∨∃k,x=.sl 0 0 0 k (.lit k))∧∀(cl:Cl) (th:TH) (K:FV→TH→Prop),K (reid th.nx x) (th.new o)→evXA cl fr th m K:=by
 cases m<;>simp only[alF] at hx<;>try (cases hx;done)
 case alc z=>
  cases hb:cstL z&&z.all oneF with
  | false=>rw[hb] at hx;cases hx
  | true=>
   rw[hb] at hx;simp only[cond_true,Option.some.injEq,Prod.mk.injEq] at hx
   obtain⟨rfl,rfl⟩:=hx
   simp only[Bool.and_eq_true] at hb
   exact⟨z,rfl,Qqd E hb.1,.inl rfl,fun cl th K h=>h⟩
 case box y=>
  cases hb:cstO y with
  | false=>rw[hb] at hx;cases hx
  | true=>
   rw[hb] at hx
   simp only[cond_true] at hx
   cases hv:evO fr y with
   | none=>rw[hv] at hx;cases hx
   | some v=>
    rw[hv] at hx
    simp only at hx
    cases hn:QfE v with
    | false=>rw[hn] at hx;cases hx
    | true=>
     rw[hn] at hx;simp only[cond_true,Option.some.injEq,Prod.mk.injEq] at hx
     obtain⟨rfl,rfl⟩:=hx
     obtain⟨u,hu⟩:=QCN ha hb hv
     refine⟨_,rfl,⟨_,QcN hu⟩,.inl rfl,fun cl th K h=>?_⟩
     simp only[evXA,evX,evX0,xBox,hv,hn]
     exact h
 case mks kq b z l c=>
  cases ho:QpQ fr c with
  | some n=>rw[ho] at hx;cases hx
  | none=>
  rw[ho] at hx
  simp only at hx
  cases hb:cstL z&&z.all oneF with
  | false=>rw[hb] at hx;cases hx
  | true=>
   rw[hb] at hx
   simp only[cond_true] at hx
   simp only[Bool.and_eq_true] at hb
   cases hl:evN fr l with
   | none=>rw[hl] at hx;cases hx
   | some ln=>
    cases hcn:evN fr c with
    | none=>rw[hl,hcn] at hx;cases hx
    | some cn=>
     rw[hl,hcn] at hx
     simp only at hx
     cases hq:Nat.beq ln cn&&(Nat.ble ln cn&&Nat.ble (b * cn) 140737488355328&&Nat.ble cn 4611686018427387904) with
     | false=>rw[hq] at hx;cases hx
     | true=>
      rw[hq] at hx;simp only[cond_true,Option.some.injEq,Prod.mk.injEq] at hx
      obtain⟨rfl,rfl⟩:=hx
      simp only[Bool.and_eq_true] at hq
      have e:=Qm hq.1
      subst e
      obtain⟨vz,h1⟩:=Qqd E hb.1
      have rep:∀m,∃vs,denL E (repF z m)=some vs:=fun m=>by
       induction m with
       | zero=>exact⟨[],rfl⟩
       | succ m ih=>obtain⟨vs,h⟩:=ih;exact⟨_,Qc7 h1 h⟩
      refine⟨_,rfl,rep ln,.inr ⟨ln,rfl⟩,fun cl th K h=>?_⟩
      have hq2:(Nat.ble ln ln&&Nat.ble (b * ln) 140737488355328&&Nat.ble ln 4611686018427387904)=true:=by simp only[Bool.and_eq_true];exact hq.2
      simp only[evXA,evX,evX0,xMks,Qtg,ho,hl,hcn,hq2,cond_true]
      exact h
 case xx xo=>
  cases xo<;>simp only at hx<;>try (cases hx;done)
  rename_i kq b z l c
  cases ho:QpQ fr l with
  | some n=>rw[ho] at hx;cases hx
  | none=>
  rw[ho] at hx
  simp only at hx
  cases hb:cstL z&&z.all oneF with
  | false=>rw[hb] at hx;cases hx
  | true=>
   rw[hb] at hx
   simp only[cond_true] at hx
   simp only[Bool.and_eq_true] at hb
   cases hl:evN fr l with
   | none=>rw[hl] at hx;cases hx
   | some ln=>
    cases hcn:evN fr c with
    | none=>rw[hl,hcn] at hx;cases hx
    | some cn=>
     rw[hl,hcn] at hx
     simp only at hx
     cases hq:Nat.beq ln cn&&(Nat.ble ln cn&&Nat.ble (b * cn) 140737488355328&&Nat.ble cn 4611686018427387904) with
     | false=>rw[hq] at hx;cases hx
     | true=>
      rw[hq] at hx;simp only[cond_true,Option.some.injEq,Prod.mk.injEq] at hx
      obtain⟨rfl,rfl⟩:=hx
      simp only[Bool.and_eq_true] at hq
      have e:=Qm hq.1
      subst e
      obtain⟨vz,h1⟩:=Qqd E hb.1
      have rep:∀m,∃vs,denL E (repF z m)=some vs:=fun m=>by
       induction m with
       | zero=>exact⟨[],rfl⟩
       | succ m ih=>obtain⟨vs,h⟩:=ih;exact⟨_,Qc7 h1 h⟩
      refine⟨_,rfl,rep ln,.inr ⟨ln,rfl⟩,fun cl th K h=>?_⟩
      have hq2:(Nat.ble ln ln&&Nat.ble (b * ln) 140737488355328&&Nat.ble ln 4611686018427387904)=true:=by simp only[Bool.and_eq_true];exact hq.2
      simp only[evXA,evXX,xMkz,Qtg,ho,hl,hcn,hq2,cond_true]
      exact h
 case bsl k nn z pl ps=>
  cases hb:cstL z&&z.all oneF&&cstP ps with
  | false=>rw[hb] at hx;cases hx
  | true=>
   rw[hb] at hx
   simp only[cond_true] at hx
   simp only[Bool.and_eq_true] at hb
   cases hl:evP fr ps with
   | none=>rw[hl] at hx;cases hx
   | some l=>
    rw[hl] at hx
    simp only at hx
    cases hf:Qc4 z pl l with
    | none=>rw[hf] at hx;cases hx
    | some cs=>
     rw[hf] at hx;simp only[Option.some.injEq,Prod.mk.injEq] at hx
     obtain⟨rfl,rfl⟩:=hx
     obtain⟨vz,h1⟩:=Qqd E hb.1.1
     obtain⟨us,h2⟩:=QCM ha hb.2 hl
     refine⟨cs,rfl,QzI hf h1 h2,.inr ⟨nn,rfl⟩,fun cl th K h=>?_⟩
     simp only[evXA,evX,evX0,xBsl,hl,hf]
     exact h
theorem QID [Gd]{s:Sem Next}{h:Heap}{K K':Value→Heap→Prop}(hs:Sx P s h K)(hk:∀v h',K v h'→K' v h'):Sx P s h K':=by
 intro w hw
 have:=hs w hw
 generalize s.run P w=r at this ⊢
 match r,this with
 | .ok (.value v) w',⟨a,b⟩=>exact⟨a,hk _ _ b⟩
 | .ok .skip w',⟨a,b⟩=>exact⟨a,hk _ _ b⟩
 | .ok (.enter f args) w',⟨a,b⟩=>exact⟨a,b.mono hk⟩
 | .halt (.panic x) w',hh=>exact hh
theorem Qma {h:Heap}{α:Type}{f g:α→HP}{L:List HP}:∀ {l:List α}{U:Nat→Prop},(∀x∈l,∀S,(f x).own h S→(g x).own h S)→Sep h (l.map f++L) U→Sep h (l.map g++L) U
 | [],_,_,s=>s
 | x::l,_,hf,⟨S,a,b,c⟩=>⟨S,hf x (.head _) S a,b,Qma (fun y hy=>hf y (.tail _ hy)) c⟩
theorem QLs [Gd]{cl:Cl}(hcl:ClOk P cl){E:Env}{th:TH}{h0 h:Heap}{L:List HP}{n:Nat}{fr:Fr}{f:Nat→Value}{o:Oper}{m:MOp}{x:FV}{ob:TO}(r:Rep E th h0 h L)(ha:AgF E n fr f)(hc:copA P o=some m)(hx:alF fr m=some (x,ob)) :
  Sx P (execOp (evf n f) o) h fun v h'=>∃a c z,∀(id:Nat),E.p id=none→(∀i,th.nx≤i→i≠id)→(let E':Env:=⟨fun j=>if j=id then some a else E.p j,fun j=>if j=id then c else E.c j,fun j=>if j=id then false else E.r j,E.h,z,E.s⟩
   E.Le0 E'∧den E' (reid id x)=some v∧Rep E' th h0 h' (part E' (id,ob)::L)):=by
 obtain⟨cs,rfl,⟨vs,hvs⟩,hsh,hev⟩:=QJK ha hx
 have sx:=QtH hcl (K:=fun y th'=>y=reid th.nx x∧th'=th.new (.cells cs 0)) r ha.ago hc (hev cl th _ ⟨rfl,rfl⟩)
 refine QID sx fun v h' hpost=>?_
 obtain⟨F,y,th',hle,hd,rF,e1,e2⟩:=hpost
 subst e1 e2
 have hg:(th.new (.cells cs 0)).t.get th.nx=some (.cells cs 0):=Tr.get_eq _ _ _
 have hkn:=r.known
 have hnx:=r.nx
 have s1:St h0 h' (part F (th.nx,.cells cs 0)::(th.t.all.map (part F)++(FzP F.z::L))):=
  rF.st.perm (((Tr.perm_new (TO.cells cs 0) hnx).map (part F)).append_right _)
 obtain⟨z,s2⟩:=s1.ex
 obtain⟨hz,s3⟩:=s2.pure
 have hzv:z.2.1=vs:=by have:=hz.2.1;rw[QcO hle hvs] at this;simpa using this.symm
 refine⟨z.1,F.c th.nx,F.z,fun id hid hidn=>?_⟩
 have hidnx:id≠th.nx:=fun e=>hidn th.nx (Nat.le_refl _) e.symm
 have le0:E.Le0 ⟨fun j=>if j=id then some z.1 else E.p j,fun j=>if j=id then F.c th.nx else E.c j,fun j=>if j=id then false else E.r j,E.h,F.z,E.s⟩:=⟨fun j b hb=>by
  have:j≠id:=fun e=>by rw[e,hid] at hb;cases hb
  simp[this,hb],rfl,hle.p.z,fun _ _ _=>rfl⟩
 refine⟨le0,?_,⟨?_,fun i hi=>?_,r.eh⟩⟩
 ·rcases hsh with rfl | ⟨k,rfl⟩
  ·simp only[reid,den,hz.1] at hd ⊢
   simpa using hd
  ·simp only[reid,den,hz.1] at hd ⊢
   simpa using hd
 ·have s4:St h0 h' (part ⟨fun j=>if j=id then some z.1 else E.p j,fun j=>if j=id then F.c th.nx else E.c j,fun j=>if j=id then false else E.r j,E.h,F.z,E.s⟩ (id,.cells cs 0)::(th.t.all.map (part F)++(FzP F.z::L))):=
   s3.imp fun S ho=>⟨z,⟨by simp,by rw[hzv];exact Qcj le0 hvs,hz.2.2.1,hz.2.2.2.1,fun h=>absurd rfl h⟩,ho⟩
  obtain⟨he,S,hA,hS,rest⟩:=s4
  have rest2:Sep h' (th.t.all.map (part ⟨fun j=>if j=id then some z.1 else E.p j,fun j=>if j=id then F.c th.nx else E.c j,fun j=>if j=id then false else E.r j,E.h,F.z,E.s⟩)++(FzP F.z::L)) (fun b=>(h0.size≤b∧b<h'.size)∧¬S b):=
   Qma (fun x hx S ho=>Qcs le0 (Qzv hle.p (hkn x (by simpa using hx)) ho)) rest
  exact St.perm (L:=part _ (id,.cells cs 0)::(th.t.all.map (part _)++(FzP F.z::L))) ⟨he,S,hA,hS,rest2⟩ (List.perm_middle.symm.trans (List.Perm.append_left _ (.swap _ _ _)))
 ·have:i≠id:=hidn i hi
  have:=r.fr i hi
  simp[*]
end Go.Va
namespace Go.Va
open Go Go.Sh
variable [Vb]
variable {P:Program}
def hpL (m:Vals)(E:Env):List HE→List HP
 | []=>[]
 | q::r=>if (m q.i).isSome then part E (q.id,q.o)::hpL m E r else hpL m E r
def FrOk (ops:Array Oper)(hd:Nat)(fr0:Fr)(val:Nat→Option FV)(i:Nat)(fp:Fr):Prop:=∀t x,fp.get t=some x →
 (∃j o,j∈QaS ops i∧ops[j]?=some o∧o.dst=some t∧val j=some x) ∨
 (fr0.get t=some x∧∀j o,j<hd→ops[j]?=some o→o.dst=some t→i∈QaS ops j)
inductive PEok (th:TH)(hs:List HE)(val:Nat→Option FV)(p:PE):Prop
 | skip:gst p.fr p.c.g=.skip→val p.i=some undF→(∀q∈hs,q.i≠p.i)→PEok th hs val p
 | go (y:FV):gst p.fr p.c.g=.go→evQ p.fr (relH p.dq th.t hs) p.c.m=some p.x→val p.i=some y→(obH p.x∧∀E v,den E (strip p.x)=some v→den E y=some v)→(∀q∈hs,q.i≠p.i)→PEok th hs val p
 | al (q:HE) (x:FV):gst p.fr p.c.g=.go→q∈hs→q.i=p.i→alF p.fr p.c.m=some (x,q.o)→val p.i=some (reid q.id x)→PEok th hs val p
structure CI (P:Program)(cl:Cl)(n:Nat)(ops:Array Oper)(hd:Nat)(fr0:Fr)(E0:Env)(h0:Heap)(L:List HP)(K:KF)
  (m:Vals) (h:Heap) (S:List (Nat×Nat)) (R:List RE) (seen:List Nat) (fr:Fr) (th:TH) (hs:List HE) (ps:List PE) (E:Env) (val:Nat→Option FV):Prop where
 run:evR cl R fr th hs ps K
 hR:cREL P n ops S=some R
 ord:Qtu ops S seen=true
 all:∀i,i<hd→i∈seen∨i∈S.map (·.2)
 lt:∀i,i∈S.map (·.2)→i<hd
 slt:∀i,i∈seen→i<hd
 sd:∀i,i∈seen→∀j∈QaS ops i,j∈seen
 ts:∀i,i∈S.map (·.2)→okTs ops hd i=true
 nd:(S.map (·.2)).Nodup
 disj:∀i,i∈S.map (·.2)→i ∉ seen
 vs:∀i,i∈seen→val i≠none
 vn:∀i,i ∉ seen→val i=none
 don:∀i v,m i=some v→i∈seen∧∃x,val i=some x∧den E x=some v
 clo:∀i v,m i=some v→∀j∈QaS ops i,(m j).isSome
 frm:∀t x,fr.get t=some x→(∃j o,j∈seen∧ops[j]?=some o∧o.dst=some t∧val j=some x)∨(fr0.get t=some x∧∀j o,j∈seen→ops[j]?=some o→o.dst≠some t)
 cov:∀i,i∈seen→m i=none→∃p∈ps,p.i=i
 pok:∀p∈ps,m p.i=none→(∃o,ops[p.i]?=some o∧COk P n ops o p.c)∧FrOk ops hd fr0 val p.i p.fr∧PEok th hs val p
 pin:∀p∈ps,p.i∈seen
 pan:∀p∈ps,∀j∈p.dq,Anc ops p.i j
 hin:∀q∈hs,q.i∈seen
 hid:∀q∈hs,E0.p q.id=none∧E0.r q.id=false∧(∀v,m q.i=some v→E.p q.id≠none)∧(m q.i=none→E.p q.id=none∧E.r q.id=true)
 hnd:(hs.map (·.id)).Nodup
 hni:(hs.map (·.i)).Nodup
 le:E0.Le E
 rep:Rep E th h0 h (hpL m E hs++L)
variable {cl:Cl}{n:Nat}{ops:Array Oper}{hd:Nat}{fr0:Fr}{f0:Nat→Value}{E0:Env}{h0:Heap}{L:List HP}{K:KF}
 {m:Vals}{h:Heap}{S:List (Nat×Nat)}{R:List RE}{seen:List Nat}{fr:Fr}{th:TH}{hs:List HE}{ps:List PE}{E:Env}{val:Nat→Option FV}
theorem QtF {i:Nat}{v:Value}:∀ {hs:List HE},(∀q∈hs,q.i≠i)→hpL (setm m i v) E hs=hpL m E hs
 | [],_=>rfl
 | q::r,h=>by
  have h1:setm m i v q.i=m q.i:=QaC (h q (.head _))
  simp only[hpL,h1,QtF fun q hq=>h q (.tail _ hq)]
theorem Qv6 {F:Env}(hf:E.Le0 F){h:Heap}{L:List HP}:∀ {hs:List HE}{U:Nat→Prop},Sep h (hpL m E hs++L) U→Sep h (hpL m F hs++L) U
 | [],_,s=>s
 | q::r,U,s=>by
  simp only[hpL] at s ⊢
  split at s
  ·rename_i hq
   rw[if_pos hq]
   obtain⟨S,a,b,c⟩:=s
   exact⟨S,Qcs hf a,b,Qv6 hf c⟩
  ·rename_i hq
   rw[if_neg hq]
   exact Qv6 hf s
theorem QEe (c:CI P cl n ops hd fr0 E0 h0 L K m h S R seen fr th hs ps E val){g:Nat→Value}(hag:Agr ops f0 m g)(ha0:AgF E0 n fr0 f0)(hdst:∀(j:Nat)(o:Oper)(d:Nat),ops[j]?=some o→o.dst=some d→d<n)(hmh:∀j,hd≤j→m j=none)
  {i:Nat}{fp:Fr} (hf:FrOk ops hd fr0 val i fp) (hi:m i=none) (hdep:∀j∈QaS ops i,(m j).isSome):AgF E n fp g:=fun t x hx=>by
 rcases hf t x hx with⟨j,o,h1,h2,h3,h4⟩ | ⟨h1,h2⟩
 ·obtain⟨v,hv⟩:=Option.isSome_iff_exists.1 (hdep j h1)
  obtain⟨_,y,h5,h6⟩:=c.don j v hv
  rw[h4] at h5;simp only[Option.some.injEq] at h5;subst h5
  exact⟨hdst j o t h2 h3,by rw[hag.done j o t v h2 h3 hv];exact h6⟩
 ·obtain⟨h3,h4⟩:=ha0 t x h1
  refine⟨h3,?_⟩
  rw[hag.rest t fun j o hj hd'=>?_]
  ·exact QbR c.le h4
  ·rcases Nat.lt_or_ge j hd with hjd | hjd
   ·cases hm:m j with
    | none=>rfl
    | some v=>
     have:=c.clo j v hm i (h2 j o hjd hj hd')
     rw[hi] at this;cases this
   ·exact hmh j hjd
theorem QzJ {i:Nat}{o:Oper}(h:ops[i]?=some o):QaS ops i=Qa8 o:=by simp[QaS,h]
theorem QIC {i:Nat}{o:Oper}(h:ops[i]?=some o):tsAt ops i=tsOf ops o:=by simp[tsAt,h]
theorem CI.set (c:CI P cl n ops hd fr0 E0 h0 L K m h S R seen fr th hs ps E val){i:Nat}{v:Value}{y:FV}{F:Env}{h':Heap}(hi:i∈seen)(hm:m i=none)(hdep:∀j∈QaS ops i,(m j).isSome)(hv:val i=some y)(hd':den F y=some v)
  (hle:E.Le0 F) (hid:∀q∈hs,E0.p q.id=none∧E0.r q.id=false∧(∀u,setm m i v q.i=some u→F.p q.id≠none)∧(setm m i v q.i=none→F.p q.id=none∧F.r q.id=true)) (le:E0.Le F) (rep:Rep F th h0 h' (hpL (setm m i v) F hs++L)):CI P cl n ops hd fr0 E0 h0 L K (setm m i v) h' S R seen fr th hs ps F val:=
 { c with
  don:=fun j u hj=>by
   by_cases e:j=i
   ·subst e;rw[Qc9] at hj;simp only[Option.some.injEq] at hj;subst hj;exact⟨hi,y,hv,hd'⟩
   ·rw[QaC e] at hj
    obtain⟨a,x,b,d⟩:=c.don j u hj
    exact⟨a,x,b,Qkl hle d⟩
  clo:=fun j u hj k hk=>by
   have hs:(m k).isSome→(setm m i v k).isSome:=fun h=>by
    by_cases e:k=i
    ·subst e;rw[Qc9];rfl
    ·rw[QaC e];exact h
   by_cases e:j=i
   ·subst e;exact hs (hdep k hk)
   ·rw[QaC e] at hj;exact hs (c.clo j u hj k hk)
  cov:=fun j hj hmj=>by
   by_cases e:j=i
   ·subst e;rw[Qc9] at hmj;cases hmj
   ·rw[QaC e] at hmj;exact c.cov j hj hmj
  pok:=fun p hp hmp=>by
   by_cases e:p.i=i
   ·rw[e,Qc9] at hmp;cases hmp
   ·rw[QaC e] at hmp;exact c.pok p hp hmp
  hid:=hid
  le:=le
  rep:=rep }
theorem CI.set0 (c:CI P cl n ops hd fr0 E0 h0 L K m h S R seen fr th hs ps E val){i:Nat}{v:Value}{y:FV}(hi:i∈seen)(hm:m i=none)(hdep:∀j∈QaS ops i,(m j).isSome)(hv:val i=some y)(hd':den E y=some v)
  (hno:∀q∈hs,q.i≠i):CI P cl n ops hd fr0 E0 h0 L K (setm m i v) h S R seen fr th hs ps E val:=
 c.set hi hm hdep hv hd' (Env.Le.refl E).p (fun q hq=>by rw[QaC (hno q hq)];exact c.hid q hq) c.le (by rw[QtF hno];exact c.rep)
def setv (val:Nat→Option FV)(i:Nat)(y:FV):Nat→Option FV:=fun j=>if j=i then some y else val j
theorem Qhe (val:Nat→Option FV)(i:Nat)(y:FV):setv val i y i=some y:=by simp[setv]
theorem Qol {val:Nat→Option FV}{i j:Nat}{y:FV}(h:j≠i):setv val i y j=val j:=by simp[setv,h]
theorem Qfx {val:Nat→Option FV}{i j:Nat}{x y:FV}(hn:val i=none)(h:val j=some x):setv val i y j=some x:=by
 rw[Qol];exact h
 intro e;rw[e,hn] at h;cases h
theorem FrOk.ext {i k:Nat}{y:FV}{fp:Fr}(hn:val k=none)(h:FrOk ops hd fr0 val i fp):FrOk ops hd fr0 (setv val k y) i fp:=fun t x hx=>by
 rcases h t x hx with⟨j,o,a,b,c,d⟩ | h
 ·exact .inl ⟨j,o,a,b,c,Qfx hn d⟩
 ·exact .inr h
theorem PEok.ext {k:Nat}{y:FV}{th':TH}{hs':List HE}{p:PE}(hn:val k=none)(hp:p.i≠k)(ht:∀x,gst p.fr p.c.g=.go→evQ p.fr (relH p.dq th.t hs) p.c.m=some x→x=p.x→evQ p.fr (relH p.dq th'.t hs') p.c.m=some x)(h1:∀q∈hs',q∈hs∨q.i=k)(h2:∀q∈hs,q.i=p.i→q∈hs')(h:PEok th hs val p):PEok th' hs' (setv val k y) p:=by
 have hno:(∀q∈hs,q.i≠p.i)→∀q∈hs',q.i≠p.i:=fun hq q hq'=>by
  rcases h1 q hq' with a | a
  ·exact hq q a
  ·rw[a];exact Ne.symm hp
 cases h with
 | skip a b c=>exact .skip a (Qfx hn b) (hno c)
 | go z a b c d e=>exact .go z a (ht _ a b rfl) (Qfx hn c) d (hno e)
 | al q x a b c d e=>exact .al q x a (h2 q b c) c d (Qfx hn e)
theorem QHM {ops:Array Oper}{seen:List Nat}(sd:∀i,i∈seen→∀j∈QaS ops i,j∈seen){i j:Nat}(hi:i∈seen)(h:Anc ops i j):j∈seen:=by
 induction h with
 | one h=>exact sd _ hi _ h
 | more h _ ih=>exact ih (sd _ hi _ h)
section head
variable {k i:Nat}{o:Oper}{co:CO}
theorem QlP {p:Nat×Nat}{r:List (Nat×Nat)}(h:Qtu ops (p::r) seen=true):(∀j∈QaS ops p.2,j∈seen)∧(2≤p.1→∀q∈r,∃j∈QaS ops q.2,j=p.2∨j∈r.map (·.2))∧Qtu ops r (p.2::seen)=true:=by
 simp only[Qtu,Bool.and_eq_true] at h
 obtain⟨⟨h1,h2⟩,h3⟩:=h
 refine⟨fun j hj=>Qeb.1 (List.all_eq_true.1 h1 j hj),fun hk q hq=>?_,h3⟩
 have hb:Nat.ble 2 p.1=true:=by rw[Nat.ble_eq];exact hk
 rw[hb] at h2
 simp only[cond_true] at h2
 obtain⟨j,hj,hj2⟩:=List.any_eq_true.1 (List.all_eq_true.1 h2 q hq)
 refine⟨j,hj,?_⟩
 rcases Bool.or_eq_true _ _ ▸ hj2 with a | a
 ·exact .inl (Qm a)
 ·obtain⟨s,hs,hs2⟩:=List.any_eq_true.1 a
  exact .inr (List.mem_map.2 ⟨s,hs,Qm hs2⟩)
theorem QBM (h:okTs ops hd i=true){t j:Nat}{oj:Oper}(ht:t∈tsAt ops i)(hj:j<hd)(h1:ops[j]?=some oj)(h2:oj.dst=some t):j∈QaS ops i∨i∈QaS ops j:=by
 unfold okTs at h
 have:=List.all_eq_true.1 (List.all_eq_true.1 h t ht) j (List.mem_range.2 hj)
 have hb:Nat.beq t t=true:=Nat.beq_refl t
 simp only[h1,Option.bind_some,h2,hb,Bool.not_true,Bool.false_or,Bool.or_eq_true] at this
 exact this.imp Qeb.1 Qeb.1
theorem CI.fresh (c:CI P cl n ops hd fr0 E0 h0 L K m h ((k,i)::S) R seen fr th hs ps E val):i ∉ seen∧val i=none∧m i=none∧i<hd:=by
 have h1:=c.disj i (.head _)
 refine⟨h1,c.vn i h1,?_,c.lt i (.head _)⟩
 cases hm:m i with
 | none=>rfl
 | some v=>exact absurd (c.don i v hm).1 h1
theorem CI.frOk (c:CI P cl n ops hd fr0 E0 h0 L K m h ((k,i)::S) R seen fr th hs ps E val)(ho:ops[i]?=some o):FrOk ops hd fr0 val i (QcW fr (tsOf ops o)):=fun t x hx=>by
 obtain⟨ht,hf⟩:=QrP hx
 have hts:=c.ts i (.head _)
 have hi:=c.fresh
 rw[←QIC ho] at ht
 rcases c.frm t x hf with⟨j,oj,h1,h2,h3,h4⟩ | ⟨h1,h2⟩
 ·rcases QBM hts ht (c.slt j h1) h2 h3 with a | a
  ·exact .inl ⟨j,oj,a,h2,h3,h4⟩
  ·exact absurd (c.sd j h1 i a) hi.1
 ·refine .inr ⟨h1,fun j oj hj h3 h4=>?_⟩
  rcases QBM hts ht hj h3 h4 with a | a
  ·exact absurd h4 (h2 j oj ((QlP c.ord).1 j a) h3)
  ·exact a
theorem CI.frmN (c:CI P cl n ops hd fr0 E0 h0 L K m h ((k,i)::S) R seen fr th hs ps E val)(ho:ops[i]?=some o)(y:FV):∀t x,(putO fr o.dst y).get t=some x →
  (∃j o,j∈i::seen∧ops[j]?=some o∧o.dst=some t∧setv val i y j=some x)∨(fr0.get t=some x∧∀j o,j∈i::seen→ops[j]?=some o→o.dst≠some t):=fun t x hx=>by
 have hi:=c.fresh
 have old:fr.get t=some x→o.dst≠some t→(∃j o,j∈i::seen∧ops[j]?=some o∧o.dst=some t∧setv val i y j=some x)∨(fr0.get t=some x∧∀j o,j∈i::seen→ops[j]?=some o→o.dst≠some t):=fun hf hne=>by
  rcases c.frm t x hf with⟨j,oj,h1,h2,h3,h4⟩ | ⟨h1,h2⟩
  ·exact .inl ⟨j,oj,.tail _ h1,h2,h3,Qfx hi.2.1 h4⟩
  ·refine .inr ⟨h1,fun j oj hj h3=>?_⟩
   rcases List.mem_cons.1 hj with rfl | hj
   ·rw[ho] at h3;simp only[Option.some.injEq] at h3;subst h3;exact hne
   ·exact h2 j oj hj h3
 cases hd:o.dst with
 | none=>rw[hd] at hx;exact old hx (by rw[hd];exact fun e=>by cases e)
 | some d=>
  rw[hd] at hx
  simp only[putO] at hx
  by_cases ht:t=d
  ·subst ht
   rw[Fr.get_eq] at hx;simp only[Option.some.injEq] at hx;subst hx
   exact .inl ⟨i,o,.head _,ho,hd,Qhe val i y⟩
  ·rw[Fr.get_ne _ _ ht] at hx
   exact old hx (by rw[hd];intro e;simp only[Option.some.injEq] at e;exact ht e.symm)
theorem Qs5 {p:Nat×Nat}{r:List (Nat×Nat)}{l:List RE}(h:cREL P n ops (p::r)=some l):∃c l',cRE P n ops p.1 p.2=some c∧cREL P n ops r=some l'∧l=c::l':=by
 simp only[cREL] at h
 cases h1:cRE P n ops p.1 p.2 with
 | none=>rw[h1] at h;cases h
 | some c=>
  cases h2:cREL P n ops r with
  | none=>rw[h1,h2] at h;cases h
  | some l'=>rw[h1,h2] at h;simp only[Option.some.injEq] at h;exact⟨c,l',rfl,rfl,h.symm⟩
theorem QCZ {e:RE}(h:cRE P n ops k i=some e):∃o co,ops[i]?=some o∧COk P n ops o co∧((k=0∧e=.q i (tsOf ops o) co (ancQ P ops co.m i))∨(k=1∧e=.a i (tsOf ops o) co)∨(2≤k∧e=.e i (tsOf ops o) co (Qa8 o))):=by
 unfold cRE at h
 cases ho:ops[i]? with
 | none=>rw[ho] at h;cases h
 | some o=>
  rw[ho] at h
  simp only at h
  cases hc:cO P n ops o with
  | none=>rw[hc] at h;cases h
  | some co=>
   rw[hc] at h
   simp only at h
   refine⟨o,co,rfl,QBe hc,?_⟩
   match k,h with
   | 0,h=>simp only[Option.some.injEq] at h;exact .inl ⟨rfl,h.symm⟩
   | 1,h=>simp only[Option.some.injEq] at h;exact .inr (.inl ⟨rfl,h.symm⟩)
   | k+2,h=>simp only[Option.some.injEq] at h;exact .inr (.inr ⟨by omega,h.symm⟩)
theorem CI.push (c:CI P cl n ops hd fr0 E0 h0 L K m h ((k,i)::S) R seen fr th hs ps E val)(ho:ops[i]?=some o)(ok:COk P n ops o co){x y:FV}{dq:List Nat}{th':TH}{hs':List HE}{F:Env}{R':List RE}
  (hR:cREL P n ops S=some R') (run:evR cl R' (putO fr co.dst y) th' hs' (⟨i,QcW fr (tsOf ops o),co,x,dq⟩::ps) K) (hdq:∀j∈dq,Anc ops i j) (htt:∀l:List Nat,i ∉ l→relH l th'.t hs'=relH l th.t hs) (hh:∀q∈hs',q∈hs∨q.i=i) (hh2:∀q∈hs,q∈hs')
  (pe:PEok th' hs' (setv val i y) ⟨i,QcW fr (tsOf ops o),co,x,dq⟩) (hle:E.Le F) (hid:∀q∈hs',E0.p q.id=none∧E0.r q.id=false∧(∀v,m q.i=some v→F.p q.id≠none)∧(m q.i=none→F.p q.id=none∧F.r q.id=true))
  (hnd:(hs'.map (·.id)).Nodup) (hni:(hs'.map (·.i)).Nodup) (rep:Rep F th' h0 h (hpL m F hs'++L)) :
  CI P cl n ops hd fr0 E0 h0 L K m h S R' (i::seen) (putO fr co.dst y) th' hs' (⟨i,QcW fr (tsOf ops o),co,x,dq⟩::ps) F (setv val i y):=by
 obtain⟨hi,hvi,hmi,hlt⟩:=c.fresh
 obtain⟨o1,o2,o3⟩:=QlP c.ord
 have nd:=c.nd
 simp only[List.map_cons,List.nodup_cons] at nd
 have ne:∀ {j},j∈seen→j≠i:=fun hj e=>hi (e ▸ hj)
 exact
 {run:=run,hR:=hR,ord:=o3,nd:=nd.2,hnd:=hnd,hni:=hni,hid:=hid,rep:=rep,le:=c.le.trans hle,clo:=c.clo
  all:=fun j hj=>by
   rcases c.all j hj with a | a
   ·exact .inl (.tail _ a)
   ·rcases List.mem_cons.1 a with rfl | a
    ·exact .inl (.head _)
    ·exact .inr a
  lt:=fun j hj=>c.lt j (.tail _ hj)
  slt:=fun j hj=>by
   rcases List.mem_cons.1 hj with rfl | hj
   ·exact hlt
   ·exact c.slt j hj
  sd:=fun j hj u hu=>by
   rcases List.mem_cons.1 hj with rfl | hj
   ·exact .tail _ (o1 u hu)
   ·exact .tail _ (c.sd j hj u hu)
  ts:=fun j hj=>c.ts j (.tail _ hj)
  disj:=fun j hj hs=>by
   rcases List.mem_cons.1 hs with rfl | hs
   ·exact nd.1 hj
   ·exact c.disj j (.tail _ hj) hs
  vs:=fun j hj=>by
   rcases List.mem_cons.1 hj with rfl | hj
   ·rw[Qhe];exact fun e=>by cases e
   ·rw[Qol (ne hj)];exact c.vs j hj
  vn:=fun j hj=>by
   rw[Qol fun e=>hj (by rw[e];exact .head _)];exact c.vn j fun h=>hj (.tail _ h)
  don:=fun j v hj=>by
   obtain⟨a,z,b,d⟩:=c.don j v hj
   exact⟨.tail _ a,z,Qfx hvi b,QbR hle d⟩
  frm:=by rw[ok.d];exact c.frmN ho y
  cov:=fun j hj hm=>by
   rcases List.mem_cons.1 hj with rfl | hj
   ·exact⟨_,.head _,rfl⟩
   ·obtain⟨p,a,b⟩:=c.cov j hj hm
    exact⟨p,.tail _ a,b⟩
  pok:=fun p hp hm=>by
   rcases List.mem_cons.1 hp with rfl | hp
   ·exact⟨⟨o,ho,ok⟩,(c.frOk ho).ext hvi,pe⟩
   ·obtain⟨a,b,d⟩:=c.pok p hp hm
    exact⟨a,b.ext hvi,d.ext hvi (ne (c.pin p hp)) (fun x _ h _=>by rw[htt p.dq fun hi'=>hi (QHM c.sd (c.pin p hp) (c.pan p hp i hi'))];exact h) hh fun q hq _=>hh2 q hq⟩
  pin:=fun p hp=>by
   rcases List.mem_cons.1 hp with rfl | hp
   ·exact .head _
   ·exact .tail _ (c.pin p hp)
  pan:=fun p hp=>by
   rcases List.mem_cons.1 hp with rfl | hp
   ·exact hdq
   ·exact c.pan p hp
  hin:=fun q hq=>by
   rcases hh q hq with a | a
   ·exact .tail _ (c.hin q a)
   ·rw[a];exact .head _ }
end head
end Go.Va
