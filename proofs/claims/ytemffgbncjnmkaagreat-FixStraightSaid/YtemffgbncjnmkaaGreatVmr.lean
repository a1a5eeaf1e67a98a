import Derived.Test.YtemffgbncjnmkaaGreatVm
set_option linter.unusedVariables false
set_option linter.unusedSectionVars false
set_option linter.unusedSimpArgs false
noncomputable section
namespace Go.Va
open Go Go.Sh
variable [Vb]
def toLD (k:CK)(v:FV):Option LD:=match k with
 | .i k=>match v with
  | .int k' n=>bif keq k k'&&(ile (loK k) n&&ile n (hiK k)) then some (.n n) else none
  | .sy k' n lo hi=>bif keq k k'&&(ile (loK k) lo&&ile hi (hiK k)) then some (.n n.ev) else none
  | _=>none
 | .b=>match v with
  | .bool b=>some (.b b)
  | .sb c=>some (.b c.ev)
  | _=>none
 | .s=>match strV v with
  | some s=>some (.s s)
  | none=>none
 | .p t=>match v with
  | .nilp=>some .nul
  | .dp t' d=>bif Nat.beq t t' then some d else none
  | .dn t' d o=>match o with
   | 0=>bif Nat.beq t t' then some d else none
   | _=>none
  | _=>none
 | .l t=>match v with
  | .nsl=>some .nul
  | .ds t' d=>bif Nat.beq t t' then some d else none
  | _=>none
 | .r _=>none
abbrev FzK:=CK→FV→TH→(LD→TH→Prop)→Prop
def frzL (f:FzK):List CK→List FV→TH→(List LD→TH→Prop)→Prop
 | [],cs,th,K=>match cs with
  | []=>K [] th
  | _=>False
 | k::ks,cs,th,K=>match cs with
  | []=>False
  | c::cs=>f k c th fun d th=>frzL f ks cs th fun ds th=>K (d::ds) th
def frzE (f:FzK)(ks:List CK):Nat→List FV→TH→(List LD→TH→Prop)→Prop
 | 0,_,th,K=>K [] th
 | m+1,cs,th,K=>match Qbb ks.length cs with
  | some row=>frzL f ks row th fun ds th=>frzE f ks m (Qaz ks.length cs) th fun es th=>K (.t ds::es) th
  | none=>False
def QBc (cap:FCap)(len:Nat):Bool:=match cap with
 | .lit c=>Nat.ble len c
 | .hid j=>Nat.beq j 0
def frz:Nat→FzK
 | 0=>fun k v th K=>match toLD k v with
  | some d=>K d th
  | none=>False
 | n+1=>fun k v th K=>match toLD k v with
  | some d=>K d th
  | none=>match k with
   | .p t=>match v with
    | .ptr i o=>match o with
     | 0=>match th.t.get i with
      | some (.cells cs kk)=>match kk with
       | 0=>match lyG t with
        | some ks=>frzL (frz n) ks cs (th.del i) fun ds th=>∀a:Addr,K (.p a ds) (th.set i (.ro cs))
        | none=>False
       | _=>False
      | some (.ro cs)=>match lyG t with
       | some ks=>frzL (frz n) ks cs th fun ds th=>∀a:Addr,K (.p a ds) th
       | none=>False
      | _=>False
     | _=>False
    | _=>False
   | .l t=>match v with
    | .sl i off offz len cap=>match off with
     | 0=>match offz with
      | 0=>match th.t.get i with
       | some (.cells cs kk)=>match lyG t with
        | some ks=>bif Nat.blt 0 ks.length&&Nat.ble len 1000000&&QBc cap len then frzE (frz n) ks len cs (th.del i) fun es th=>∀a:Addr,∀c:Nat,len≤c→K (.l a c es) (th.set i (.ro cs)) else False
        | none=>False
       | some (.ro cs)=>match lyG t with
        | some ks=>bif Nat.blt 0 ks.length&&Nat.ble len 1000000&&QBc cap len then frzE (frz n) ks len cs th fun es th=>∀a:Addr,∀c:Nat,len≤c→K (.l a c es) th else False
        | none=>False
       | _=>False
      | _=>False
     | _=>False
    | .os t' i=>match th.t.get i with
     | some (.row t'' es)=>bif Nat.beq t t'' then ((es=[]→K .nul (th.del i))∧∀a:Addr,∀c:Nat,es.length≤c→K (.l a c es) (th.del i)) else False
     | _=>False
    | _=>False
   | _=>False
def fzD:Nat:=8
theorem Qtn {E:Env}{k:CK}{v:FV}{d:LD}{u:Value}(h:toLD k v=some d)(hd:den E v=some u):Fz E d k∧LD.v k d=u:=by
 cases k with
 | i k=>
  cases v<;>simp only[toLD] at h<;>try (cases h;done)
  ·rename_i k' n
   cases hb:keq k k'&&(ile (loK k) n&&ile n (hiK k)) with
   | false=>rw[hb] at h;cases h
   | true=>
    rw[hb] at h;simp only[cond_true,Option.some.injEq] at h;subst h
    simp only[Bool.and_eq_true] at hb
    have e:=QdB hb.1
    subst e
    simp only[den,Option.some.injEq] at hd
    exact⟨⟨by simp only[wt];exact⟨Qbc hb.2.1,Qbc hb.2.2⟩,by simp only[lies]⟩,hd⟩
  ·rename_i k' n lo hi
   cases hb:keq k k'&&(ile (loK k) lo&&ile hi (hiK k)) with
   | false=>rw[hb] at h;cases h
   | true=>
    rw[hb] at h;simp only[cond_true,Option.some.injEq] at h;subst h
    simp only[Bool.and_eq_true] at hb
    have e:=QdB hb.1
    subst e
    obtain⟨h1,h2⟩:=QmN hd
    have g1:=Qbc hb.2.1
    have g2:=Qbc hb.2.2
    exact⟨⟨by simp only[wt];omega,by simp only[lies]⟩,h2.symm⟩
 | b=>
  cases v<;>simp only[toLD] at h<;>try (cases h;done)
  ·simp only[Option.some.injEq] at h;subst h
   simp only[den,Option.some.injEq] at hd
   exact⟨⟨by simp only[wt],by simp only[lies]⟩,hd⟩
  ·simp only[Option.some.injEq] at h;subst h
   simp only[den,Option.some.injEq] at hd
   exact⟨⟨by simp only[wt],by simp only[lies]⟩,hd⟩
 | s=>
  simp only[toLD] at h
  cases hs:strV v with
  | none=>rw[hs] at h;cases h
  | some s=>
   rw[hs] at h;simp only[Option.some.injEq] at h;subst h
   obtain⟨h1,h2⟩:=QgQ hs hd
   exact⟨⟨by simp only[wt];exact h2,by simp only[lies]⟩,h1.symm⟩
 | p t=>
  cases v<;>simp only[toLD] at h<;>try (cases h;done)
  ·simp only[Option.some.injEq] at h;subst h
   simp only[den,Option.some.injEq] at hd
   exact⟨⟨by simp only[wt],by simp only[lies]⟩,hd⟩
  ·rename_i t' q
   cases hb:Nat.beq t t' with
   | false=>rw[hb] at h;cases h
   | true=>
    rw[hb] at h;simp only[cond_true,Option.some.injEq] at h;subst h
    have e:=Qm hb
    subst e
    obtain⟨h1,h2⟩:=QsN hd
    exact⟨h1,h2.symm⟩
  ·rename_i t' q o
   cases o with
   | succ o=>cases h
   | zero=>
    simp only at h
    cases hb:Nat.beq t t' with
    | false=>rw[hb] at h;cases h
    | true=>
     rw[hb] at h;simp only[cond_true,Option.some.injEq] at h;subst h
     have e:=Qm hb
     subst e
     obtain⟨h1,h2,h3⟩:=QxX hd
     refine⟨h1,?_⟩
     have h4:=h1.1
     rw[h3,add_zero]
     cases q<;>simp only[wt,LD.is] at h4 h2<;>first | (cases h2;done) | rfl
 | l t=>
  cases v<;>simp only[toLD] at h<;>try (cases h;done)
  ·simp only[Option.some.injEq] at h;subst h
   simp only[den,Option.some.injEq] at hd
   exact⟨⟨by simp only[wt],by simp only[lies]⟩,hd⟩
  ·rename_i t' q
   cases hb:Nat.beq t t' with
   | false=>rw[hb] at h;cases h
   | true=>
    rw[hb] at h;simp only[cond_true,Option.some.injEq] at h;subst h
    have e:=Qm hb
    subst e
    obtain⟨h1,h2⟩:=QgG hd
    exact⟨h1,h2.symm⟩
 | r t=>simp[toLD] at h
def Env.wz (E:Env)(z:List (Nat×Obj)):Env:=⟨E.p,E.c,E.r,E.h,z,E.s⟩
theorem Env.le_wz {E:Env}{z:List (Nat×Obj)}(h:∀q∈E.z,q∈z):E.Le (E.wz z):=⟨⟨fun _ _ h=>⟨h,rfl⟩,rfl,h,fun _ _ _=>rfl⟩,fun _ h=>⟨rfl,h⟩⟩
theorem Rep.self {E:Env}{th:TH}{h0 h:Heap}{L:List HP}(r:Rep E th h0 h L):Rep (E.wz E.z) th h0 h L:=r
theorem Rep.out {E:Env}{th:TH}{h0 h:Heap}{L:List HP}(r:Rep E th h0 h L){i:Nat}{o:TO}(hg:th.t.get i=some o):Rep E (th.del i) h0 h (part E (i,o)::L):=
 ⟨(r.pick hg).perm (List.perm_middle.symm.trans (List.Perm.append_left _ (.swap _ _ _))),r.fr,r.eh⟩
theorem St.merge {h0 h:Heap}{A B C:HP}{L:List HP}(s:St h0 h (A::B::L))(f:∀S T,A.own h S→B.own h T→C.own h (fun b=>S b∨T b)):St h0 h (C::L):=by
 obtain⟨he,S,hA,hS,T,hB,hT,hL⟩:=s
 exact⟨he,_,f S T hA hB,fun b hb=>hb.elim (hS b) fun h=>(hT b h).1,Sep.mono (fun b hb=>⟨hb.1.1,fun h=>h.elim hb.1.2 hb.2⟩) hL⟩
theorem frzG {E:Env}{th:TH}{h0 h:Heap}{L:List HP}{a:Addr}{cs:List Value}(s:St h0 h (Qap (.pointer (some a)) cs::FzP E.z::(th.t.all.map (part E)++L)))(fr:∀i,th.nx≤i→E.p i=none∧E.r i=false)(eh:E.h=h0) :
  ∃z,(∀q∈E.z,q∈z)∧Rep (E.wz z) th h0 h L∧(E.wz z).rd a cs:=by
 obtain⟨S,hc,_⟩:=s.get
 obtain⟨b,o,T,pre,po,hp,hS,hb,ho⟩:=hc
 refine⟨(b,.cells (pre++cs++po).toArray T (0,0))::E.z,fun q hq=>.tail _ hq,⟨?_,fr,eh⟩,fun g hg=>?_⟩
 ·have s2:St h0 h (FzP ((b,.cells (pre++cs++po).toArray T (0,0))::E.z)::(th.t.all.map (part E)++L)):=St.merge s fun S1 S2 g1 g2=>by
   obtain⟨b',o',T',pre',po',hp',hS',hb',ho'⟩:=g1
   have e:b'=b:=by
    rw[hp] at hp'
    simp only[Value.pointer.injEq,Option.some.injEq,Addr.mk.injEq] at hp'
    exact hp'.1.symm
   subst e
   intro q hq
   rcases List.mem_cons.1 hq with rfl | hq
   ·exact⟨.inl hS',hb⟩
   ·exact⟨.inr (g2 q hq).1,(g2 q hq).2⟩
  have le:E.Le0 (E.wz ((b,.cells (pre++cs++po).toArray T (0,0))::E.z)):=(Env.le_wz fun q hq=>.tail _ hq).p
  have s3:=s2.perm List.perm_middle.symm
  exact⟨s3.1,Sep.imps (fun x S=>Qcs le) s3.2⟩
 ·have:=hg.2 _ (.head _)
  exact Qap.rd (S:=fun x=>x=b) ⟨b,o,T,pre,po,hp,rfl,this,ho⟩
theorem Rep.outP {E:Env}{th:TH}{h0 h:Heap}{L:List HP}{A:HP}(r:Rep E th h0 h (A::L)):St h0 h (A::FzP E.z::(th.t.all.map (part E)++L)):=r.st.perm (by
 refine (List.Perm.append_left _ (.swap _ _ _)).trans ?_
 refine List.perm_middle.trans (.cons _ ?_)
 exact List.perm_middle)
theorem Rep.addRo {E:Env}{th:TH}{h0 h:Heap}{L:List HP}{i:Nat}{cs:List FV}{a:Addr}{vs:List Value}(r:Rep E th h0 h L)(h1:RoIs E i cs a vs):Rep E (th.set i (.ro cs)) h0 h L:=by
 have r':Rep E th h0 h (part E (i,.ro cs)::L):=by
  refine⟨?_,r.fr,r.eh⟩
  have s:St h0 h (part E (i,.ro cs)::(th.t.all.map (part E)++(FzP E.z::L))):=
   ⟨r.st.1,fun _=>False,⟨(a,vs),h1,fun _ h=>h⟩,fun _ h=>h.elim,Sep.mono (fun _ h=>⟨h,fun h=>h⟩) r.st.2⟩
  exact s.perm (List.perm_middle.symm.trans ((List.Perm.append_left _ (.swap _ _ _))))
 refine⟨?_,r.fr,r.eh⟩
 show St h0 h ((th.t.put i (.ro cs)).all.map (part E)++(FzP E.z::L))
 cases hg:th.t.get i with
 | none=>
  refine r'.st.perm ?_
  have:=((Tr.perm_new (.ro cs) hg).map (part E)).append_right (FzP E.z::L)
  refine List.Perm.trans ?_ this.symm
  exact (List.Perm.append_left _ (.swap _ _ _)).trans List.perm_middle
 | some o'=>
  have s:=(r'.pick hg).drop
  refine s.perm ?_
  have:=(((Tr.perm hg).2 (.ro cs)).map (part E)).append_right (FzP E.z::L)
  refine List.Perm.trans ?_ this.symm
  exact (List.Perm.append_left _ (.swap _ _ _)).trans List.perm_middle
theorem Rep.frzC {E E0:Env}{th:TH}{h0 h:Heap}{L:List HP}{i:Nat}{cs:List FV}{kk:Nat}(r:Rep E th h0 h (part E0 (i,.cells cs kk)::L)) :
  ∃a vs post z,Qfc E0 i cs kk a vs post∧(∀q∈E.z,q∈z)∧Rep (E.wz z) th h0 h L∧(E.wz z).rd a (vs++post):=by
 obtain⟨x,s⟩:=r.outP.ex
 obtain⟨hz,s⟩:=s.pure
 obtain⟨z,h1,h2,h3⟩:=frzG s r.fr r.eh
 exact⟨x.1,x.2.1,x.2.2,z,hz,h1,h2,h3⟩
theorem Rep.frzR {E E0:Env}{th:TH}{h0 h:Heap}{L:List HP}{i t:Nat}{es:List LD}(r:Rep E th h0 h (part E0 (i,.row t es)::L)) :
  ∃a v ks z,Qju E0 i t es a v ks∧(∀q∈E.z,q∈z)∧Rep (E.wz z) th h0 h L∧((v=.slice none 0 0∧es=[])∨∃b c,v=.slice (some b) es.length c∧es.length≤c∧(E.wz z).rd b (LD.vsE ks es)):=by
 obtain⟨x,s⟩:=r.outP.ex
 obtain⟨hz,s⟩:=s.pure
 obtain⟨he,S,⟨hl,hc⟩,hS,rest⟩:=s
 rcases hc with⟨hv,hn⟩ | ⟨b,c,post,hv,h2,h3,h4⟩
 ·have s2:St h0 h (FzP E.z::(th.t.all.map (part E)++L)):=⟨he,Sep.mono (fun _ h=>h.1) rest⟩
  exact⟨x.1,x.2.1,x.2.2,E.z,hz,fun _ h=>h,⟨s2.perm List.perm_middle.symm,r.fr,r.eh⟩,.inl ⟨hv,List.length_eq_zero_iff.1 hn⟩⟩
 ·obtain⟨z,g1,g2,g3⟩:=frzG (E:=E) (th:=th) (L:=L) (⟨he,S,h4,hS,rest⟩:St h0 h (Qap (.pointer (some b)) (LD.vsE x.2.2 es++post)::_)) r.fr r.eh
  refine⟨x.1,x.2.1,x.2.2,z,hz,g1,g2,.inr ⟨b,c,hv,h2,fun g hg=>?_⟩⟩
  have:=(g3 g hg).take (LD.vsE x.2.2 es).length
  rw[List.take_left] at this;exact this
def FzOk (f:FzK):Prop:=∀k v th K,f k v th K→∀E h0 h L u,Rep E th h0 h L→den E v=some u →
 ∃z d th',(∀q∈E.z,q∈z)∧th'.nx=th.nx∧Rep (E.wz z) th' h0 h L∧Fz (E.wz z) d k∧LD.v k d=u∧K d th'
theorem Qjf {f:FzK}(hf:FzOk f):∀ks cs th K,frzL f ks cs th K→∀E h0 h L us,Rep E th h0 h L→denL E cs=some us →
  ∃z ds th',(∀q∈E.z,q∈z)∧th'.nx=th.nx∧Rep (E.wz z) th' h0 h L∧wtL ds ks∧Q5 (E.wz z).rd ds ks∧LD.vs ks ds=us∧K ds th'
 | [],cs,th,K,hx,E,h0,h,L,us,r,hd=>by
  cases cs with
  | cons c cs=>exact hx.elim
  | nil=>
   simp only[denL,Option.some.injEq] at hd;subst hd
   exact⟨E.z,[],th,fun _ h=>h,rfl,r.self,by simp only[wtL],by simp only[Q5],rfl,hx⟩
 | k::ks,cs,th,K,hx,E,h0,h,L,us,r,hd=>by
  cases cs with
  | nil=>exact hx.elim
  | cons c cs=>
   obtain⟨u,us',h1,h2,rfl⟩:=QR hd
   obtain⟨z,d,th',g1,g2,g3,g4,g5,g6⟩:=hf k c th _ hx E h0 h L u r h1
   obtain⟨z',ds,th2,e1,e2,e3,e4,e5,e6,e7⟩:=Qjf hf ks cs th' _ g6 (E.wz z) h0 h L us' g3 (QcO (Env.le_wz g1) h2)
   have f4:=g4.mono (Env.le_wz (E:=E.wz z) e1).p
   exact⟨z',d::ds,th2,fun q hq=>e1 q (g1 q hq),e2.trans g2,e3,by simp only[wtL];exact⟨g4.1,e4⟩,by simp only[Q5];exact⟨f4.2,e5⟩,by simp only[LD.vs,g5,e6],e7⟩
theorem QoW {f:FzK}(hf:FzOk f){ks:List CK}:∀m cs th K,frzE f ks m cs th K→∀E h0 h L us,Rep E th h0 h L→denL E cs=some us →
  ∃z es th',(∀q∈E.z,q∈z)∧th'.nx=th.nx∧Rep (E.wz z) th' h0 h L∧es.length=m∧wtE es ks∧QI (E.wz z).rd es ks∧LD.vsE ks es=us.take (m * ks.length)∧K es th'
 | 0,cs,th,K,hx,E,h0,h,L,us,r,hd=>⟨E.z,[],th,fun _ h=>h,rfl,r.self,rfl,by simp only[wtE],by simp only[QI],by simp[LD.vsE],hx⟩
 | m+1,cs,th,K,hx,E,h0,h,L,us,r,hd=>by
  simp only[frzE] at hx
  cases ht:Qbb ks.length cs with
  | none=>rw[ht] at hx;exact hx.elim
  | some row=>
   rw[ht] at hx
   simp only at hx
   obtain⟨h1,h2⟩:=Qcd ht
   have hr:denL E row=some (us.take ks.length):=by rw[h1];exact QfV _ hd
   obtain⟨z,ds,th',g1,g2,g3,g4,g5,g6,g7⟩:=Qjf hf ks row th _ hx E h0 h L _ r hr
   rw[Qbo] at g7
   obtain⟨z',es,th2,e1,e2,e3,e4,e5,e6,e7,e8⟩:=QoW hf m _ th' _ g7 (E.wz z) h0 h L (us.drop ks.length) g3 (QcO (Env.le_wz g1) (QeM _ hd))
   have f5:=Qf5 (fun _ _=>(Env.le_wz (E:=E.wz z) e1).p.rd) g5
   refine⟨z',.t ds::es,th2,fun q hq=>e1 q (g1 q hq),e2.trans g2,e3,by simp[e4],by simp only[wtE,wtT];exact⟨g4,e5⟩,by simp only[QI,Qbz];exact⟨f5,e6⟩,?_,e8⟩
   have hl:=QS hd
   simp only[LD.vsE,List.flatMap_cons]
   rw[show (LD.t ds).cs=ds from rfl,g6]
   show us.take ks.length++LD.vsE ks es=_
   rw[e7,Nat.succ_mul,Nat.add_comm (m * ks.length),List.take_add]
theorem QgB:∀n,FzOk (frz n)
 | 0=>fun k v th K hx E h0 h L u r hd=>by
  simp only[frz] at hx
  cases ht:toLD k v with
  | none=>rw[ht] at hx;exact hx.elim
  | some d=>
   rw[ht] at hx
   obtain⟨f1,f2⟩:=Qtn ht hd
   exact⟨E.z,d,th,fun _ h=>h,rfl,r.self,f1,f2,hx⟩
 | n+1=>fun k v th K hx E h0 h L u r hd=>by
  simp only[frz] at hx
  cases ht:toLD k v with
  | some d=>
   rw[ht] at hx
   obtain⟨f1,f2⟩:=Qtn ht hd
   exact⟨E.z,d,th,fun _ h=>h,rfl,r.self,f1,f2,hx⟩
  | none=>
   rw[ht] at hx
   simp only at hx
   cases k<;>try (exact hx.elim)
   case p t=>
    cases v<;>try (exact hx.elim)
    rename_i i o
    cases o with
    | succ o=>exact hx.elim
    | zero=>
     simp only at hx
     cases hg:th.t.get i with
     | none=>rw[hg] at hx;exact hx.elim
     | some ob=>
      rw[hg] at hx
      cases ob<;>try (exact hx.elim)
      rotate_left
      ·rename_i cs
       simp only at hx
       cases hl:lyG t with
       | none=>rw[hl] at hx;exact hx.elim
       | some ks=>
        rw[hl] at hx
        simp only at hx
        obtain⟨a,vs,hc,_⟩:=r.toldR hg
        obtain⟨z,ds,th',g1,g2,g3,g4,g5,g6,g7⟩:=Qjf (QgB n) ks cs _ _ hx E h0 h _ vs r hc.2.1
        obtain⟨x,hp,hu⟩:=Qca hd
        rw[hc.1] at hp;simp only[Option.some.injEq] at hp;subst hp
        have ly:=QaN hl
        refine⟨z,.p a ds,th',g1,g2,g3,⟨?_,?_⟩,?_,g7 a⟩
        ·simp only[wt];rw[ly];exact g4
        ·simp only[lies];rw[ly]
         refine⟨?_,g5⟩
         rw[g6];exact (Env.le_wz (E:=E) g1).p.rd hc.2.2.2
        ·rw[hu,add_zero];rfl
      rename_i cs kk
      cases kk with
      | succ kk=>exact hx.elim
      | zero=>
       simp only at hx
       cases hl:lyG t with
       | none=>rw[hl] at hx;exact hx.elim
       | some ks=>
        rw[hl] at hx
        simp only at hx
        obtain⟨a,vs,post,hc,_⟩:=r.told hg
        obtain⟨z,ds,th',g1,g2,g3,g4,g5,g6,g7⟩:=Qjf (QgB n) ks cs _ _ hx E h0 h _ vs (r.out hg) hc.2.1
        obtain⟨a',vs',post',z',hc',e1,e2,e3⟩:=g3.frzC
        have ea:a'=a:=by have:=hc'.1;rw[hc.1] at this;simpa using this.symm
        have ev:vs'=vs:=by have:=hc'.2.1;rw[hc.2.1] at this;simpa using this.symm
        subst ea ev
        obtain⟨x,hp,hu⟩:=Qca hd
        rw[hc.1] at hp;simp only[Option.some.injEq] at hp;subst hp
        have ly:=QaN hl
        have hro:RoIs (E.wz z') i cs a' vs':=⟨hc.1,QcO (Env.le_wz (E:=E) fun q hq=>e1 q (g1 q hq)) hc.2.1,hc.2.2.1,fun g hg=>by
         have:=(e3 g hg).take vs'.length
         rw[List.take_left] at this;exact this⟩
        refine⟨z',.p a' ds,th'.set i (.ro cs),fun q hq=>e1 q (g1 q hq),g2,e2.addRo hro,⟨?_,?_⟩,?_,g7 a'⟩
        ·simp only[wt];rw[ly];exact g4
        ·simp only[lies];rw[ly]
         refine⟨fun g hg=>?_,Qf5 (fun _ _=>(Env.le_wz (E:=E.wz z) e1).p.rd) g5⟩
         have:=(e3 g hg).take vs'.length
         rw[List.take_left] at this
         rw[g6];exact this
        ·rw[hu,add_zero];rfl
   case l t=>
    cases v<;>try (exact hx.elim)
    case os t' i=>
     simp only at hx
     cases hg:th.t.get i with
     | none=>rw[hg] at hx;exact hx.elim
     | some ob=>
      rw[hg] at hx
      cases ob<;>try (exact hx.elim)
      rename_i t'' es
      simp only at hx
      cases hb:Nat.beq t t'' with
      | false=>rw[hb] at hx;exact hx.elim
      | true=>
       rw[hb] at hx
       simp only[cond_true] at hx
       have e:=Qm hb
       subst e
       obtain⟨a,v,ks,z,hw,g1,g2,g3⟩:=(r.out hg).frzR
       obtain⟨_,hs,_⟩:=Qe4 hd
       have ev:v=u:=hw.s.symm.trans hs
       subst ev
       rcases g3 with⟨hv,he⟩ | ⟨b,c,hv,hc,hrd⟩
       ·exact⟨z,.nul,th.del i,g1,rfl,g2,⟨by simp only[wt],by simp only[lies]⟩,hv.symm,hx.1 he⟩
       ·refine⟨z,.l b c es,th.del i,g1,rfl,g2,⟨?_,?_⟩,hv.symm,hx.2 b c hc⟩
        ·simp only[wt];rw[hw.ly];exact⟨hc,hw.len,hw.ne,hw.wt⟩
        ·simp only[lies];rw[hw.ly]
         exact⟨hrd,Qam (fun _ _=>(Env.le_wz (E:=E) g1).p.rd) hw.li⟩
    rename_i i off offz len cap
    cases off with
    | succ o=>exact hx.elim
    | zero=>
    cases offz with
    | succ o=>exact hx.elim
    | zero=>
     simp only at hx
     cases hg:th.t.get i with
     | none=>rw[hg] at hx;exact hx.elim
     | some ob=>
      rw[hg] at hx
      cases ob<;>try (exact hx.elim)
      rotate_left
      ·rename_i cs
       simp only at hx
       cases hl:lyG t with
       | none=>rw[hl] at hx;exact hx.elim
       | some ks=>
        rw[hl] at hx
        simp only at hx
        cases hb:Nat.blt 0 ks.length&&Nat.ble len 1000000&&QBc cap len with
        | false=>rw[hb] at hx;exact hx.elim
        | true=>
         rw[hb] at hx
         simp only[cond_true] at hx
         simp only[Bool.and_eq_true] at hb
         obtain⟨a',vs',hc,_⟩:=r.toldR hg
         obtain⟨z,es,th',g1,g2,g3,g4,g5,g6,g7,g8⟩:=QoW (QgB n) len cs _ _ hx E h0 h _ vs' r hc.2.1
         have hu:∃c,len≤c∧u=.slice (some a') len c:=by
          obtain⟨x,c,hp,hu,hcc⟩:=QeE hd
          rw[hc.1] at hp;simp only[Option.some.injEq] at hp;subst hp
          cases cap with
          | lit c'=>
           simp only at hcc hu
           subst hcc
           exact⟨c,Qag hb.2,by rw[hu,add_zero]⟩
          | hid j=>
           simp only at hcc hu
           have hj:=Qm hb.2
           subst hj
           refine⟨c,by omega,?_⟩
           rw[hu]
           have:(if E.c i=0 then 0 else 0)=0:=by split<;>rfl
           rw[this,add_zero]
         obtain⟨c,hc1,rfl⟩:=hu
         have ly:=QaN hl
         have hlen:len≤maxL:=by
          have:=Qag hb.1.2
          have e:maxL=9223372036854775807:=by unfold maxL;rfl
          omega
         refine⟨z,.l a' c es,th',g1,g2,g3,⟨?_,?_⟩,?_,g8 a' c hc1⟩
         ·simp only[wt];rw[ly]
          refine⟨by rw[g4];exact hc1,by rw[g4];exact hlen,fun e=>?_,g5⟩
          have:=QaQ hb.1.1
          rw[e] at this;cases this
         ·simp only[lies];rw[ly]
          refine⟨fun g hg=>?_,g6⟩
          have:=((Env.le_wz (E:=E) g1).p.rd hc.2.2.2 g hg).take (len * ks.length)
          rw[g7];exact this
         ·simp only[LD.v,g4]
      rename_i cs kk
      simp only at hx
      cases hl:lyG t with
      | none=>rw[hl] at hx;exact hx.elim
      | some ks=>
       rw[hl] at hx
       simp only at hx
       cases hb:Nat.blt 0 ks.length&&Nat.ble len 1000000&&QBc cap len with
       | false=>rw[hb] at hx;exact hx.elim
       | true=>
        rw[hb] at hx
        simp only[cond_true] at hx
        simp only[Bool.and_eq_true] at hb
        obtain⟨a,vs,post,hc,_⟩:=r.told hg
        obtain⟨z,es,th',g1,g2,g3,g4,g5,g6,g7,g8⟩:=QoW (QgB n) len cs _ _ hx E h0 h _ vs (r.out hg) hc.2.1
        obtain⟨a',vs',post',z',hc',e1,e2,e3⟩:=g3.frzC
        have ea:a'=a:=by have:=hc'.1;rw[hc.1] at this;simpa using this.symm
        have ev:vs'=vs:=by have:=hc'.2.1;rw[hc.2.1] at this;simpa using this.symm
        subst ea ev
        have hu:∃c,len≤c∧u=.slice (some a') len c:=by
         obtain⟨x,c,hp,hu,hcc⟩:=QeE hd
         rw[hc.1] at hp;simp only[Option.some.injEq] at hp;subst hp
         cases cap with
         | lit c'=>
          simp only at hcc hu
          subst hcc
          exact⟨c,Qag hb.2,by rw[hu,add_zero]⟩
         | hid j=>
          simp only at hcc hu
          have hj:=Qm hb.2
          subst hj
          refine⟨c,by omega,?_⟩
          rw[hu]
          have:(if E.c i=0 then 0 else 0)=0:=by split<;>rfl
          rw[this,add_zero]
        obtain⟨c,hc1,rfl⟩:=hu
        have ly:=QaN hl
        have hlen:len≤maxL:=by
         have:=Qag hb.1.2
         have e:maxL=9223372036854775807:=by unfold maxL;rfl
         omega
        have hro:RoIs (E.wz z') i cs a' vs':=⟨hc.1,QcO (Env.le_wz (E:=E) fun q hq=>e1 q (g1 q hq)) hc.2.1,hc.2.2.1,fun g hg=>by
         have:=(e3 g hg).take vs'.length
         rw[List.take_left] at this;exact this⟩
        refine⟨z',.l a' c es,th'.set i (.ro cs),fun q hq=>e1 q (g1 q hq),g2,e2.addRo hro,⟨?_,?_⟩,?_,g8 a' c hc1⟩
        ·simp only[wt];rw[ly]
         refine⟨by rw[g4];exact hc1,by rw[g4];exact hlen,fun e=>?_,g5⟩
         have:=QaQ hb.1.1
         rw[e] at this;cases this
        ·simp only[lies];rw[ly]
         refine⟨fun g hg=>?_,Qam (fun _ _=>(Env.le_wz (E:=E.wz z) e1).p.rd) g6⟩
         have:=((e3 g hg).take vs'.length).take (len * ks.length)
         rw[List.take_left] at this
         rw[g7];exact this
        ·simp only[LD.v,g4]
theorem QcE:∀ {a b:List LD}{k l:List CK},wtL a k→wtL b l→wtL (a++b) (k++l)
 | [],b,[],l,_,h=>h
 | _::_,_,[],_,h,_=>by simp only[wtL] at h
 | [],_,_::_,_,h,_=>by simp only[wtL] at h
 | a::aq,b,k::ks,l,h1,h2=>by
  simp only[wtL,List.cons_append] at h1 ⊢
  exact⟨h1.1,QcE h1.2 h2⟩
theorem Qmq {R:Addr→List Value→Prop}:∀ {a b:List LD}{k l:List CK},a.length=k.length→Q5 R a k→Q5 R b l→Q5 R (a++b) (k++l)
 | [],b,[],l,_,_,h=>h
 | _::_,_,[],_,h,_,_=>by cases h
 | [],_,_::_,_,h,_,_=>by cases h
 | a::aq,b,k::ks,l,e,h1,h2=>by
  simp only[Q5,List.cons_append] at h1 ⊢
  exact⟨h1.1,Qmq (by simpa using e) h1.2 h2⟩
theorem Qjv:∀ {a b:List LD}{k l:List CK},a.length=k.length→LD.vs (k++l) (a++b)=LD.vs k a++LD.vs l b
 | [],b,[],l,_=>rfl
 | _::_,_,[],_,h=>by cases h
 | [],_,_::_,_,h=>by cases h
 | a::aq,b,k::ks,l,e=>by simp only[List.cons_append,LD.vs];rw[Qjv (by simpa using e)]
theorem Qpq:∀ {a:List LD}{k:List CK}(n:Nat),wtL a k→wtL (a.take n) (k.take n)
 | _,_,0,_=>by simp only[List.take_zero,wtL]
 | [],[],n+1,h=>h
 | _::_,[],_+1,h=>by simp only[wtL] at h
 | [],_::_,_+1,h=>by simp only[wtL] at h
 | a::aq,k::ks,n+1,h=>by
  simp only[wtL,List.take_succ_cons] at h ⊢
  exact⟨h.1,Qpq n h.2⟩
theorem QBh:∀ {a:List LD}{k:List CK}(n:Nat),wtL a k→wtL (a.drop n) (k.drop n)
 | _,_,0,h=>h
 | [],[],n+1,h=>h
 | _::_,[],_+1,h=>by simp only[wtL] at h
 | [],_::_,_+1,h=>by simp only[wtL] at h
 | a::aq,k::ks,n+1,h=>by
  simp only[wtL,List.drop_succ_cons] at h ⊢
  exact QBh n h.2
theorem Qxq {R:Addr→List Value→Prop}:∀ {a:List LD}{k:List CK}(n:Nat),Q5 R a k→Q5 R (a.take n) (k.take n)
 | _,_,0,_=>by simp only[List.take_zero,Q5]
 | [],_,n+1,_=>by simp only[List.take_nil,Q5]
 | _::_,[],_+1,h=>by simp only[List.take_nil];cases ‹List LD›<;>simp only[List.take_succ_cons,Q5]
 | a::aq,k::ks,n+1,h=>by
  simp only[Q5,List.take_succ_cons] at h ⊢
  exact⟨h.1,Qxq n h.2⟩
theorem Qxr {R:Addr→List Value→Prop}:∀ {a:List LD}{k:List CK}(n:Nat),Q5 R a k→Q5 R (a.drop n) (k.drop n)
 | _,_,0,h=>h
 | [],_,n+1,_=>by simp only[List.drop_nil,Q5]
 | _::r,[],n+1,h=>by simp only[List.drop_nil,List.drop_succ_cons];cases r.drop n<;>simp only[Q5]
 | a::aq,k::ks,n+1,h=>by
  simp only[Q5,List.drop_succ_cons] at h ⊢
  exact Qxr n h.2
theorem QlN {ks:List CK}:∀ {a b:List LD},wtE a ks→wtE b ks→wtE (a++b) ks
 | [],_,_,h=>h
 | _::_,_,h,g=>by simp only[wtE,List.cons_append] at h ⊢;exact⟨h.1,QlN h.2 g⟩
theorem Qh6 {R:Addr→List Value→Prop}{ks:List CK}:∀ {a b:List LD},QI R a ks→QI R b ks→QI R (a++b) ks
 | [],_,_,h=>h
 | _::_,_,h,g=>by simp only[QI,List.cons_append] at h ⊢;exact⟨h.1,Qh6 h.2 g⟩
theorem Qps (ks:List CK)(a b:List LD):LD.vsE ks (a++b)=LD.vsE ks a++LD.vsE ks b:=by simp[LD.vsE]
theorem QDJ {ks:List CK}{e:LD}(he:wtT e ks):∀ {es:List LD}(j:Nat),wtE es ks→wtE (es.set j e) ks
 | [],_,h=>h
 | _::_,0,h=>by simp only[wtE,List.set_cons_zero] at h ⊢;exact⟨he,h.2⟩
 | _::_,j+1,h=>by simp only[wtE,List.set_cons_succ] at h ⊢;exact⟨h.1,QDJ he j h.2⟩
theorem QzC {R:Addr→List Value→Prop}{ks:List CK}{e:LD}(he:Qbz R e ks):∀ {es:List LD}(j:Nat),QI R es ks→QI R (es.set j e) ks
 | [],_,h=>h
 | _::_,0,h=>by simp only[QI,List.set_cons_zero] at h ⊢;exact⟨he,h.2⟩
 | _::_,j+1,h=>by simp only[QI,List.set_cons_succ] at h ⊢;exact⟨h.1,QzC he j h.2⟩
def LD.upd (d:LD)(off:Nat)(ds:List LD):LD:=.t (d.cs.take off++(ds++d.cs.drop (off+ds.length)))
theorem QHg (l xs:List Value)(j:Nat)(h:j+xs.length≤l.length):setAt l j xs=l.take j++(xs++l.drop (j+xs.length)):=by
 have e:l=l.take j++l.drop j:=(List.take_append_drop j l).symm
 have hl:(l.take j).length=j:=by simp;omega
 have:=QhK xs (l.take j) (l.drop j) (by simp;omega)
 rw[hl,←e] at this
 rw[this,List.drop_drop,List.append_assoc]
theorem QDQ {ks:List CK}{e:LD}:∀ {es:List LD}{j:Nat},wtE es ks→j<es.length→LD.vsE ks (es.set j e)=(LD.vsE ks es).take (j * ks.length)++(LD.vs ks e.cs++(LD.vsE ks es).drop (j * ks.length+ks.length))
 | a::es,0,h,_=>by
  simp only[wtE] at h
  have h1:=h.1
  cases a<;>simp only[wtT] at h1
  have h2:=(QaW h1).1
  simp only[List.set_cons_zero,LD.vsE,List.flatMap_cons,Nat.zero_mul,List.take_zero,List.nil_append,Nat.zero_add]
  rw[show ∀c,(LD.t c).cs=c from fun _=>rfl,List.drop_append_of_le_length (by omega),List.drop_of_length_le (Nat.le_of_eq h2),List.nil_append]
 | a::es,j+1,h,hj=>by
  simp only[wtE] at h
  have h1:=h.1
  cases a<;>simp only[wtT] at h1
  have h2:=(QaW h1).1
  have ih:=QDQ (e:=e) (j:=j) h.2 (by simpa using hj)
  simp only[List.set_cons_succ,LD.vsE,List.flatMap_cons] at ih ⊢
  rw[show ∀c,(LD.t c).cs=c from fun _=>rfl,ih,Nat.succ_mul]
  generalize List.flatMap (fun e=>LD.vs ks e.cs) es=V
  generalize LD.vs ks _=A at h2 ⊢
  rw[List.take_append,List.drop_append,List.take_of_length_le (l:=A) (by omega),List.drop_of_length_le (l:=A) (by omega),h2]
  have e1:j * ks.length+ks.length - ks.length=j * ks.length:=by omega
  have e2:j * ks.length+ks.length+ks.length - ks.length=j * ks.length+ks.length:=by omega
  rw[e1,e2,List.nil_append,List.append_assoc]
theorem QIM {R:Addr→List Value→Prop}{ks kl:List CK}{es ds:List LD}{us:List Value}{j off k:Nat}(w:wtE es ks)(li:QI R es ks)(hj:j<es.length)(hk:k≤(ks.drop off).length)(hkl:kl=(ks.drop off).take k)(wd:wtL ds kl)(ld:Q5 R ds kl)(hv:LD.vs kl ds=us) :
  wtE (es.set j ((es.getD j .nul).upd off ds)) ks∧QI R (es.set j ((es.getD j .nul).upd off ds)) ks∧LD.vsE ks (es.set j ((es.getD j .nul).upd off ds))=setAt (LD.vsE ks es) (j * ks.length+off) us:=by
 obtain⟨cs,q1,q2,q3,q4⟩:=QxG w li hj
 have hge:es.getD j .nul=.t cs:=by simp[List.getD,q1]
 rw[hge]
 rw[List.length_drop] at hk
 have hds:ds.length=k:=by rw[(QaW wd).2,hkl,List.length_take,List.length_drop];omega
 have hcl:=(QaW q2).2
 by_cases hk0:k=0
 ·subst hk0
  have hd0:ds=[]:=List.length_eq_zero_iff.1 hds
  subst hd0
  have e0:(LD.t cs).upd off []=.t cs:=by simp[LD.upd,LD.cs]
  have e1:es.set j (.t cs)=es:=by
   apply List.ext_getElem?
   intro i
   rw[List.getElem?_set]
   split
   ·rename_i e;subst e;first | rw[q1] | rw[if_pos hj,q1]
   ·rfl
  rw[e0,e1]
  refine⟨w,li,?_⟩
  rw[←hv,hkl]
  simp[LD.vs,setAt]
 have hko:off+k≤ks.length:=by omega
 have ek:ks=ks.take off++(kl++ks.drop (off+k)):=by
  rw[hkl,←List.drop_drop,List.take_append_drop,List.take_append_drop]
 have l1:(cs.take off).length=(ks.take off).length:=by simp[hcl]
 have w1:wtL (cs.take off++(ds++cs.drop (off+ds.length))) ks:=by
  rw[ek,hds]
  exact QcE (Qpq off q2) (QcE wd (QBh _ q2))
 have li1:Q5 R (cs.take off++(ds++cs.drop (off+ds.length))) ks:=by
  rw[ek,hds]
  exact Qmq l1 (Qxq off q3) (Qmq (QaW wd).2 ld (Qxr _ q3))
 refine⟨QDJ (e:=.t _) (by simp only[wtT];exact w1) j w,QzC (e:=.t _) (by simp only[Qbz];exact li1) j li,?_⟩
 have hvl:=QbS w
 have hus:us.length=k:=by rw[←hv,(QaW wd).1,←(QaW wd).2,hds]
 have hjk:j * ks.length+ks.length≤es.length * ks.length:=by rw[←Nat.succ_mul];exact Nat.mul_le_mul_right _ hj
 rw[QDQ w hj,QHg _ _ _ (by rw[hvl,hus];omega)]
 have evs:LD.vs ks (cs.take off++(ds++cs.drop (off+ds.length)))=(LD.vs ks cs).take off++(us++(LD.vs ks cs).drop (off+k)):=by
  have a1:LD.vs ks (cs.take off++(ds++cs.drop (off+ds.length)))=LD.vs (ks.take off) (cs.take off)++(LD.vs kl ds++LD.vs (ks.drop (off+k)) (cs.drop (off+k))):=by
   conv=>lhs;rw[ek,hds]
   rw[Qjv l1,Qjv (QaW wd).2]
  have a2:LD.vs ks cs=LD.vs (ks.take (off+k)) (cs.take (off+k))++LD.vs (ks.drop (off+k)) (cs.drop (off+k)):=by
   conv=>lhs;rw[←List.take_append_drop (off+k) ks,←List.take_append_drop (off+k) cs]
   rw[Qjv (by simp[hcl])]
  have a3:LD.vs ks cs=LD.vs (ks.take off) (cs.take off)++LD.vs (ks.drop off) (cs.drop off):=by
   conv=>lhs;rw[←List.take_append_drop off ks,←List.take_append_drop off cs]
   rw[Qjv l1]
  have b2:(LD.vs (ks.take (off+k)) (cs.take (off+k))).length=off+k:=by
   rw[(QaW (Qpq _ q2)).1];simp;omega
  have b3:(LD.vs (ks.take off) (cs.take off)).length=off:=by
   rw[(QaW (Qpq _ q2)).1];simp;omega
  have c1:(LD.vs ks cs).take off=LD.vs (ks.take off) (cs.take off):=by rw[a3,List.take_append_of_le_length (by omega),List.take_of_length_le (by omega)]
  have c2:(LD.vs ks cs).drop (off+k)=LD.vs (ks.drop (off+k)) (cs.drop (off+k)):=by rw[a2,List.drop_append_of_le_length (by omega),List.drop_of_length_le (by omega),List.nil_append]
  rw[a1,hv,c1,c2]
 show (LD.vsE ks es).take (j * ks.length)++(LD.vs ks (cs.take off++(ds++cs.drop (off+ds.length)))++(LD.vsE ks es).drop (j * ks.length+ks.length))=_
 rw[evs,←q4,hus]
 generalize LD.vsE ks es=V at *
 have t1:(((V.drop (j * ks.length)).take ks.length).take off)=(V.drop (j * ks.length)).take off:=by rw[List.take_take,Nat.min_eq_left (by omega)]
 have t2:V.take (j * ks.length+off)=V.take (j * ks.length)++(V.drop (j * ks.length)).take off:=List.take_add
 have t3:((V.drop (j * ks.length)).take ks.length).drop (off+k)++V.drop (j * ks.length+ks.length)=V.drop (j * ks.length+off+k):=by
  rw[List.drop_take,List.drop_drop]
  have e5:V.drop (j * ks.length+ks.length)=(V.drop (j * ks.length+(off+k))).drop (ks.length - (off+k)):=by rw[List.drop_drop];congr 1;omega
  rw[e5,List.take_append_drop];congr 1;omega
 rw[t1,t2,List.append_assoc,List.append_assoc,List.append_assoc,←t3]
theorem QK2 (k:CK)(d:LD):one (LD.v k d)=true:=by
 cases k<;>cases d<;>rfl
theorem QFx:∀(ks:List CK)(cs:List LD),∀y∈LD.vs ks cs,one y=true
 | [],_,y,h=>by cases ‹List LD›<;>cases h
 | _::_,[],y,h=>by cases h
 | k::ks,c::cs,y,h=>by
  simp only[LD.vs] at h
  rcases List.mem_cons.1 h with rfl | h
  ·exact QK2 _ _
  ·exact QFx ks cs y h
theorem Qtl (ks:List CK)(es:List LD):∀y∈LD.vsE ks es,one y=true:=fun y h=>by
 obtain⟨e,_,h⟩:=List.mem_flatMap.1 h
 exact QFx _ _ y h
variable {P:Program}
def elsX (t k:Nat)(ks:List CK)(x:FV)(th:TH)(K:List LD→TH→Prop):Prop:=match x with
 | .ds t' d=>bif Nat.beq t t' then K d.es th else False
 | .os _ i'=>match th.t.get i' with
  | some (.row t2 es')=>bif Nat.beq t t2 then K es' th else False
  | _=>False
 | x=>match appC th.t k x with
  | some q=>frzE (frz fzD) ks q.1 q.2 th K
  | none=>False
theorem QtI {t:Nat}{ks:List CK}(ly:Vb.ly[t]?=some ks){x:FV}{th:TH}{K:List LD→TH→Prop}(hx:elsX t ks.length ks x th K){E:Env}{h0 h:Heap}{L:List HP}{u:Value}(r:Rep E th h0 h L)(hd:den E x=some u) :
  ∃z es th',(∀q∈E.z,q∈z)∧th'.nx=th.nx∧Rep (E.wz z) th' h0 h L∧K es th'∧IsSl u es.length∧wtE es ks∧QI (E.wz z).rd es ks∧Rd h (Qc1 u) (LD.vsE ks es):=by
 have told:(match appC th.t ks.length x with
  | some q=>frzE (frz fzD) ks q.1 q.2 th K
  | none=>False)→∃z es th',(∀q∈E.z,q∈z)∧th'.nx=th.nx∧Rep (E.wz z) th' h0 h L∧K es th'∧IsSl u es.length∧wtE es ks∧QI (E.wz z).rd es ks∧Rd h (Qc1 u) (LD.vsE ks es):=fun hx=>by
  cases ha:appC th.t ks.length x with
  | none=>rw[ha] at hx;exact hx.elim
  | some q=>
   obtain⟨m,xs⟩:=q
   rw[ha] at hx
   simp only at hx
   obtain⟨us,A⟩:=QEy r hd ha
   obtain⟨z,es,th',g1,g2,g3,g4,g5,g6,g7,g8⟩:=QoW (QgB fzD) m xs th K hx E h0 h L us r A.den
   have e7:LD.vsE ks es=us:=by rw[g7,←A.len,List.take_length]
   exact⟨z,es,th',g1,g2,g3,g8,by rw[g4];exact A.sl,g5,g6,by rw[e7];exact A.rd⟩
 cases x<;>try (exact told hx)
 case ds t' d=>
  simp only[elsX] at hx
  cases hb:Nat.beq t t' with
  | false=>rw[hb] at hx;exact hx.elim
  | true=>
   rw[hb] at hx
   have e:=Qm hb
   subst e
   obtain⟨f,rfl⟩:=QgG hd
   have f1:=f.1
   have f2:=f.2
   refine⟨E.z,d.es,th,fun _ h=>h,rfl,r.self,hx,?_,?_,?_,?_⟩
   ·cases d<;>simp only[wt] at f1<;>exact⟨_,_,rfl⟩
   ·cases d<;>simp only[wt,LD.es,wtE] at f1 ⊢
    rw[ly] at f1;exact f1.2.2.2
   ·cases d<;>simp only[wt,lies,LD.es,QI] at f1 f2 ⊢
    rw[ly] at f2;exact f2.2
   ·cases d<;>simp only[wt] at f1
    ·exact .inl rfl
    ·simp only[lies] at f2
     rw[ly] at f2
     exact f2.1 h r.fz
 case os t' i'=>
  simp only[elsX] at hx
  cases hg:th.t.get i' with
  | none=>rw[hg] at hx;exact hx.elim
  | some ob=>
   rw[hg] at hx
   cases ob<;>try (exact hx.elim)
   rename_i t2 es'
   simp only at hx
   cases hb:Nat.beq t t2 with
   | false=>rw[hb] at hx;exact hx.elim
   | true=>
    rw[hb] at hx
    have e:=Qm hb
    subst e
    obtain⟨a,v,ks',hw,hsl,hrd,_⟩:=r.row hg
    have ek:ks'=ks:=by have:=hw.ly;rw[ly] at this;simpa using this.symm
    subst ek
    obtain⟨_,hs,_⟩:=Qe4 hd
    have ev:v=u:=hw.s.symm.trans hs
    subst ev
    exact⟨E.z,es',th,fun _ h=>h,rfl,r.self,hx,hsl,hw.wt,hw.li,hrd⟩
def apR (b:Nat)(t i:Nat)(n:Nat)(es':List LD)(th:TH)(K:FV→TH→Prop):Prop:=match th.t.get i with
 | some (.row t2 es)=>bif Nat.beq t t2 then (((es.length+n) * b≤140737488355328∧es.length+n≤4611686018427387904)∧K (.os t th.nx) ((th.del i).new (.row t (es++es')))) else False
 | _=>False
def apN (k b t:Nat)(x:FV)(th:TH)(K:FV→TH→Prop):Prop:=match lyG t with
 | some ks=>bif Nat.blt 0 k&&Nat.beq k ks.length then elsX t k ks x th fun es' th=>(es'.length * b≤140737488355328∧es'.length≤4611686018427387904)∧K (.os t th.nx) (th.new (.row t es')) else False
 | none=>False
def capT (cap:FCap)(len kk k csl:Nat):Bool:=match cap with
 | .lit c=>Nat.beq kk 0&&(Nat.beq csl (c * k)&&Nat.ble len c)
 | .hid j=>Nat.beq j 0&&(Nat.beq kk k&&Nat.ble (len * k) csl)
def apT2 (k b t i len:Nat)(cap:FCap)(es':List LD)(th:TH)(K:FV→TH→Prop):Prop:=match th.t.get i with
 | some (.cells cs kk)=>match lyG t with
  | some ks=>bif capT cap len kk k cs.length then frzE (frz fzD) ks len cs (th.del i) fun es0 th=>((len+es'.length) * b≤140737488355328∧len+es'.length≤4611686018427387904)∧K (.os t th.nx) (th.new (.row t (es0++es'))) else False
  | none=>False
 | _=>False
def apTT (k b t i len:Nat)(cap:FCap)(x:FV)(th:TH)(K:FV→TH→Prop):Prop:=match lyG t with
 | some ks=>bif Nat.blt 0 k&&Nat.beq k ks.length then elsX t k ks x th fun es' th=>apT2 k b t i len cap es' th K else False
 | none=>False
def xApR (k b:Nat)(s x:FV)(th:TH)(K:FV→TH→Prop):Prop:=match s with
 | .os t i=>match lyG t with
  | some ks=>bif Nat.blt 0 k&&Nat.beq k ks.length then elsX t k ks x th fun es' th=>apR b t i es'.length es' th K else False
  | none=>False
 | .nsl=>match x with
  | .ds t _=>apN k b t x th K
  | .os t _=>apN k b t x th K
  | _=>False
 | .ds t d=>match lyG t with
  | some ks=>bif Nat.blt 0 k&&Nat.beq k ks.length then elsX t k ks x th fun es' th=>d.cap<d.len+es'.length∧((d.len+es'.length) * b≤140737488355328∧d.len+es'.length≤4611686018427387904)∧K (.os t th.nx) (th.new (.row t (d.es++es'))) else False
  | none=>False
 | .sl i off offz len cap=>match off with
  | 0=>match offz with
   | 0=>match x with
    | .ds t d=>apTT k b t i len cap (.ds t d) th K
    | .os t j=>apTT k b t i len cap (.os t j) th K
    | _=>False
   | _=>False
  | _=>False
 | _=>False
theorem St.rowNil {h0 h:Heap}{L:List HP}(s:St h0 h L)(k:Nat):St h0 h (Row k (.slice none 0 0) 0 []::L):=
 ⟨s.1,fun _=>False,⟨by simp,.inl ⟨rfl,rfl⟩⟩,fun _ h=>h.elim,Sep.mono (fun _ h=>⟨h,fun h=>h⟩) s.2⟩
theorem QHp [Gd]{t e ty:TypeId}{k b:Nat}{z:Value} [Und P t (.slice e)] [u:Inf P e k b z]{h0 h:Heap}{x:Value}{n m cap:Nat}{a:Addr}{cs xs:List Value}{L:List HP}{K:Value→Heap→Prop}
  (s:St h0 h L) (hz:z.cells.size=k) (hk0:0<k) (hcs:cs.length=n * k) (hc:Rd h (.pointer (some a)) cs) (hgrow:cap<n+m) (hcap:n≤cap) (hx:IsSl x m) (hl:xs.length=m * k) (hr:Rd h (Qc1 x) xs)
  (hb:(n+m) * b≤140737488355328) (hb2:n+m≤4611686018427387904)
  (g:∀v' h',St h0 h' (Row k v' (n+m) (cs++xs)::L)→K v' h'):QbY P #[t,t] ty #[.slice (some a) n cap,x] h K:=by
 intro w hw
 obtain⟨i,hi,hk,hbb,hzz⟩:=u.info
 obtain⟨xa,xc,rfl⟩:=id hx
 have grown:∀w':World,Qx w w'→∀cap',n+m≤cap'→w'.heap=w.heap.push (.cells ((cs++xs).toArray++Builtin.zeroCells z.cells (cap' - (n+m))) e) →
   (Builtin.append_ #[t,t] ty #[.slice (some a) n cap,.slice xa m xc]).run P w=.ok (.slice (some ⟨w.heap.size,0,none⟩) (n+m) cap') w'→Qd9 P K w ((nv (Builtin.append_ #[t,t] ty #[.slice (some a) n cap,.slice xa m xc])).run P w):=by
  intro w' hs cap' hcap' hh hrun
  rw[QA hrun]
  refine⟨hs,?_⟩
  rw[hh,hw]
  refine g _ _ ?_
  have s0:=s.push (cs++xs++(Builtin.zeroCells z.cells (cap' - (n+m))).toList) e
  have e1:(cs++xs++(Builtin.zeroCells z.cells (cap' - (n+m))).toList).toArray=(cs++xs).toArray++Builtin.zeroCells z.cells (cap' - (n+m)):=by
   apply Array.ext';simp
  rw[e1] at s0
  exact s0.rowShut hcap' (by rw[Array.length_toList,Qc8,hz]) (by rw[List.length_append,hcs,hl,Nat.add_mul])
 have hm:0<m:=by omega
 obtain⟨xb,hxb⟩:∃xb,xa=some xb:=by
  cases xa with
  | some y=>exact⟨y,rfl⟩
  | none=>
   exfalso
   have hxs:xs=[]:=by
    rcases hr with h | ⟨_,_,hp,_⟩
    ·exact h
    ·simp[Qc1] at hp
   subst hxs
   rcases Nat.mul_eq_zero.1 hl.symm with h | h<;>omega
 subst hxb
 have hnews:∀j y,xs[j]?=some y→w.cell? (xb.add j)=some y:=fun j y hy=>by
  obtain⟨a',ha',hc⟩:=hr.at hy
  simp only[Qc1,padd,Value.pointer.injEq,Option.some.injEq] at ha'
  rw[Qee,hw,ha'];exact hc
 have holds:∀j y,cs[j]?=some y→w.cell? (a.add j)=some y:=fun j y hy=>by
  obtain⟨a',ha',hcc⟩:=hc.at hy
  simp only[padd,Value.pointer.injEq,Option.some.injEq] at ha'
  rw[Qee,hw,ha'];exact hcc
 have hr1:=run_append_grow (P:=P) w t ty e i z Und.eq hi hzz a n cap cs (by rw[hk];exact hcs) holds xb m xc xs (by rw[hk];exact hl) hnews hgrow (by omega) (growslice_fits hgrow (by rw[hbb];exact hb))
 refine grown (w.drew.alloc (.cells (cs.toArray++xs.toArray++Builtin.zeroCells z.cells (grownCap w (n+m) cap e - (n+m))) e)) ⟨rfl,rfl,rfl,fun _=>by first | exact Nat.le_refl _ | exact Nat.le_succ _ | exact Nat.le_add_right _ _⟩ (grownCap w (n+m) cap e) (grownCap_ge w (n+m) cap e) ?_ hr1
 show w.heap.push _=_
 congr 2
 first | rfl | simp
theorem QKT [Gd]{E:Env}{th:TH}{h0 h:Heap}{L:List HP}{t e ty:TypeId}{z:List FV}{i:TypeInfo}(r:Rep E th h0 h L)(hu:P.underlying t=some (.slice e))(hz:zrO P e=some z)(hi:P.info? e=some i)(hz0:0<z.length){s x:FV}{v u:Value}(hs:den E s=some v)(hd:den E x=some u)
  {K:FV→TH→Prop} (hx:xApR z.length i.bytes s x th K):QbY P #[t,t] ty #[v,u] h (Post E h0 L K):=by
 obtain⟨i',zv,inf,g1,g3,g4,g6⟩:=QIl hz
 rw[hi] at g1;simp only[Option.some.injEq] at g1;subst g1
 haveI:Und P t (.slice e):=⟨hu⟩
 have nilc:∀tt,apN z.length i.bytes tt x th K→v=.slice none 0 0→QbY P #[t,t] ty #[v,u] h (Post E h0 L K):=fun tt hx hv=>by
  subst hv
  unfold apN at hx
  cases hl:lyG tt with
  | none=>rw[hl] at hx;exact hx.elim
  | some ks=>
   rw[hl] at hx
   obtain⟨hb,hx⟩:=Q1 hx
   simp only[Bool.and_eq_true] at hb
   have ek:=Qm hb.2
   rw[ek] at hx
   have ly:=QaN hl
   obtain⟨q,es,th',c1,c2,c3,⟨⟨c4,c5⟩,c6⟩,c7,c8,c9,c10⟩:=QtI ly hx r hd
   have s0:=St.rowNil c3.st z.length
   refine QpV s0 g6 hz0 c7 (by rw[QbS c8,ek]) c10 (Qtl _ _) (by simpa using c4) (by simpa using c5) fun v' h' s'=>?_
   simp only[Nat.zero_add,List.nil_append] at s'
   have e:maxL=9223372036854775807:=by unfold maxL;rfl
   have ne:ks≠[]:=fun e=>by rw[e] at ek;rw[ek] at hz0;cases hz0
   obtain⟨a1,a2,a3⟩:=Rep.addW (E:=E.wz q) (th:=th') (t:=tt) (ks:=ks) c3.fr c3.eh c3.nx ly ne c8 c9 (by omega) (by rw[ek] at s';exact s')
   exact⟨_,_,_,(Env.le_wz c1).trans a1,a3,a2,c6⟩
 have sls:∀tt id len cap,apTT z.length i.bytes tt id len cap x th K→den E (.sl id 0 0 len cap)=some v→QbY P #[t,t] ty #[v,u] h (Post E h0 L K):=fun tt id len cap hx hs=>by
  unfold apTT at hx
  cases hl:lyG tt with
  | none=>rw[hl] at hx;exact hx.elim
  | some ks=>
   rw[hl] at hx
   obtain⟨hb,hx⟩:=Q1 hx
   simp only[Bool.and_eq_true] at hb
   have ek:=Qm hb.2
   have ly:=QaN hl
   rw[ek] at hx
   obtain⟨q,es',th',c1,c2,c3,c6,c7,c8,c9,c10⟩:=QtI ly hx r hd
   have ne:ks≠[]:=fun e=>by rw[e] at ek;rw[ek] at hz0;cases hz0
   have e:maxL=9223372036854775807:=by unfold maxL;rfl
   unfold apT2 at c6
   cases hg:th'.t.get id with
   | none=>rw[hg] at c6;exact c6.elim
   | some ob=>
    rw[hg] at c6
    cases ob<;>try (exact c6.elim)
    rename_i cs kk
    simp only[hl] at c6
    obtain⟨hcap,c6⟩:=Q1 c6
    obtain⟨a,vs,post,hc,_⟩:=c3.told hg
    obtain⟨z2,es0,th2,g1,g2,g3,g4,g5,gl,g7,⟨g8,g9⟩,g10⟩:=QoW (QgB fzD) len cs _ _ c6 (E.wz q) h0 h _ vs (c3.out hg) hc.2.1
    have s1:=g3.st.perm (List.perm_middle.symm.trans (List.Perm.append_left _ (.swap _ _ _))).symm
    obtain⟨y,s1⟩:=s1.ex
    obtain⟨hy,s1⟩:=s1.pure
    have ea:y.1=a:=by have:=hy.1;rw[hc.1] at this;simpa using this.symm
    have ev:y.2.1=vs:=by have:=hy.2.1;rw[hc.2.1] at this;simpa using this.symm
    rw[ea,ev] at s1
    have hlen:=QS hc.2.1
    have hsq:=QbR (Env.le_wz (E:=E) c1) hs
    have hv:∃c,len≤c∧v=.slice (some a) len c∧vs.length+y.2.2.length=c * ks.length:=by
     obtain⟨x',c,hp,hu',hcc⟩:=QeE hsq
     rw[hc.1] at hp;simp only[Option.some.injEq] at hp;subst hp
     cases cap with
     | lit c'=>
      simp only at hcc hu'
      subst hcc
      simp only[capT,Bool.and_eq_true] at hcap
      have k0:=Qm hcap.1
      have k1:=Qm hcap.2.1
      have k2:=Qag hcap.2.2
      have hp0:=(hy.2.2.2.1 k0).1
      exact⟨c,k2,by rw[hu',add_zero],by rw[hp0,List.length_nil,hlen,k1];rfl⟩
     | hid j=>
      simp only at hcc hu'
      simp only[capT,Bool.and_eq_true] at hcap
      have k0:=Qm hcap.1
      have k1:=Qm hcap.2.1
      subst k0
      have kn:kk≠0:=by rw[k1,←ek];omega
      have hp0:=hy.2.2.2.2 kn
      rw[ev,k1] at hp0
      obtain⟨hle,hce⟩:=hcc
      refine⟨c,by omega,?_,?_⟩
      ·rw[hu']
       have:(if (E.wz q).c id=0 then 0 else 0)=0:=by split<;>rfl
       rw[this,add_zero]
      ·rw[hp0,hce,Nat.sub_zero]
    obtain⟨c,v1,rfl,v3⟩:=hv
    have v4:len * ks.length≤vs.length:=by
     have:=QbS g5
     rw[g7,List.length_take,g4] at this
     omega
    have hsplit:vs++y.2.2=LD.vsE ks es0++(vs.drop (len * ks.length)++y.2.2):=by rw[g7,←List.append_assoc,List.take_append_drop]
    rw[hsplit] at s1
    have s2:=s1.rowShut (k:=ks.length) (n:=len) (cap:=c) v1 (by rw[List.length_append,List.length_drop,Nat.sub_mul];omega) (by rw[QbS g5,g4])
    rw[←ek] at s2
    refine QpV s2 g6 hz0 c7 (by rw[QbS c8,ek]) c10 (Qtl _ _) g8 g9 fun v' h' s'=>?_
    have le2:=Env.le_wz (E:=E.wz q) g1
    rw[←Qps,ek,show len+es'.length=(es0++es').length by rw[List.length_append,g4]] at s'
    obtain⟨a1,a2,a3⟩:=Rep.addW (E:=(E.wz q).wz z2) (th:=th2) (t:=tt) (ks:=ks) g3.fr g3.eh g3.nx ly ne (QlN g5 c8) (Qh6 gl (Qam (fun _ _ hh=>le2.1.rd hh) c9)) (by rw[List.length_append,g4];omega) s'
    exact⟨_,_,_,((Env.le_wz c1).trans le2).trans a1,a3,a2,g10⟩
 cases s<;>try (exact hx.elim)
 case sl id off offz len cap=>
  simp only[xApR] at hx
  cases off with
  | succ o=>exact hx.elim
  | zero=>
  cases offz with
  | succ o=>exact hx.elim
  | zero=>
   simp only at hx
   cases x<;>try (exact hx.elim)
   ·exact sls _ _ _ _ hx hs
   ·exact sls _ _ _ _ hx hs
 case ds tt d=>
  simp only[xApR] at hx
  cases hl:lyG tt with
  | none=>rw[hl] at hx;exact hx.elim
  | some ks=>
   rw[hl] at hx
   obtain⟨hb,hx⟩:=Q1 hx
   simp only[Bool.and_eq_true] at hb
   have ek:=Qm hb.2
   rw[ek] at hx
   have ly:=QaN hl
   obtain⟨q,es',th',c1,c2,c3,⟨c4,⟨c5,c6⟩,c66⟩,c7,c8,c9,c10⟩:=QtI ly hx r hd
   have ne:ks≠[]:=fun e=>by rw[e] at ek;rw[ek] at hz0;cases hz0
   have e:maxL=9223372036854775807:=by unfold maxL;rfl
   obtain⟨f,rfl⟩:=QgG hs
   obtain⟨f1,f2⟩:=f
   rcases d with x1 | x1 | x1 | _ | ⟨x1,x2⟩ | ⟨ad,cap,es⟩ | x1<;>simp only[wt] at f1
   ·have s0:=St.rowNil c3.st z.length
    simp only[LD.len,LD.es,List.length_nil,Nat.zero_add,List.nil_append] at c5 c6 c66
    refine QpV s0 g6 hz0 c7 (by rw[QbS c8,ek]) c10 (Qtl _ _) (by simpa using c5) (by simpa using c6) fun v' h' s'=>?_
    simp only[Nat.zero_add,List.nil_append] at s'
    obtain⟨a1,a2,a3⟩:=Rep.addW (E:=E.wz q) (th:=th') (t:=tt) (ks:=ks) c3.fr c3.eh c3.nx ly ne c8 c9 (by omega) (by rw[ek] at s';exact s')
    exact⟨_,_,_,(Env.le_wz c1).trans a1,a3,a2,c66⟩
   ·simp only[lies] at f2
    rw[ly] at f1 f2
    obtain⟨w1,w2,w3,w4⟩:=f1
    simp only[LD.len,LD.es,LD.cap] at c4 c5 c6 c66
    have hrd:=f2.1 h r.fz
    refine QHp (cap:=cap) c3.st g6 hz0 (by rw[QbS w4,ek]) hrd c4 w1 c7 (by rw[QbS c8,ek]) c10 c5 c6 fun v' h' s'=>?_
    rw[←Qps,←List.length_append,ek] at s'
    have li:QI (E.wz q).rd es ks:=Qam (fun _ _ hh=>(Env.le_wz (E:=E) c1).1.rd hh) f2.2
    obtain⟨a1,a2,a3⟩:=Rep.addW (E:=E.wz q) (th:=th') (t:=tt) (ks:=ks) c3.fr c3.eh c3.nx ly ne (QlN w4 c8) (Qh6 li c9) (by rw[List.length_append];omega) s'
    exact⟨_,_,_,(Env.le_wz c1).trans a1,a3,a2,c66⟩
 case nsl=>
  simp only[den,Option.some.injEq] at hs
  cases x<;>try (exact hx.elim)
  ·exact nilc _ hx hs.symm
  ·exact nilc _ hx hs.symm
 case os tt id=>
  simp only[xApR] at hx
  cases hl:lyG tt with
  | none=>rw[hl] at hx;exact hx.elim
  | some ks=>
   rw[hl] at hx
   obtain⟨hb,hx⟩:=Q1 hx
   simp only[Bool.and_eq_true] at hb
   have ek:=Qm hb.2
   rw[ek] at hx
   have ly:=QaN hl
   obtain⟨q,es',th',c1,c2,c3,c6,c7,c8,c9,c10⟩:=QtI ly hx r hd
   unfold apR at c6
   cases hg:th'.t.get id with
   | none=>rw[hg] at c6;exact c6.elim
   | some ob=>
    rw[hg] at c6
    cases ob<;>try (exact c6.elim)
    rename_i t2 es
    simp only at c6
    obtain⟨hb2,⟨c4,c5⟩,c66⟩:=Q1 c6
    have e2:=Qm hb2
    subst e2
    obtain⟨a,v1,ks',hw,s0⟩:=c3.toldW hg
    have ek':ks'=ks:=by have:=hw.ly;rw[ly] at this;simpa using this.symm
    subst ek'
    obtain⟨_,hs1,_⟩:=Qe4 (QbR (Env.le_wz (E:=E) c1) hs)
    have ev:v1=v:=hw.s.symm.trans hs1
    subst ev
    rw[←ek] at s0
    refine QpV s0 g6 hz0 c7 (by rw[QbS c8,ek]) c10 (Qtl _ _) c4 c5 fun v' h' s'=>?_
    have e:maxL=9223372036854775807:=by unfold maxL;rfl
    rw[←Qps,←List.length_append,ek] at s'
    have rdel:=c3.del hg
    obtain⟨a1,a2,a3⟩:=Rep.addW (E:=E.wz q) (th:=th'.del id) (t:=tt) (ks:=ks') c3.fr c3.eh rdel.nx ly hw.ne (QlN hw.wt c8) (Qh6 hw.li c9) (by rw[List.length_append];omega) s'
    exact⟨_,_,_,(Env.le_wz c1).trans a1,a3,a2,c66⟩
def xStR (k:Nat)(a v:FV)(th:TH)(K:FV→TH→Prop):Prop:=match a with
 | .oe t i j off=>match lyG t with
  | some ks=>match Qbb k (Qaz off ks) with
   | some kl=>bif QfE v&&Nat.blt 0 k then frzL (frz fzD) kl (QbI v) th fun ds th=>match th.t.get i with
    | some (.row t2 es)=>bif Nat.beq t t2 then K undF (th.set i (.row t (es.set j.toNat ((es.getD j.toNat .nul).upd off ds)))) else False
    | _=>False
    else False
   | none=>False
  | none=>False
 | _=>False
theorem QJ3 [Gd]{E:Env}{th:TH}{h0 h:Heap}{L:List HP}{t:TypeId}{k:Nat}(r:Rep E th h0 h L)(hk:szO P t=some k){a x:FV}{u v:Value}(hu:den E a=some u)(hv:den E x=some v){K:FV→TH→Prop}(hx:xStR k a x th K):QrW P t u v h (Post E h0 L K):=by
 cases a<;>try (exact hx.elim)
 rename_i tt id j off
 simp only[xStR] at hx
 cases hl:lyG tt with
 | none=>rw[hl] at hx;exact hx.elim
 | some ks=>
  rw[hl] at hx
  simp only at hx
  cases ht:Qbb k (Qaz off ks) with
  | none=>rw[ht] at hx;exact hx.elim
  | some kl=>
   rw[ht] at hx
   obtain⟨hb,hx⟩:=Q1 hx
   simp only[Bool.and_eq_true] at hb
   obtain⟨h5,h6⟩:=Qcd ht
   rw[Qbo] at h5 h6
   have ly:=QaN hl
   obtain⟨q,ds,th',c1,c2,c3,c4,c5,c6,c7⟩:=Qjf (QgB fzD) kl _ th _ hx E h0 h L _ r (QcN hv)
   cases hg:th'.t.get id with
   | none=>rw[hg] at c7;exact c7.elim
   | some ob=>
    rw[hg] at c7
    cases ob<;>try (exact c7.elim)
    rename_i t2 es
    simp only at c7
    obtain⟨hb2,c77⟩:=Q1 c7
    have e2:=Qm hb2
    subst e2
    obtain⟨a,v1,ks',hw,s0⟩:=c3.toldW hg
    have ek':ks'=ks:=by have:=hw.ly;rw[ly] at this;simpa using this.symm
    subst ek'
    obtain⟨b0,a1,len,c,g1,g2,g3,g4,rfl⟩:=Qo6 (QbR (Env.le_wz (E:=E) c1) hu)
    have ev:v1=.slice (some a1) len c:=hw.s.symm.trans g2
    subst ev
    have el:len=es.length:=by
     obtain⟨⟨_,_,h⟩,_,_⟩:=s0.row
     simp only[Value.slice.injEq] at h;exact h.2.1
    subst el
    have hz:szT tt=ks'.length:=by simp[szT,hw.ly]
    haveI:=QbA hk
    have hcl:v.cells.toList.length=k:=by rw[←c6,(QaW c4).1,h5,List.length_take];omega
    obtain⟨u1,u2,u3⟩:=QIM hw.wt hw.li (j:=j.toNat) (off:=off) (k:=k) (by omega) h6 h5 c4 c5 c6
    have hko:j.toNat * ks'.length+off+k≤(LD.vsE ks' es).length:=by
     rw[QbS hw.wt]
     rw[List.length_drop] at h6
     have:j.toNat * ks'.length+ks'.length≤es.length * ks'.length:=by rw[←Nat.succ_mul];exact Nat.mul_le_mul_right _ (by omega)
     have:=QaQ hb.2
     omega
    have hp:Value.pointer (some (a1.add (j.toNat * szT tt+off)))=padd (Qc1 (.slice (some a1) es.length c)) (j.toNat * ks'.length+off):=by rw[hz];rfl
    rw[hp]
    refine QIU s0 hcl hko (QaQ hb.2) (Qkm (QcN hv) (Qij hv (QjT hb.1))) fun h' s'=>?_
    rw[←u3] at s'
    have s2:St h0 h' (part (E.wz q) (id,.row tt (es.set j.toNat ((es.getD j.toNat .nul).upd off ds)))::((th'.t.del id).all.map (part (E.wz q))++(FzP (E.wz q).z::L))):=
     s'.imp fun S ho=>⟨(a,.slice (some a1) es.length c,ks'),⟨hw.p,hw.s,hw.ly,hw.ne,u1,u2,by simpa using hw.len⟩,by simpa using ho⟩
    exact⟨E.wz q,undF,_,Env.le_wz c1,Qhv _,Rep.put hg s2 c3.fr c3.eh,c77⟩
def evX (cl:FV→List FV→TH→(FV→TH→Prop)→Prop)(fr:Fr)(th:TH)(m:MOp)(K:FV→TH→Prop):Prop:=match m with
 | .st k a v=>match evO fr a with
  | some av=>match av with
   | .oe t i j off=>match evO fr v with
    | some v=>xStR k (.oe t i j off) v th K
    | none=>False
   | _=>evX0 cl fr th (.st k a v) K
  | none=>False
 | .app k b s x=>match evO fr s with
  | some sv=>match evO fr x with
   | some xv=>match sv with
    | .os t i=>xApR k b (.os t i) xv th K
    | .ds t d=>xApR k b (.ds t d) xv th K
    | .nsl=>match xv with
     | .ds t d=>xApR k b .nsl (.ds t d) th K
     | .os t i=>xApR k b .nsl (.os t i) th K
     | _=>evX0 cl fr th (.app k b s x) K
    | .sl i off offz len cap=>match xv with
     | .ds t d=>xApR k b (.sl i off offz len cap) (.ds t d) th K
     | .os t j=>xApR k b (.sl i off offz len cap) (.os t j) th K
     | _=>evX0 cl fr th (.app k b s x) K
    | _=>evX0 cl fr th (.app k b s x) K
   | none=>False
  | none=>False
 | m=>evX0 cl fr th m K
def QLg:MOp→Bool
 | .st _ _ _=>true
 | .app _ _ _ _=>true
 | _=>false
theorem QEq {o:Oper}{m:MOp}(hc:cop P o=some m)(he:QLg m=true):(∃t a v,o.op=.store t a v)∨∃args ats,o.op=.call ⟨.builtin .append,args,ats⟩:=by
 obtain⟨dst,op,type,pos,after,guard⟩:=o
 cases op<;>simp only[cop] at hc<;>try (cases hc;done)
 case typeAssert y xt a ok=>
  exfalso
  obtain⟨_,_,hc⟩:=bind_some hc
  obtain⟨_,_,hc⟩:=bind_some hc
  split at hc
  ·cases hc
  ·cases ok with
   | false=>cases hc
   | true=>simp only[Option.some.injEq] at hc;subst hc;cases he
 case move y=>
  exfalso
  obtain⟨_,_,hc⟩:=bind_some hc
  simp only[Option.some.injEq] at hc;subst hc;cases he
 case assign y=>
  exfalso
  obtain⟨_,_,hc⟩:=bind_some hc
  simp only[Option.some.injEq] at hc;subst hc;cases he
 case pick c a b=>
  exfalso
  obtain⟨_,_,hc⟩:=bind_some hc
  obtain⟨_,_,hc⟩:=bind_some hc
  obtain⟨_,_,hc⟩:=bind_some hc
  simp only[Option.some.injEq] at hc;subst hc;cases he
 case nilCheck y=>
  exfalso
  obtain⟨_,_,hc⟩:=bind_some hc
  simp only[Option.some.injEq] at hc;subst hc;cases he
 case binOp op t y z yt=>
  exfalso
  obtain⟨_,_,hc⟩:=bind_some hc
  obtain⟨_,_,hc⟩:=bind_some hc
  obtain⟨_,_,hc⟩:=bind_some hc
  split at hc
  ·simp only[Option.some.injEq] at hc;subst hc;cases he
  ·split at hc
   ·split at hc
    ·cases hc
    ·obtain⟨_,_,hc⟩:=bind_some hc
     cases op<;>simp only at hc<;>first | (cases hc;done) | (simp only[Option.some.injEq] at hc;subst hc;cases he)
   ·obtain⟨_,_,hc⟩:=bind_some hc
    cases op<;>simp only at hc<;>first | (cases hc;done) | (simp only[Option.some.injEq] at hc;subst hc;cases he)
 case unOp op t y=>
  exfalso
  obtain⟨_,_,hc⟩:=bind_some hc
  cases op<;>simp only at hc<;>first | (cases hc;done) | (simp only[Option.some.injEq] at hc;subst hc;cases he)
 case convert s d y=>
  exfalso
  obtain⟨_,_,hc⟩:=bind_some hc
  split at hc
  ·simp only[Option.some.injEq] at hc;subst hc;cases he
  ·cases hc
 case makeInterface t y=>
  exfalso
  obtain⟨_,_,hc⟩:=bind_some hc
  obtain⟨_,_,hc⟩:=bind_some hc
  split at hc
  ·cases hc
  ·simp only[Option.some.injEq] at hc;subst hc;cases he
 case makeFunc f a b=>
  exfalso
  obtain⟨_,_,hc⟩:=bind_some hc
  obtain⟨_,_,hc⟩:=bind_some hc
  simp only[Option.some.injEq] at hc;subst hc;cases he
 case slice t y lo hi mx=>
  exfalso
  obtain⟨_,_,hc⟩:=bind_some hc
  obtain⟨_,_,hc⟩:=bind_some hc
  obtain⟨_,_,hc⟩:=bind_some hc
  obtain⟨_,_,hc⟩:=bind_some hc
  split at hc
  ·obtain⟨_,_,hc⟩:=bind_some hc
   simp only[Option.some.injEq] at hc;subst hc;cases he
  ·split at hc
   ·simp only[Option.some.injEq] at hc;subst hc;cases he
   ·cases hc
  ·obtain⟨_,_,hc⟩:=bind_some hc
   simp only[Option.some.injEq] at hc;subst hc;cases he
  ·cases hc
 case fieldAddr t y i=>
  exfalso
  obtain⟨_,_,hc⟩:=bind_some hc
  split at hc
  ·obtain⟨_,_,hc⟩:=bind_some hc
   obtain⟨_,_,hc⟩:=bind_some hc
   split at hc
   ·simp only[Option.some.injEq] at hc;subst hc;cases he
   ·cases hc
  ·cases hc
 case field t y i=>
  exfalso
  obtain⟨_,_,hc⟩:=bind_some hc
  split at hc
  ·obtain⟨_,_,hc⟩:=bind_some hc
   obtain⟨_,_,hc⟩:=bind_some hc
   obtain⟨_,_,hc⟩:=bind_some hc
   simp only[Option.some.injEq] at hc;subst hc;cases he
  ·cases hc
 case indexAddr t y i=>
  exfalso
  obtain⟨_,_,hc⟩:=bind_some hc
  obtain⟨_,_,hc⟩:=bind_some hc
  split at hc
  ·obtain⟨_,_,hc⟩:=bind_some hc
   simp only[Option.some.injEq] at hc;subst hc;cases he
  ·obtain⟨_,_,hc⟩:=bind_some hc
   simp only[Option.some.injEq] at hc;subst hc;cases he
  ·cases hc
 case index t y i=>
  exfalso
  obtain⟨_,_,hc⟩:=bind_some hc
  obtain⟨_,_,hc⟩:=bind_some hc
  split at hc
  ·simp only[Option.some.injEq] at hc;subst hc;cases he
  ·obtain⟨_,_,hc⟩:=bind_some hc
   obtain⟨_,_,hc⟩:=bind_some hc
   simp only[Option.some.injEq] at hc;subst hc;cases he
  ·cases hc
 case extract y i=>
  exfalso
  obtain⟨_,_,hc⟩:=bind_some hc
  simp only[Option.some.injEq] at hc;subst hc;cases he
 case build t ps=>
  exfalso
  obtain⟨_,_,hc⟩:=bind_some hc
  split at hc
  ·obtain⟨_,_,hc⟩:=bind_some hc
   obtain⟨_,_,hc⟩:=bind_some hc
   obtain⟨_,_,hc⟩:=bind_some hc
   simp only[Option.some.injEq] at hc;subst hc;cases he
  ·obtain⟨_,_,hc⟩:=bind_some hc
   obtain⟨_,_,hc⟩:=bind_some hc
   simp only[Option.some.injEq] at hc;subst hc;cases he
  ·cases hc
 case load t y=>
  exfalso
  obtain⟨_,_,hc⟩:=bind_some hc
  obtain⟨_,_,hc⟩:=bind_some hc
  obtain⟨_,_,hc⟩:=bind_some hc
  split at hc
  ·simp only[Option.some.injEq] at hc;subst hc;cases he
  ·cases hc
 case lookup t y i ok=>
  exfalso
  obtain⟨_,_,hc⟩:=bind_some hc
  obtain⟨_,_,hc⟩:=bind_some hc
  split at hc
  ·obtain⟨_,_,hc⟩:=bind_some hc
   obtain⟨_,_,hc⟩:=bind_some hc
   simp only[Option.some.injEq] at hc;subst hc;cases he
  ·cases hc
 case makeMap t rr=>
  exfalso
  obtain⟨_,_,hc⟩:=bind_some hc
  split at hc
  ·obtain⟨_,_,hc⟩:=bind_some hc
   simp only[Option.some.injEq] at hc;subst hc;cases he
  ·cases hc
 case mapUpdate t m k v=>
  exfalso
  obtain⟨_,_,hc⟩:=bind_some hc
  obtain⟨_,_,hc⟩:=bind_some hc
  obtain⟨_,_,hc⟩:=bind_some hc
  split at hc
  ·obtain⟨_,_,hc⟩:=bind_some hc
   simp only[Option.some.injEq] at hc;subst hc;cases he
  ·cases hc
 case alloc t=>
  exfalso
  obtain⟨_,_,hc⟩:=bind_some hc
  simp only[Option.some.injEq] at hc;subst hc;cases he
 case box t y=>
  exfalso
  obtain⟨_,_,hc⟩:=bind_some hc
  simp only[Option.some.injEq] at hc;subst hc;cases he
 case range t y=>
  exfalso
  obtain⟨_,_,hc⟩:=bind_some hc
  split at hc
  ·simp only[Option.some.injEq] at hc;subst hc;cases he
  ·cases hc
 case next y b=>
  exfalso
  obtain⟨_,_,hc⟩:=bind_some hc
  cases b
  ·simp only[Option.some.injEq] at hc;subst hc;cases he
  ·cases hc
 case entry y=>
  exfalso
  obtain⟨_,_,hc⟩:=bind_some hc
  simp only[Option.some.injEq] at hc;subst hc;cases he
 case buildSlice t n ps=>
  exfalso
  obtain⟨_,_,hc⟩:=bind_some hc
  split at hc
  ·obtain⟨_,_,hc⟩:=bind_some hc
   split at hc
   ·simp only[Option.some.injEq] at hc;subst hc;cases he
   ·split at hc
    ·simp only[Option.some.injEq] at hc;subst hc;cases he
    ·cases hc
  ·cases hc
 case makeSlice t l c=>
  exfalso
  obtain⟨_,_,hc⟩:=bind_some hc
  obtain⟨_,_,hc⟩:=bind_some hc
  split at hc
  ·obtain⟨_,_,hc⟩:=bind_some hc
   obtain⟨_,_,hc⟩:=bind_some hc
   split at hc
   ·simp only[Option.some.injEq] at hc;subst hc;cases he
   ·cases hc
  ·cases hc
 case store t a v=>exact .inl ⟨t,a,v,rfl⟩
 case call c=>
  obtain⟨callee,args,ats⟩:=c
  cases callee<;>simp only at hc<;>try (exfalso;obtain⟨_,_,hc⟩:=bind_some hc;obtain⟨_,_,hc⟩:=bind_some hc;simp only[Option.some.injEq] at hc;subst hc;cases he;done)
  rename_i b
  cases b<;>simp only at hc<;>try (cases hc;done)
  case append=>exact .inr ⟨args,ats,rfl⟩
  case len=>
   exfalso
   split at hc
   ·obtain⟨_,_,hc⟩:=bind_some hc
    split at hc
    ·simp only[Option.some.injEq] at hc;subst hc;cases he
    ·simp only[Option.some.injEq] at hc;subst hc;cases he
    ·simp only[Option.some.injEq] at hc;subst hc;cases he
    ·cases hc
   ·cases hc
  case cap=>
   exfalso
   split at hc
   ·obtain⟨_,_,hc⟩:=bind_some hc
    split at hc
    ·simp only[Option.some.injEq] at hc;subst hc;cases he
    ·cases hc
   ·cases hc
  case min=>
   exfalso
   split at hc
   ·obtain⟨_,_,hc⟩:=bind_some hc
    obtain⟨_,_,hc⟩:=bind_some hc
    simp only[Option.some.injEq] at hc;subst hc;cases he
   ·cases hc
  case max=>
   exfalso
   split at hc
   ·obtain⟨_,_,hc⟩:=bind_some hc
    obtain⟨_,_,hc⟩:=bind_some hc
    simp only[Option.some.injEq] at hc;subst hc;cases he
   ·cases hc
theorem QKy [Gd]{cl:Cl}(hcl:ClOk P cl){E:Env}{th:TH}{h0 h:Heap}{L:List HP}{ρ:Operand→Value}{fr:Fr}{o:Oper}{m:MOp}{K:FV→TH→Prop}(r:Rep E th h0 h L)(hρ:AgO E fr ρ)(hc:cop P o=some m)(hx:evX cl fr th m K) :
  Sx P (execOp ρ o) h (Post E h0 L K):=by
 have old:evX0 cl fr th m K→Sx P (execOp ρ o) h (Post E h0 L K):=QJc hcl r hρ hc
 have X:opX P ρ o h (Post E h0 L K)→Sx P (execOp ρ o) h (Post E h0 L K):=QrR
 cases m<;>try (exact old hx)
 case st k a v=>
  rcases QEq hc rfl with⟨t',a',v',ho⟩ | ⟨args,ats,ho⟩
  ·obtain⟨dst,op,type,pos,after,guard⟩:=o
   simp only at ho;subst ho
   simp only[cop] at hc
   obtain⟨a2,h1,hc⟩:=bind_some hc
   obtain⟨v2,h2,hc⟩:=bind_some hc
   obtain⟨k2,h3,hc⟩:=bind_some hc
   simp only[Option.some.injEq,MOp.st.injEq] at hc
   obtain⟨rfl,rfl,rfl⟩:=hc
   simp only[evX] at hx
   cases ha:evO fr a2 with
   | none=>rw[ha] at hx;exact hx.elim
   | some av=>
    rw[ha] at hx
    cases av<;>try (exact old hx)
    rename_i t i j off
    simp only at hx
    cases hv:evO fr v2 with
    | none=>rw[hv] at hx;exact hx.elim
    | some vv=>
     rw[hv] at hx
     exact X (QJ3 r h3 (hρ a' a2 _ h1 ha) (hρ v' v2 _ h2 hv) hx)
  ·exfalso
   obtain⟨dst,op,type,pos,after,guard⟩:=o
   simp only at ho;subst ho
   simp only[cop] at hc
   split at hc
   ·obtain⟨_,_,hc⟩:=bind_some hc
    obtain⟨_,_,hc⟩:=bind_some hc
    split at hc
    ·obtain⟨_,_,hc⟩:=bind_some hc
     obtain⟨_,_,hc⟩:=bind_some hc
     split at hc
     ·simp only[Option.some.injEq] at hc;cases hc
     ·split at hc
      ·split at hc
       ·simp only[Option.some.injEq] at hc;cases hc
       ·cases hc
      ·cases hc
    ·cases hc
   ·cases hc
 case app k b s x=>
  rcases QEq hc rfl with⟨t',a',v',ho⟩ | ⟨args,ats,ho⟩
  ·exfalso
   obtain⟨dst,op,type,pos,after,guard⟩:=o
   simp only at ho;subst ho
   simp only[cop] at hc
   obtain⟨_,_,hc⟩:=bind_some hc
   obtain⟨_,_,hc⟩:=bind_some hc
   obtain⟨_,_,hc⟩:=bind_some hc
   simp only[Option.some.injEq] at hc;cases hc
  ·obtain⟨dst,op,type,pos,after,guard⟩:=o
   simp only at ho;subst ho
   simp only[cop] at hc
   obtain⟨al⟩:=args
   obtain⟨tl⟩:=ats
   match al,tl,hc with
   | [s1,y],[t,t'],hc=>
    simp only at hc
    obtain⟨s',h1,hc⟩:=bind_some hc
    obtain⟨y',h2,hc⟩:=bind_some hc
    cases hu:P.underlying t with
    | none=>rw[hu] at hc;cases hc
    | some d=>
     rw[hu] at hc
     cases d<;>try (cases hc;done)
     rename_i e
     obtain⟨z,hz,hc⟩:=bind_some hc
     obtain⟨i,hi,hc⟩:=bind_some hc
     split at hc
     ·rename_i hcond
      obtain⟨hzp,ht⟩:=hcond
      simp only[Option.some.injEq,MOp.app.injEq] at hc
      obtain⟨rfl,rfl,rfl,rfl⟩:=hc
      subst ht
      simp only[evX] at hx
      cases hsv:evO fr s' with
      | none=>rw[hsv] at hx;exact hx.elim
      | some sv=>
       cases hyv:evO fr y' with
       | none=>rw[hsv,hyv] at hx;exact hx.elim
       | some yv=>
        rw[hsv,hyv] at hx
        simp only at hx
        have new:xApR z.length i.bytes sv yv th K→Sx P _ h (Post E h0 L K):=fun hx=>X (show QbY P #[t,t] type #[ρ s1,ρ y] h _ from QKT r hu hz hi hzp (hρ s1 s' sv h1 hsv) (hρ y y' yv h2 hyv) hx)
        cases sv<;>try (exact old hx)
        ·cases yv<;>first | exact old hx | exact new hx
        ·cases yv<;>first | exact old hx | exact new hx
        ·exact new hx
        ·exact new hx
     ·exfalso
      split at hc
      ·split at hc
       ·simp only[Option.some.injEq] at hc;cases hc
       ·cases hc
      ·cases hc
end Go.Va
