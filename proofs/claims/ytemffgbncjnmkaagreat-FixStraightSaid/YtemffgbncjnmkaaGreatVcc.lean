import Derived.Test.YtemffgbncjnmkaaGreatVcb
set_option linter.unusedVariables false
set_option linter.unusedSectionVars false
set_option linter.unusedSimpArgs false
namespace Go.Va
open Go Go.Sh
variable [Vb]
noncomputable def thS (s:SPt)(ys:List LD):TH:=⟨QpG (tosO id (nthD ys) s.os 0 (ksPL s.ps).length) .nil,s.os.length,.nil⟩
theorem Qxf {n:Nat}{prs:Prs}:∀ {r:Prs},okA n prs r=true→∀q∈r,q.1<n∧lkA q.1 prs=some q.2
 | [],_,q,hq=>by cases hq
 | p::r,h,q,hq=>by
  simp only[okA,Bool.and_eq_true] at h
  rcases List.mem_cons.1 hq with rfl | hq
  ·refine⟨QaQ h.1.1,?_⟩
   have:=h.1.2
   cases hl:lkA q.1 prs with
   | none=>rw[hl] at this;cases this
   | some i=>rw[hl] at this;rw[Qm this]
  ·exact Qxf h.2 q hq
noncomputable def locE (E:Env)(prs:Prs)(n:Nat):Env:=⟨fun j=>if j<n then (match lkA j prs with
 | some i=>E.p i
 | none=>none) else none,fun j=>E.c (idsA prs j),fun _=>false,E.h,E.z,fun j=>E.s (idsA prs j)⟩
theorem QKk {E:Env}{prs:Prs}{n:Nat}(h:okA n prs prs=true):RnE (locE E prs n) E prs:=⟨rfl,fun _ h=>h,fun q hq=>by
 obtain⟨h1,h2⟩:=Qxf h q hq
 simp[locE,h1,h2,idsA]⟩
theorem Qzt:∀(l:List (Nat×TO))(t:Tr TO),(∀p∈l,t.get p.1=none)→(l.map (·.1)).Nodup→(QpG l t).all.Perm (l++t.all)
 | [],t,_,_=>.refl _
 | p::l,t,h,nd=>by
  simp only[List.map_cons,List.nodup_cons] at nd
  have:=Qzt l (t.put p.1 p.2) (fun q hq=>by
   have hne:q.1≠p.1:=fun e=>nd.1 (List.mem_map.2 ⟨q,hq,e⟩)
   rw[Tr.get_ne _ _ hne];exact h q (.tail _ hq)) nd.2
  refine this.trans ?_
  exact ((Tr.perm_new p.2 (h p (.head _))).append_left l).trans List.perm_middle
theorem Qzp (ids:Nat→Nat)(ys:Nat→LD):∀(os:List OP)(j n:Nat),(tosO ids ys os j n).map (·.1)=(List.range' j os.length).map ids
 | [],_,_=>rfl
 | o::r,j,n=>by simp[tosO,Qzp ids ys r,List.range'_succ]
theorem QDW (ys:Nat→LD)(os:List OP)(n:Nat):(QpG (tosO id ys os 0 n) .nil).all.Perm (tosO id ys os 0 n):=by
 have:=Qzt (tosO id ys os 0 n) .nil (fun _ _=>Tr.get_nil _) (by rw[Qzp];simp[List.nodup_range'])
 simpa [Tr.all] using this
theorem QE9 {a b:List LD}{n:Nat}(h:a.length=n):∀j d,b[j]?=some d→nthD (a++b) (n+j)=d:=fun j d hd=>by
 subst h
 simp only[nthD,List.getD]
 rw[List.getElem?_append_right (by omega)]
 simp[hd]
theorem QDm {a b:List LD}:∀j d,a[j]?=some d→nthD (a++b) (0+j)=d:=fun j d hd=>by
 simp only[nthD,List.getD,Nat.zero_add]
 rw[List.getElem?_append_left (List.getElem?_eq_some_iff.1 hd).1]
 simp[hd]
theorem QB1 {s:SPt}{prs0:Prs}{l:List FV}{th:TH}{K:List LD→Prs→TH→Prop}(hx:mtS s prs0 l th K){E:Env}{h0 h:Heap}{L:List HP}{us:List Value}(r:Rep E th h0 h L)(hd:denL E l=some us) :
  ∃F xs prs th' Ps,E.Le F∧K xs prs th'∧wtL xs s.ks∧okA s.os.length prs prs=true∧(∀q∈prs0,q∈prs)∧(∀j,j<s.os.length→∃i a,(j,i)∈prs∧F.p i=some a)∧Rep F th' h0 h (Ps++L) ∧
   Rep (locE F prs s.os.length) (thS s xs) h0 h (th'.t.all.map (part F)++L)∧denL (locE F prs s.os.length) (fvPL id (nthD xs) s.ps 0)=some us:=by
 unfold mtS at hx
 obtain⟨F1,ds,prs1,th1,g1,g3,g4,_,g6⟩:=QGd s.ps l th _ hx E h0 h L us r hd
 obtain⟨F,ds',prs,Ps,th2,e1,e3,e4,e5,e6,e7,e8⟩:=QoJ s.os 0 (prs0++prs1) th1 _ g6 F1 h0 h L g3
 cases hb:okA s.os.length prs prs with
 | false=>rw[hb] at e8;exact e8.elim
 | true=>
  rw[hb] at e8
  simp only[cond_true] at e8
  have rn:=QKk (E:=F) hb
  have hlen:=(QaW g4.1).2
  refine⟨F,ds++ds',prs,th2,Ps,g1.trans e1,e8,QcE g4.1 e4,hb,fun q hq=>e5 q (List.mem_append_left _ hq),fun j hj=>by
   obtain⟨i,a,h1,h2⟩:=e6 j hj
   exact⟨i,a,by simpa using h1,h2⟩,e3,⟨?_,fun i hi=>?_,e3.eh⟩,?_⟩
  ·have st:=e3.st.perm (show (th2.t.all.map (part F)++(FzP F.z::(Ps++L))).Perm (Ps++(FzP F.z::(th2.t.all.map (part F)++L))) by
    refine (List.Perm.append_left _ List.perm_middle.symm).trans ?_
    refine (List.perm_append_comm_assoc _ _ _).trans ?_
    exact List.Perm.append_left _ List.perm_middle)
   refine St.perm ⟨st.1,e7 (locE F prs s.os.length) rn (nthD (ds++ds')) (ksPL s.ps).length (QE9 hlen) _ _ st.2⟩ ?_
   exact ((QDW _ _ _).map _).symm.append_right _
  ·have:¬i<s.os.length:=Nat.not_lt.2 hi
   exact⟨by simp[locE,this],rfl⟩
  ·exact g4.2 F e1 _ (rn.sub fun q hq=>e5 q (List.mem_append_right _ hq)) _ 0 QDm
mutual
def okPt:Pt→Bool
 | .h _=>true
 | .x v=>cst v
 | .p _ _=>true
 | .m _ _ _=>true
 | .s _ _=>true
 | .f _ a b=>Qnv a&&Qnv b
 | .a l=>Qnv l
 | .i _ p=>okPt p
def Qnv:List Pt→Bool
 | []=>true
 | p::r=>okPt p&&Qnv r
end
def okOP:List OP→Bool
 | []=>true
 | .c l _::r=>Qnv l&&okOP r
 | _::r=>okOP r
def okSP (s:SPt):Bool:=Qnv s.ps&&okOP s.os
theorem QIT (ids:Nat→Nat)(ys:Nat→LD)(p:Pt)(n:Nat):oneF (fvP ids ys p n)=oneF (fvP id ys p n):=by cases p<;>rfl
theorem Qzi (ids:Nat→Nat)(ys:Nat→LD):∀(l:List Pt)(n:Nat),(fvPL ids ys l n).all oneF=(fvPL id ys l n).all oneF
 | [],_=>rfl
 | p::l,n=>by simp only[fvPL,List.all_cons,QIT ids ys p n,Qzi ids ys l]
structure GlE (F E:Env)(ids:Nat→Nat):Prop where
 p:∀j a,F.p j=some a→E.p (ids j)=some a∧E.c (ids j)=F.c j∧E.s (ids j)=F.s j
 h:E.h=F.h
 z:∀q∈F.z,q∈E.z
theorem QI2 {F E:Env}{ids:Nat→Nat}(g:GlE F E ids){k:CK}{d:LD}{u:Value}(h:den F (leaf k d)=some u):den E (leaf k d)=some u:=by
 cases k with
 | i k=>exact h
 | b=>exact h
 | s=>exact h
 | p t=>obtain⟨f,e⟩:=QsN h;rw[Qg2 (QA9 g.h g.z f),e]
 | l t=>obtain⟨f,e⟩:=QgG h;rw[Qg2 (QA9 g.h g.z f),e]
 | r t=>exact h
mutual
theorem QGC {F E:Env}{ids:Nat→Nat}(g:GlE F E ids)(ys:Nat→LD):∀(p:Pt)(n:Nat)(u:Value),okPt p=true→den F (fvP id ys p n)=some u→den E (fvP ids ys p n)=some u
 | .h k,n,u,_,h=>QI2 g h
 | .x v,n,u,ok,h=>by
  simp only[okPt] at ok
  simp only[fvP] at h ⊢
  rw[QCL E F ok];exact h
 | .p j o,n,u,_,h=>by
  simp only[fvP] at h ⊢
  obtain⟨a,h1,h2⟩:=Qca h
  have:=(g.p j a h1).1
  simp only[den,this,h2]
 | .m j t ag,n,u,_,h=>by
  simp only[fvP,den,id] at h ⊢
  cases hp:F.p j with
  | none=>rw[hp] at h;cases h
  | some a=>rw[hp] at h;rw[(g.p j a hp).1];exact h
 | .s j t,n,u,_,h=>by
  simp only[fvP] at h ⊢
  obtain⟨⟨a,h1⟩,h2,a',n',c',hv⟩:=Qe4 h
  have:=g.p j a h1
  simp only[den]
  rw[this.1,this.2.2]
  show (match F.s j with | .slice a n c=>some (Value.slice a n c) | _=>none)=some u
  have h2:F.s j=u:=h2
  rw[h2,hv]
 | .f f a b,n,u,ok,h=>by
  simp only[okPt,Bool.and_eq_true] at ok
  simp only[fvP] at h ⊢
  obtain⟨x,y,h1,h2,rfl⟩:=Qo7 h
  simp only[den,QlZ g ys a n x ok.1 h1,QlZ g ys b _ y ok.2 h2]
 | .a l,n,u,ok,h=>by
  simp only[okPt] at ok
  simp only[fvP,den] at h ⊢
  cases hl:denL F (fvPL id ys l n) with
  | none=>rw[hl] at h;cases h
  | some x=>
   rw[hl] at h
   simp only at h
   rw[QlZ g ys l n x ok hl,Qzi]
   exact h
 | .i t p,n,u,ok,h=>by
  simp only[okPt] at ok
  simp only[fvP,den] at h ⊢
  cases hl:den F (fvP id ys p n) with
  | none=>rw[hl] at h;cases h
  | some x=>rw[hl] at h;rw[QGC g ys p n x ok hl];exact h
theorem QlZ {F E:Env}{ids:Nat→Nat}(g:GlE F E ids)(ys:Nat→LD):∀(l:List Pt)(n:Nat)(us:List Value),Qnv l=true→denL F (fvPL id ys l n)=some us→denL E (fvPL ids ys l n)=some us
 | [],n,us,_,h=>h
 | p::l,n,us,ok,h=>by
  simp only[Qnv,Bool.and_eq_true] at ok
  simp only[fvPL] at h ⊢
  obtain⟨u,us',h1,h2,rfl⟩:=QR h
  exact Qau (QGC g ys p n u ok.1 h1) (QlZ g ys l _ us' ok.2 h2)
end
theorem QoV {F E:Env}{ids:Nat→Nat}(g:GlE F E ids)(ys:Nat→LD){h:Heap}{M:List HP}:∀(os:List OP)(j n:Nat)(U:Nat→Prop),okOP os=true→Sep h ((tosO id ys os j n).map (part F)++M) U→Sep h ((tosO ids ys os j n).map (part E)++M) U
 | [],j,n,U,_,s=>s
 | .r t::os,j,n,U,ok,s=>by
  simp only[okOP] at ok
  obtain⟨S,o1,o2,o3⟩:=s
  refine⟨S,?_,o2,QoV g ys os j.succ _ _ ok o3⟩
  obtain⟨x,hx,ho⟩:=o1
  have hx:Qju F j t (ys n).cs x.1 x.2.1 x.2.2:=hx
  have gp:=g.p j x.1 hx.p
  exact⟨x,⟨gp.1,gp.2.2.trans hx.s,hx.ly,hx.ne,hx.wt,Qam (fun _ _=>QlO g.h g.z) hx.li,hx.len⟩,ho⟩
 | .k t::os,j,n,U,ok,s=>by
  simp only[okOP] at ok
  obtain⟨S,o1,o2,o3⟩:=s
  refine⟨S,?_,o2,QoV g ys os j.succ _ _ ok o3⟩
  obtain⟨x,hx,ho⟩:=o1
  have hx:Qju F j t (ys n).cs x.1 x.2.1 x.2.2:=hx
  have gp:=g.p j x.1 hx.p
  exact⟨x,⟨gp.1,gp.2.2.trans hx.s,hx.ly,hx.ne,hx.wt,Qam (fun _ _=>QlO g.h g.z) hx.li,hx.len⟩,ho⟩
 | .m t ag::os,j,n,U,ok,s=>by
  simp only[okOP] at ok
  obtain⟨S,o1,o2,o3⟩:=s
  refine⟨S,?_,o2,QoV g ys os j.succ _ _ ok o3⟩
  obtain⟨x,hx,ho⟩:=o1
  have hx:MpIs F j t ag (ys n).cs x.1 x.2:=hx
  exact⟨x,⟨(g.p j x.1 hx.p).1,hx.ly,hx.one,hx.wt,Qam (fun _ _=>QlO g.h g.z) hx.li,hx.len⟩,ho⟩
 | .z t ag::os,j,n,U,ok,s=>by
  simp only[okOP] at ok
  obtain⟨S,o1,o2,o3⟩:=s
  refine⟨S,?_,o2,QoV g ys os j.succ _ _ ok o3⟩
  obtain⟨x,hx,ho⟩:=o1
  have hf:FzM F x.1.block ((ys n).cs.map (entM ag x.2)):=hx.2
  have hx:MpIs F j t ag (ys n).cs x.1 x.2:=hx.1
  exact⟨x,⟨⟨(g.p j x.1 hx.p).1,hx.ly,hx.one,hx.wt,Qam (fun _ _=>QlO g.h g.z) hx.li,hx.len⟩,hf.elim fun st hf=>hf.elim fun c hf=>⟨st,c,hf.1,g.z _ hf.2⟩⟩,ho⟩
 | .q j2 t ag::os,j,n,U,ok,s=>by
  simp only[okOP] at ok
  obtain⟨S,o1,o2,o3⟩:=s
  refine⟨S,?_,o2,QoV g ys os j.succ _ _ ok o3⟩
  obtain⟨x,hx,ho⟩:=o1
  have hx:ImIs F j j2 t ag (ys n).cs none x.a x.ma x.ks x.m x.st x.c x.dn:=hx
  obtain⟨g1,_,g2⟩:=g.p j x.a hx.p
  exact⟨x,⟨g1,(g.p j2 x.ma hx.pm).1,g2.trans hx.pin,hx.ly,hx.one,hx.wt,Qam (fun _ _=>QlO g.h g.z) hx.li,hx.ok,g.z _ hx.z,hx.sub,hx.all,hx.rst,hx.nd,hx.len,fun e h=>by cases h⟩,ho⟩
 | .c l k::os,j,n,U,ok,s=>by
  simp only[okOP,Bool.and_eq_true] at ok
  obtain⟨S,o1,o2,o3⟩:=s
  refine⟨S,?_,o2,QoV g ys os j.succ _ _ ok.2 o3⟩
  obtain⟨x,hx,ho⟩:=o1
  obtain⟨g1,g2,_⟩:=g.p j x.1 hx.1
  exact⟨x,⟨g1,QlZ g ys l n _ ok.1 hx.2.1,by rw[Qzi];exact hx.2.2.1,hx.2.2.2.1,fun hk=>by
   have:=hx.2.2.2.2 hk
   rw[this]
   show F.c j * k=E.c (ids j) * k
   rw[g2]⟩,ho⟩
theorem QBt {E:Env}{h0 h:Heap}{L:List HP}:∀(l:List (Nat×TO))(th:TH),Rep E th h0 h (l.map (part E)++L)→Rep E ⟨QpG l th.t,th.nx,th.scr⟩ h0 h L
 | [],th,r=>r
 | p::l,th,r=>QBt l ⟨th.t.put p.1 p.2,th.nx,th.scr⟩ (Rep.take r)
structure Env.LeK (I:List OP)(F G:Env):Prop where
 a:∀j a,QeV I j=true→F.p j=some a→G.p j=some a∧G.c j=F.c j∧G.s j=F.s j
 h:G.h=F.h
 z:∀q∈F.z,q∈G.z
theorem Env.LeK.trans {I:List OP}{E F G:Env}(x:Env.LeK I E F)(y:Env.LeK I F G):Env.LeK I E G:=
 ⟨fun j a hk hp=>by
  obtain⟨h1,h2,h3⟩:=x.a j a hk hp
  obtain⟨g1,g2,g3⟩:=y.a j a hk h1
  exact⟨g1,g2.trans h2,g3.trans h3⟩,y.h.trans x.h,fun q hq=>y.z q (x.z q hq)⟩
theorem QIf {E G:Env}{prs:Prs}{s:SPt}{I:List OP}{th:TH}{h0 h hh:Heap}{L Ps:List HP}{ys:List LD}(ok:okSP s=true)(hn:QgL I≤s.os.length)(hb:okA I.length prs prs=true)(hall:∀j,j<I.length→∃i a,(j,i)∈prs∧E.p i=some a)(r:Rep E th h0 hh (Ps++L))
  (le:Env.LeK I (locE E prs I.length) G) (rG:Rep G (thS s ys) h0 h (th.t.all.map (part E)++L)):let ids:=fun j=>bif QeV I j then idsA prs j else th.nx+j
  ∃F,E.Le F∧Rep F ⟨QpG (tosO ids (nthD ys) s.os 0 (ksPL s.ps).length) th.t,th.nx+s.os.length,th.scr⟩ h0 h L∧∀us,denL G (fvPL id (nthD ys) s.ps 0)=some us→denL F (fvPL ids (nthD ys) s.ps 0)=some us:=by
 intro ids
 simp only[okSP,Bool.and_eq_true] at ok
 have hlt:∀ {i a},E.p i=some a→i<th.nx:=fun {i a} hp=>by
  rcases Nat.lt_or_ge i th.nx with h | h
  ·exact h
  ·rw[(r.fr i h).1] at hp;cases hp
 let F:Env:=⟨fun i=>if th.nx≤i∧i<th.nx+s.os.length then G.p (i - th.nx) else E.p i,fun i=>if th.nx≤i∧i<th.nx+s.os.length then G.c (i - th.nx) else E.c i,E.r,E.h,G.z,fun i=>if th.nx≤i∧i<th.nx+s.os.length then G.s (i - th.nx) else E.s i⟩
 have hle:E.Le F:=⟨⟨fun i a hp=>by
   have:=hlt hp
   simp[F,hp,show ¬th.nx≤i by omega],rfl,le.z,fun i a hp=>by
   have:=hlt hp
   simp[F,show ¬th.nx≤i by omega]⟩,fun i hr=>by
  have:i<th.nx:=by
   rcases Nat.lt_or_ge i th.nx with h | h
   ·exact h
   ·rw[(r.fr i h).2] at hr;cases hr
  exact⟨by simp[F,show ¬th.nx≤i by omega],hr⟩⟩
 have g:GlE G F ids:=by
  refine⟨fun j a hp=>?_,le.h.symm,fun _ h=>h⟩
  by_cases hk:QeV I j=true
  ·have hj:=QCd hk
   obtain⟨i,a0,h1,h2⟩:=hall j hj
   obtain⟨_,h3⟩:=Qxf hb _ h1
   have e1:ids j=i:=by simp[ids,hk,idsA,h3]
   have e2:(locE E prs I.length).p j=some a0:=by simp[locE,hj,h3,h2]
   obtain⟨e3,e4,e5⟩:=le.a j a0 hk e2
   rw[hp] at e3;simp only[Option.some.injEq] at e3;subst e3
   have:=hlt h2
   rw[e1]
   refine⟨by simp[F,show ¬th.nx≤i by omega,h2],?_,?_⟩
   ·rw[e4]
    simp[F,show ¬th.nx≤i by omega,locE,idsA,h3]
   ·rw[e5]
    simp[F,show ¬th.nx≤i by omega,locE,idsA,h3]
  ·have hj2:j<s.os.length:=by
    rcases Nat.lt_or_ge j s.os.length with h | h
    ·exact h
    ·rw[(rG.fr j h).1] at hp;cases hp
   have e1:ids j=th.nx+j:=by simp[ids,hk]
   rw[e1]
   have e2:th.nx+j - th.nx=j:=by omega
   refine⟨?_,?_,?_⟩
   ·simp only[F]
    rw[if_pos ⟨by omega,by omega⟩,e2];exact hp
   ·simp only[F]
    rw[if_pos ⟨by omega,by omega⟩,e2]
   ·simp only[F]
    rw[if_pos ⟨by omega,by omega⟩,e2]
 refine⟨F,hle,?_,fun us hd=>QlZ g _ _ _ _ ok.1 hd⟩
 refine QBt _ ⟨th.t,th.nx+s.os.length,th.scr⟩ ⟨?_,fun i hi=>?_,r.eh⟩
 ·have st:=rG.st.perm (((QDW (nthD ys) s.os (ksPL s.ps).length).map (part G)).append_right _)
  have s2:=QoV g (nthD ys) s.os 0 (ksPL s.ps).length _ ok.2 st.2
  have s3:=(Sep.perm (show (((tosO ids (nthD ys) s.os 0 (ksPL s.ps).length).map (part F))++(FzP G.z::(th.t.all.map (part E)++L))).Perm (th.t.all.map (part E)++(FzP F.z::((tosO ids (nthD ys) s.os 0 (ksPL s.ps).length).map (part F)++L))) by
   refine (List.Perm.append_left _ List.perm_middle.symm).trans ?_
   refine (List.perm_append_comm_assoc _ _ _).trans ?_
   exact List.Perm.append_left _ List.perm_middle)) s2
  exact⟨rG.st.1,Sep.imps (fun x S=>Qcs hle.p) s3⟩
 ·have hi:th.nx+s.os.length≤i:=hi
  obtain⟨a,b⟩:=r.fr i (by omega)
  exact⟨by simp[F,a,show ¬i<th.nx+s.os.length by omega],b⟩
end Go.Va
