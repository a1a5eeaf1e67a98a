import Derived.Test.YtemffgbncjnmkaaGreatVx
set_option linter.unusedVariables false
set_option linter.unusedSectionVars false
set_option linter.unusedSimpArgs false
namespace Go.Va
open Go Go.Sh
variable [Vb]
structure RnE (F E:Env)(prs:Prs):Prop where
 hh:F.h=E.h
 hz:∀q∈E.z,q∈F.z
 hp:∀q∈prs,F.p q.1=E.p q.2∧F.c q.1=E.c q.2∧F.s q.1=E.s q.2
theorem QlO {F E:Env}(hh:F.h=E.h)(hz:∀q∈E.z,q∈F.z){a:Addr}{l:List Value}(r:E.rd a l):F.rd a l:=fun g hg=>r g ⟨fun b o hb=>hg.1 b o (by rw[hh];exact hb),fun q hq=>hg.2 q (hz q hq)⟩
theorem QA9 {F E:Env}(hh:F.h=E.h)(hz:∀q∈E.z,q∈F.z){d:LD}{k:CK}(f:Fz E d k):Fz F d k:=⟨f.1,Qr1 (fun _ _=>QlO hh hz) f.2⟩
theorem RnE.sub {F E:Env}{p q:Prs}(r:RnE F E q)(h:∀x∈p,x∈q):RnE F E p:=⟨r.hh,r.hz,fun x hx=>r.hp x (h x hx)⟩
theorem QCL (E F:Env){x:FV}(h:cst x=true):den E x=den F x:=by
 cases x<;>simp only[cst] at h<;>try (cases h;done)
 all_goals try rfl
 rename_i f a b
 cases a with
 | nil=>cases b with
  | nil=>rfl
  | cons _ _=>cases h
 | cons _ _=>cases h
theorem Qty {p:Pt}{v:FV}{q:List LD×Prs}(h:mtP p v=some q)(ho:oneF v=true)(ids:Nat→Nat)(ys:Nat→LD)(n:Nat):oneF (fvP ids ys p n)=true:=by
 cases p with
 | h k=>exact QvV _ _
 | x u=>
  simp only[mtP] at h
  cases hb:eqV u v&&cst u with
  | false=>rw[hb] at h;cases h
  | true=>
   simp only[Bool.and_eq_true] at hb
   rw[←QxI hb.1] at ho
   exact ho
 | p j o=>rfl
 | m j t g=>rfl
 | s j t=>rfl
 | f g a b=>rfl
 | a l=>
  simp only[mtP] at h
  cases v<;>try (cases h;done)
  cases ho
 | i t p=>rfl
theorem QdZ {ys:Nat→LD}{n:Nat}{a b:List LD}(h:∀j d,(a++b)[j]?=some d→ys (n+j)=d):(∀j d,a[j]?=some d→ys (n+j)=d)∧∀j d,b[j]?=some d→ys (n+a.length+j)=d:=by
 refine⟨fun j d hj=>h j d ?_,fun j d hj=>?_⟩
 ·rw[List.getElem?_append_left (List.getElem?_eq_some_iff.1 hj).1];exact hj
 ·have:=h (a.length+j) d (by rw[List.getElem?_append_right (by omega)];simpa using hj)
  rw[←this];congr 1;omega
mutual
theorem QjU {E:Env}:∀ {p:Pt}{v:FV}{q:List LD×Prs}{u:Value},mtP p v=some q→den E v=some u →
  wtL q.1 (ksP p)∧∀F,RnE F E q.2→∀ys n,(∀j d,q.1[j]?=some d→ys (n+j)=d)→den F (fvP id ys p n)=some u
 | .h k,v,q,u,h,hd=>by
  simp only[mtP] at h
  cases ht:toLD k v with
  | none=>rw[ht] at h;cases h
  | some d=>
   rw[ht] at h;simp only[Option.some.injEq] at h;subst h
   obtain⟨f1,f2⟩:=Qtn ht hd
   refine⟨by simp only[ksP,wtL];exact⟨f1.1,trivial⟩,fun F r ys n ha=>?_⟩
   have:=ha 0 d rfl
   simp only[fvP]
   rw[show ys n=d from this,Qg2 (QA9 r.hh r.hz f1),f2]
 | .x w,v,q,u,h,hd=>by
  simp only[mtP] at h
  cases hb:eqV w v&&cst w with
  | false=>rw[hb] at h;cases h
  | true=>
   rw[hb] at h;simp only[cond_true,Option.some.injEq] at h;subst h
   simp only[Bool.and_eq_true] at hb
   refine⟨by simp only[ksP,wtL],fun F r ys n ha=>?_⟩
   simp only[fvP]
   rw[QCL F E hb.2,QxI hb.1];exact hd
 | .p j o,v,q,u,h,hd=>by
  simp only[mtP] at h
  cases v<;>try (cases h;done)
  rename_i i o'
  simp only at h
  cases hb:Nat.beq o o' with
  | false=>rw[hb] at h;cases h
  | true=>
   rw[hb] at h;simp only[cond_true,Option.some.injEq] at h;subst h
   have e:=Qm hb
   subst e
   refine⟨by simp only[ksP,wtL],fun F r ys n ha=>?_⟩
   obtain⟨a,h1,h2⟩:=Qca hd
   have h3:=(r.hp (j,i) (.head _)).1
   simp only[fvP,den,id]
   rw[show F.p j=E.p i from h3,h1,h2]
 | .m j t g,v,q,u,h,hd=>by
  simp only[mtP] at h
  cases v<;>try (cases h;done)
  rename_i i
  simp only[Option.some.injEq] at h;subst h
  refine⟨by simp only[ksP,wtL],fun F r ys n ha=>?_⟩
  have h3:=(r.hp (j,i) (.head _)).1
  simp only[fvP,den,id] at hd ⊢
  rw[show F.p j=E.p i from h3];exact hd
 | .s j t,v,q,u,h,hd=>by
  simp only[mtP] at h
  cases v<;>try (cases h;done)
  rename_i t' i
  simp only at h
  cases hb:Nat.beq t t' with
  | false=>rw[hb] at h;cases h
  | true=>
   rw[hb] at h;simp only[cond_true,Option.some.injEq] at h;subst h
   have e:=Qm hb
   subst e
   refine⟨by simp only[ksP,wtL],fun F r ys n ha=>?_⟩
   obtain⟨⟨a,h1⟩,h2,a',n',c',hv⟩:=Qe4 hd
   have h3:=r.hp (j,i) (.head _)
   simp only[fvP,den,id]
   rw[show F.p j=E.p i from h3.1,h1,show F.s j=E.s i from h3.2.2,h2,hv]
 | .f g a b,v,q,u,h,hd=>by
  simp only[mtP] at h
  cases v<;>try (cases h;done)
  rename_i g' a' b'
  simp only at h
  cases hb:keqF g g' with
  | false=>rw[hb] at h;cases h
  | true=>
   rw[hb] at h
   simp only[cond_true] at h
   have e:=QGw hb
   subst e
   obtain⟨x,y,h1,h2,rfl⟩:=Qo7 hd
   cases ha:mtL a a' with
   | none=>rw[ha] at h;cases h
   | some q1=>
    cases hb':mtL b b' with
    | none=>rw[ha,hb'] at h;cases h
    | some q2=>
     rw[ha,hb'] at h;simp only[Option.some.injEq] at h;subst h
     obtain⟨w1,f1⟩:=Qxn ha h1
     obtain⟨w2,f2⟩:=Qxn hb' h2
     refine⟨by simp only[ksP];exact QcE w1 w2,fun F r ys n hag=>?_⟩
     obtain⟨g1,g2⟩:=QdZ hag
     have r1:=f1 F (r.sub fun x hx=>List.mem_append_left _ hx) ys n g1
     have r2:=f2 F (r.sub fun x hx=>List.mem_append_right _ hx) ys (n+(ksPL a).length) (by rw[←(QaW w1).2];exact g2)
     simp only[fvP,den,r1,r2]
 | .a l,v,q,u,h,hd=>by
  simp only[mtP] at h
  cases v<;>try (cases h;done)
  rename_i l'
  simp only at h
  simp only[den] at hd
  cases hl:denL E l' with
  | none=>rw[hl] at hd;cases hd
  | some x=>
   rw[hl] at hd
   simp only at hd
   by_cases ho:l'.all oneF=true
   ·rw[if_pos ho] at hd;simp only[Option.some.injEq] at hd;subst hd
    obtain⟨w1,f1⟩:=Qxn h hl
    refine⟨by simp only[ksP];exact w1,fun F r ys n hag=>?_⟩
    simp only[fvP,den,f1 F r ys n hag]
    rw[if_pos (QD7 h ho id ys n)]
   ·rw[if_neg ho] at hd;cases hd
 | .i t p,v,q,u,h,hd=>by
  simp only[mtP] at h
  cases v<;>try (cases h;done)
  rename_i t' v
  simp only at h
  cases hb:Nat.beq t t' with
  | false=>rw[hb] at h;cases h
  | true=>
   rw[hb] at h
   simp only[cond_true] at h
   have e:=Qm hb
   subst e
   simp only[den] at hd
   cases hv:den E v with
   | none=>rw[hv] at hd;cases hd
   | some x=>
    rw[hv] at hd
    obtain⟨w1,f1⟩:=QjU h hv
    refine⟨by simp only[ksP];exact w1,fun F r ys n hag=>?_⟩
    simp only[fvP,den,f1 F r ys n hag];exact hd
theorem Qxn {E:Env}:∀ {l:List Pt}{vs:List FV}{q:List LD×Prs}{us:List Value},mtL l vs=some q→denL E vs=some us →
  wtL q.1 (ksPL l)∧∀F,RnE F E q.2→∀ys n,(∀j d,q.1[j]?=some d→ys (n+j)=d)→denL F (fvPL id ys l n)=some us
 | [],vs,q,us,h,hd=>by
  cases vs with
  | cons _ _=>simp[mtL] at h
  | nil=>
   simp only[mtL,Option.some.injEq] at h;subst h
   simp only[denL,Option.some.injEq] at hd;subst hd
   exact⟨by simp only[ksPL,wtL],fun F r ys n ha=>rfl⟩
 | p::l,vs,q,us,h,hd=>by
  cases vs with
  | nil=>simp[mtL] at h
  | cons v vs=>
   simp only[mtL] at h
   obtain⟨u,us',h1,h2,rfl⟩:=QR hd
   cases ha:mtP p v with
   | none=>rw[ha] at h;cases h
   | some q1=>
    cases hb':mtL l vs with
    | none=>rw[ha,hb'] at h;cases h
    | some q2=>
     rw[ha,hb'] at h;simp only[Option.some.injEq] at h;subst h
     obtain⟨w1,f1⟩:=QjU ha h1
     obtain⟨w2,f2⟩:=Qxn hb' h2
     refine⟨by simp only[ksPL];exact QcE w1 w2,fun F r ys n hag=>?_⟩
     obtain⟨g1,g2⟩:=QdZ hag
     have r1:=f1 F (r.sub fun x hx=>List.mem_append_left _ hx) ys n g1
     have r2:=f2 F (r.sub fun x hx=>List.mem_append_right _ hx) ys (n+(ksP p).length) (by rw[←(QaW w1).2];exact g2)
     simp only[fvPL]
     exact Qau r1 r2
theorem QD7:∀ {l:List Pt}{vs:List FV}{q:List LD×Prs},mtL l vs=some q→vs.all oneF=true→∀(ids:Nat→Nat)(ys:Nat→LD)(n:Nat),(fvPL ids ys l n).all oneF=true
 | [],vs,q,h,_,ids,ys,n=>rfl
 | p::l,vs,q,h,ho,ids,ys,n=>by
  cases vs with
  | nil=>simp[mtL] at h
  | cons v vs=>
   simp only[mtL] at h
   simp only[List.all_cons,Bool.and_eq_true] at ho
   cases ha:mtP p v with
   | none=>rw[ha] at h;cases h
   | some q1=>
    cases hb':mtL l vs with
    | none=>rw[ha,hb'] at h;cases h
    | some q2=>
     simp only[fvPL,List.all_cons,Bool.and_eq_true]
     exact⟨Qty ha ho.1 ids ys n,QD7 hb' ho.2 ids ys _⟩
end
def Fit (E:Env)(ps:List Pt)(us:List Value)(ds:List LD)(prs:Prs):Prop:=
 wtL ds (ksPL ps)∧∀F,E.Le F→∀G,RnE G F prs→∀ys n,(∀j d,ds[j]?=some d→ys (n+j)=d)→denL G (fvPL id ys ps n)=some us
def AgOk (ag:Pt→FV→TH→(List LD→Prs→TH→Prop)→Prop):Prop:=∀p v th K,ag p v th K→∀E h0 h L u,Rep E th h0 h L→den E v=some u →
  ∃F ds prs th',E.Le F∧Rep F th' h0 h L∧Fit F [p] [u] ds prs∧(oneF v=true→∀ids ys n,oneF (fvP ids ys p n)=true)∧K ds prs th'
theorem Fit.one {E:Env}{p:Pt}{u:Value}{ds:List LD}{prs:Prs}(f:Fit E [p] [u] ds prs):wtL ds (ksP p)∧∀F,E.Le F→∀G,RnE G F prs→∀ys n,(∀j d,ds[j]?=some d→ys (n+j)=d)→den G (fvP id ys p n)=some u:=by
 refine⟨by have:=f.1;simpa only [ksPL,List.append_nil] using this,fun F hF G rG ys n hag=>?_⟩
 have:=f.2 F hF G rG ys n hag
 simp only[fvPL] at this
 obtain⟨u1,us,h1,_,h3⟩:=QR this
 simp only[List.cons.injEq] at h3
 rw[h1,h3.1]
theorem Fit.cons {E F:Env}{p:Pt}{l:List Pt}{u:Value}{us:List Value}{ds ds':List LD}{prs prs':Prs}(f:Fit E [p] [u] ds prs)(le:E.Le F)(g:Fit F l us ds' prs'):Fit F (p::l) (u::us) (ds++ds') (prs++prs'):=by
 obtain⟨w1,f1⟩:=f.one
 refine⟨by simp only[ksPL];exact QcE w1 g.1,fun F2 hF G rF ys n hag=>?_⟩
 obtain⟨a1,a2⟩:=QdZ hag
 have r1:=f1 F2 (le.trans hF) G (rF.sub fun x hx=>List.mem_append_left _ hx) ys n a1
 have r2:=g.2 F2 hF G (rF.sub fun x hx=>List.mem_append_right _ hx) ys (n+(ksP p).length) (by rw[←(QaW w1).2];exact a2)
 simp only[fvPL]
 exact Qau r1 r2
theorem QGX:AgOk ag0:=fun p v th K hx E h0 h L u r hd=>by
 unfold ag0 at hx
 cases hq:mtP p v with
 | none=>rw[hq] at hx;exact hx.elim
 | some q=>
  rw[hq] at hx
  obtain⟨w1,_⟩:=QjU hq hd
  refine⟨E,q.1,q.2,th,Env.Le.refl E,r,⟨by simpa only [ksPL,List.append_nil] using w1,fun F2 hF G rF ys n hag=>?_⟩,fun ho ids ys n=>Qty hq ho ids ys n,hx⟩
  have r1:=(QjU hq (QbR hF hd)).2 G rF ys n hag
  simp only[fvPL]
  exact Qau r1 rfl
theorem Qacd {E:Env}{th:TH}{h0 h:Heap}{L:List HP}(r:Rep E th h0 h L){t k i off offz len:Nat}{cap:FCap}{cs:List FV}{ks:List CK}{u:Value}(hl:lyG t=some ks)(h1:den E (.sl i off offz len cap)=some u)(hg:th.t.get i=some (.cells cs k)){K:Nat→TH→Prop}(hx:slR t ks k i off offz len cap cs th K) :
  ∃F id th1,E.Le F∧Rep F th1 h0 h L∧den F (.os t id)=some u∧K id th1:=by
 unfold slR at hx
 cases hb:emptyS off offz len cap cs&&(Nat.beq ks.length k&&Nat.blt 0 ks.length) with
 | true=>
  rw[hb] at hx
  have hx2:K th.nx ((th.del i).new (.row t [])):=hx
  simp only[Bool.and_eq_true] at hb
  obtain⟨hb1,hb2,hb3⟩:=hb
  obtain⟨rfl,rfl,rfl,rfl,rfl⟩:=QHE hb1
  have hk:=Qm hb2
  subst hk
  have ne:ks≠[]:=fun e=>by rw[e] at hb3;cases hb3
  obtain⟨a,c,p1,p2,p3⟩:=QeE h1
  obtain⟨a',vs',post,hc,s⟩:=r.told hg
  have hc1:E.p i=some a':=hc.1
  rw[p1,Option.some.injEq] at hc1
  subst hc1
  have hv':vs'=[]:=by have:=hc.2.1;simp only[denL,Option.some.injEq] at this;exact this.symm
  subst hv'
  have hne:ks.length≠0:=fun e=>ne (List.eq_nil_of_length_eq_zero e)
  have hcl:([]:List Value).length+post.length=E.c i * ks.length:=hc.2.2.2.2 hne
  have hu:u=.slice (some (a.add 0)) 0 (E.c i):=by
   rw[p2,p3.2]
   show Value.slice (some (a.add (if E.c i=0 then 0 else 0))) 0 (E.c i - 0)=_
   rw[ite_self,Nat.sub_zero]
  have s2:St h0 h (Row ks.length u 0 []::((th.t.del i).all.map (part E)++(FzP E.z::L))):=s.imp fun S hS=>⟨by simp,.inr ⟨a.add 0,E.c i,post,hu,Nat.zero_le _,by simpa using hcl,by
   have e0:a.add 0=a:=by obtain⟨b,o,sp⟩:=a;cases sp<;>rfl
   rw[e0];exact hS⟩⟩
  have rd:=r.del hg
  obtain⟨a1,a2,a3⟩:=Rep.addW (E:=E) (th:=th.del i) (t:=t) (ks:=ks) (es:=[]) rd.fr rd.eh rd.nx (QaN hl) ne (by simp only[wtE]) (by simp only[QI]) (by simp) s2
  exact⟨_,_,_,a1,a2,a3,hx2⟩
 | false=>
  rw[hb] at hx
  obtain⟨hb2,hx2⟩:=Q1 (show bif (Nat.beq off 0&&Nat.beq offz 0)&&(capT cap len k ks.length cs.length&&(Nat.blt 0 ks.length&&Nat.ble len 1000000)) then frzE (frz fzD) ks len cs (th.del i) (fun es th=>K th.nx (th.new (.row t es))) else False from hx)
  simp only[Bool.and_eq_true] at hb2
  obtain⟨⟨q1,q2⟩,hcap,hb3,hb4⟩:=hb2
  have o1:=Qm q1
  have o2:=Qm q2
  subst o1 o2
  have ne:ks≠[]:=fun e=>by rw[e] at hb3;cases hb3
  have hk0:0<ks.length:=List.length_pos_iff.2 ne
  have e:maxL=9223372036854775807:=by unfold maxL;rfl
  have ly:=QaN hl
  obtain⟨a,vs,post,hc,_⟩:=r.told hg
  obtain⟨z2,es0,th2,g1,g2,g3,g4,g5,gl,g7,g10⟩:=QoW (QgB fzD) len cs _ _ hx2 E h0 h _ vs (r.out hg) hc.2.1
  have s1:=g3.st.perm (List.perm_middle.symm.trans (List.Perm.append_left _ (.swap _ _ _))).symm
  obtain⟨y,s1⟩:=s1.ex
  obtain⟨hy,s1⟩:=s1.pure
  have ea:y.1=a:=by have:=hy.1;rw[hc.1] at this;simpa using this.symm
  have ev:y.2.1=vs:=by have:=hy.2.1;rw[hc.2.1] at this;simpa using this.symm
  rw[ea,ev] at s1
  have hlen:=QS hc.2.1
  have hv:∃c,len≤c∧u=.slice (some a) len c∧vs.length+y.2.2.length=c * ks.length:=by
   obtain⟨x',c,hp,hu',hcc⟩:=QeE h1
   rw[hc.1] at hp;simp only[Option.some.injEq] at hp;subst hp
   cases cap with
   | lit c'=>
    simp only at hcc hu'
    subst hcc
    simp only[capT,Bool.and_eq_true] at hcap
    have k0:=Qm hcap.1
    have k1:=Qm hcap.2.1
    have k2:=Qag hcap.2.2
    have hp0:=(hy.2.2.2.1 k0).1
    exact⟨c,k2,by rw[hu',add_zero],by rw[hp0,List.length_nil,hlen,k1];rfl⟩
   | hid j=>
    simp only at hcc hu'
    simp only[capT,Bool.and_eq_true] at hcap
    have k0:=Qm hcap.1
    have k1:=Qm hcap.2.1
    subst k0
    have kn:k≠0:=by rw[k1];omega
    have hp0:=hy.2.2.2.2 kn
    rw[ev,k1] at hp0
    obtain⟨hle,hce⟩:=hcc
    refine⟨c,by omega,?_,?_⟩
    ·rw[hu']
     have:(if E.c i=0 then 0 else 0)=0:=by split<;>rfl
     rw[this,add_zero]
    ·rw[hp0,hce,Nat.sub_zero]
  obtain⟨c,v1,rfl,v3⟩:=hv
  have v4:len * ks.length≤vs.length:=by
   have:=QbS g5
   rw[g7,List.length_take,g4] at this
   omega
  have hsplit:vs++y.2.2=LD.vsE ks es0++(vs.drop (len * ks.length)++y.2.2):=by rw[g7,←List.append_assoc,List.take_append_drop]
  rw[hsplit] at s1
  have s2:=s1.rowShut (k:=ks.length) (n:=len) (cap:=c) v1 (by rw[List.length_append,List.length_drop,Nat.sub_mul];omega) (by rw[QbS g5,g4])
  have le2:=Env.le_wz (E:=E) g1
  have hlm:es0.length≤maxL:=by
   rw[g4,e]
   have:=Qag hb4
   omega
  obtain⟨a1,a2,a3⟩:=Rep.addW (E:=E.wz z2) (th:=th2) (t:=t) (ks:=ks) (es:=es0) g3.fr g3.eh g3.nx ly ne g5 gl hlm (by rw[g4];exact s2)
  exact⟨_,_,_,le2.trans a1,a2,a3,g10⟩
theorem QjV {ag:Pt→FV→TH→(List LD→Prs→TH→Prop)→Prop}(hag0:AgOk ag):∀ps vs th K,mtG ag ps vs th K→∀E h0 h L us,Rep E th h0 h L→denL E vs=some us →
    ∃F ds prs th',E.Le F∧Rep F th' h0 h L∧Fit F ps us ds prs∧(vs.all oneF=true→∀ids ys n,(fvPL ids ys ps n).all oneF=true)∧K ds prs th'
  | [],vs,th,K,hx,E,h0,h,L,us,r,hd=>by
    cases vs with
    | cons _ _=>exact hx.elim
    | nil=>
      simp only[denL,Option.some.injEq] at hd;subst hd
      exact⟨E,[],[],th,Env.Le.refl E,r,⟨by simp only[ksPL,wtL],fun F _ G _ ys n _=>rfl⟩,fun _ _ _ _=>rfl,hx⟩
  | p::l,vs,th,K,hx,E,h0,h,L,us,r,hd=>by
    cases vs with
    | nil=>exact hx.elim
    | cons v vs=>
      obtain⟨u,us',h1,h2,rfl⟩:=QR hd
      have other:ag p v th (fun ds' prs' th=>mtG ag l vs th fun ds prs th=>K (ds'++ds) (prs'++prs) th)→∃F ds prs th',E.Le F∧Rep F th' h0 h L∧Fit F (p::l) (u::us') ds prs∧((v::vs).all oneF=true→∀ids ys n,(fvPL ids ys (p::l) n).all oneF=true)∧K ds prs th':=fun hk=>by
        obtain⟨F1,ds1,prs1,th1,b1,b2,b3,b4,b5⟩:=hag0 p v th _ hk E h0 h L u r h1
        obtain⟨F,ds,prs,th',g1,g3,g4,g5,g6⟩:=QjV hag0 l vs th1 _ b5 F1 h0 h L us' b2 (QcO b1 h2)
        refine⟨F,ds1++ds,prs1++prs,th',b1.trans g1,g3,b3.cons g1 g4,fun ho ids ys n=>?_,g6⟩
        simp only[List.all_cons,Bool.and_eq_true] at ho
        simp only[fvPL,List.all_cons,Bool.and_eq_true]
        exact⟨b4 ho.1 ids ys n,g5 ho.2 ids ys _⟩
      cases p with
      | h k=>
        simp only[mtG] at hx
        obtain⟨z,d,th',g1,g2,g3,g4,g5,g6⟩:=QgB fzD k v th _ hx E h0 h L u r h1
        obtain⟨F,ds,prs,th2,e1,e3,e4,e5,e6⟩:=QjV hag0 l vs th' _ g6 (E.wz z) h0 h L us' g3 (QcO (Env.le_wz g1) h2)
        refine⟨F,d::ds,prs,th2,(Env.le_wz g1).trans e1,e3,⟨by simp only[ksPL,ksP,List.singleton_append,wtL];exact⟨g4.1,e4.1⟩,fun F2 hF G rF ys n hag=>?_⟩,fun ho ids ys n=>?_,e6⟩
        · obtain⟨a1,a2⟩:=QdZ (a:=[d]) hag
          have:=a1 0 d rfl
          have f:=QA9 (F:=G) (E:=F2) rF.hh rF.hz (g4.mono (e1.trans hF).p)
          simp only[fvPL,fvP]
          refine Qau ?_ (e4.2 F2 hF G rF ys _ a2)
          rw[show ys n=d from this,Qg2 f,g5]
        · simp only[List.all_cons,Bool.and_eq_true] at ho
          simp only[fvPL,List.all_cons,Bool.and_eq_true]
          exact⟨QvV _ _,e5 ho.2 ids ys _⟩
      | s j t=>
        cases v<;>try (exact hx.elim)
        · simp only[mtG] at hx
          cases hl:lyG t with
          | none=>rw[hl] at hx;exact hx.elim
          | some ks=>
            rw[hl] at hx
            obtain⟨hb,hx⟩:=Q1 hx
            simp only[den,Option.some.injEq] at h1
            have ne:ks≠[]:=fun e=>by rw[e] at hb;cases hb
            obtain⟨a1,a2,a3⟩:=Rep.addW (E:=E) (th:=th) (t:=t) (ks:=ks) (es:=[]) r.fr r.eh r.nx (QaN hl) ne (by simp only[wtE]) (by simp only[QI]) (by simp) (St.rowNil r.st ks.length)
            obtain⟨F,ds,prs,th2,e1,e3,e4,e5,e6⟩:=QjV hag0 l vs _ _ hx _ h0 h L us' a2 (QcO a1 h2)
            refine⟨F,ds,(j,th.nx)::prs,th2,a1.trans e1,e3,⟨by simp only[ksPL,ksP,List.nil_append];exact e4.1,fun F2 hF G rF ys n hag=>?_⟩,fun ho ids ys n=>?_,e6⟩
            · simp only[fvPL,fvP,ksP,List.length_nil,Nat.add_zero]
              refine Qau ?_ (e4.2 F2 hF G (rF.sub fun x hx=>.tail _ hx) ys n hag)
              obtain⟨⟨a,q1⟩,q2,_⟩:=Qe4 (QbR (e1.trans hF) a3)
              have q3:=rF.hp _ (.head _)
              simp only[den,id]
              rw[show G.p j=F2.p th.nx from q3.1,q1,show G.s j=F2.s th.nx from q3.2.2,q2,←h1]
            · simp only[List.all_cons,Bool.and_eq_true] at ho
              simp only[fvPL,List.all_cons,Bool.and_eq_true]
              exact⟨rfl,e5 ho.2 ids ys _⟩
        · rename_i i off offz len cap
          simp only[mtG] at hx
          cases hg:th.t.get i with
          | none=>rw[hg] at hx;exact hx.elim
          | some o=>
            rw[hg] at hx
            cases o<;>try (exact hx.elim)
            rename_i cs k
            simp only at hx
            cases hl:lyG t with
            | none=>rw[hl] at hx;exact hx.elim
            | some ks=>
              rw[hl] at hx
              obtain⟨E1,id,th1,a1,a2,a3,hx2⟩:=Qacd r hl h1 hg hx
              obtain⟨F,ds,prs,th2,e1,e3,e4,e5,e6⟩:=QjV hag0 l vs _ _ hx2 _ h0 h L us' a2 (QcO a1 h2)
              refine⟨F,ds,(j,id)::prs,th2,a1.trans e1,e3,⟨by simp only[ksPL,ksP,List.nil_append];exact e4.1,fun F2 hF G rF ys n hag=>?_⟩,fun ho ids ys n=>?_,e6⟩
              · simp only[fvPL,fvP,ksP,List.length_nil,Nat.add_zero]
                refine Qau ?_ (e4.2 F2 hF G (rF.sub fun x hx=>.tail _ hx) ys n hag)
                obtain⟨⟨a,q1⟩,q2,_⟩:=Qe4 (QbR (e1.trans hF) a3)
                have q3:=rF.hp _ (.head _)
                obtain⟨_,_,_,hu',_⟩:=QeE h1
                simp only[den,_root_.id]
                rw[show G.p j=F2.p id from q3.1,q1,show G.s j=F2.s id from q3.2.2,q2,hu']
              · simp only[List.all_cons,Bool.and_eq_true] at ho
                simp only[fvPL,List.all_cons,Bool.and_eq_true]
                exact⟨rfl,e5 ho.2 ids ys _⟩
        · rename_i t' i
          simp only[mtG] at hx
          cases hb:Nat.beq t t' with
          | false=>rw[hb] at hx;exact hx.elim
          | true=>
            rw[hb] at hx
            obtain⟨F,ds,prs,th',g1,g3,g4,g5,g6⟩:=QjV hag0 l vs th _ hx E h0 h L us' r h2
            have hq:mtP (.s j t) (.os t' i)=some ([],[(j,i)]):=by simp only[mtP,hb,cond_true]
            have w1:=QjU hq h1
            refine⟨F,ds,(j,i)::prs,th',g1,g3,⟨by simp only[ksPL];exact QcE w1.1 g4.1,fun F2 hF G rF ys n hag=>?_⟩,fun ho ids ys n=>?_,g6⟩
            · have r1:=(QjU hq (QbR (g1.trans hF) h1)).2 G (rF.sub fun x hx=>by simp only[List.mem_singleton] at hx;subst hx;exact .head _) ys n (fun _ _ h=>by cases h)
              have r2:=g4.2 F2 hF G (rF.sub fun x hx=>.tail _ hx) ys (n+(ksP (.s j t)).length) hag
              simp only[fvPL]
              exact Qau r1 r2
            · simp only[List.all_cons,Bool.and_eq_true] at ho
              simp only[fvPL,List.all_cons,Bool.and_eq_true]
              exact⟨Qty hq ho.1 ids ys n,g5 ho.2 ids ys _⟩
      | m j t g=>
        cases v<;>try (exact hx.elim)
        rename_i i
        simp only[mtG] at hx
        obtain⟨E1,th1,le1,r1,hx1⟩:∃E1 th1,E.Le E1∧Rep E1 th1 h0 h L∧(mtG ag l vs th1 fun ds prs th=>K ds ([(j,i)]++prs) th):=by
          cases hg:th.t.get i with
          | none=>rw[hg] at hx;exact⟨E,th,Env.Le.refl E,r,hx⟩
          | some o=>
            rw[hg] at hx
            simp only at hx
            cases o<;>first
              | exact⟨E,th,Env.Le.refl E,r,hx⟩
              | (simp only[mpG] at hx
                 obtain⟨z,th1,q1,q2,q3⟩:=QJl hx r hg
                 exact⟨_,th1,Env.le_wz q1,q2,q3⟩)
        obtain⟨F,ds,prs,th',g1,g3,g4,g5,g6⟩:=QjV hag0 l vs th1 _ hx1 E1 h0 h L us' r1 (QcO le1 h2)
        have hq:mtP (.m j t g) (.map i)=some ([],[(j,i)]):=rfl
        have w1:=QjU hq h1
        refine⟨F,ds,[(j,i)]++prs,th',le1.trans g1,g3,⟨by simp only[ksPL];exact QcE w1.1 g4.1,fun F2 hF G rF ys n hag=>?_⟩,fun ho ids ys n=>?_,g6⟩
        · have r1:=(QjU hq (QbR ((le1.trans g1).trans hF) h1)).2 G (rF.sub fun x hx=>List.mem_append_left _ hx) ys n (fun _ _ h=>by cases h)
          have r2:=g4.2 F2 hF G (rF.sub fun x hx=>List.mem_append_right _ hx) ys (n+(ksP (.m j t g)).length) hag
          simp only[fvPL]
          exact Qau r1 r2
        · simp only[List.all_cons,Bool.and_eq_true] at ho
          simp only[fvPL,List.all_cons,Bool.and_eq_true]
          exact⟨Qty hq ho.1 ids ys n,g5 ho.2 ids ys _⟩
      | _=>
        simp only[mtG] at hx
        exact other hx
theorem QKW:AgOk ag1:=fun p v th K hx E h0 h L u r hd=>by
 cases p with
 | a l=>
  cases v<;>try (exact hx.elim)
  rename_i l'
  simp only[den] at hd
  cases hl:denL E l' with
  | none=>rw[hl] at hd;cases hd
  | some x=>
   rw[hl] at hd
   simp only at hd
   by_cases ho:l'.all oneF=true
   ·rw[if_pos ho] at hd;simp only[Option.some.injEq] at hd;subst hd
    obtain⟨F,ds,prs,th',g1,g3,g4,g5,g6⟩:=QjV QGX l l' th _ hx E h0 h L x r hl
    refine⟨F,ds,prs,th',g1,g3,⟨by have:=g4.1;simpa only [ksPL,ksP,List.append_nil] using this,fun F2 hF G rF ys n hag=>?_⟩,fun h=>(by cases h),g6⟩
    have:=g4.2 F2 hF G rF ys n hag
    simp only[fvPL,fvP]
    refine Qau ?_ rfl
    simp only[den,this]
    rw[if_pos (g5 ho id ys n)]
   ·rw[if_neg ho] at hd;cases hd
 | _=>exact QGX _ v th K hx E h0 h L u r hd
theorem QGd:∀ps vs th K,mtA ps vs th K→∀E h0 h L us,Rep E th h0 h L→denL E vs=some us →
  ∃F ds prs th',E.Le F∧Rep F th' h0 h L∧Fit F ps us ds prs∧(vs.all oneF=true→∀ids ys n,(fvPL ids ys ps n).all oneF=true)∧K ds prs th':=QjV QKW
theorem QlW {j i:Nat}:∀ {prs:Prs},lkA j prs=some i→(j,i)∈prs
 | q::r,h=>by
  simp only[lkA] at h
  cases hb:Nat.beq q.1 j with
  | true=>
   rw[hb] at h;simp only[cond_true,Option.some.injEq] at h
   have e:=Qm hb
   subst h;subst e;exact .head _
  | false=>rw[hb] at h;exact .tail _ (QlW h)
theorem QoJ:∀os j prs th K,mtO os j prs th K→∀E h0 h L,Rep E th h0 h L →
  ∃F ds prs' Ps th',E.Le F∧Rep F th' h0 h (Ps++L)∧wtL ds (ksOL os)∧(∀q∈prs,q∈prs')∧(∀i,i<os.length→∃i' a,(j+i,i')∈prs'∧F.p i'=some a) ∧
   (∀G,RnE G F prs'→∀ys n,(∀i d,ds[i]?=some d→ys (n+i)=d)→∀M U,Sep h (Ps++M) U→Sep h ((tosO id ys os j n).map (part G)++M) U)∧K ds prs' th'
 | [],j,prs,th,K,hx,E,h0,h,L,r=>⟨E,[],prs,[],th,Env.Le.refl E,r,by simp only[ksOL,wtL],fun _ h=>h,fun i hi=>by simp at hi,fun F _ ys n _ M U s=>s,hx⟩
 | .r t::os,j,prs,th,K,hx,E,h0,h,L,r=>by
  simp only[mtO] at hx
  cases hl:lkA j prs with
  | none=>rw[hl] at hx;exact hx.elim
  | some i=>
   rw[hl] at hx
   simp only at hx
   cases hg:th.t.get i with
   | none=>rw[hg] at hx;exact hx.elim
   | some ob=>
    rw[hg] at hx
    cases ob<;>try (exact hx.elim)
    rename_i t' es
    simp only at hx
    obtain⟨hb,hx2⟩:=Q1 hx
    have e:=Qm hb
    subst e
    obtain⟨a,v,ks,hw,_⟩:=r.toldW hg
    obtain⟨F,ds',prs',Ps,th2,e1,e3,e4,e5,e6,e7,e8⟩:=QoJ os j.succ prs (th.del i) _ hx2 E h0 h _ (r.out hg)
    have hm:(j,i)∈prs':=e5 _ (QlW hl)
    refine⟨F,.t es::ds',prs',part E (i,.row _ es)::Ps,th2,e1,e3.permL List.perm_middle,?_,e5,fun q hq=>?_,fun G rG ys n hag M U s=>?_,e8⟩
    ·simp only[ksOL,ksO,List.singleton_append,wtL,wt]
     rw[hw.ly]
     exact⟨⟨hw.len,hw.ne,hw.wt⟩,e4⟩
    ·cases q with
     | zero=>exact⟨i,a,hm,(e1.p.a i a hw.p).1⟩
     | succ q=>
      obtain⟨i',a',h1,h2⟩:=e6 q (by simpa using hq)
      exact⟨i',a',by rw[show j+(q+1)=j.succ+q by omega];exact h1,h2⟩
    ·obtain⟨a1,a2⟩:=QdZ (a:=[.t es]) hag
     have h0':=a1 0 _ rfl
     obtain⟨S,o1,o2,o3⟩:=s
     refine⟨S,?_,o2,?_⟩
     ·obtain⟨x,hx,ho⟩:=o1
      have rp:=rG.hp _ hm
      have hx2:=hx.mono e1.p
      have ey:(ys n).cs=es:=by rw[show ys n=.t es from h0'];rfl
      refine⟨x,?_,?_⟩
      ·show Qju G j _ (ys n).cs x.1 x.2.1 x.2.2
       rw[ey]
       exact⟨rp.1.trans hx2.p,rp.2.2.trans hx2.s,hx2.ly,hx2.ne,hx2.wt,Qam (fun _ _=>QlO rG.hh rG.hz) hx2.li,hx2.len⟩
      ·show (Row x.2.2.length x.2.1 (ys n).cs.length (LD.vsE x.2.2 (ys n).cs)).own h S
       rw[ey];exact ho
     ·exact e7 G rG ys (n+1) a2 M _ o3
 | .k t::os,j,prs,th,K,hx,E,h0,h,L,r=>by
  simp only[mtO] at hx
  cases hl:lkA j prs with
  | none=>rw[hl] at hx;exact hx.elim
  | some i=>
   rw[hl] at hx
   simp only at hx
   cases hg:th.t.get i with
   | none=>rw[hg] at hx;exact hx.elim
   | some ob=>
    rw[hg] at hx
    cases ob<;>try (exact hx.elim)
    rename_i t' es
    simp only at hx
    obtain⟨hb,hx2⟩:=Q1 hx
    have e:=Qm hb
    subst e
    obtain⟨a,v,ks,hw,_⟩:=r.toldW hg
    obtain⟨F,ds',prs',Ps,th2,e1,e3,e4,e5,e6,e7,e8⟩:=QoJ os j.succ prs (th.del i) _ hx2 E h0 h _ (r.out hg)
    have hm:(j,i)∈prs':=e5 _ (QlW hl)
    refine⟨F,.t es::ds',prs',part E (i,.row _ es)::Ps,th2,e1,e3.permL List.perm_middle,?_,e5,fun q hq=>?_,fun G rG ys n hag M U s=>?_,e8⟩
    ·simp only[ksOL,ksO,List.singleton_append,wtL,wt]
     rw[hw.ly]
     exact⟨⟨hw.len,hw.ne,hw.wt⟩,e4⟩
    ·cases q with
     | zero=>exact⟨i,a,hm,(e1.p.a i a hw.p).1⟩
     | succ q=>
      obtain⟨i',a',h1,h2⟩:=e6 q (by simpa using hq)
      exact⟨i',a',by rw[show j+(q+1)=j.succ+q by omega];exact h1,h2⟩
    ·obtain⟨a1,a2⟩:=QdZ (a:=[.t es]) hag
     have h0':=a1 0 _ rfl
     obtain⟨S,o1,o2,o3⟩:=s
     refine⟨S,?_,o2,?_⟩
     ·obtain⟨x,hx,ho⟩:=o1
      have rp:=rG.hp _ hm
      have hx2:=hx.mono e1.p
      have ey:(ys n).cs=es:=by rw[show ys n=.t es from h0'];rfl
      refine⟨x,?_,?_⟩
      ·show Qju G j _ (ys n).cs x.1 x.2.1 x.2.2
       rw[ey]
       exact⟨rp.1.trans hx2.p,rp.2.2.trans hx2.s,hx2.ly,hx2.ne,hx2.wt,Qam (fun _ _=>QlO rG.hh rG.hz) hx2.li,hx2.len⟩
      ·show (Row x.2.2.length x.2.1 (ys n).cs.length (LD.vsE x.2.2 (ys n).cs)).own h S
       rw[ey];exact ho
     ·exact e7 G rG ys (n+1) a2 M _ o3
 | .m t g::os,j,prs,th,K,hx,E,h0,h,L,r=>by
  simp only[mtO] at hx
  cases hl:lkA j prs with
  | none=>rw[hl] at hx;exact hx.elim
  | some i=>
   rw[hl] at hx
   simp only at hx
   cases hg:th.t.get i with
   | none=>rw[hg] at hx;exact hx.elim
   | some ob=>
    rw[hg] at hx
    cases ob<;>try (exact hx.elim)
    rename_i t' g' es
    simp only at hx
    obtain⟨hb,hx2⟩:=Q1 hx
    simp only[Bool.and_eq_true] at hb
    have e:=Qm hb.1
    have eg:=QBf hb.2
    subst e eg
    obtain⟨a,ks,hw,_⟩:=r.toldP hg
    have hly:=hw.ly
    have hlen:=hw.len
    have hwt:=hw.wt
    have hp:=hw.p
    obtain⟨F,ds',prs',Ps,th2,e1,e3,e4,e5,e6,e7,e8⟩:=QoJ os j.succ prs (th.del i) _ hx2 E h0 h _ (r.out hg)
    have hm:(j,i)∈prs':=e5 _ (QlW hl)
    refine⟨F,.t es::ds',prs',part E (i,.mp _ _ es)::Ps,th2,e1,e3.permL List.perm_middle,?_,e5,fun q hq=>?_,fun G rG ys n hag M U s=>?_,e8⟩
    ·simp only[ksOL,ksO,List.singleton_append,wtL,wt]
     rw[hly]
     exact⟨⟨hlen,by simp,hwt⟩,e4⟩
    ·cases q with
     | zero=>exact⟨i,a,hm,(e1.p.a i a hp).1⟩
     | succ q=>
      obtain⟨i',a',h1,h2⟩:=e6 q (by simpa using hq)
      exact⟨i',a',by rw[show j+(q+1)=j.succ+q by omega];exact h1,h2⟩
    ·obtain⟨a1,a2⟩:=QdZ (a:=[.t es]) hag
     have h0':=a1 0 _ rfl
     have ey:(ys n).cs=es:=by rw[show ys n=.t es from h0'];rfl
     obtain⟨S,o1,o2,o3⟩:=s
     refine⟨S,?_,o2,?_⟩
     ·have rp:=rG.hp _ hm
      obtain⟨x,hx,ho⟩:=o1
      have hx2:=hx.mono e1.p
      refine⟨x,?_,?_⟩
      ·show MpIs G j _ _ (ys n).cs x.1 x.2
       rw[ey]
       exact⟨rp.1.trans hx2.p,hx2.ly,hx2.one,hx2.wt,Qam (fun _ _=>QlO rG.hh rG.hz) hx2.li,hx2.len⟩
      ·show (Go.Sh.MapO _ ((ys n).cs.map (entM _ x.2))).own h S
       rw[ey];exact ho
     ·exact e7 G rG ys (n+1) a2 M _ o3
 | .z t g::os,j,prs,th,K,hx,E,h0,h,L,r=>by
  simp only[mtO] at hx
  cases hl:lkA j prs with
  | none=>rw[hl] at hx;exact hx.elim
  | some i=>
   rw[hl] at hx
   simp only at hx
   cases hg:th.t.get i with
   | none=>rw[hg] at hx;exact hx.elim
   | some ob=>
    rw[hg] at hx
    cases ob<;>try (exact hx.elim)
    rename_i t' g' es
    simp only at hx
    obtain⟨hb,hx2⟩:=Q1 hx
    simp only[Bool.and_eq_true] at hb
    have e:=Qm hb.1
    have eg:=QBf hb.2
    subst e eg
    obtain⟨a,ks,hw,_⟩:=r.toldF hg
    have hly:=hw.ly
    have hlen:=hw.len
    have hwt:=hw.wt
    have hp:=hw.p
    obtain⟨F,ds',prs',Ps,th2,e1,e3,e4,e5,e6,e7,e8⟩:=QoJ os j.succ prs (th.del i) _ hx2 E h0 h _ (r.out hg)
    have hm:(j,i)∈prs':=e5 _ (QlW hl)
    refine⟨F,.t es::ds',prs',part E (i,.mf _ _ es)::Ps,th2,e1,e3.permL List.perm_middle,?_,e5,fun q hq=>?_,fun G rG ys n hag M U s=>?_,e8⟩
    ·simp only[ksOL,ksO,List.singleton_append,wtL,wt]
     rw[hly]
     exact⟨⟨hlen,by simp,hwt⟩,e4⟩
    ·cases q with
     | zero=>exact⟨i,a,hm,(e1.p.a i a hp).1⟩
     | succ q=>
      obtain⟨i',a',h1,h2⟩:=e6 q (by simpa using hq)
      exact⟨i',a',by rw[show j+(q+1)=j.succ+q by omega];exact h1,h2⟩
    ·obtain⟨a1,a2⟩:=QdZ (a:=[.t es]) hag
     have h0':=a1 0 _ rfl
     have ey:(ys n).cs=es:=by rw[show ys n=.t es from h0'];rfl
     obtain⟨S,o1,o2,o3⟩:=s
     refine⟨S,?_,o2,?_⟩
     ·have rp:=rG.hp _ hm
      obtain⟨x,hx,ho⟩:=o1
      have hx2:=hx.1.mono e1.p
      have hf:=hx.2.mono e1.p
      refine⟨x,?_,ho⟩
      show MpIs G j _ _ (ys n).cs x.1 x.2∧FzM G x.1.block ((ys n).cs.map (entM _ x.2))
      rw[ey]
      exact⟨⟨rp.1.trans hx2.p,hx2.ly,hx2.one,hx2.wt,Qam (fun _ _=>QlO rG.hh rG.hz) hx2.li,hx2.len⟩,hf.elim fun st hf=>hf.elim fun c hf=>⟨st,c,hf.1,rG.hz _ hf.2⟩⟩
     ·exact e7 G rG ys (n+1) a2 M _ o3
 | .q j2 t g::os,j,prs,th,K,hx,E,h0,h,L,r=>by
  simp only[mtO] at hx
  cases hl:lkA j prs with
  | none=>rw[hl] at hx;exact hx.elim
  | some i=>
   rw[hl] at hx
   simp only at hx
   cases hg:th.t.get i with
   | none=>rw[hg] at hx;exact hx.elim
   | some ob=>
    rw[hg] at hx
    cases ob<;>try (exact hx.elim)
    rename_i i2 t' g' es cur
    simp only at hx
    obtain⟨hb,hx2⟩:=Q1 hx
    simp only[Bool.and_eq_true] at hb
    have e:=Qm hb.1
    have eg:=QBf hb.2
    subst e eg
    obtain⟨y,hw,_⟩:=r.toldIm hg
    have hly:=hw.ly
    have hlen:=hw.len
    have hwt:=hw.wt
    have hp:=hw.p
    generalize y.a=a at hp
    obtain⟨F,ds',prs',Ps,th2,e1,e3,e4,e5,e6,e7,e8⟩:=QoJ os j.succ (prs++[(j2,i2)]) (th.del i) _ hx2 E h0 h _ (r.out hg)
    have hm:(j,i)∈prs':=e5 _ (List.mem_append_left _ (QlW hl))
    refine⟨F,.t es::ds',prs',part E (i,.im i2 _ _ es cur)::Ps,th2,e1,e3.permL List.perm_middle,?_,fun q hq=>e5 q (List.mem_append_left _ hq),fun q hq=>?_,fun G rG ys n hag M U s=>?_,e8⟩
    ·simp only[ksOL,ksO,List.singleton_append,wtL,wt]
     rw[hly]
     exact⟨⟨hlen,by simp,hwt⟩,e4⟩
    ·cases q with
     | zero=>exact⟨i,a,hm,(e1.p.a i a hp).1⟩
     | succ q=>
      obtain⟨i',a',h1,h2⟩:=e6 q (by simpa using hq)
      exact⟨i',a',by rw[show j+(q+1)=j.succ+q by omega];exact h1,h2⟩
    ·obtain⟨a1,a2⟩:=QdZ (a:=[.t es]) hag
     have h0':=a1 0 _ rfl
     have ey:(ys n).cs=es:=by rw[show ys n=.t es from h0'];rfl
     obtain⟨S,o1,o2,o3⟩:=s
     refine⟨S,?_,o2,?_⟩
     ·have rp:=rG.hp _ hm
      obtain⟨x,hx,ho⟩:=o1
      have hx2:=hx.mono e1.p
      have rp2:=rG.hp _ (e5 _ (List.mem_append_right _ (.head _)))
      refine⟨x,?_,ho⟩
      show ImIs G j j2 _ _ (ys n).cs none x.a x.ma x.ks x.m x.st x.c x.dn
      rw[ey]
      exact⟨rp.1.trans hx2.p,rp2.1.trans hx2.pm,rp.2.2.trans hx2.pin,hx2.ly,hx2.one,hx2.wt,Qam (fun _ _=>QlO rG.hh rG.hz) hx2.li,hx2.ok,rG.hz _ hx2.z,hx2.sub,hx2.all,hx2.rst,hx2.nd,hx2.len,fun e h=>by cases h⟩
     ·exact e7 G rG ys (n+1) a2 M _ o3
 | .c l k::os,j,prs,th,K,hx,E,h0,h,L,r=>by
  simp only[mtO] at hx
  cases hl:lkA j prs with
  | none=>rw[hl] at hx;exact hx.elim
  | some i=>
   rw[hl] at hx
   simp only at hx
   cases hg:th.t.get i with
   | none=>rw[hg] at hx;exact hx.elim
   | some ob=>
    rw[hg] at hx
    cases ob<;>try (exact hx.elim)
    rename_i cs kk
    simp only at hx
    cases hb:Nat.beq kk k with
    | false=>rw[hb] at hx;exact hx.elim
    | true=>
     rw[hb] at hx
     simp only[cond_true] at hx
     have e:=Qm hb
     subst e
     obtain⟨a,vs,post,hc,_⟩:=r.told hg
     obtain⟨F1,ds,prs1,th1,g1,g3,g4,g5,g6⟩:=QGd l cs (th.del i) _ hx E h0 h _ vs (r.out hg) hc.2.1
     obtain⟨F,ds',prs',Ps,th2,e1,e3,e4,e5,e6,e7,e8⟩:=QoJ os j.succ (prs++prs1) th1 _ g6 F1 h0 h _ g3
     have hm:(j,i)∈prs':=e5 _ (List.mem_append_left _ (QlW hl))
     have le:=g1.trans e1
     refine⟨F,ds++ds',prs',part E (i,.cells cs kk)::Ps,th2,le,e3.permL List.perm_middle,by simp only[ksOL,ksO];exact QcE g4.1 e4,fun q hq=>e5 q (List.mem_append_left _ hq),fun q hq=>?_,fun G rG ys n hag M U s=>?_,e8⟩
     ·cases q with
      | zero=>exact⟨i,a,hm,(le.p.a i a hc.1).1⟩
      | succ q=>
       obtain⟨i',a',h1,h2⟩:=e6 q (by simpa using hq)
       exact⟨i',a',by rw[show j+(q+1)=j.succ+q by omega];exact h1,h2⟩
     ·obtain⟨a1,a2⟩:=QdZ hag
      obtain⟨S,o1,o2,o3⟩:=s
      refine⟨S,?_,o2,?_⟩
      ·obtain⟨x,hx,ho⟩:=o1
       have rp:=rG.hp _ hm
       have ev:x.2.1=vs:=by have:=hx.2.1;rw[hc.2.1] at this;simpa using this.symm
       have xa:x.1=a:=by have:=hx.1;rw[hc.1] at this;simpa using this.symm
       obtain⟨la,lc⟩:=le.p.a i a hc.1
       refine⟨x,⟨rp.1.trans (by rw[xa];exact la),?_,g5 hx.2.2.1 id ys n,hx.2.2.2.1,fun hk=>?_⟩,ho⟩
       ·have:=g4.2 F e1 G (rG.sub fun q hq=>e5 q (List.mem_append_right _ hq)) ys n a1
        rw[ev];exact this
       ·have:=hx.2.2.2.2 hk
        rw[this]
        show E.c i * kk=G.c j * kk
        rw[rp.2.1];show _=F.c i * kk;rw[lc]
      ·have:=e7 G rG ys (n+(ksO (.c l kk)).length) (by
        have:(ksO (.c l kk)).length=ds.length:=(QaW g4.1).2.symm
        rw[this];exact a2) M _ o3
       exact this
end Go.Va
