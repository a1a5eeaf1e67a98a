import Derived.Test.YtemffgbncjnmkaaGreatVh
set_option linter.unusedVariables false
set_option linter.unusedSectionVars false
set_option linter.unusedSimpArgs false
namespace Go.Va
open Go Go.Sh
variable [Vb]
variable {P:Program}
theorem QJk {E:Env}{cs:List FV}{v:Value}(h:den E (.agg cs)=some v):∃vs,denL E cs=some vs∧cs.all oneF=true∧v=.agg vs.toArray:=by
 simp only[den] at h
 cases hd:denL E cs with
 | none=>rw[hd] at h;cases h
 | some vs=>
  rw[hd] at h
  simp only at h
  by_cases ho:cs.all oneF=true
  ·rw[if_pos ho] at h;simp only[Option.some.injEq] at h;exact⟨vs,rfl,ho,h.symm⟩
  ·rw[if_neg ho] at h;cases h
theorem QIN {E:Env}{t:TypeId}{k off:Nat}{b:Bool}(hk:szO P t=some k)(hb:agO P t=some b){x y:FV}{v:Value}(hv:den E x=some v)(hx:fldF off k b x=some y) :
  ∃cs u,v=.agg cs∧den E y=some u∧∀w,(Go.part t cs off).run P w=.ok u w:=by
 cases x<;>try (simp[fldF] at hx;done)
 rename_i cs
 obtain⟨vs,hd,ho,rfl⟩:=QJk hv
 simp only[fldF] at hx
 haveI ia:=Qjr hb
 haveI is:=QbA hk
 cases b with
 | true=>
  simp only at hx
  cases ht:Qbb k (Qaz off cs) with
  | none=>rw[ht] at hx;cases hx
  | some l=>
   rw[ht] at hx;simp only[Option.some.injEq] at hx;subst hx
   obtain⟨h5,h6⟩:=Qcd ht
   rw[Qbo] at h5 h6
   have h7:=QfV k (QeM off hd)
   rw[←h5] at h7
   refine⟨_,.agg ((vs.drop off).take k).toArray,rfl,by simp only[den,h7];rw[if_pos (by rw[h5];exact QmX ho _ _)],fun w=>?_⟩
   simp only[Go.part]
   rw[Sem.run_bind,ia.run,Result.andThen_ok,if_pos rfl,Sem.run_bind,is.run,Result.andThen_ok]
   have:vs.toArray.extract off (off+k)=((vs.drop off).take k).toArray:=by
    apply Array.ext'
    simp
   rw[this];rfl
 | false=>
  simp only at hx
  obtain⟨u,h5,h6⟩:=Qji hd (QeW hx)
  refine⟨_,u,rfl,h6,fun w=>?_⟩
  simp only[Go.part]
  rw[Sem.run_bind,ia.run,Result.andThen_ok,if_neg (by simp)]
  have:vs.toArray[off]?=some u:=by simpa using h5
  rw[this];rfl
theorem Qab7 {E:Env}{x y r:FV}{a b:Bool}(hx:den E x=some (.bool a))(hy:den E y=some (.bool b))(h:andF x y=some r):den E r=some (.bool (a&&b)):=by
 cases x<;>simp only[andF] at h<;>try (cases h;done)
 case bool c=>
  simp only[den,Option.some.injEq,Value.bool.injEq] at hx;subst hx
  cases c with
  | true=>simp only[Option.some.injEq] at h;subst h;simpa using hy
  | false=>simp only[Option.some.injEq] at h;subst h;rfl
 case sb c=>
  simp only[den,Option.some.injEq,Value.bool.injEq] at hx;subst hx
  cases y<;>simp only at h<;>try (cases h;done)
  ·rename_i d
   simp only[den,Option.some.injEq,Value.bool.injEq] at hy;subst hy
   cases d<;>simp only[Option.some.injEq] at h<;>subst h<;>simp[den]
  ·simp only[Option.some.injEq] at h;subst h
   simp only[den,Option.some.injEq,Value.bool.injEq] at hy;subst hy;rfl
theorem Qacg {E:Env}{m:Nat}{t:TypeId}{k0:IntKind}{x y r:FV}{u v:Value}(ht:P.underlying t=some (.int k0))(hx:den E x=some u)(hy:den E y=some v)(h:eqI x y=some r) :
  ∃b,den E r=some (.bool b)∧∀w,(Op.equalIn (m+1) t u v).run P w=.ok b w:=by
 have key:∀k a k' b,u=.int k a→v=.int k' b→keq k k'=true→∀w,(Op.equalIn (m+1) t u v).run P w=.ok (decide (a=b)) w:=fun k a k' b e1 e2 e3 w=>by
  have:=QdB e3
  subst e1 e2 this
  rw[run_equalIn_int w m t k k0 a b ht]
  congr 1
 have zz:eqZ x y=some r→∃b,den E r=some (.bool b)∧∀w,(Op.equalIn (m+1) t u v).run P w=.ok b w:=fun h=>by
  unfold eqZ at h
  cases hi:zbn x with
  | none=>rw[hi] at h;cases h
  | some p=>
   obtain⟨k,a,la,ha⟩:=p
   cases hj:zbn y with
   | none=>rw[hi,hj] at h;cases h
   | some q=>
    obtain⟨k',b,lb,hb⟩:=q
    rw[hi,hj] at h
    simp only at h
    cases hk:keq k k' with
    | false=>rw[hk] at h;cases h
    | true=>
     rw[hk] at h
     simp only[cond_true] at h
     obtain⟨g1,g2⟩:=Qcl hi hx
     obtain⟨g3,g4⟩:=Qcl hj hy
     exact⟨decide (a.ev=b.ev),QHK g2 g4 h,key k _ k' _ g1 g3 hk⟩
 cases x with
 | int k a=>
  cases y with
  | int k' b=>
   simp only[eqI] at h
   simp only[den,Option.some.injEq] at hx hy
   cases hk:keq k k' with
   | false=>rw[hk] at h;cases h
   | true=>
    rw[hk] at h
    simp only[cond_true,Option.some.injEq] at h
    subst h
    exact⟨decide (a=b),by simp only[den,Qkg],key k a k' b hx.symm hy.symm hk⟩
  | _=>exact zz h
 | _=>exact zz h
theorem Q7s {E:Env}{rc:TypeId→Option EqD}{m:Nat}(ih:∀ {t:TypeId}{d:EqD}{x y r:FV}{u v:Value},rc t=some d→den E x=some u→den E y=some v→eqDF d x y=some r→∃b,den E r=some (.bool b)∧∀w,(Op.equalIn m t u v).run P w=.ok b w) :
  ∀ {fs:List Field}{l:List (Nat×Nat×Bool×EqD)}{x y r:FV}{xs ys:Array Value},eqFs P rc fs=some l→den E x=some (.agg xs)→den E y=some (.agg ys)→eqDL l x y=some r →
  ∃b,den E r=some (.bool b)∧∀w,(Op.eqFields m xs ys fs).run P w=.ok b w
 | [],l,x,y,r,xs,ys,h,hx,hy,hr=>by
  simp only[eqFs,Option.some.injEq] at h;subst h
  simp only[eqDL,Option.some.injEq] at hr;subst hr
  exact⟨true,rfl,fun w=>rfl⟩
 | f::fs,l,x,y,r,xs,ys,h,hx,hy,hr=>by
  simp only[eqFs] at h
  obtain⟨k,hk,h⟩:=bind_some h
  obtain⟨ab,hab,h⟩:=bind_some h
  obtain⟨d,hd,h⟩:=bind_some h
  obtain⟨l',hl',h⟩:=bind_some h
  split at h
  ·cases h
  ·rename_i hname
   simp only[Option.some.injEq] at h;subst h
   simp only[eqDL] at hr
   cases h1:fldF f.offset k ab x with
   | none=>rw[h1] at hr;cases hr
   | some a=>
    cases h2:fldF f.offset k ab y with
    | none=>rw[h1,h2] at hr;cases hr
    | some b=>
     rw[h1,h2] at hr
     simp only at hr
     obtain⟨cs,u,e1,g1,g2⟩:=QIN hk hab hx h1
     obtain⟨cs',u',e2,g3,g4⟩:=QIN hk hab hy h2
     simp only[Value.agg.injEq] at e1 e2
     subst e1 e2
     cases h3:eqDF d a b with
     | none=>rw[h3] at hr;cases hr
     | some c=>
      rw[h3] at hr
      simp only at hr
      obtain⟨bb,i1,i2⟩:=ih hd g1 g3 h3
      have runs:∀w,(Op.eqFields m xs ys (f::fs)).run P w=(if (!bb)=true then .ok false w else (Op.eqFields m xs ys fs).run P w):=fun w=>by
       simp only[Op.eqFields]
       rw[if_pos hname,Sem.run_bind,g2,Result.andThen_ok,Sem.run_bind,g4,Result.andThen_ok,Sem.run_bind,i2,Result.andThen_ok]
       cases bb<;>rfl
      have gen:∀d',eqDL l' x y=some d'→andF c d'=some r→∃b,den E r=some (.bool b)∧∀w,(Op.eqFields m xs ys (f::fs)).run P w=.ok b w:=fun d' hd' hr'=>by
       obtain⟨b2,j1,j2⟩:=Q7s ih hl' hx hy hd'
       refine⟨bb&&b2,Qab7 i1 j1 hr',fun w=>?_⟩
       rw[runs w]
       cases bb with
       | true=>simp[j2 w]
       | false=>simp
      have rest:∀c',c=c'→(match eqDL l' x y with | some d=>andF c' d | none=>none)=some r→∃b,den E r=some (.bool b)∧∀w,(Op.eqFields m xs ys (f::fs)).run P w=.ok b w:=fun c' e hr=>by
       subst e
       cases h4:eqDL l' x y with
       | none=>rw[h4] at hr;cases hr
       | some d'=>rw[h4] at hr;exact gen d' h4 hr
      cases c with
      | bool t=>
       simp only at hr
       simp only[den,Option.some.injEq,Value.bool.injEq] at i1;subst i1
       cases t with
       | true=>
        obtain⟨b2,j1,j2⟩:=Q7s ih hl' hx hy hr
        exact⟨b2,j1,fun w=>by rw[runs w];simp[j2 w]⟩
       | false=>
        simp only[Option.some.injEq] at hr;subst hr
        exact⟨false,rfl,fun w=>by rw[runs w];simp⟩
      | _=>exact rest _ rfl hr
theorem QaaF {E:Env}:∀(n m:Nat){t:TypeId}{d:EqD}{x y r:FV}{u v:Value},eqDT P n t=some d→n≤m→den E x=some u→den E y=some v→eqDF d x y=some r →
  ∃b,den E r=some (.bool b)∧∀w,(Op.equalIn m t u v).run P w=.ok b w
 | 0,_,_,_,_,_,_,_,_,h,_,_,_,_=>by simp[eqDT] at h
 | n+1,0,_,_,_,_,_,_,_,_,hm,_,_,_=>by omega
 | n+1,m+1,t,d,x,y,r,u,v,h,hm,hx,hy,hr=>by
  simp only[eqDT] at h
  cases hu:P.underlying t with
  | none=>rw[hu] at h;cases h
  | some td=>
   rw[hu] at h
   cases td<;>simp only at h<;>try (cases h;done)
   case int k=>
    simp only[Option.some.injEq] at h;subst h
    simp only[eqDF] at hr
    exact Qacg hu hx hy hr
   case bool=>
    simp only[Option.some.injEq] at h;subst h
    simp only[eqDF] at hr
    cases x<;>simp only[eqB] at hr<;>try (cases hr;done)
    all_goals cases y<;>simp only at hr<;>try (cases hr;done)
    all_goals
     simp only[Option.some.injEq] at hr;subst hr
     simp only[den,Option.some.injEq] at hx hy;subst hx hy
     refine⟨_,rfl,fun w=>?_⟩
     rw[run_equalIn_bool' w m t _ _ hu]
     congr 1
     rename_i a b
    ·cases a<;>cases b<;>rfl
    ·cases a<;>simp only[eqBC,SC.ev]<;>cases b.ev<;>rfl
    ·cases b<;>simp only[eqBC,SC.ev]<;>cases a.ev<;>rfl
    ·simp only[SC.ev];cases a.ev<;>cases b.ev<;>rfl
   case string=>
    simp only[Option.some.injEq] at h;subst h
    simp only[eqDF] at hr
    have fin:∀a b:List SB,Qbq a=true→Qbq b=true→u=str (a.map sbU)→v=str (b.map sbU)→eqX a b none=r→∃b,den E r=some (.bool b)∧∀w,(Op.equalIn (m+1) t u v).run P w=.ok b w:=fun a b ha hb eu ev e=>by
     subst eu ev e
     refine⟨decide (a.map sbU=b.map sbU),by rcases QJi ha hb with h | ⟨c,h,hc⟩<;>rw[h]<;>simp only[den,Option.some.injEq,Value.bool.injEq]<;>first | rfl | exact hc,fun w=>?_⟩
     simp only[str]
     rw[run_equalIn_string w m t _ _ hu,toList_mk,toList_mk]
     congr 1
     rw[Bool.eq_iff_iff];simp
    have vv:binV .eql x y=some r→∃b,den E r=some (.bool b)∧∀w,(Op.equalIn (m+1) t u v).run P w=.ok b w:=fun h=>by
     obtain⟨a,b,e1,e2,h3⟩:=QEw hx hy h
     subst e1 e2
     refine⟨_,h3,fun w=>?_⟩
     simp only[str]
     rw[run_equalIn_string w m t _ _ hu,toList_mk,toList_mk]
     congr 1
     rw[Bool.eq_iff_iff];simp
    cases x with
    | sx a=>
     obtain⟨h1,e1⟩:=QmO hx
     cases y<;>simp only[Q8W] at hr<;>try (cases hr;done)
     ·simp only[Option.some.injEq] at hr
      obtain⟨h2,e2⟩:=QmO hy
      exact fin _ _ h1 h2 e1 e2 hr
     ·simp only[Option.some.injEq] at hr
      obtain⟨h2,e2⟩:=Qcr hy
      exact fin _ _ h1 (QGt h2) e1 (by rw[QyJ];exact e2) hr
    | str a=>
     cases y with
     | sx b=>
      obtain⟨h1,e1⟩:=Qcr hx
      simp only[Q8W,Option.some.injEq] at hr
      obtain⟨h2,e2⟩:=QmO hy
      exact fin _ _ (QGt h1) h2 (by rw[QyJ];exact e1) e2 hr
     | str b=>
      obtain⟨h1,e1⟩:=Qcr hx
      simp only[Q8W,Option.some.injEq] at hr;subst hr
      obtain⟨h2,rfl⟩:=Qcr hy
      subst e1
      refine⟨_,rfl,fun w=>?_⟩
      simp only[str]
      rw[run_equalIn_string w m t _ _ hu,QB8 h1 h2,toList_mk,toList_mk]
      congr 1
      rw[Bool.eq_iff_iff];simp
     | _=>exact vv hr
    | _=>exact vv hr
   case struct fs=>
    split at h
    ·cases h
    ·rename_i hs
     obtain⟨l,hl,h⟩:=bind_some h
     simp only[Option.some.injEq] at h;subst h
     simp only[eqDF] at hr
     cases x<;>simp only at hr<;>try (cases hr;done)
     cases y<;>simp only at hr<;>try (cases hr;done)
     obtain⟨xs,_,_,rfl⟩:=QJk hx
     obtain⟨ys,_,_,rfl⟩:=QJk hy
     obtain⟨b,h1,h2⟩:=Q7s (P:=P) (m:=m) (fun ht h1 h2 h3=>QaaF n m ht (by omega) h1 h2 h3) hl hx hy hr
     refine⟨b,h1,fun w=>?_⟩
     have hf:P.fieldsOf t=fs:=by simp[Program.fieldsOf,hu]
     rw[run_equalIn_struct w m t _ _ (by rw[hf];exact hu) (by simpa using hs),hf]
     exact h2 w
theorem Qabm {E:Env}{neg:Bool}{t:TypeId}{d:EqD}{x y:Operand}{a b r r':FV}{u v:Value}(hg:P.eqGuardType P.depth t=false)(hst:∃fs,P.underlying t=some (.struct fs))(hd:eqDT P 8 t=some d)(hu:den E a=some u)(hv:den E b=some v)(h:eqDF d a b=some r)
  (hr:(match neg with | true=>notF r | false=>some r)=some r'):oBin P (match neg with | true=>.neq | false=>.eql) t x y u v fun w=>den E r'=some w:=by
 obtain⟨fs,hst⟩:=hst
 obtain⟨c,h1,h2⟩:=QaaF 8 10000 hd (by omega) hu hv h
 have hd':∃l,d=.st l:=by
  simp only[eqDT,hst] at hd
  split at hd
  ·cases hd
  ·obtain⟨l,_,hd⟩:=bind_some hd
   simp only[Option.some.injEq] at hd;exact⟨l,hd.symm⟩
 obtain⟨l,rfl⟩:=hd'
 simp only[eqDF] at h
 cases a<;>simp only at h<;>try (cases h;done)
 cases b<;>simp only at h<;>try (cases h;done)
 obtain⟨xs,_,_,rfl⟩:=QJk hu
 obtain⟨ys,_,_,rfl⟩:=QJk hv
 cases neg with
 | false=>
  simp only[Option.some.injEq] at hr;subst hr
  refine Sp.of (v:=.bool c) (fun w=>QA ?_) h1
  rw[Sem.run_bind,run_eqGuard_agg w .eql t x y _ _ hg,Result.andThen_ok,run_eql_struct,h2 w]
  rfl
 | true=>
  simp only at hr
  refine Sp.of (v:=.bool (!c)) (fun w=>QA ?_) ?_
  ·rw[Sem.run_bind,run_eqGuard_agg w .neq t x y _ _ hg,Result.andThen_ok,run_neq_struct,h2 w]
   rfl
  ·cases r<;>simp only[notF] at hr<;>try (cases hr;done)
   ·simp only[Option.some.injEq] at hr;subst hr
    simp only[den,Option.some.injEq,Value.bool.injEq] at h1;subst h1;rfl
   ·simp only[Option.some.injEq] at hr;subst hr
    simp only[den,Option.some.injEq,Value.bool.injEq] at h1;subst h1;rfl
end Go.Va
namespace Go.Va
open Go Go.Sh
variable [Vb]
variable {P:Program}
theorem Qr2 {t:TypeId}{d:KD}(h:kdO P t=some d):P.underlying t=some (kdT d):=by
 unfold kdO at h
 cases hu:P.underlying t with
 | none=>rw[hu] at h;cases h
 | some e=>
  rw[hu] at h
  cases e<;>simp only at h<;>try (cases h;done)
  ·simp only[Option.some.injEq] at h;subst h;rfl
  ·simp only[Option.some.injEq] at h;subst h;rfl
theorem QIb {t:TypeId}{d:KD}(h:kdO P t=some d):d.u=0:=by
 unfold kdO at h
 split at h<;>first | (simp only[Option.some.injEq] at h;subst h;rfl) | cases h
theorem QDG {t:TypeId}{z:FV}(h:zvO P t=some z):∃k b v,Inf P t k b v∧∀E,den E z=some v:=by
 unfold zvO at h
 cases hi:P.info? t with
 | none=>rw[hi] at h;cases h
 | some i=>
  rw[hi] at h
  simp only at h
  cases hz:i.zero with
  | none=>rw[hz] at h;cases h
  | some v=>
   rw[hz] at h
   simp only at h
   exact⟨_,_,v,⟨⟨i,hi,rfl,rfl,hz⟩⟩,fun E=>QyC E h⟩
theorem QIa {a b:KD}(h:kdq a b=true):a=b.b:=by
 unfold kdq at h
 cases a with
 | o _ _=>cases h
 | s=>cases hb:b.b<;>rw[hb] at h<;>first | rfl | cases h
 | i k=>cases hb:b.b<;>rw[hb] at h<;>first | (cases h;done) | rw[QdB h]
theorem QyK {E:Env}{d:KD}{x:FV}{v:Value}(h:kokF d x=true)(hd:den E x=some v):∃k,keyD d x=some k∧Mk.kOk (kdT d) k∧v=Mk.kV k:=by
 have key:∃k,keyD d x=some k:=by
  cases d with
  | s=>
   cases x<;>simp only[kokF] at h<;>try (cases h;done)
   rename_i l
   obtain⟨hb,_⟩:=Qcr hd
   exact⟨_,by simp only[keyD,if_pos hb];rfl⟩
  | i kk=>
   cases x<;>simp only[kokF] at h<;>try (cases h;done)
   rename_i k' n
   exact⟨_,by simp only[keyD,if_pos (QdB h)];rfl⟩
  | o n d=>cases h
 obtain⟨k,hk⟩:=key
 obtain⟨h1,h2⟩:=QtD hk
 have:=h2 E
 rw[hd] at this
 simp only[Option.some.injEq] at this
 exact⟨k,hk,h1,this⟩
theorem QEc {d:KD}{x y:FV}{a b:Mk.MK}(hx:keyD d x=some a)(hy:keyD d y=some b):keqv x y=decide (a=b):=by
 induction d with
 | o n d ih=>exact ih hx hy
 | s=>
  cases x<;>simp only[keyD] at hx<;>try (cases hx;done)
  cases y<;>simp only[keyD] at hy<;>try (cases hy;done)
  split at hx<;>try (cases hx;done)
  split at hy<;>try (cases hy;done)
  rename_i l l' h1 h2
  simp only[Option.some.injEq] at hx hy
  subst hx;subst hy
  simp only[keqv,QB8 h1 h2,Sum.inl.injEq]
 | i kk=>
  cases x<;>simp only[keyD] at hx<;>try (cases hx;done)
  cases y<;>simp only[keyD] at hy<;>try (cases hy;done)
  split at hx<;>try (cases hx;done)
  split at hy<;>try (cases hy;done)
  simp only[Option.some.injEq] at hx hy
  subst hx;subst hy
  simp only[keqv,Qkg,Sum.inr.injEq,Prod.mk.injEq,true_and]
theorem QHu (k:FV)(p:FV×FV)(r:List (FV×FV)):lkM k (p::r)=bif keqv p.1 k then some p.2 else lkM k r:=brec _ _ _
theorem QG4 (k v:FV)(p:FV×FV)(r:List (FV×FV)):upM k v (p::r)=bif keqv p.1 k then (k,v)::r else p::upM k v r:=brec _ _ _
theorem QGm {E:Env}{d:KD}{x:FV}{k:Mk.MK}(hk:keyD d x=some k):∀ {m:List (FV×FV)}{l:List (Mk.MK×Value)},denM E d m=some l →
  (match lkM x m with
  | some y=>∃v,den E y=some v∧Mk.look l k=some v
  | none=>Mk.look l k=none)
 | [],l,h=>by simp only[denM,Option.some.injEq] at h;subst h;rfl
 | p::r,l,h=>by
  obtain⟨a,v,l',h1,h2,h3,rfl⟩:=Qd6 h
  have ih:=QGm (x:=x) hk h3
  rw[QHu,QEc h1 hk,Mk.look]
  by_cases e:a=k
  ·rw[if_pos e,decide_eq_true e,cond_true];exact⟨v,h2,rfl⟩
  ·rw[if_neg e,decide_eq_false e,cond_false];exact ih
theorem QFy {E:Env}{d:KD}{x y:FV}{k:Mk.MK}{u:Value}(hk:keyD d x=some k)(hy:den E y=some u):∀ {m:List (FV×FV)}{l:List (Mk.MK×Value)},denM E d m=some l→denM E d (upM x y m)=some (Mk.ups l k u)
 | [],l,h=>by
  simp only[denM,Option.some.injEq] at h;subst h
  exact QtJ (p:=(x,y)) hk hy rfl
 | p::r,l,h=>by
  obtain⟨a,v,l',h1,h2,h3,rfl⟩:=Qd6 h
  rw[QG4,QEc h1 hk,Mk.ups]
  by_cases e:a=k
  ·rw[if_pos e,decide_eq_true e,cond_true];exact QtJ (p:=(x,y)) hk hy h3
  ·rw[if_neg e,decide_eq_false e,cond_false];exact QtJ h1 h2 (QFy hk hy h3)
theorem Rep.readM {E:Env}{th:TH}{h0 h:Heap}{L:List HP}(r:Rep E th h0 h L){i:Nat}{d:KD}{m:List (FV×FV)}(hg:th.t.get i=some (.map d m)) :
  ∃a l,E.p i=some a∧denM E d m=some l∧Mk.RdM h (.map (some a.block)) l ((List.range l.length).map (d.u+·)) (d.u+l.length):=by
 obtain⟨a,l,h1,h2,s⟩:=r.toldM hg
 exact⟨a,l,h1,h2,Mk.St.mapRd s⟩
theorem QeF {E:Env}{i:Nat}{v:Value}(h:den E (.map i)=some v):∃a,E.p i=some a∧v=.map (some a.block):=by
 simp only[den] at h
 cases hp:E.p i with
 | none=>rw[hp] at h;cases h
 | some a=>rw[hp] at h;simp only[Option.some.injEq] at h;exact⟨a,rfl,h.symm⟩
theorem look_nil {t kt et:TypeId}{d:TypeDesc}{kk bb:Nat}{z:Value} [Und P t (.map kt et)] (hu:P.underlying kt=some d) [Inf P et kk bb z]{k:Mk.MK}{ok:Bool}{D:Heap→Prop}{K:Value→Prop}
  (hkk:Mk.kOk d k) (hk:K (if ok then .tuple #[z,.bool false] else z)):Qxk P t (.map none) (Mk.kV k) ok D K:=by
 refine⟨_,fun w hw=>?_,hk⟩
 refine QA ?_
 unfold Instr.lookup
 have h1:=Mk.run_findKey_k (P:=P) hu hkk [] [] (fun p hp=>by cases hp) rfl w
 have e:Mk.ents [] []=[]:=rfl
 rw[e] at h1
 simp only[Sem.run_bind,Und.run (P:=P) (t:=t),Result.andThen_ok,pure_bind,Mk.run_checkKey_k hu _ 9999 hkk,h1]
 simp[Mk.lookI,Inf.zer]
theorem QGl {E:Env}{th:TH}{h0 h:Heap}{L:List HP}(r:Rep E th h0 h L){t kt et:TypeId}{d:KD}{z:FV}(hu:P.underlying t=some (.map kt et))(hd:kdO P kt=some d)(hz:zvO P et=some z){x k y:FV}{ok:Bool}{v u:Value}
  (hv:den E x=some v) (hk:den E k=some u) (hx:lkpF th.t d z ok x k=some y):Qxk P t v u ok (Eq h) fun v=>den E y=some v:=by
 haveI:Und P t (.map kt et):=⟨hu⟩
 obtain⟨kk,bb,zv,hi,hzd⟩:=QDG hz
 haveI:=hi
 cases x<;>simp only[lkpF] at hx<;>try (cases hx;done)
 case nilm=>
  cases hb:kokF d k with
  | false=>rw[hb] at hx;cases hx
  | true=>
   rw[hb] at hx;simp only[cond_true,Option.some.injEq] at hx;subst hx
   simp only[den,Option.some.injEq] at hv;subst hv
   obtain⟨q,h1,h2,rfl⟩:=QyK hb hk
   refine look_nil (Qr2 hd) h2 ?_
   cases ok with
   | true=>simp only[resM,if_true,den,denL,hzd E]
   | false=>simpa only [resM,Bool.false_eq_true,if_false] using hzd E
 case map i=>
  cases hg:th.t.get i with
  | none=>rw[hg] at hx;cases hx
  | some o=>
   rw[hg] at hx
   rcases o with⟨cs,kq⟩ | ⟨d',m⟩ | ⟨ii,cc,bb⟩ | ⟨rr⟩
   case row=>first | exact hx.elim | cases hx
   case mp=>first | exact hx.elim | cases hx
   case mf=>first | exact hx.elim | cases hx
   case im=>first | exact hx.elim | cases hx
   ·cases hx
   ·simp only at hx
    cases hb:kdq d d'&&kokF d k with
    | false=>rw[hb] at hx;cases hx
    | true=>
     rw[hb] at hx;simp only[cond_true,Option.some.injEq] at hx;subst hx
     simp only[Bool.and_eq_true] at hb
     have e:=QIa hb.1
     subst e
     obtain⟨q,h1,h2,rfl⟩:=QyK hb.2 hk
     obtain⟨a,ha,rfl⟩:=QeF hv
     obtain⟨a',l,g1,g2,g3⟩:=r.readM hg
     rw[←QxY] at g2
     rw[ha] at g1;simp only[Option.some.injEq] at g1;subst g1
     refine Mk.oLook_val (Qr2 hd) h2 (Qy6 g2) (fun h' e=>by subst e;exact⟨_,_,g3⟩) ?_
     have hl:=QGm h1 g2
     cases hm:lkM k m with
     | none=>
      rw[hm] at hl
      simp only at hl
      rw[hl]
      cases ok with
      | true=>simp only[resM,if_true,den,denL,hzd E,Option.getD_none,Option.isSome_none]
      | false=>simpa only [resM,Bool.false_eq_true,if_false,Option.getD_none] using hzd E
     | some w=>
      rw[hm] at hl
      obtain⟨vv,g4,g5⟩:=hl
      rw[g5]
      cases ok with
      | true=>simp only[resM,if_true,den,denL,g4,Option.getD_some,Option.isSome_some]
      | false=>simpa only [resM,Bool.false_eq_true,if_false,Option.getD_some] using g4
   ·cases hx
   ·cases hx
theorem QI1 {E:Env}{th:TH}{h0 h:Heap}{L:List HP}(r:Rep E th h0 h L){t ty kt et:TypeId}(hu:P.underlying t=some (.map kt et)){x y:FV}{v:Value}(hv:den E x=some v)(hx:QFd th.t x=some y) :
  QpS P #[t] ty v (Eq h) fun v=>den E y=some v:=by
 haveI:Und P t (.map kt et):=⟨hu⟩
 cases x<;>simp only[QFd] at hx<;>try (cases hx;done)
 case nilm=>
  simp only[Option.some.injEq] at hx;subst hx
  simp only[den,Option.some.injEq] at hv;subst hv
  refine⟨.int .i64 0,fun w hw=>QA ?_,rfl⟩
  unfold Builtin.len_
  simp[Und.run,goInt]
 case map i=>
  cases hg:th.t.get i with
  | none=>rw[hg] at hx;cases hx
  | some o=>
   rw[hg] at hx
   rcases o with⟨cs,kq⟩ | ⟨d',m⟩ | ⟨ii,cc,bb⟩ | ⟨rr⟩
   case row=>first | exact hx.elim | cases hx
   case mp=>first | exact hx.elim | cases hx
   case mf=>first | exact hx.elim | cases hx
   case im=>first | exact hx.elim | cases hx
   ·cases hx
   ·simp only[Option.some.injEq] at hx;subst hx
    obtain⟨a,ha,rfl⟩:=QeF hv
    obtain⟨a',l,g1,g2,g3⟩:=r.readM hg
    rw[ha] at g1;simp only[Option.some.injEq] at g1;subst g1
    refine Mk.oLenM_rd (fun h' e=>by subst e;exact⟨_,_,g3⟩) ?_
    rw[QmP g2];rfl
   ·cases hx
   ·cases hx
theorem Rep.readI {E:Env}{th:TH}{h0 h:Heap}{L:List HP}(r:Rep E th h0 h L){i j c:Nat}{b:List Nat}(hg:th.t.get i=some (.it j c b)) :
  ∃i0 m,E.p i=some ⟨i0,0,none⟩∧E.p j=some m∧h[i0]?=some (.mapIter (some m.block) c b.toArray c):=by
 obtain⟨a,m,h1,h2,s⟩:=r.toldI hg
 obtain⟨S,⟨i0,rfl,_,hb⟩,_⟩:=s.get
 exact⟨i0,m,h1,h2,hb⟩
theorem QCb:∀ {b:List Nat}{s:Nat},QtC b=some s→b.toArray.back?=some s
 | [a],s,h=>by
  simp only[QtC,Option.some.injEq] at h;subst h;simp
 | a::x::r,s,h=>by
  simp only[QtC] at h
  have:=QCb (b:=x::r) h
  simpa [List.getLast?_cons_cons] using this
 | [],s,h=>by cases h
theorem QEk {E:Env}{d:KD}{s:Nat}:∀ {m:List (FV×FV)}{l:List (Mk.MK×Value)}{u:Nat}{p:FV×FV},denM E d m=some l→entA s m u=some p→∃k v,den E p.1=some (Mk.kV k)∧den E p.2=some v∧(Mk.ents l ((List.range l.length).map (u+·))).find? (fun e=>e.born == s)=some ⟨Mk.kV k,v,s⟩
 | q::m,l,u,p,h,hp=>by
  obtain⟨k,v,l',h1,h2,h3,rfl⟩:=Qd6 h
  have hents:Mk.ents ((k,v)::l') ((List.range ((k,v)::l').length).map (u+·))=⟨Mk.kV k,v,u⟩::Mk.ents l' ((List.range l'.length).map (u.succ+·)):=by
   rw[List.length_cons,List.range_succ_eq_map,List.map_cons,List.map_map]
   have e:((fun x=>u+x) ∘ Nat.succ)=(fun x=>u.succ+x):=by funext x;show u+(x+1)=(u+1)+x;omega
   rw[e];rfl
  rw[hents]
  unfold entA at hp
  cases hb:Nat.beq u s with
  | true=>
   rw[hb] at hp;simp only[cond_true,Option.some.injEq] at hp;subst hp
   have:=Qm hb;subst this
   exact⟨k,v,(QtD h1).2 E,h2,by simp⟩
  | false=>
   rw[hb] at hp;simp only[cond_false] at hp
   obtain⟨k',v',q1,q2,q3⟩:=QEk h3 hp
   refine⟨k',v',q1,q2,?_⟩
   have hne:(u == s)=false:=by
    rw[beq_eq_false_iff_ne]
    intro e
    rw[e,Nat.beq_refl] at hb
    cases hb
   rw[List.find?_cons]
   simp only[hne]
   exact q3
 | [],l,u,p,h,hp=>by cases hp
theorem QKE {E:Env}{th:TH}{h0 h:Heap}{L:List HP}(r:Rep E th h0 h L){x y:FV}{v:Value}(hv:den E x=some v)(hx:entF th.t x=some y):QrY P v (Eq h) fun v=>den E y=some v:=by
 cases x<;>simp only[entF] at hx<;>try (cases hx;done)
 rename_i j o
 cases o with
 | succ o=>cases hx
 | zero=>
  simp only at hx
  cases hg:th.t.get j with
  | none=>rw[hg] at hx;cases hx
  | some ob=>
   rw[hg] at hx
   rcases ob with⟨cs,kk⟩ | ⟨dd,mm⟩ | ⟨i,c,b⟩ | ⟨rr⟩<;>try (cases hx;done)
   simp only at hx
   cases hl:QtC b with
   | none=>rw[hl] at hx;cases hx
   | some s=>
    rw[hl] at hx
    simp only at hx
    cases hg2:th.t.get i with
    | none=>rw[hg2] at hx;cases hx
    | some ob=>
     rw[hg2] at hx
     rcases ob with⟨cs,kk⟩ | ⟨d,m⟩ | ⟨ii,cc,bb⟩ | ⟨rr⟩<;>try (cases hx;done)
     simp only at hx
     cases hc:Nat.beq c (Nat.add d.u m.length) with
     | false=>rw[hc] at hx;cases hx
     | true=>
      rw[hc] at hx;simp only[cond_true] at hx
      have hc':=Qm hc
      cases he:entA s m d.u with
      | none=>rw[he] at hx;cases hx
      | some p=>
       rw[he] at hx;simp only[Option.some.injEq] at hx;subst hx
       obtain⟨i0,a,h1,h2,hi⟩:=r.readI hg
       obtain⟨a',l,g1,g2,hok,q,e,hb⟩:=r.readM hg2
       rw[h2] at g1;simp only[Option.some.injEq] at g1;subst g1
       obtain⟨k,u,k2,k3,hf⟩:=QEk g2 he
       simp only[Value.map.injEq,Option.some.injEq] at e
       simp only[den,h1,Option.some.injEq] at hv;subst hv
       refine⟨.tuple #[Mk.kV k,u],fun w hw=>QA ?_,by simp only[den,denL,k2,k3]⟩
       rw[hw] at hi hb
       rw[←e] at hb
       have hgi:=Qay (P:=P) hi (by simp)
       have hgm:=Qay (P:=P) hb (by simp)
       have hcl:c=d.u+l.length:=by rw[hc',QmP g2];rfl
       show (Instr.entry (.pointer (some ⟨i0,0,none⟩))).run P w=_
       unfold Instr.entry
       simp only[Sem.run_bind,hgi,Result.andThen_ok,QCb hl]
       simp[hgm,hf,hcl]
end Go.Va
