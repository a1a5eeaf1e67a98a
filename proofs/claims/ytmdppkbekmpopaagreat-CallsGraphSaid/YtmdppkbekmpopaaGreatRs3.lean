import Derived.Test.YtmdppkbekmpopaaGreatNs
set_option linter.unusedVariables false
set_option linter.unusedSimpArgs false
set_option maxRecDepth 100000
set_option maxHeartbeats 4000000
noncomputable section
namespace Go.Proofs.YtmdppkbekmpopaaGreat
open Go Go.Sh Go.Va
structure KdS (fp fl:LD)(k:Int)(X Y:Str):Prop where
 x:(k=0∨k=4∨k=6→QdA fp fl X≠2)∧(k=1∨k=2∨k=3∨k=5→QdA fp fl X=2)∧(k=8→X=[]∨QdA fp fl X≠2)
 y:(k=2∨k=4→QdA fp fl Y=2)∧(k=1∨k=6∨k=7∨k=8→QdA fp fl Y=0)
def WA2 (d:LD):Prop:=WA d∨∃s,d=.t [.b true,.s s,.nul]∧Nm s
structure ResS (fp fl:LD)(k:Int)(X Y:Str)(E F C ar th el:LD)(th0 el0:LD)(m0:Nat):Prop where
 s:OkS k X Y E F C ar th el
 k:KdS fp fl k X Y
 a:∀x∈ar.es,WA2 x
 t:(th=th0∨th=.nul)∧(el=el0∨el=.nul)
 m:nN E+nN F+nN C+nN ar≤m0
def Qak:QF:=fun xs Ks=>∃fn fp fl fb k X Y E F C ar th el n,xs=[.s fn,fp,fl,fb,.n k,.s X,.s Y,E,F,C,ar,th,el,.n n]∧Fv fp fl∧OkS k X Y E F C ar th el∧(∀x∈ar.es,WA x) ∧
 ∀(k':Int) (X' Y':Str) (E' F' C' ar' th' el':LD) (n':Int) (b:Bool),(b=true→ResS fp fl k' X' Y' E' F' C' ar' th' el' th el (nN E+nN F+nN C+nN ar))→nthK Ks 0 [.n k',.s X',.s Y',E',F',C',ar',th',el',.n n',.b b]
theorem wa2 {w:List LD}(h:∀x∈w,WA x):∀x∈w,WA2 x:=fun x hx=>.inl (h x hx)
theorem QJp {fp fl:LD}{X:Str}{E:LD}{Y:Str}{F C ar th el:LD}{th0 el0:LD}{m0:Nat}(hS:OkS 0 X Y E F C ar th el)(hX:QdA fp fl X=2)(he:(E.f 0).i=1)(hk:QdA fp fl (E.f 2).st=2):ResS fp fl 2 X (E.f 2).st .nul .nul .nul .nul .nul .nul th0 el0 m0:=by
 have hE:=hS.e.1 (.inl rfl)
 have hN:Nm (E.f 2).st:=by
  cases hE with
  | num a n=>simp[LD.f,LD.cs,LD.i] at he
  | var a s hs=>exact hs
  | bin a k x y h1 h2 hx hy=>simp[LD.f,LD.cs,LD.i] at he;omega
  | neg a x hx=>simp[LD.f,LD.cs,LD.i] at he
 exact⟨⟨by omega,⟨fun _=>hS.x.1 (by omega),by omega,by omega⟩,⟨fun _=>hN,by omega⟩,⟨by omega,fun _=>rfl⟩,⟨by omega,fun _=>rfl⟩,⟨by omega,fun _=>rfl⟩,fun _=>rfl,⟨fun _=>rfl,fun _=>rfl⟩,⟨Nat.zero_le _,Nat.zero_le _,Nat.zero_le _⟩⟩,⟨⟨by omega,fun _=>hX,by omega⟩,⟨fun _=>hk,by omega⟩⟩,(fun x h=>by cases h),⟨.inr rfl,.inr rfl⟩,Nat.zero_le _⟩
theorem QIJ {fp fl:LD}{k:Int}{X Y:Str}{E F C ar th el:LD}(hS:OkS k X Y E F C ar th el)(ha:∀x∈ar.es,WA x)(hk:KdS fp fl k X Y):ResS fp fl k X Y E F C ar th el th el (nN E+nN F+nN C+nN ar):=⟨hS,hk,wa2 ha,⟨.inl rfl,.inl rfl⟩,Nat.le_refl _⟩
def QaU (j:Nat):QF:=fun xs Ks=>∃ok i fn fp fl fb k X Y E F C ar th el n z0 z1 z2 z3 z4 z5 z6 z7 z8 z9 w,xs=[.b ok,.n i,.s fn,fp,fl,fb,.n k,.s X,.s Y,E,F,C,ar,th,el,.n n,.n z0,.s z1,.s z2,z3,z4,z5,z6,z7,z8,.n z9,.t w]∧Fv fp fl∧w.length≤4096∧(∀x∈w,WA2 x)∧0≤i∧i≤(w.length:Int)∧(w.length - i:Int).toNat<j ∧
 ∀(ok':Bool) (w':List LD),(ok'=true→ok=true)→w'.length=w.length→(∀x∈w',WA2 x)→nNL w'≤nNL w→nthK Ks 0 [.b ok',.s fn,fp,fl,fb,.n k,.s X,.s Y,E,F,C,ar,th,el,.n n,.n z0,.s z1,.s z2,z3,z4,z5,z6,z7,z8,.n z9,.t w']
theorem QJX {w:List LD}{i:Nat}(h:∀x∈w,WA2 x)(hi:i<w.length):WA2 (w.getD i .nul):=h _ (by rw[List.getD_eq_getElem?_getD,List.getElem?_eq_getElem hi];exact List.getElem_mem hi)
theorem QDN {x:LD}(h:WA2 x):WE0 (x.f 2):=by
 rcases h with⟨e,rfl,he⟩ | ⟨s,rfl,_⟩
 ·exact .inr he
 ·exact .inl rfl
theorem QJW {x:LD}(h:WA2 x)(hi:(x.f 2).is=true)(hk:((x.f 2).f 0).i=1):WA2 (x.upd 0 [.b true,.s ((x.f 2).f 2).st,.nul]):=by
 rcases h with⟨e,rfl,he⟩ | ⟨s,rfl,_⟩
 ·refine .inr ⟨_,rfl,?_⟩
  have hk':(e.f 0).i=1:=hk
  show Nm (e.f 2).st
  cases he with
  | num a n=>simp[LD.f,LD.cs,LD.i] at hk'
  | var a s hs=>exact hs
  | bin a k x y h1 h2 hx hy=>simp[LD.f,LD.cs,LD.i] at hk';omega
  | neg a x hx=>simp[LD.f,LD.cs,LD.i] at hk'
 ·cases hi
theorem QJY {x:LD}{s:Str}(h:WA2 x):nN (x.upd 0 [.b true,.s s,.nul])≤nN x:=by
 rcases h with⟨e,rfl,he⟩ | ⟨s,rfl,_⟩<;>simp[LD.upd,LD.cs,nN,nNL]
theorem QD6:∀ {w:List LD}{i:Nat}{x:LD},nN x≤nN (w.getD i .nul)→nNL (w.set i x)≤nNL w
 | [],_,_,_=>by simp[nNL]
 | y::r,0,x,h=>by
  have h':nN x≤nN y:=by simpa using h
  simp only[List.set_cons_zero,nNL];omega
 | y::r,i+1,x,h=>by
  have:=QD6 (w:=r) (i:=i) (x:=x) (by simpa using h)
  simp only[List.set_cons_succ,nNL];omega
theorem QIY {P:LD→Prop}{w:List LD}{i:Nat}{x:LD}(h:∀y∈w,P y)(hx:P x):∀y∈w.set i x,P y:=fun y hy=>by
 rcases List.mem_or_eq_of_mem_set hy with h1 | rfl
 ·exact h y h1
 ·exact hx
theorem QwP {ok:Bool}{i:Int}{fn:Str}{fp fl fb:LD}{k:Int}{X Y:Str}{E F C ar th el:LD}{n z0:Int}{z1 z2:Str}{z3 z4 z5 z6 z7 z8:LD}{z9:Int}{w:List LD}{Ks:List (List LD→Prop)}{q q1:QF}{j:Nat}
  (h:QaU (j+1) [.b ok,.n i,.s fn,fp,fl,fb,.n k,.s X,.s Y,E,F,C,ar,th,el,.n n,.n z0,.s z1,.s z2,z3,z4,z5,z6,z7,z8,.n z9,.t w] Ks) :
  QnT ok i fn fp fl fb k X Y E F C ar th el n z0 z1 z2 z3 z4 z5 z6 z7 z8 z9 w (fun ys=>QaU j ys Ks) (nthK Ks) q Ql QT Qu q1:=by
 obtain⟨ok_,i_,fn_,fp_,fl_,fb_,k_,X_,Y_,E_,F_,C_,ar_,th_,el_,n_,z0_,z1_,z2_,z3_,z4_,z5_,z6_,z7_,z8_,z9_,w_,eq,hv,hw,ha,h0,h1,hj,hk⟩:=h
 simp only[List.cons.injEq,LD.n.injEq,LD.s.injEq,LD.b.injEq,LD.t.injEq,and_true] at eq
 obtain⟨rfl,rfl,rfl,rfl,rfl,rfl,rfl,rfl,rfl,rfl,rfl,rfl,rfl,rfl,rfl,rfl,rfl,rfl,rfl,rfl,rfl,rfl,rfl,rfl,rfl,rfl,rfl⟩:=eq
 refine Eq.mpr (QxO ..) ?_
 refine bifD (fun hc=>?_) fun hc=>hk ok w id rfl ha (Nat.le_refl _)
 have hc':i<(w.length:Int):=hc
 have hi:i.toNat<w.length:=by omega
 have ei:IntKind.i64.wrap (i+1)=i+1:=QJ (by omega) (by omega)
 rw[ei]
 have hd:=decB h0 hc
 have hx:=QJX ha hi
 have go:∀(ok':Bool) (w':List LD),(ok'=true→ok=true)→w'.length=w.length→(∀x∈w',WA2 x)→nNL w'≤nNL w→QaU j [.b ok',.n (i+1),.s fn,fp,fl,fb,.n k,.s X,.s Y,E,F,C,ar,th,el,.n n,.n z0,.s z1,.s z2,z3,z4,z5,z6,z7,z8,.n z9,.t w'] Ks:=fun ok' w' a b c d=>
  ⟨ok',i+1,fn,fp,fl,fb,k,X,Y,E,F,C,ar,th,el,n,z0,z1,z2,z3,z4,z5,z6,z7,z8,z9,w',rfl,hv,by omega,c,by omega,by omega,by omega,fun ok2 w2 a2 b2 c2 d2=>hk ok2 w2 (fun h=>a (a2 h)) (by omega) c2 (Nat.le_trans d2 d)⟩
 refine⟨hd,bifI (fun hp=>?_) fun hp=>?_⟩
 ·refine bifI (fun ho=>⟨hd,Qjw hv ⟨⟨rfl,rfl⟩,bifD (fun _=>?_) fun _=>?_⟩⟩) fun ho=>?_
  ·exact go _ _ (fun _=>ho) rfl ha (Nat.le_refl _)
  ·exact go _ _ (fun h=>by cases h) rfl ha (Nat.le_refl _)
  ·exact go _ _ (fun h=>by cases h) rfl ha (Nat.le_refl _)
 ·refine⟨hd,Qzo hv (fun h1 h2 h3=>?_) ?_⟩
  ·exact⟨hd,h1,hd,go _ _ id (by rw[List.length_set]) (QIY ha (QJW hx h1 h2)) (QD6 (QJY hx))⟩
  ·with_reducible refine bifF ?_
   refine bifI (fun ho=>⟨hd,Qoc hv (QDN hx) fun b=>bifI (fun _=>⟨⟨rfl,rfl⟩,?_⟩) fun _=>⟨⟨rfl,rfl⟩,?_⟩⟩) fun ho=>?_
   ·exact go _ _ (fun _=>ho) rfl ha (Nat.le_refl _)
   ·exact go _ _ (fun h=>by cases h) rfl ha (Nat.le_refl _)
   ·exact go _ _ (fun h=>by cases h) rfl ha (Nat.le_refl _)
theorem u_29 {ok:Bool}{fn:Str}{fp fl fb:LD}{k:Int}{X Y:Str}{E F C ar th el:LD}{n z0:Int}{z1 z2:Str}{z3 z4 z5 z6 z7 z8:LD}{z9:Int}{w:List LD}{f:TelK [.b,.s,.l 9,.l 9,.l 8,.i .i64,.s,.s,.p 5,.p 5,.p 6,.l 7,.l 8,.l 8,.i .i64,.i .i64,.s,.s,.p 5,.p 5,.p 6,.l 7,.l 8,.l 8,.i .i64,.r 7]}(hv:Fv fp fl)(hw:w.length≤4096)(ha:∀x∈w,WA2 x)
  (h:∀(ok':Bool) (w':List LD),(ok'=true→ok=true)→w'.length=w.length→(∀x∈w',WA2 x)→nNL w'≤nNL w→f ok' fn fp fl fb k X Y E F C ar th el n z0 z1 z2 z3 z4 z5 z6 z7 z8 z9 w') :
  ∃j,QaU j [.b ok,.n 0,.s fn,fp,fl,fb,.n k,.s X,.s Y,E,F,C,ar,th,el,.n n,.n z0,.s z1,.s z2,z3,z4,z5,z6,z7,z8,.n z9,.t w] [apK [.b,.s,.l 9,.l 9,.l 8,.i .i64,.s,.s,.p 5,.p 5,.p 6,.l 7,.l 8,.l 8,.i .i64,.i .i64,.s,.s,.p 5,.p 5,.p 6,.l 7,.l 8,.l 8,.i .i64,.r 7] f]:=
 ⟨_,ok,0,fn,fp,fl,fb,k,X,Y,E,F,C,ar,th,el,n,z0,z1,z2,z3,z4,z5,z6,z7,z8,z9,w,rfl,hv,hw,ha,by omega,by omega,Nat.lt_succ_self _,fun ok' w' a b c d _=>h ok' w' a b c d⟩
theorem QtK {fp fl:LD}{X Y:Str}{E F C ar ar' th el:LD}(hS:OkS 8 X Y E F C ar th el)(hX:X=[]∨QdA fp fl X≠2)(hY:QdA fp fl Y=0)(hl:ar'.len≤4096)(ha:∀x∈ar'.es,WA2 x)(hm:nN ar'≤nN ar):ResS fp fl 8 X Y E F C ar' th el th el (nN E+nN F+nN C+nN ar):=
 ⟨⟨hS.k0,hS.x,hS.y,hS.e,hS.f,hS.c,fun h=>absurd rfl h,hS.t,⟨hl,hS.n.2⟩⟩,⟨⟨by omega,by omega,fun _=>hX⟩,⟨by omega,fun _=>hY⟩⟩,ha,⟨.inl rfl,.inl rfl⟩,by omega⟩
attribute [local irreducible] Ql QT Qu QL QaU
theorem QBy {fn:Str}{fp fl fb:LD}{k:Int}{X Y:Str}{E F C ar th el:LD}{n:Int}{Ks:Nat→List LD→Prop}{q:QF}(hv:Fv fp fl)(hS:OkS k X Y E F C ar th el)(ha:∀x∈ar.es,WA x)
  (hk:∀(k':Int) (X' Y':Str) (E' F' C' ar' th' el':LD) (n':Int) (b:Bool),(b=true→ResS fp fl k' X' Y' E' F' C' ar' th' el' th el (nN E+nN F+nN C+nN ar))→Ks 0 [.n k',.s X',.s Y',E',F',C',ar',th',el',.n n',.b b]) :
  Qtb fn fp fl fb k X Y E F C ar th el n Ks q Ql QT Qu QL (fun xs Ks=>∃j,QaU j xs Ks):=by
 refine Eq.mpr (QCG ..) ?_
 have hn:ar.es.length≤4096:=hS.n.1
 have e0:WE0 E:=by
  by_cases h:k=0∨k=5∨k=6∨k=7∨k=9
  ·exact .inr (hS.e.1 h)
  ·exact .inl (hS.e.2 h)
 have f0:WE0 F:=by
  by_cases h:k=7
  ·exact .inr (hS.f.1 h)
  ·exact .inl (hS.f.2 h)
 have c0:WC0 C:=by
  by_cases h:10≤k
  ·exact .inr (hS.c.1 h)
  ·exact .inl (hS.c.2 (by omega))
 refine Qjw hv ⟨rfl,⟨rfl,rfl,rfl,rfl,trivial⟩,Qjw hv ?_⟩
 have fls:∀(k':Int) (X' Y':Str) (E' F' C' ar' th' el':LD) (n':Int),Ks 0 [.n k',.s X',.s Y',E',F',C',ar',th',el',.n n',.b false]:=fun k' X' Y' E' F' C' ar' th' el' n'=>hk k' X' Y' E' F' C' ar' th' el' n' false (fun h=>by cases h)
 repeat' first
  | exact fls _ _ _ _ _ _ _ _ _ _
  | exact hk _ _ _ _ _ _ _ _ _ _ _ (fun _=>QIJ hS ha ⟨⟨by omega,by omega,by omega⟩,⟨by omega,by omega⟩⟩)
  | exact hk _ _ _ _ _ _ _ _ _ _ _ (fun _=>QJp (by rw[←h0];exact hS) (by omega) h1 h2)
  | exact hk _ _ _ _ _ _ _ _ _ _ _ (fun _=>by subst h0;exact QtK hS (.inl hX) (by omega) (Nat.zero_le _) (fun x h=>by cases h) (Nat.zero_le _))
  | exact hk _ _ _ _ _ _ _ _ _ _ _ (fun _=>by subst h0;exact QtK hS (.inr (by omega)) (by omega) (Nat.zero_le _) (fun x h=>by cases h) (Nat.zero_le _))
  | exact hk _ _ _ _ _ _ _ _ _ _ _ (fun _=>by subst h0;exact QtK hS (.inl hX) (by omega) (by show w'.length≤4096;omega) hw2 (Nat.le_trans hw3 (QoI ar)))
  | exact hk _ _ _ _ _ _ _ _ _ _ _ (fun _=>by subst h0;exact QtK hS (.inr (by omega)) (by omega) (by show w'.length≤4096;omega) hw2 (Nat.le_trans hw3 (QoI ar)))
  | exact hk _ _ _ _ _ _ _ _ _ _ _ (fun _=>by cases hok (by assumption))
  | with_reducible refine bifT ?_
  | with_reducible refine bifF ?_
  | refine u_29 hv hn (wa2 ha) (fun ok' w' hok hw1 hw2 hw3=>?_)
  | refine⟨⟨by omega,by omega⟩,?_⟩
  | refine⟨by assumption,?_⟩
  | (refine bifN (fun hc=>?_) (fun hc=>?_))
  | (refine bifD (p:=k=_) (fun h0=>?_) (fun hc=>?_))
  | (refine bifD (p:=X=_) (fun hX=>?_) (fun hc=>?_))
  | (refine bifD (fun hc=>?_) (fun hc=>?_))
  | refine Qjw hv ?_
  | refine Qzo hv (fun h3 h1 h2=>?_) ?_
  | refine Qoc hv e0 (fun b=>?_)
  | refine Qoc hv f0 (fun b=>?_)
  | refine QG8 hv c0 (fun b=>?_)
  | refine⟨fun hnil=>?_,fun aa cc hcc=>?_⟩
  | refine bifI (fun hb=>?_) (fun hb=>?_)
end Go.Proofs.YtmdppkbekmpopaaGreat
namespace Go.Proofs.YtmdppkbekmpopaaGreat
open Go Go.Sh Go.Va
inductive RS (fp fl:LD):LD→Prop
 | mk (k:Int) (X Y:Str) (E F C ar th el:LD) (n:Int):OkS k X Y E F C ar th el→KdS fp fl k X Y→(∀x∈ar.es,WA2 x)→(∀s∈th.es,RS fp fl s)→(∀s∈el.es,RS fp fl s)→RS fp fl (.t [.n k,.s X,.s Y,E,F,C,ar,th,el,.n n])
theorem QHq (es:List LD)(i:Nat):nNL (es.take i)≤nNL es:=by
 have:=QhX (es.take i) (es.drop i)
 rw[List.take_append_drop] at this;omega
theorem QAe {es:List LD}{i:Nat}(h:i<es.length):nNL (es.take (i+1))=nNL (es.take i)+nN (es.getD i .nul):=by
 rw[List.take_succ_eq_append_getElem h,QhX,List.getD_eq_getElem?_getD,List.getElem?_eq_getElem h]
 simp only[nNL,Option.getD_some];omega
def QcA (k:Nat):QF:=fun xs Ks=>∃fn fp fl fb l,xs=[.s fn,fp,fl,fb,l]∧Fv fp fl∧l.len≤4096∧(∀s∈l.es,WS s)∧SizeOf.sizeOf l<k∧∀(r:LD) (a:Int),r.len≤l.len→(∀s∈r.es,RS fp fl s)→nN r≤nN l→nthK Ks 0 [r,.n a]
theorem Qvl {fn:Str}{fp fl fb l:LD}{k:Nat}{f:TelK [.l 8,.i .i64]}(hv:Fv fp fl)(hl:l.len≤4096)(hw:∀s∈l.es,WS s)(hk:SizeOf.sizeOf l<k)(h:∀(r:LD)(a:Int),r.len≤l.len→(∀s∈r.es,RS fp fl s)→nN r≤nN l→f r a):QcA k [.s fn,fp,fl,fb,l] [apK [.l 8,.i .i64] f]:=⟨fn,fp,fl,fb,l,rfl,hv,hl,hw,hk,fun r a h1 h2 h3 _=>h r a h1 h2 h3⟩
theorem QIs {fn:Str}{fp fl fb:LD}{k:Int}{X Y:Str}{E F C ar th el:LD}{n:Int}{f:TelK [.i .i64,.s,.s,.p 5,.p 5,.p 6,.l 7,.l 8,.l 8,.i .i64,.b]}(hv:Fv fp fl)(hS:OkS k X Y E F C ar th el)(ha:∀x∈ar.es,WA x)
  (h:∀(k':Int) (X' Y':Str) (E' F' C' ar' th' el':LD) (n':Int) (b:Bool),(b=true→ResS fp fl k' X' Y' E' F' C' ar' th' el' th el (nN E+nN F+nN C+nN ar))→f k' X' Y' E' F' C' ar' th' el' n' b) :
  Qak [.s fn,fp,fl,fb,.n k,.s X,.s Y,E,F,C,ar,th,el,.n n] [apK [.i .i64,.s,.s,.p 5,.p 5,.p 6,.l 7,.l 8,.l 8,.i .i64,.b] f]:=
 ⟨fn,fp,fl,fb,k,X,Y,E,F,C,ar,th,el,n,rfl,hv,hS,ha,fun k' X' Y' E' F' C' ar' th' el' n' b hb _=>h k' X' Y' E' F' C' ar' th' el' n' b hb⟩
def Qcx (k j:Nat):QF:=fun xs Ks=>∃l i fn fp fl fb w,xs=[l,.n i,.s fn,fp,fl,fb,.t w]∧Fv fp fl∧l.len≤4096∧(∀s∈l.es,WS s)∧SizeOf.sizeOf l<k+1∧0≤i∧i≤l.len∧(l.len - i:Int).toNat<j∧(w.length:Int)≤i∧(∀s∈w,RS fp fl s)∧nNL w≤nNL (l.es.take i.toNat) ∧
 (∀w':List LD,w'.length≤l.len→(∀s∈w',RS fp fl s)→nNL w'≤nN l→nthK Ks 0 [.s fn,fp,fl,fb,.t w'])∧∀a:Int,nthK Ks 1 [.nul,.n a,.s fn,fp,fl,fb]
theorem QwO {l:LD}{i:Int}{fn:Str}{fp fl fb:LD}{w:List LD}{Ks:List (List LD→Prop)}{q:QF}{k j:Nat}(h:Qcx k (j+1) [l,.n i,.s fn,fp,fl,fb,.t w] Ks) :
  QnS l i fn fp fl fb w (fun ys=>Qcx k j ys Ks) (nthK Ks) q Qak (QcA k):=by
 obtain⟨l_,i_,fn_,fp_,fl_,fb_,w_,eq,hv,hl,hws,hk,h0,h1,hj,hw,hr,hcn,k0,k1⟩:=h
 simp only[List.cons.injEq,LD.n.injEq,LD.s.injEq,LD.t.injEq,and_true] at eq
 obtain⟨rfl,rfl,rfl,rfl,rfl,rfl,rfl⟩:=eq
 refine Eq.mpr (QxN ..) ?_
 refine bifD (fun hc=>⟨decB h0 hc,?_⟩) fun hc=>k0 w (by omega) hr (Nat.le_trans hcn (Nat.le_trans (QHq _ _) (QoI l)))
 have hc':i<(l.len:Int):=hc
 have hlt:i.toNat<l.es.length:=by have:l.len=l.es.length:=rfl;omega
 have ei:IntKind.i64.wrap (i+1)=i+1:=QJ (by omega) (by omega)
 have hm:l.es.getD i.toNat .nul∈l.es:=by rw[List.getD_eq_getElem?_getD,List.getElem?_eq_getElem hlt];exact List.getElem_mem hlt
 have hs:=hws _ hm
 have hsz:SizeOf.sizeOf (l.es.getD i.toNat .nul)<SizeOf.sizeOf l:=by
  cases l<;>simp only[LD.es,List.not_mem_nil] at hm
  have:=List.sizeOf_lt_of_mem hm
  simp only[LD.es,LD.l.sizeOf_spec];omega
 have htk:=QAe hlt
 simp only[at_f,ei]
 generalize l.es.getD i.toNat .nul=s at hs hsz htk
 cases hs with
 | mk kk X Y E F C ar th el n hS hA hT hE=>
  have z1:SizeOf.sizeOf th<SizeOf.sizeOf l:=by simp at hsz;omega
  have z2:SizeOf.sizeOf el<SizeOf.sizeOf l:=by simp at hsz;omega
  have z3:SizeOf.sizeOf LD.nul<SizeOf.sizeOf l:=by simp at hsz ⊢;omega
  refine QIs hv hS hA fun k' X' Y' E' F' C' ar' th' el' n' b hb=>bifI (fun hb'=>?_) fun _=>⟨decB h0 hc,k1 _⟩
  have R:=hb hb'
  have t1:th'.len≤4096∧(∀s∈th'.es,WS s)∧SizeOf.sizeOf th'<k:=by
   rcases R.t.1 with rfl | rfl
   ·exact⟨hS.n.2.1,hT,by omega⟩
   ·exact⟨Nat.zero_le _,(fun x h=>by cases h),by omega⟩
  have t2:el'.len≤4096∧(∀s∈el'.es,WS s)∧SizeOf.sizeOf el'<k:=by
   rcases R.t.2 with rfl | rfl
   ·exact⟨hS.n.2.2,hE,by omega⟩
   ·exact⟨Nat.zero_le _,(fun x h=>by cases h),by omega⟩
  refine Qvl hv t1.1 t1.2.1 t1.2.2 fun r1 a1 l1 p1 m1=>bifD (fun _=>k1 _) fun _=>Qvl hv t2.1 t2.2.1 t2.2.2 fun r2 a2 l2 p2 m2=>bifD (fun _=>k1 _) fun _=>⟨by omega,?_⟩
  have nil:∀ {x y:LD},x.len≤y.len→y.es=[]→x.es=[]:=fun {x y} h e=>by
   have e1:y.len=0:=by show y.es.length=0;rw[e];rfl
   have:x.es.length=0:=by have:x.len=x.es.length:=rfl;omega
   exact List.eq_nil_of_length_eq_zero this
  refine⟨l,i+1,fn,fp,fl,fb,_,rfl,hv,hl,hws,hk,by omega,by omega,by omega,by rw[List.length_append,List.length_singleton];omega,Qtz hr (.mk _ _ _ _ _ _ _ _ _ _ ⟨R.s.k0,R.s.x,R.s.y,R.s.e,R.s.f,R.s.c,R.s.a,⟨fun h=>nil l1 (R.s.t.1 h),fun h=>nil l2 (R.s.t.2 h)⟩,⟨R.s.n.1,by omega,by omega⟩⟩ R.k R.a p1 p2),?_,k0,k1⟩
  have e2:(i+1).toNat=i.toNat+1:=by omega
  have m0:nN E'+nN F'+nN C'+nN ar'≤nN E+nN F+nN C+nN ar:=R.m
  have tt:(th'=th∨th'=.nul)∧(el'=el∨el'=.nul):=R.t
  have m3:nN th'≤nN th:=by rcases tt.1 with h | h<;>simp[h,nN]
  have m4:nN el'≤nN el:=by rcases tt.2 with h | h<;>simp[h,nN]
  rw[Qtx] at htk
  rw[e2,QhX]
  simp only[nNL]
  rw[Qtx];omega
theorem QzT {fn:Str}{fp fl fb l:LD}{Ks:Nat→List LD→Prop}{q:QF}{k:Nat}(hv:Fv fp fl)(hl:l.len≤4096)(hw:∀s∈l.es,WS s)(hk:SizeOf.sizeOf l<k+1)(h:∀(r:LD)(a:Int),r.len≤l.len→(∀s∈r.es,RS fp fl s)→nN r≤nN l→Ks 0 [r,.n a]) :
  QqM fn fp fl fb l Ks q Qak (QcA k) (fun xs Ks=>∃j,Qcx k j xs Ks):=by
 refine Eq.mpr (QAA ..) ?_
 refine⟨_,l,0,fn,fp,fl,fb,[],rfl,hv,hl,hw,hk,by omega,by omega,Nat.lt_succ_self _,by simp,by simp,by simp[nNL],fun w' h1 h2 h3 _=>⟨fun e=>?_,fun a c _=>?_⟩,fun a _=>?_⟩
 ·exact h _ _ (Nat.zero_le _) (fun s hs=>by cases hs) (Nat.zero_le _)
 ·exact h _ _ h1 h2 h3
 ·exact h _ _ (Nat.zero_le _) (fun s hs=>by cases hs) (Nat.zero_le _)
mutual
def clT:LD→List Str
 | .t cs=>clC cs
 | _=>[]
def clD:LD→List Str
 | .l _ _ es=>clL es
 | _=>[]
def clC:List LD→List Str
 | k::_::Y::_::_::_::_::th::el::_=>(if k.i=8 then [Y.st] else [])++(clD th++clD el)
 | _=>[]
def clL:List LD→List Str
 | []=>[]
 | x::r=>clT x++clL r
end
def addG (kn fd:List LD)(s:Str):List LD:=match QU s kn with
 | some e=>if (e.f 1).i=0 then upE s (.t [.s s]) fd else fd
 | none=>upE s (.t [.s s]) fd
theorem QC6 (kn fd:List LD)(s:Str):(addG kn fd s).length≤fd.length+1:=by
 unfold addG
 have:=Qi6 s (.t [.s s]) fd
 split
 ·split<;>omega
 ·exact this
theorem Qjg (kn:List LD):∀(l:List Str)(fd:List LD),(l.foldl (addG kn) fd).length≤fd.length+l.length
 | [],fd=>by simp
 | s::l,fd=>by
  have h1:=Qjg kn l (addG kn fd s)
  have h2:=QC6 kn fd s
  simp only[List.foldl_cons,List.length_cons];omega
theorem Qwn (k:Int)(X Y:Str)(E F C ar th el:LD)(n:Int):clT (.t [.n k,.s X,.s Y,E,F,C,ar,th,el,.n n])=(if k=8 then [Y] else [])++(clD th++clD el):=by
 simp only[clT,clC];rfl
theorem Qo8 (d:LD):clL d.es=clD d:=by cases d<;>simp[LD.es,clL,clD]
theorem RS.ls {fp fl s:LD}(h:RS fp fl s):∃k X Y E F C ar th el n,s=.t [.n k,.s X,.s Y,E,F,C,ar,th,el,.n n]∧th.len≤4096∧el.len≤4096∧(∀x∈th.es,RS fp fl x)∧∀x∈el.es,RS fp fl x:=by
 cases h with
 | mk k X Y E F C ar th el n hS hK ha ht he=>exact⟨k,X,Y,E,F,C,ar,th,el,n,rfl,hS.n.2.1,hS.n.2.2,ht,he⟩
structure VsOk (fp fl l:LD)(fd:List LD)(k:Nat):Prop where
 len:l.len≤4096
 rs:∀x∈l.es,RS fp fl x
 sz:SizeOf.sizeOf l<k
 cnt:fd.length+(clL l.es).length<1000000
def QdR (k:Nat):QF:=fun xs Ks=>∃fp fl l kn fd,xs=[l,.t kn,.t fd]∧VsOk fp fl l fd k∧nthK Ks 0 [.b true,.t kn,.t ((clL l.es).foldl (addG kn) fd)]
theorem Qvj {fp fl l:LD}{kn fd:List LD}{k:Nat}{f:TelK [.b,.r 25,.r 26]}(h:VsOk fp fl l fd k)(hf:f true kn ((clL l.es).foldl (addG kn) fd)):QdR k [l,.t kn,.t fd] [apK [.b,.r 25,.r 26] f]:=⟨fp,fl,l,kn,fd,rfl,h,fun _=>hf⟩
def Qfz (k j:Nat):QF:=fun xs Ks=>∃fp fl l i kn fd,xs=[l,.n (Int.ofNat l.len),.n i,.t kn,.t fd]∧l.len≤4096∧(∀x∈l.es,RS fp fl x)∧SizeOf.sizeOf l<k+1∧0≤i∧i≤l.len∧(l.len - i:Int).toNat<j∧fd.length+(clL (l.es.drop i.toNat)).length<1000000 ∧
 nthK Ks 0 [.t kn,.t ((clL (l.es.drop i.toNat)).foldl (addG kn) fd)]
theorem Qoj {fp fl l:LD}{kn fd:List LD}{Ks:Nat→List LD→Prop}{q:QF}{k:Nat}(h:VsOk fp fl l fd (k+1))(hk:Ks 0 [.b true,.t kn,.t ((clL l.es).foldl (addG kn) fd)]) :
  Qhz l kn fd Ks q (QdR k) (fun xs Ks=>∃j,Qfz k j xs Ks):=by
 refine Eq.mpr (Qo3 ..) ?_
 exact⟨_,fp,fl,l,0,kn,fd,rfl,h.len,h.rs,h.sz,by omega,Int.natCast_nonneg _,Nat.lt_succ_self _,h.cnt,fun _=>hk⟩
theorem Qwo (x:LD)(r:List LD):clL (x::r)=clT x++clL r:=by simp only[clL]
theorem Qnb {l:LD}{n i:Int}{kn fd:List LD}{Ks:List (List LD→Prop)}{q:QF}{k j:Nat}(h:Qfz k (j+1) [l,.n n,.n i,.t kn,.t fd] Ks) :
  Qge l n i kn fd (fun ys=>Qfz k j ys Ks) (nthK Ks) q (QdR k):=by
 obtain⟨fp,fl,l_,i_,kn_,fd_,e,hl,hrs,hsz,h0,h1,hj,hc,hk⟩:=h
 simp only[List.cons.injEq,LD.n.injEq,LD.t.injEq,and_true] at e
 obtain⟨rfl,rfl,rfl,rfl,rfl⟩:=e
 refine Eq.mpr (Qne ..) ?_
 have l1:l.len=l.es.length:=rfl
 refine bifD (fun hc'=>?_) fun hc'=>?_
 ·have hc2:i<(l.len:Int):=hc'
  have hlt:i.toNat<l.es.length:=by omega
  have hm:l.es.getD i.toNat .nul∈l.es:=by rw[List.getD_eq_getElem?_getD,List.getElem?_eq_getElem hlt];exact List.getElem_mem hlt
  obtain⟨kk,X,Y,E,F,C,ar,th,el,m,hs,ht1,he1,ht2,he2⟩:=(hrs _ hm).ls
  have ei:IntKind.i64.wrap (i+1)=i+1:=QJ (by omega) (by omega)
  have e2:(i+1).toNat=i.toNat+1:=by omega
  have hsz2:SizeOf.sizeOf (l.es.getD i.toNat .nul)<SizeOf.sizeOf l:=by
   cases l<;>simp only[LD.es] at hlt hm ⊢<;>try (simp at hlt;done)
   have:=List.sizeOf_lt_of_mem hm
   simp only[LD.l.sizeOf_spec];omega
  rw[drop_at hlt,Qwo] at hk hc
  have g0:(l.at 10 i).f 0=.n kk:=by rw[at_f,hs];rfl
  have g2:(l.at 10 i).f 2=.s Y:=by rw[at_f,hs];rfl
  have g7:(l.at 10 i).f 7=th:=by rw[at_f,hs];rfl
  have g8:(l.at 10 i).f 8=el:=by rw[at_f,hs];rfl
  simp only[g0,g2,g7,g8,ei,show ∀x:Int,(LD.n x).i=x from fun _=>rfl,show ∀x:Str,(LD.s x).st=x from fun _=>rfl]
  rw[hs] at hk hc hsz2
  rw[Qwn] at hk hc
  have z1:SizeOf.sizeOf th<SizeOf.sizeOf l:=by simp at hsz2;omega
  have z2:SizeOf.sizeOf el<SizeOf.sizeOf l:=by simp at hsz2;omega
  have t1:clL th.es=clD th:=Qo8 th
  have t2:clL el.es=clD el:=Qo8 el
  have go:∀fd1:List LD,fd1.length+((clD th++clD el)++clL (l.es.drop (i.toNat+1))).length<1000000→nthK Ks 0 [.t kn,.t (((clD th++clD el)++clL (l.es.drop (i.toNat+1))).foldl (addG kn) fd1)] →
    QdR k [th,.t kn,.t fd1] [apK [.b,.r 25,.r 26] fun (b:Bool) (kn1:List LD) (fd2:List LD)=>(bif b then QdR k [el,.t kn1,.t fd2] [apK [.b,.r 25,.r 26] fun (b2:Bool) (kn2:List LD) (fd3:List LD)=>(bif b2 then Qfz k j [l,.n (Int.ofNat l.len),.n (i+1),.t kn2,.t fd3] Ks else nthK Ks 1 [.b false,.t kn2,.t fd3]:Prop)] else nthK Ks 1 [.b false,.t kn1,.t fd2]:Prop)]:=fun fd1 hc1 hk1=>by
   simp only[List.length_append] at hc1
   rw[List.foldl_append,List.foldl_append] at hk1
   have f1:=Qjg kn (clD th) fd1
   have f2:=Qjg kn (clD el) ((clD th).foldl (addG kn) fd1)
   have f3:=Qjg kn (clL th.es) fd1
   have t1':=congrArg List.length t1
   refine Qvj (fp:=fp) (fl:=fl) ⟨ht1,ht2,by omega,by rw[t1];omega⟩ ?_
   rw[t1]
   refine bifT ?_
   refine Qvj (fp:=fp) (fl:=fl) (kn:=kn) (fd:=(clD th).foldl (addG kn) fd1) ⟨he1,he2,by omega,by rw[t2];omega⟩ ?_
   rw[t2]
   refine bifT ?_
   exact⟨fp,fl,l,i+1,kn,(clD el).foldl (addG kn) ((clD th).foldl (addG kn) fd1),rfl,hl,hrs,hsz,by omega,by omega,by omega,by rw[e2];omega,by rw[e2];exact hk1⟩
  refine⟨decC h0 hc2,bifD (fun h8=>?_) fun h8=>?_⟩
  ·have h8':kk=8:=h8
   rw[if_pos h8'] at hk hc
   simp only[List.append_assoc,List.singleton_append,List.cons_append,List.foldl_cons] at hk
   simp only[List.length_append,List.length_cons,List.length_nil] at hc
   have hla:=QC6 kn fd Y
   have hul:=Qi6 Y (.t [.s Y]) fd
   refine⟨fun e9 he9=>bifD (fun hz=>⟨by omega,go _ ?_ ?_⟩) fun hz=>go _ ?_ ?_,fun hn=>⟨by omega,go _ ?_ ?_⟩⟩
   ·simp only[List.length_append];omega
   ·simp only[List.append_assoc]
    have ea:addG kn fd Y=upE Y (.t [.s Y]) fd:=by
     show (match QU Y kn with | some e=>if (e.f 1).i=0 then upE Y (.t [.s Y]) fd else fd | none=>upE Y (.t [.s Y]) fd)=_
     rw[show QU Y kn=some e9 from he9];exact if_pos hz
    rw[ea] at hk;exact hk
   ·simp only[List.length_append];omega
   ·simp only[List.append_assoc]
    have ea:addG kn fd Y=fd:=by
     show (match QU Y kn with | some e=>if (e.f 1).i=0 then upE Y (.t [.s Y]) fd else fd | none=>upE Y (.t [.s Y]) fd)=_
     rw[show QU Y kn=some e9 from he9];exact if_neg hz
    rw[ea] at hk;exact hk
   ·simp only[List.length_append];omega
   ·simp only[List.append_assoc]
    have ea:addG kn fd Y=upE Y (.t [.s Y]) fd:=by
     show (match QU Y kn with | some e=>if (e.f 1).i=0 then upE Y (.t [.s Y]) fd else fd | none=>upE Y (.t [.s Y]) fd)=_
     rw[show QU Y kn=none from hn]
    rw[ea] at hk;exact hk
  ·have h8':¬kk=8:=h8
   rw[if_neg h8',List.nil_append] at hk hc
   exact go fd hc hk
 ·have hc2:¬i<(l.len:Int):=hc'
  rw[List.drop_eq_nil_of_le (by omega)] at hk
  exact hk
def rowS (l:List Str):List LD:=l.map fun s=>.t [.s s]
def Qfr (l:List Str):List Str:=l.mergeSort fun x y=>decide (x≤y)
def Qo9 (fp fl fb:LD):List Str:=Qfr (((clL fb.es).foldl (addG (knL (fp.es++fl.es) [])) []).map keyE)
def Q9:QF:=fun xs Ks=>∃fn fp fl fb,xs=[.s fn,fp,fl,fb]∧Fv fp fl∧nthK Ks 0 [.t (knL (fp.es++fl.es) []),.t []]
theorem QC7 {fn:Str}{fp fl fb:LD}{f:TelK [.r 25]}(hv:Fv fp fl)(h:f (knL (fp.es++fl.es) [])):Qal [.s fn,fp,fl,fb] [apK [.r 25] f]:=⟨fn,fp,fl,fb,rfl,hv,fun _=>h⟩
theorem QzN {fn:Str}{fp fl fb:LD}{f:TelK [.r 25,.r 26]}(hv:Fv fp fl)(h:f (knL (fp.es++fl.es) []) []):Q9 [.s fn,fp,fl,fb] [apK [.r 25,.r 26] f]:=⟨fn,fp,fl,fb,rfl,hv,fun _=>h⟩
theorem Qq2 {fn:Str}{fp fl fb:LD}{Ks:Nat→List LD→Prop}{q:QF}(hv:Fv fp fl)(hk:Ks 0 [.t (knL (fp.es++fl.es) []),.t []]):Qi4 fn fp fl fb Ks q Qal:=by
 refine Eq.mpr (Qrl ..) ?_
 exact QC7 hv hk
def QO:QF:=fun xs Ks=>∃kn fd,xs=[.t kn,.t fd]∧fd.length≤1000000∧nthK Ks 0 [.t kn,.t fd,.t (rowS (Qfr (fd.map keyE)))]
theorem QG7 {kn fd:List LD}{f:TelK [.r 25,.r 26,.r 1]}(h:fd.length≤1000000)(hf:f kn fd (rowS (Qfr (fd.map keyE)))):QO [.t kn,.t fd] [apK [.r 25,.r 26,.r 1] f]:=⟨kn,fd,rfl,h,fun _=>hf⟩
def Qs:QF:=fun xs Ks=>∃k,QdR k xs Ks
def QP:QF:=fun xs Ks=>∃fn fp fl fb,xs=[.s fn,fp,fl,fb]∧Fv fp fl∧fb.len≤4096∧(∀x∈fb.es,RS fp fl x)∧(clL fb.es).length<1000000∧nthK Ks 0 [.t (rowS (Qo9 fp fl fb))]
theorem QzZ {fn:Str}{fp fl fb:LD}{Ks:Nat→List LD→Prop}{q:QF}(hv:Fv fp fl)(hl:fb.len≤4096)(hr:∀x∈fb.es,RS fp fl x)(hc:(clL fb.es).length<1000000)(hk:Ks 0 [.t (rowS (Qo9 fp fl fb))]) :
  QqS fn fp fl fb Ks q Q9 Qs QO:=by
 refine Eq.mpr (QAG ..) ?_
 refine QzN hv ?_
 have hlen:=Qjg (knL (fp.es++fl.es) []) (clL fb.es) []
 simp only[List.length_nil] at hlen
 refine⟨_,Qvj (fp:=fp) (fl:=fl) (kn:=knL (fp.es++fl.es) []) (fd:=[]) ⟨hl,hr,Nat.lt_succ_self _,by simp only[List.length_nil];omega⟩ ?_⟩
 refine bifT ?_
 exact QG7 (kn:=knL (fp.es++fl.es) []) (fd:=(clL fb.es).foldl (addG (knL (fp.es++fl.es) [])) []) (by omega) hk
abbrev nmAt (es:List LD)(a:Nat):Str:=((es.getD a .nul).f 0).st
def ND (es:List LD)(m:Nat):Prop:=∀a b,a<b→b<m→nmAt es a≠nmAt es b
def Qz:QF:=fun xs Ks=>∃k,QcA k xs Ks
theorem Qzn {fn:Str}{fp fl fb l:LD}{f:TelK [.l 8,.i .i64]}(hv:Fv fp fl)(hl:l.len≤4096)(hw:∀s∈l.es,WS s)(h:∀(r:LD)(a:Int),r.len≤l.len→(∀s∈r.es,RS fp fl s)→nN r≤nN l→f r a):Qz [.s fn,fp,fl,fb,l] [apK [.l 8,.i .i64] f]:=⟨_,Qvl hv hl hw (Nat.lt_succ_self _) h⟩
def QQ:QF:=fun xs Ks=>∃fn fp fl fb u,xs=[.s fn,fp,fl,fb,.s u]∧Fv fp fl∧fb.len≤4096∧(∀s∈fb.es,WS s)∧(∀a e:Int,e≠0→nthK Ks 0 [.s [],.nul,.nul,.nul,.n a,.n e]) ∧
 (fn=u→ND (fp.es++fl.es) (fp.es++fl.es).length→∀r:LD,r.len≤fb.len→(∀s∈r.es,RS fp fl s)→nN r≤nN fb→nthK Ks 0 [.s fn,fp,fl,r,.n 0,.n 0])
def Qbe (j:Nat):QF:=fun xs Ks=>∃l i k fn fp fl fb z0 z1 z2 z3,xs=[l,.n i,.n k,.s fn,fp,fl,fb,.s z0,z1,z2,z3]∧l.len≤10000∧0≤k∧k≤i∧i<l.len∧(i - k:Int).toNat<j ∧
 ((∀a,k.toNat≤a→a<i.toNat→nmAt l.es a≠nmAt l.es i.toNat)→nthK Ks 0 [l,.n i,.s fn,fp,fl,fb,.s z0,z1,z2,z3])∧nthK Ks 1 [.n (-1),.n 60,.s fn,fp,fl,fb,.s [],.nul,.nul,.nul]
def Qbf (j:Nat):QF:=fun xs Ks=>∃l i fn fp fl fb z0 z1 z2 z3,xs=[l,.n i,.s fn,fp,fl,fb,.s z0,z1,z2,z3]∧l.len≤10000∧0≤i∧i≤l.len∧(l.len - i:Int).toNat<j∧ND l.es i.toNat ∧
 (ND l.es l.len→nthK Ks 0 [.s fn,fp,fl,fb,.s z0,z1,z2,z3])∧nthK Ks 1 [.n (-1),.n 60,.s fn,fp,fl,fb,.s [],.nul,.nul,.nul]
theorem QtY {l:LD}{i k:Int}{fn:Str}{fp fl fb:LD}{z0:Str}{z1 z2 z3:LD}{Ks:List (List LD→Prop)}{q q1:QF}{j:Nat}(h:Qbe (j+1) [l,.n i,.n k,.s fn,fp,fl,fb,.s z0,z1,z2,z3] Ks) :
  QlK l i k fn fp fl fb z0 z1 z2 z3 (fun ys=>Qbe j ys Ks) (nthK Ks) q q1:=by
 obtain⟨l_,i_,k_,fn_,fp_,fl_,fb_,z0_,z1_,z2_,z3_,eq,hl,h0,h1,h2,hj,k0,k1⟩:=h
 simp only[List.cons.injEq,LD.n.injEq,LD.s.injEq,and_true] at eq
 obtain⟨rfl,rfl,rfl,rfl,rfl,rfl,rfl,rfl,rfl,rfl,rfl⟩:=eq
 refine Eq.mpr (QuE ..) ?_
 have ek:k<i→IntKind.i64.wrap (k+1)=k+1:=fun h=>QJ (by omega) (by omega)
 refine bifD (fun hc=>⟨decB h0 (by show k<(l.len:Int);omega),decB (by omega) h2,bifD (fun _=>k1) fun hn=>?_⟩) fun hc=>k0 fun a h3 h4=>(by omega:False).elim
 rw[ek hc]
 refine⟨l,i,k+1,fn,fp,fl,fb,z0,z1,z2,z3,rfl,hl,by omega,by omega,h2,by omega,fun ha=>k0 fun a h3 h4=>?_,k1⟩
 by_cases e:a=k.toNat
 ·subst e;exact hn
 ·exact ha a (by omega) h4
theorem QtZ {l:LD}{i:Int}{fn:Str}{fp fl fb:LD}{z0:Str}{z1 z2 z3:LD}{Ks:List (List LD→Prop)}{q q1:QF}{j:Nat}(h:Qbf (j+1) [l,.n i,.s fn,fp,fl,fb,.s z0,z1,z2,z3] Ks) :
  QlL l i fn fp fl fb z0 z1 z2 z3 (fun ys=>Qbf j ys Ks) (nthK Ks) q q1 (fun xs Ks=>∃j,Qbe j xs Ks):=by
 obtain⟨l_,i_,fn_,fp_,fl_,fb_,z0_,z1_,z2_,z3_,eq,hl,h0,h1,hj,hd,k0,k1⟩:=h
 simp only[List.cons.injEq,LD.n.injEq,LD.s.injEq,and_true] at eq
 obtain⟨rfl,rfl,rfl,rfl,rfl,rfl,rfl,rfl,rfl,rfl⟩:=eq
 refine Eq.mpr (QuF ..) ?_
 refine bifD (fun hc=>?_) fun hc=>k0 ?_
 ·have hc':i<(l.len:Int):=hc
  refine⟨_,l,i,0,fn,fp,fl,fb,z0,z1,z2,z3,rfl,hl,by omega,h0,hc',Nat.lt_succ_self _,fun ha _=>?_,fun _=>k1⟩
  have ei:IntKind.i64.wrap (i+1)=i+1:=QJ (by omega) (by omega)
  show Qbf j [l,.n (IntKind.i64.wrap (i+1)),.s fn,fp,fl,fb,.s z0,z1,z2,z3] Ks
  rw[ei]
  refine⟨l,i+1,fn,fp,fl,fb,z0,z1,z2,z3,rfl,hl,by omega,by omega,by omega,fun a b h3 h4=>?_,k0,k1⟩
  by_cases e:b=i.toNat
  ·subst e;exact ha a (by omega) h3
  ·exact hd a b h3 (by omega)
 ·have hc':¬i<(l.len:Int):=hc
  have:i.toNat=l.len:=by omega
  rw[←this];exact hd
theorem QwR {fn u:Str}{fp fl fb:LD}{Ks:Nat→List LD→Prop}{q q8:QF}(hv:Fv fp fl)(hb:fb.len≤4096)(hw:∀s∈fb.es,WS s)(k1:∀a e:Int,e≠0→Ks 0 [.s [],.nul,.nul,.nul,.n a,.n e])
  (k0:fn=u→ND (fp.es++fl.es) (fp.es++fl.es).length→∀r:LD,r.len≤fb.len→(∀s∈r.es,RS fp fl s)→nN r≤nN fb→Ks 0 [.s fn,fp,fl,r,.n 0,.n 0]) :
  QnV fn fp fl fb u Ks q Qz (fun xs Ks=>∃j,Qbf j xs Ks) q8:=by
 refine Eq.mpr (QxQ ..) ?_
 obtain⟨h1,h2⟩:=id hv
 have h1':fp.es.length≤5000:=h1
 have h2':fl.es.length≤5000:=h2
 refine bifN (fun _=>k1 _ _ (by decide)) fun hu=>bifD (fun _=>k1 _ _ (by decide)) fun _=>⟨by omega,rfl,by omega,fun he=>?_,fun a c hc=>?_⟩
 ·refine⟨_,.nul,0,fn,fp,fl,fb,[],.nul,.nul,.nul,rfl,Nat.zero_le _,by omega,by simp[LD.len,LD.es],Nat.lt_succ_self _,fun a b h3 h4=>absurd h4 (Nat.not_lt_zero _),fun _ _=>?_,fun _=>k1 (-1) 60 (by decide)⟩
  exact Qzn hv hb hw fun r a l1 p1 m1=>bifD (fun _=>k1 _ _ (by decide)) fun _=>k0 hu (by rw[he];intro a b h3 h4;simp at h4) r l1 p1 m1
 ·refine⟨_,_,0,fn,fp,fl,fb,[],.nul,.nul,.nul,rfl,?_,by omega,by omega,Nat.lt_succ_self _,fun a b h3 h4=>absurd h4 (Nat.not_lt_zero _),fun hd _=>?_,fun _=>k1 (-1) 60 (by decide)⟩
  ·show (fp.es++fl.es).length≤10000
   rw[List.length_append];omega
  ·exact Qzn hv hb hw fun r a l1 p1 m1=>bifD (fun _=>k1 _ _ (by decide)) fun _=>k0 hu hd r l1 p1 m1
end Go.Proofs.YtmdppkbekmpopaaGreat
