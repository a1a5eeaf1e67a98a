import Derived.Test.YtemffgbncjnmkaaGreatXs3
set_option linter.unusedVariables false
set_option linter.unusedSimpArgs false
set_option maxRecDepth 100000
noncomputable section
namespace Go.Proofs.YtemffgbncjnmkaaGreat
open Go Go.Sh Go.Va
def prE (k:Nat)(e:LD):Prop:=∃a c,e=.t [.l a c [.t [.n (((k:Nat):Int) - 1)]]]
structure PrS (N i:Nat)(r:List LD):Prop where
 len:r.length=N
 yes:∀k,1≤k→k≤i→k<N→prE k (r.getD k .nul)
 no:∀k,k<N→(k=0∨i<k)→r.getD k .nul=.t [.nul]
section
variable {N:Nat}{nd:Nat→Nd}{tr:Nat→TR}{g:LD}{m:Int}{vi vw vc vl:List LD}{q q1 q2:QF}
def QNj (j:Nat):QF:=fun xs Ks=>∃N:Nat,∃nd tr g i x r k,xs=[.n ((i:Nat):Int),g,.n (N:Int),.n (i:Int),x,.n (Int.ofNat x.len),.n k,.t r]∧Row N nd tr g∧i<N∧(k=0∧1<j∧PrS N i r∧(i+1<N→x.len=1∧((x.at 1 0).f 0).i=((i+1:Nat):Int))∧(i+1=N→x.len=0)∧(∀r,PrS N (i+1) r→nthK Ks 0 [g,.n (N:Int),.n (i:Int),.t r])∨0<j∧k=Int.ofNat x.len∧nthK Ks 0 [g,.n (N:Int),.n (i:Int),.t r])
theorem Q7a {k n i m j:Int}{x:LD}{r:List LD}{Ks:List (List LD→Prop)}{l:Nat}(h:QNj (l+1) [.n k,g,.n n,.n i,x,.n m,.n j,.t r] Ks):Q0V k g n i x m j r (fun ys=>QNj l ys Ks) (nthK Ks) q:=by
 obtain⟨N,nd,tr,g',i',x',r',k',e,R,hi,h⟩:=h
 simp only[List.cons.injEq,LD.n.injEq,LD.t.injEq,and_true] at e
 obtain⟨rfl,rfl,rfl,rfl,rfl,rfl,rfl,rfl⟩:=e
 refine Eq.mpr (Q7t ..) ?_
 rcases h with⟨rfl,hj,S,hx1,hx0,hk⟩ | ⟨hj,rfl,hk⟩
 ·by_cases h1:i'+1<N
  ·obtain⟨l1,e1⟩:=hx1 h1
   refine bifD (fun _=>⟨by rw[l1];rfl,?_⟩) fun hn=>absurd (show (0:Int)<Int.ofNat x.len by rw[l1];decide) hn
   have ni:(((i'+1:Nat):Int)).toNat=i'+1:=Int.toNat_natCast _
   have dN:((decide ((0:Int)≤((i'+1:Nat):Int)))&&(decide (((i'+1:Nat):Int)<Int.ofNat r.length)))=true:=decB (by omega) (by show ((i'+1:Nat):Int)<(r.length:Int);rw[S.len];omega)
   rw[e1,ni,S.no _ h1 (.inr (by omega))]
   refine bifD (fun h=>absurd h (by omega)) fun _=>bifD (fun h=>absurd h (by show ¬(r.length:Int)≤_;rw[S.len];omega)) fun _=>⟨dN,bifT ⟨dN,by decide,by decide,dN,(fun h=>nomatch h),fun a c _=>?_⟩⟩
   refine⟨N,nd,tr,g,i',x,_,_,?_,R,hi,.inr ⟨by omega,rfl,hk (r.set (i'+1) (.t [.l a c [.t [.n (i':Int)]]])) ⟨by simp[S.len],fun k h2 h3 h4=>?_,fun k h3 h4=>?_⟩⟩⟩
   ·rw[l1];rfl
   ·rw[QQc]
    by_cases h5:i'+1=k
    ·rw[if_pos ⟨h5,by rw[S.len];exact h4⟩]
     subst h5
     exact⟨a,c,by rw[show (((i'+1:Nat):Int) - 1)=(i':Int) by omega]⟩
    ·rw[if_neg (by omega)];exact S.yes k h2 (by omega) h4
   ·rw[QQc,if_neg (by omega)];exact S.no k h3 (by omega)
  ·have l0:=hx0 (by omega)
   refine bifD (fun hn=>absurd hn (show ¬((0:Int)<Int.ofNat x.len) by rw[l0];decide)) fun _=>hk r ⟨S.len,fun k h2 h3 h4=>S.yes k h2 (by omega) h4,fun k h3 h4=>S.no k h3 (by omega)⟩
 ·exact bifD (fun hn=>absurd hn (by omega)) fun _=>hk
def QNF (j:Nat):QF:=fun xs Ks=>∃N:Nat,∃nd tr g i r,xs=[g,.n (N:Int),.n ((i:Nat):Int),.t r]∧Row N nd tr g∧i≤N∧PrS N i r∧N - i<j∧∀r,PrS N N r→nthK Ks 0 [.t r]
theorem Q7b {n i:Int}{r:List LD}{Ks:List (List LD→Prop)}{l:Nat}(h:QNF (l+1) [g,.n n,.n i,.t r] Ks):Q0W g n i r (fun ys=>QNF l ys Ks) (nthK Ks) q (fun xs Ks=>∃j,QNj j xs Ks):=by
 obtain⟨N,nd,tr,g',i',r',e,R,hi,S,hj,hk⟩:=h
 simp only[List.cons.injEq,LD.n.injEq,LD.t.injEq,and_true] at e
 obtain⟨rfl,rfl,rfl,rfl⟩:=e
 refine Eq.mpr (Q7u ..) ?_
 have h100:=R.n100
 refine bifD (fun hc=>⟨decB (by omega) (by show (i':Int)<(g.len:Int);rw[LD.len,R.len];omega),2,N,nd,tr,g,i',_,_,_,rfl,R,by omega,.inl ⟨rfl,by omega,S,fun h1=>?_,fun h1=>?_,fun r S' _=>?_⟩⟩) fun hc=>?_
 ·obtain⟨a,c,ex,_⟩:=R.nx h1
  rw[ex];exact⟨rfl,rfl⟩
 ·have:i'=N - 1:=by omega
  rw[this,R.lastE];rfl
 ·have ew:IntKind.i64.wrap ((i':Int)+1)=((i'+1:Nat):Int):=by rw[QJ (by omega) (by omega)];omega
  show QNF l [g,.n (N:Int),.n (IntKind.i64.wrap ((i':Int)+1)),.t r] Ks
  rw[ew]
  exact⟨N,nd,tr,_,i'+1,r,rfl,R,by omega,S',by omega,hk⟩
 ·have:i'=N:=by omega
  subst this
  exact hk r S
def QLJ:QF:=fun xs Ks=>∃N:Nat,∃nd tr g,xs=[g]∧Row N nd tr g∧∀pr:LD,PrS N N pr.es→nthK Ks 0 [pr]
theorem Q8Z {Ks:Nat→List LD→Prop}(R:Row N nd tr g)(hk:∀pr:LD,PrS N N pr.es→Ks 0 [pr]):Q4j g Ks q (fun xs Ks=>∃j,QNF j xs Ks) (fun xs Ks=>∃j,QNj j xs Ks):=by
 refine Eq.mpr (Q9p ..) ?_
 have h100:=R.n100
 have el:(Int.ofNat g.len)=(N:Int):=by rw[LD.len,R.len];rfl
 rw[el]
 refine⟨⟨rfl,by omega,by omega,by omega⟩,_,N,nd,tr,g,0,_,rfl,R,by omega,⟨by simp,fun k h1 h2=>by omega,fun k h1 _=>?_⟩,Nat.lt_succ_self _,fun r S=>?_⟩
 ·rw[List.getD_eq_getElem?_getD,List.getElem?_replicate,if_pos (by omega)];rfl
 ·refine fun _=>⟨fun h=>?_,fun a c _=>hk _ S⟩
  have h1:=S.len;have h2:=R.n2
  have h':r=[]:=h
  subst h'
  simp only[List.length_nil] at h1;omega
def QMG (l:Nat):QF:=fun xs Ks=>∃t pr j o h n i x u v y z g m vi vw vc vl oa oc e,xs=[pr,.n j,o,.n h,.n n,.n i,x,.n u,.n v,y,.n 1,.n z,g,.n m,.t vi,.t vw,.t vc,.t vl]∧y.len=1∧((y.at 1 0).f 0).i=j∧o=.l oa oc [e]∧memE t e∧(z=0∧vl=[]∧1<l∧(∀e,memE t e→nthK Ks 0 [pr,.n j,.n h,.n n,.n i,x,.n u,.n v,g,.n m,.t vi,.t vw,.t vc,.t [e]])∨z=1∧0<l∧nthK Ks 0 [pr,.n j,.n h,.n n,.n i,x,.n u,.n v,g,.n m,.t vi,.t vw,.t vc,.t vl])
theorem Q08 {pr o x y:LD}{j h n i u v w z:Int}{Ks:List (List LD→Prop)}{l:Nat}(H:QMG (l+1) [pr,.n j,o,.n h,.n n,.n i,x,.n u,.n v,y,.n w,.n z,g,.n m,.t vi,.t vw,.t vc,.t vl] Ks):QUU pr j o h n i x u v y w z g m vi vw vc vl (fun ys=>QMG l ys Ks) (nthK Ks) q QLF QLE QLJ:=by
 obtain⟨t,pr',j',o',h',n',i',x',u',v',y',z',g',m',vi',vw',vc',vl',oa,oc,e,eq,hy,hy2,ho,he,H⟩:=H
 simp only[List.cons.injEq,LD.n.injEq,LD.t.injEq,and_true] at eq
 obtain⟨rfl,rfl,rfl,rfl,rfl,rfl,rfl,rfl,rfl,rfl,rfl,rfl,rfl,rfl,rfl,rfl,rfl,rfl⟩:=eq
 refine Eq.mpr (Q1G ..) ?_
 rcases H with⟨rfl,rfl,hl,hk⟩ | ⟨rfl,hl,hk⟩
 ·subst ho
  obtain⟨mi,mp,rfl,hm⟩:=he
  refine bifT ⟨by rw[hy];rfl,bifD (fun _=>⟨rfl,by decide,?_⟩) fun hn=>absurd hy2 hn⟩
  exact⟨t,pr,j,_,h,n,i,x,u,v,y,1,g,m,vi,vw,vc,_,oa,oc,_,rfl,hy,hy2,rfl,⟨mi,mp,rfl,hm⟩,.inr ⟨rfl,by omega,hk _ ⟨mi,mp,rfl,hm⟩⟩⟩
 ·exact bifF hk
structure AllS (N:Nat)(tr:Nat→TR)(vi:List LD):Prop where
 len:vi.length=N
 yes:∀k,k<N→memE (tr k) (vi.getD k .nul)
def QMK (l:Nat):QF:=fun xs Ks=>∃N:Nat,∃nd tr pr h i x z g m vi vw vc vl,xs=[pr,.n ((i:Nat):Int),.n h,.n (N:Int),.n (i:Int),x,.n 1,.n z,g,.n m,.t vi,.t vw,.t vc,.t vl]∧Row N nd tr g∧AllS N tr vi∧0<i∧i<N∧x.len=1∧((x.at 1 0).f 0).i=((i - 1:Nat):Int)∧(z=0∧vl=[]∧1<l∧(∀e,memE (tr i) e→nthK Ks 0 [pr,.n (i:Int),.n h,.n (N:Int),.n (i:Int),g,.n m,.t vi,.t vw,.t vc,.t [e]])∨z=1∧0<l∧nthK Ks 0 [pr,.n (i:Int),.n h,.n (N:Int),.n (i:Int),g,.n m,.t vi,.t vw,.t vc,.t vl])
theorem Q2x {pr x:LD}{j h n i u v:Int}{Ks:List (List LD→Prop)}{l:Nat}(H:QMK (l+1) [pr,.n j,.n h,.n n,.n i,x,.n u,.n v,g,.n m,.t vi,.t vw,.t vc,.t vl] Ks):QVi pr j h n i x u v g m vi vw vc vl (fun ys=>QMK l ys Ks) (nthK Ks) q QLF QLE QLJ (fun xs Ks=>∃j,QMG j xs Ks):=by
 obtain⟨N,nd,tr,pr',h',i',x',z',g',m',vi',vw',vc',vl',eq,R,S,i0,i1,hx,hx2,H⟩:=H
 simp only[List.cons.injEq,LD.n.injEq,LD.t.injEq,and_true] at eq
 obtain⟨rfl,rfl,rfl,rfl,rfl,rfl,rfl,rfl,rfl,rfl,rfl,rfl,rfl,rfl⟩:=eq
 refine Eq.mpr (Q2W ..) ?_
 rcases H with⟨rfl,rfl,hl,hk⟩ | ⟨rfl,hl,hk⟩
 ·have ni:(((i' - 1:Nat):Int)).toNat=i' - 1:=Int.toNat_natCast _
  rw[hx2,ni]
  have dN:∀L:Nat,L=N→((decide ((0:Int)≤((i' - 1:Nat):Int)))&&(decide (((i' - 1:Nat):Int)<Int.ofNat L)))=true:=fun L hL=>decB (by omega) (by show ((i' - 1:Nat):Int)<(L:Int);omega)
  refine bifT ⟨by rw[hx];rfl,dN _ S.len,dN _ R.len,QaaU R (by omega) (S.yes _ (by omega)) fun o ho1 _=>⟨rfl,⟨rfl,rfl⟩,dN _ R.len,?_⟩⟩
  have e1:i' - 1+1=i':=by omega
  obtain⟨oa,oc,e,rfl,he⟩:=ho1 (by omega)
  rw[e1] at he
  obtain⟨a,c,ex,_⟩:=R.nx (k:=i' - 1) (by omega)
  rw[e1] at ex
  rw[ex]
  refine⟨2,tr i',pr,_,_,h,_,_,x,1,0,_,0,g,m,vi,vw,vc,[],oa,oc,e,rfl,rfl,rfl,rfl,he,.inl ⟨rfl,rfl,by omega,fun e he _=>?_⟩⟩
  exact⟨N,nd,tr,pr,h,i',x,1,g,m,vi,vw,vc,_,rfl,R,S,i0,i1,hx,hx2,.inr ⟨rfl,by omega,hk e he⟩⟩
 ·exact bifF hk
def QMw (l:Nat):QF:=fun xs Ks=>∃N:Nat,∃nd tr pr h i g m vi vw vc,xs=[pr,.n h,.n (N:Int),.n ((i:Nat):Int),g,.n m,.t vi,.t vw,.t vc]∧Row N nd tr g∧PrS N N pr.es∧AllS N tr vi∧i≤N∧N - i<l∧∀vi,AllS N tr vi→nthK Ks 0 [pr,.n h,g,.n m,.t vi,.t vw,.t vc]
theorem Q2y {pr:LD}{h n i:Int}{Ks:List (List LD→Prop)}{l:Nat}(H:QMw (l+1) [pr,.n h,.n n,.n i,g,.n m,.t vi,.t vw,.t vc] Ks):QVj pr h n i g m vi vw vc (fun ys=>QMw l ys Ks) (nthK Ks) q QLF QLE QLJ (fun xs Ks=>∃j,QMK j xs Ks):=by
 obtain⟨N,nd,tr,pr',h',i',g',m',vi',vw',vc',eq,R,P,S,i1,hl,hk⟩:=H
 simp only[List.cons.injEq,LD.n.injEq,LD.t.injEq,and_true] at eq
 obtain⟨rfl,rfl,rfl,rfl,rfl,rfl,rfl,rfl,rfl⟩:=eq
 refine Eq.mpr (Q2X ..) ?_
 have h100:=R.n100
 have ew:IntKind.i64.wrap ((i':Int)+1)=((i'+1:Nat):Int):=by rw[QJ (by omega) (by omega)];omega
 refine bifD (fun hc=>bifD (fun h0=>?_) fun h0=>⟨decB (by omega) (by show (i':Int)<(pr.es.length:Int);rw[P.len];omega),?_⟩) fun hc=>hk vi S
 ·rw[ew]
  exact⟨N,nd,tr,pr,h,i'+1,g,m,vi,vw,vc,rfl,R,P,S,by omega,by omega,hk⟩
 ·obtain⟨a,c,ex⟩:=P.yes i' (by omega) (by omega) (by omega)
  have ex2:(pr.at 1 (i':Int)).f 0=.l a c [.t [.n ((i':Int) - 1)]]:=by rw[at_f,Int.toNat_natCast,ex];rfl
  rw[ex2]
  refine⟨2,N,nd,tr,pr,h,i',_,0,g,m,vi,vw,vc,[],rfl,R,S,by omega,by omega,rfl,by show (i':Int) - 1=_;omega,.inl ⟨rfl,rfl,by omega,fun e he _=>⟨fun h=>(nomatch h),fun a c _=>?_⟩⟩⟩
  obtain⟨mi,mp,rfl,hm⟩:=he
  refine QaaP (x:=(tr i').1) (y:=(tr i').2.1) (z:=(tr i').2.2) hm fun mi mp hm'=>⟨decB (show (0:Int)≤(i':Int) by omega) (by show (i':Int)<(vi.length:Int);rw[S.len];omega),?_⟩
  show QMw l [pr,.n h,.n (N:Int),.n (IntKind.i64.wrap ((i':Int)+1)),g,.n m,.t (vi.set (i':Int).toNat ((vi.getD (i':Int).toNat .nul).upd 0 [.b true,mi,mp])),.t vw,.t vc] Ks
  rw[ew]
  refine⟨N,nd,tr,pr,h,i'+1,g,m,_,vw,vc,rfl,R,P,⟨by simp[S.len],fun k hk2=>?_⟩,by omega,by omega,hk⟩
  obtain⟨mi2,mp2,e2,_⟩:=S.yes i' (by omega)
  rw[Int.toNat_natCast,QQc,e2]
  by_cases h5:i'=k
  ·rw[if_pos ⟨h5,by rw[S.len];exact hk2⟩]
   subst h5
   exact⟨mi,mp,rfl,hm'⟩
  ·rw[if_neg (by omega)];exact S.yes k hk2
def QMY (l:Nat):QF:=fun xs Ks=>∃N:Nat,∃nd tr pr h g m vi vw vc,xs=[pr,.n h,g,.n m,.t vi,.t vw,.t vc]∧Row N nd tr g∧PrS N N pr.es∧AllS N tr vi∧0≤h∧(2 - h).toNat<l∧∀vi,AllS N tr vi→nthK Ks 0 [g,.n m,.t vi,.t vw,.t vc]
theorem Q2z {pr:LD}{h:Int}{Ks:List (List LD→Prop)}{l:Nat}(H:QMY (l+1) [pr,.n h,g,.n m,.t vi,.t vw,.t vc] Ks):QVk pr h g m vi vw vc (fun ys=>QMY l ys Ks) (nthK Ks) q QLF QLE QLJ (fun xs Ks=>∃j,QMw j xs Ks):=by
 obtain⟨N,nd,tr,pr',h',g',m',vi',vw',vc',eq,R,P,S,h0,hl,hk⟩:=H
 simp only[List.cons.injEq,LD.n.injEq,LD.t.injEq,and_true] at eq
 obtain⟨rfl,rfl,rfl,rfl,rfl,rfl,rfl⟩:=eq
 refine Eq.mpr (Q2Y ..) ?_
 have el:(Int.ofNat g.len)=(N:Int):=by rw[LD.len,R.len];rfl
 rw[el]
 refine bifD (fun hc=>⟨_,N,nd,tr,pr,h,0,g,m,vi,vw,vc,rfl,R,P,S,by omega,Nat.lt_succ_self _,fun vi S' _=>?_⟩) fun hc=>hk vi S
 show QMY l [pr,.n (IntKind.i64.wrap (h+1)),g,.n m,.t vi,.t vw,.t vc] Ks
 rw[QJ (x:=h+1) (by omega) (by omega)]
 exact⟨N,nd,tr,pr,h+1,g,m,vi,vw,vc,rfl,R,P,S',by omega,by omega,hk⟩
def QLz:QF:=fun xs Ks=>∃N:Nat,∃nd tr g m vi vw vc,xs=[g,.n m,.t vi,.t vw,.t vc]∧Row N nd tr g∧AllS N tr vi∧∀I:LD,AllS N tr I.es→nthK Ks 0 [g,I,.n m,.t vw,.t vc]
theorem Q4v {Ks:Nat→List LD→Prop}(R:Row N nd tr g)(S:AllS N tr vi)(hk:∀I:LD,AllS N tr I.es→Ks 0 [g,I,.n m,.t vw,.t vc]):QXi g m vi vw vc Ks q QLF QLE QLJ (fun xs Ks=>∃j,QMY j xs Ks) (fun xs Ks=>∃j,QMw j xs Ks) (fun xs Ks=>∃j,QMK j xs Ks) (fun xs Ks=>∃j,QMG j xs Ks):=by
 refine Eq.mpr (Q4S ..) ?_
 refine⟨N,nd,tr,g,rfl,R,fun pr P _=>⟨_,N,nd,tr,pr,0,g,m,vi,vw,vc,rfl,R,P,S,by omega,Nat.lt_succ_self _,fun vi S' _=>⟨fun h=>?_,fun a c _=>hk _ S'⟩⟩⟩
 have h1:=S'.len;have h2:=R.n2
 have h':vi=[]:=h
 subst h'
 simp only[List.length_nil] at h1;omega
def QM3 (l:Nat):QF:=fun xs Ks=>∃N:Nat,∃nd tr i g I m vw vc,xs=[.n (N:Int),.n ((i:Nat):Int),g,I,.n m,.t vw,.t vc]∧Row N nd tr g∧AllS N tr I.es∧i≤N∧N - i<l∧nthK Ks 0 [g,I,.n m,.t vw,.t vc]
theorem Q7k {I:LD}{tr:Nat→TR}{k:Nat}(h:memE (tr k) (I.es.getD k .nul)):∃mi mp,((I.at 3 (k:Int)).f 0).bo=true∧(I.at 3 (k:Int)).f 1=mi∧(I.at 3 (k:Int)).f 2=mp∧isMt (tr k) mi mp∧memE (tr k) (.t [.b true,mi,mp]):=by
 obtain⟨mi,mp,e,hm⟩:=h
 exact⟨mi,mp,by rw[at_f,Int.toNat_natCast,e];rfl,by rw[at_f,Int.toNat_natCast,e];rfl,by rw[at_f,Int.toNat_natCast,e];rfl,hm,mi,mp,rfl,hm⟩
theorem Q0g {I:LD}{n i:Int}{Ks:List (List LD→Prop)}{l:Nat}(H:QM3 (l+1) [.n n,.n i,g,I,.n m,.t vw,.t vc] Ks):QT3 n i g I m vw vc (fun ys=>QM3 l ys Ks) (nthK Ks) q QLE:=by
 obtain⟨N,nd,tr,i',g',I',m',vw',vc',eq,R,S,i1,hl,hk⟩:=H
 simp only[List.cons.injEq,LD.n.injEq,LD.t.injEq,and_true] at eq
 obtain⟨rfl,rfl,rfl,rfl,rfl,rfl,rfl⟩:=eq
 refine Eq.mpr (Q0Q ..) ?_
 have h100:=R.n100
 refine bifD (fun hc=>⟨decB (by omega) (by show (i':Int)<(I.es.length:Int);rw[S.len];omega),decB (by omega) (by show (i':Int)<(g.es.length:Int);rw[R.len];omega),?_⟩) fun hc=>hk
 have hlt:i'<N:=by omega
 obtain⟨mi,mp,e0,e1,e2,_,hm⟩:=Q7k (S.yes i' hlt)
 rw[e0,e1,e2]
 refine QaaU R hlt hm fun o _ _=>⟨rfl,rfl,?_⟩
 rw[show IntKind.i64.wrap ((i':Int)+1)=((i'+1:Nat):Int) by rw[QJ (by omega) (by omega)];omega]
 exact⟨N,nd,tr,i'+1,g,I,m,vw,vc,rfl,R,S,by omega,by omega,hk⟩
def QLy:QF:=fun xs Ks=>∃N:Nat,∃nd tr g I m vw vc,xs=[g,I,.n m,.t vw,.t vc]∧Row N nd tr g∧AllS N tr I.es∧nthK Ks 0 [g,I,.n m,.t vw,.t vc]
theorem Q2A {I:LD}{Ks:Nat→List LD→Prop}(R:Row N nd tr g)(S:AllS N tr I.es)(hk:Ks 0 [g,I,.n m,.t vw,.t vc]):QVl g I m vw vc Ks q QLE (fun xs Ks=>∃j,QM3 j xs Ks):=by
 refine Eq.mpr (Q2Z ..) ?_
 have el:(Int.ofNat g.len)=(N:Int):=by rw[LD.len,R.len];rfl
 rw[el]
 exact⟨_,N,nd,tr,0,g,I,m,vw,vc,rfl,R,S,by omega,Nat.lt_succ_self _,fun _=>hk⟩
def QMW (l:Nat):QF:=fun xs Ks=>∃N:Nat,∃nd tr i g I m vw vc,xs=[.n (N:Int),.n ((i:Nat):Int),g,I,.n m,.t vw,.t vc]∧Row N nd tr g∧AllS N tr I.es∧i≤N∧N - i<l∧nthK Ks 0 [g,I,.n m,.t vw,.t vc]
theorem QZi {I:LD}{n i:Int}{Ks:List (List LD→Prop)}{l:Nat}(H:QMW (l+1) [.n n,.n i,g,I,.n m,.t vw,.t vc] Ks):QTp n i g I m vw vc (fun ys=>QMW l ys Ks) (nthK Ks) q QMh:=by
 obtain⟨N,nd,tr,i',g',I',m',vw',vc',eq,R,S,i1,hl,hk⟩:=H
 simp only[List.cons.injEq,LD.n.injEq,LD.t.injEq,and_true] at eq
 obtain⟨rfl,rfl,rfl,rfl,rfl,rfl,rfl⟩:=eq
 refine Eq.mpr (QZQ ..) ?_
 have h100:=R.n100
 refine bifD (fun hc=>⟨decB (by omega) (by show (i':Int)<(I.es.length:Int);rw[S.len];omega),decB (by omega) (by show (i':Int)<(g.es.length:Int);rw[R.len];omega),?_⟩) fun hc=>hk
 have hlt:i'<N:=by omega
 obtain⟨mi,mp,e0,e1,e2,hm,_⟩:=Q7k (S.yes i' hlt)
 rw[e0,e1,e2]
 refine⟨nd i',i'+1,_,mi,mp,tr i',tr (i'+1),rfl,R.fs hlt,hm,?_,fun _=>⟨rfl,rfl,rfl,rfl,?_⟩⟩
 ·by_cases h1:i'+1<N
  ·exact (R.mid i' h1).2
  ·have:i'=N - 1:=by omega
   rw[this,R.last];trivial
 rw[show IntKind.i64.wrap ((i':Int)+1)=((i'+1:Nat):Int) by rw[QJ (by omega) (by omega)];omega]
 exact⟨N,nd,tr,i'+1,g,I,m,vw,vc,rfl,R,S,by omega,by omega,hk⟩
def QMi:QF:=fun xs Ks=>∃N:Nat,∃nd tr g I m vw vc,xs=[g,I,.n m,.t vw,.t vc]∧Row N nd tr g∧AllS N tr I.es∧nthK Ks 0 [g,I,.n m,.t vw,.t vc]
theorem Q05 {I:LD}{Ks:Nat→List LD→Prop}(R:Row N nd tr g)(S:AllS N tr I.es)(hk:Ks 0 [g,I,.n m,.t vw,.t vc]):QUR g I m vw vc Ks q QMh (fun xs Ks=>∃j,QMW j xs Ks):=by
 refine Eq.mpr (Q1D ..) ?_
 have el:(Int.ofNat g.len)=(N:Int):=by rw[LD.len,R.len];rfl
 rw[el]
 exact⟨_,N,nd,tr,0,g,I,m,vw,vc,rfl,R,S,by omega,Nat.lt_succ_self _,fun _=>hk⟩
def QLx:QF:=fun xs Ks=>∃N:Nat,∃nd tr g I m vw vc,xs=[g,I,.n m,.t vw,.t vc]∧Row N nd tr g∧AllS N tr I.es∧nthK Ks 0 [.b true,.n (tr (N - 1)).2.2,.n (tr (N - 1)).2.2,g,I,.n m,.t vw,.t vc]
theorem Q07 {I:LD}{Ks:Nat→List LD→Prop}(R:Row N nd tr g)(S:AllS N tr I.es)(hk:Ks 0 [.b true,.n (tr (N - 1)).2.2,.n (tr (N - 1)).2.2,g,I,.n m,.t vw,.t vc]):QUT g I m vw vc Ks q QLR QMi:=by
 refine Eq.mpr (Q1F ..) ?_
 have h2:=R.n2
 have el:(Int.ofNat I.len) - 1=((N - 1:Nat):Int):=by rw[LD.len,S.len];show (N:Int) - 1=_;omega
 rw[el]
 obtain⟨mi,mp,e0,e1,e2,hm,_⟩:=Q7k (S.yes (N - 1) (by omega))
 rw[e0,e1,e2]
 refine⟨decB (by omega) (by show ((N - 1:Nat):Int)<(I.es.length:Int);rw[S.len];omega),rfl,rfl,bifT ?_⟩
 exact QaaQ (x:=(tr (N - 1)).1) (y:=(tr (N - 1)).2.1) (z:=(tr (N - 1)).2.2) hm (.inr (.inr ⟨rfl,rfl⟩)) ⟨N,nd,tr,g,I,m,vw,vc,rfl,R,S,fun _=>hk⟩
def QLB:QF:=fun xs Ks=>∃f pa lo bo va vc,xs=[.s f,pa,lo,bo]∧isP pa∧lo=.l va vc [.t [.s wA,.b false],.t [.s wB,.b false]]∧∀mi mp,isM 0 0 0 mi mp→nthK Ks 0 [mi,mp]
theorem Qaau {xs:List LD}{Ks:List (List LD→Prop)}(h:QLB xs Ks):QG (QTq QLH) [] QS6 (QR4 q) xs (nthK Ks):=by
 obtain⟨f,pa,lo,bo,va,vc,rfl,hp,rfl,hk⟩:=h
 rcases hp with rfl | ⟨a,c,rfl⟩
 ·refine Eq.mpr (Q8j ..) ⟨by decide,QYF (Int.le_refl _) ⟨rfl,rfl,rfl,by decide,QYF (Int.le_refl _) ⟨rfl,rfl,rfl,QYF (Int.le_refl _) ⟨⟨rfl,rfl,rfl,rfl,trivial⟩,⟨rfl,rfl,rfl,rfl,trivial⟩,⟨rfl,rfl,rfl,rfl,trivial⟩,⟨rfl,rfl,rfl,rfl,trivial⟩,fun a c _=>hk _ _ ⟨⟨a,c,rfl⟩,.inl rfl⟩⟩⟩⟩⟩
 ·refine Eq.mpr (Q8k ..) ⟨by decide,QYF (Int.le_refl _) ⟨rfl,rfl,rfl,by decide,QYF (Int.le_refl _) ⟨rfl,rfl,rfl,QYF (Int.le_refl _) ⟨⟨rfl,rfl,rfl,rfl,trivial⟩,⟨rfl,rfl,rfl,rfl,trivial⟩,⟨rfl,rfl,rfl,rfl,trivial⟩,⟨rfl,rfl,rfl,rfl,trivial⟩,fun a c _=>hk _ _ ⟨⟨a,c,rfl⟩,.inl rfl⟩⟩⟩⟩⟩
end
end Go.Proofs.YtemffgbncjnmkaaGreat
set_option maxHeartbeats 2000000
namespace Go.Proofs.YtemffgbncjnmkaaGreat
open Go Go.Sh Go.Va
def isNs:List Nd→Nat→List LD→Prop
 | [],_,es=>es=[]
 | n::ns,k,es=>∃F r,es=.t F::r∧isN n (k+1) F∧isNs ns (k+1) r
theorem Q9k:∀ {ns:List Nd}{k:Nat}{es:List LD},isNs ns k es→es.length=ns.length∧∀j,j<ns.length→∃F,es.getD j .nul=.t F∧isN (ns.getD j .ext) (k+j+1) F
 | [],k,es,h=>by
  have h':es=[]:=h
  subst h';exact⟨rfl,fun j hj=>absurd hj (by simp)⟩
 | n::ns,k,es,h=>by
  obtain⟨F,r,rfl,hF,hr⟩:=h
  obtain⟨h1,h2⟩:=Q9k hr
  refine⟨by simp[h1],fun j hj=>?_⟩
  cases j with
  | zero=>exact⟨F,rfl,hF⟩
  | succ j=>
   obtain⟨F',e,hF'⟩:=h2 j (by simpa using hj)
   refine⟨F',by simpa using e,?_⟩
   rw[show k+(j+1)+1=k+1+j+1 by omega]
   simpa using hF'
def ndL (SS:List St1):List Nd:=.ent::(SS.map .st++[.ext])
theorem Qab0 (SS:List St1):(ndL SS).length=SS.length+2:=by simp[ndL]
theorem QabZ {SS:List St1}{k:Nat}(h:k<SS.length):(ndL SS).getD (k+1) .ext=.st (SS.getD k (.ret (.num []))):=by
 simp[ndL,List.getD_eq_getElem?_getD,List.getElem?_append,h]
theorem row_of {SS:List St1}{T:Nat→TR}{g:LD}(h0:SS.length≤90)(hg:isNs (ndL SS) 0 g.es)(hT:∀k,k<SS.length→stS (SS.getD k (.ret (.num []))) (T k) (T (k+1))):Row (SS.length+2) (fun k=>(ndL SS).getD k .ext) (fun k=>T (k - 1)) g:=by
 obtain⟨l,hn⟩:=Q9k hg
 rw[Qab0] at l hn
 refine⟨by omega,by omega,l,fun k hk=>?_,?_,fun k hk=>?_⟩
 ·have:=hn k hk
  rwa [Nat.zero_add] at this
 ·simp[ndL,List.getD_eq_getElem?_getD]
 ·cases k with
  | zero=>exact⟨by simp[ndL],rfl⟩
  | succ k=>
   have e:=QabZ (SS:=SS) (k:=k) (by omega)
   refine⟨by simp only[e];exact (fun h=>nomatch h),?_⟩
   simp only[e]
   exact hT k (by omega)
theorem QaaE {n k:Nat}{x d:LD}(h:k<n):(List.replicate n x).getD k d=x:=by
 rw[List.getD_eq_getElem?_getD,List.getElem?_replicate,if_pos h];rfl
abbrev ksDo:List CK:=[.l 19,.l 18,.i .i64,.r 3,.r 2]
abbrev ksSu:List CK:=[.b,.i .i64,.i .i64,.l 19,.l 18,.i .i64,.r 3,.r 2]
theorem QN0 {n:Nat}{nd:Nat→Nd}{tr:Nat→TR}{g y:LD}{K:LD→Int→Prop}(R:Row (n+1) nd tr g)(hy:memE (tr 0) y)(hk:∀I m,K I m){f:LD→LD→Bool→Int→Int→Int→Prop}(hf:∀g I m,K I m→f g I true (tr n).2.2 (tr n).2.2 m) :
  QLA [g,.n 0,.t (y::List.replicate n noM),.t (List.replicate (n+1) (.t [.b false])),.t (List.replicate (n+1) (.t [.n 0]))] [apK ksSv fun (y25:LD) (z_26:Int) (z_27:List LD) (z_28:List LD) (z_29:List LD)=>(QLz [y25,(LD.n z_26),(LD.t z_27),(LD.t z_28),(LD.t z_29)] [apK ksDo fun (y30:LD) (y31:LD) (z_32:Int) (z_33:List LD) (z_34:List LD)=>(QLy [y30,y31,(LD.n z_32),(LD.t z_33),(LD.t z_34)] [apK ksDo fun (y35:LD) (y36:LD) (z_37:Int) (z_38:List LD) (z_39:List LD)=>(QLx [y35,y36,(LD.n z_37),(LD.t z_38),(LD.t z_39)] [apK ksSu fun (z_40:Bool) (z_41:Int) (z_42:Int) (y43:LD) (y44:LD) (z_45:Int) (z_46:List LD) (z_47:List LD)=>((z_37=z_45∧(y36=y44∧f y35 y36 z_40 z_41 z_42 z_37)):Prop)]:Prop)]:Prop)]:Prop)]:=by
 refine⟨n+1,nd,tr,g,0,_,_,_,rfl,R,by simp,by simp,by simp,hy,fun k h0 h1=>?_,fun k h1=>QaaE h1,fun m vi vw vc S _=>⟨n+1,nd,tr,g,m,vi,vw,vc,rfl,R,⟨S.li,fun k hk=>S.yes k (by omega) hk⟩,fun I hI _=>⟨n+1,nd,tr,g,I,m,vw,vc,rfl,R,hI,fun _=>⟨n+1,nd,tr,g,I,m,vw,vc,rfl,R,hI,fun _=>⟨rfl,rfl,hf _ _ _ (hk I m)⟩⟩⟩⟩⟩
 obtain⟨k,rfl⟩:∃j,k=j+1:=⟨k - 1,by omega⟩
 rw[List.getD_cons_succ]
 exact QaaE (by omega)
def QNn:QF:=fun xs Ks=>∃f pa lo bo va vc,∃L:List (Str×Ex),∃E,∃T:Nat→TR,xs=[.s f,pa,lo,bo]∧isP pa∧lo=.l va vc [.t [.s wA,.b false],.t [.s wB,.b false]]∧(∃ba bc es,bo=.l ba bc es∧isSs (L.map (fun p:Str×Ex=>St1.asg p.1 p.2)++[St1.ret E]) 0 es)∧1≤L.length∧L.length≤13∧T 0=((0,0,0):TR)∧(∀k,k<L.length+1→stS ((L.map (fun p:Str×Ex=>St1.asg p.1 p.2)++[St1.ret E]).getD k (.ret (.num []))) (T k) (T (k+1)))∧∀I m,nthK Ks 0 [I,.b true,.n (T (L.length+1)).2.2,.n (T (L.length+1)).2.2,.n m]
abbrev asgS (L:List (Str×Ex))(E:Ex):List St1:=L.map (fun p:Str×Ex=>St1.asg p.1 p.2)++[St1.ret E]
def isEs:List (Str×Ex)→List (Str×LD)→Prop
 | [],[]=>True
 | p::L,r::Q=>p.1=r.1∧isE p.2 r.2∧isEs L Q
 | _,_=>False
theorem QacB:∀ {L:List (Str×Ex)}{Q:List (Str×LD)},isEs L Q→L.length=Q.length
 | [],[],_=>rfl
 | [],_::_,h=>h.elim
 | _::_,[],h=>h.elim
 | p::L,r::Q,h=>by simp[QacB h.2.2]
theorem QacQ:∀ {L:List (Str×Ex)}{E:Ex}{i:Nat}{es:List LD},isSs (asgS L E) (i:Int) es→∃Q er,es=stD er Q i∧isEs L Q∧isE E er
 | [],E,i,es,h=>by
  obtain⟨_,_,rfl,⟨y,hy,rfl⟩,h⟩:=h
  have h':_=[]:=h
  subst h'
  exact⟨[],y,rfl,trivial,hy⟩
 | p::L,E,i,es,h=>by
  obtain⟨_,r,rfl,⟨y,hy,rfl⟩,h⟩:=h
  have e:((i:Int)+1)=((i+1:Nat):Int):=by omega
  rw[e] at h
  obtain⟨Q,er,rfl,hQ,hE⟩:=QacQ (i:=i+1) h
  exact⟨(p.1,y)::Q,er,rfl,⟨rfl,hy,hQ⟩,hE⟩
theorem QacV:∀ {L:List (Str×Ex)}{Q:List (Str×LD)}{E:Ex}{er:LD}{i:Nat}{l:List (Go.Addr×Nat)},isEs L Q→isE E er→isNs ((asgS L E).map .st++[.ext]) (i+1) (ndD er Q i l)
 | [],[],E,er,i,l,_,hE=>⟨_,_,rfl,⟨(i:Int),_,_,_,_,_,_,_,_,_,_,(hdA l).1,(hdA l).2,⟨er,hE,rfl⟩,rfl⟩,_,_,rfl,rfl,rfl⟩
 | [],_::_,_,_,_,_,h,_=>h.elim
 | _::_,[],_,_,_,_,h,_=>h.elim
 | p::L,r::Q,E,er,i,l,h,hE=>by
  obtain⟨px,pe⟩:=p
  obtain⟨e,h1,h2⟩:=h
  have e':px=r.1:=e
  subst e'
  exact⟨_,_,rfl,⟨(i:Int),_,_,_,_,_,_,_,_,_,_,(hdA l).1,(hdA l).2,⟨r.2,h1,rfl⟩,rfl⟩,QacV h2 hE⟩
theorem QacR {er:LD}{N:Nat}{K:Prop}(hK:K):∀ {Q:List (Str×LD)}{i:Nat},i+Q.length<N→stP er N K Q i
 | [],i,h=>⟨decide_eq_true (by simp only[List.length_nil] at h;omega),QacP,QacP,hK⟩
 | p::r,i,h=>⟨decide_eq_true (by simp only[List.length_cons] at h;omega),QacP,QacP,QacR hK (by simp only[List.length_cons] at h;simp only[Nat.succ_eq_add_one];omega)⟩
theorem QacT:∀ {n:Nat}{K:List (Go.Addr×Nat)→Prop},(∀l,K l)→alP n K
 | 0,_,h=>h []
 | n+1,K,h=>fun a c _=>QacT fun l=>h ((a,c)::l)
theorem QacZ {L:List (Str×Ex)}{Q:List (Str×LD)}{E:Ex}{er:LD}{ba:Addr}{bc:Nat}{f:Str}{pa lo:LD}{va:Addr}{vc:Nat}{T:Nat→TR}{Ks:Nat→List LD→Prop}{q:QF}(hQ:isEs L Q)(hE:isE E er)(hn:L.length≤13)(hp:isP pa)(hl:lo=.l va vc [.t [.s wA,.b false],.t [.s wB,.b false]])(h:T 0=((0,0,0):TR))
  (hT:∀k,k<L.length+1→stS ((asgS L E).getD k (.ret (.num []))) (T k) (T (k+1))) (hk:∀I m,Ks 0 [I,.b true,.n (T (L.length+1)).2.2,.n (T (L.length+1)).2.2,.n m]) :
  Qacw Q er ba bc f pa lo Ks q QLA QLz QLy QLx QLB:=by
 have hlen:=QacB hQ
 have hs:(asgS L E).length=L.length+1:=by simp[asgS]
 refine QacR ⟨_,_,_,_,va,vc,rfl,hp,hl,fun mi mp hm _=>QacT fun l a c _=>?_⟩ (by omega)
 have R:=row_of (SS:=asgS L E) (T:=T) (by omega) (g:=.l a c (grD er Q l)) ⟨_,_,rfl,⟨(hdA l).1,(hdA l).2,rfl⟩,QacV (i:=0) hQ hE⟩ (by rw[hs];exact hT)
 have e:(asgS L E).length+2=(Q.length+2)+1:=by omega
 rw[e] at R
 rw[hlen] at hk
 exact QN0 (n:=Q.length+2) (K:=fun I m=>Ks 0 [I,.b true,.n (T (Q.length+1)).2.2,.n (T (Q.length+1)).2.2,.n m]) R ⟨mi,mp,rfl,by show isMt (T 0) mi mp;rw[h];exact hm⟩ hk fun g I m h=>h
theorem Qaav {xs:List LD}{Ks:List (List LD→Prop)}{q:QF}(h:QNn xs Ks):QG (QMq QLA QLz QLy QLx QLB) [] QMH (QMv q) xs (nthK Ks):=by
 obtain⟨f,pa,lo,bo,va,vc,L,E,T,rfl,hp,hl,⟨ba,bc,es,rfl,hes⟩,l0,l1,hT0,hT,hk⟩:=h
 obtain⟨Q,er,rfl,hQ,hE⟩:=QacQ (i:=0) hes
 have hlen:=QacB hQ
 have S:=QacZ (ba:=ba) (bc:=bc) (f:=f) (Ks:=nthK Ks) (q:=q) hQ hE l1 hp hl hT0 hT hk
 rw[hlen] at l0 l1
 clear hQ hlen hes
 match Q,l0,l1,S with
 | [],l0,_,_=>exact absurd l0 (by decide)
 | [p0],_,_,S=>exact Eq.mpr (QacO ..) S
 | [p0,p1],_,_,S=>exact Eq.mpr (QacN ..) S
 | [p0,p1,p2],_,_,S=>exact Eq.mpr (QacM ..) S
 | [p0,p1,p2,p3],_,_,S=>exact Eq.mpr (QacL ..) S
 | [p0,p1,p2,p3,p4],_,_,S=>exact Eq.mpr (QacK ..) S
 | [p0,p1,p2,p3,p4,p5],_,_,S=>exact Eq.mpr (QacJ ..) S
 | [p0,p1,p2,p3,p4,p5,p6],_,_,S=>exact Eq.mpr (QacI ..) S
 | [p0,p1,p2,p3,p4,p5,p6,p7],_,_,S=>exact Eq.mpr (QacH ..) S
 | [p0,p1,p2,p3,p4,p5,p6,p7,p8],_,_,S=>exact Eq.mpr (QacG ..) S
 | [p0,p1,p2,p3,p4,p5,p6,p7,p8,p9],_,_,S=>exact Eq.mpr (QacF ..) S
 | [p0,p1,p2,p3,p4,p5,p6,p7,p8,p9,p10],_,_,S=>exact Eq.mpr (QacE ..) S
 | [p0,p1,p2,p3,p4,p5,p6,p7,p8,p9,p10,p11],_,_,S=>exact Eq.mpr (QacD ..) S
 | [p0,p1,p2,p3,p4,p5,p6,p7,p8,p9,p10,p11,p12],_,_,S=>exact Eq.mpr (QacC ..) S
 | _::_::_::_::_::_::_::_::_::_::_::_::_::_::r,_,l1,_=>exact absurd l1 (by simp only[List.length_cons];omega)
end Go.Proofs.YtemffgbncjnmkaaGreat
