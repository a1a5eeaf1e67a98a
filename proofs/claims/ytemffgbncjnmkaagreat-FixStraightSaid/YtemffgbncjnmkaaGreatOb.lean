import Derived.Test.YtemffgbncjnmkaaGreatXd
import Derived.Test.YtemffgbncjnmkaaGreatKz
set_option linter.unusedVariables false
set_option linter.unusedSimpArgs false
set_option maxRecDepth 100000
noncomputable section
namespace Go.Proofs.YtemffgbncjnmkaaGreat
open Go Go.Sh Go.Va
section
variable {l:LD}{i en ac d n:Int}{ts r:List Tk}
def QLG:QF:=fun xs Ks=>∃g,QOb g xs Ks
theorem QabI {g:Nat}{E:Ex}{f:TelK (.p 5::k7)}(A:At l i ts)(d0:0≤d)(d1:d+g≤40)(h:(pf g).sum ts=some (E,r))(hk:∀y i',isE E y→At l i' r→f y l i' en (0:Int) ac d n):QLG [l,.n i,.n en,.n 0,.n ac,.n d,.n n] [apK (.p 5::k7) f]:=⟨g,u_E A d0 d1 h hk⟩
def nxB (ts:List Tk)(w:Str):Bool:=match ts with
 | _::(_,t)::_=>decide (t=w)
 | _=>false
def Q53 (ts:List Tk):Bool:=!(isB ts (b8 [110,117,108,108]))&&!(isB ts (b8 [38]))&&!(isB ts (b8 [42]))&&!(nmB ts&&nxB ts (b8 [91]))&&!(nmB ts&&nxB ts (b8 [40]))
theorem QabL {w:Str}{X Y:Prop}(A:At l i ts)(hn:nmB ts=true)(h:nxB ts w=false)(hy:Y):bif decide (IntKind.i64.wrap (i+1)<Int.ofNat l.len) then (((decide (0≤IntKind.i64.wrap (i+1)))&&(decide (IntKind.i64.wrap (i+1)<Int.ofNat l.len)))=true∧(bif decide (((l.at 3 (IntKind.i64.wrap (i+1))).f 1).st=w) then X else Y)) else Y:=by
 cases ts with
 | nil=>cases hn
 | cons a t=>
  have A':=A.nx
  cases t with
  | nil=>exact bifD (fun hc=>absurd A'.nil (by have:IntKind.i64.wrap (i+1)<(l.len:Int):=hc;omega)) fun _=>hy
  | cons b t=>
   obtain⟨k,v⟩:=b
   obtain⟨h1,_,h2,_⟩:=A'.cons
   refine bifD (fun hc=>⟨decB A'.h0 hc,?_⟩) fun hc=>absurd h1 hc
   rw[h2]
   have hne:¬v=w:=by simpa [nxB] using h
   exact bifD (fun e=>absurd e hne) fun _=>hy
def QMp:QF:=fun xs Ks=>∃l i en ac d n s0 s1 s2 s3 s4 s5 s6 s7 s8 s9 ts r g E,xs=[l,.n i,.n en,.n 0,.n ac,.n d,.n n,.n s0,.s s1,.s s2,s3,s4,s5,s6,s7,s8,.n s9]∧At l i ts∧0≤d∧d+((g:Nat):Int)≤40∧Q53 ts=true∧(pf g).sum ts=some (E,r)∧∀y i',isE E y→At l i' r→nthK Ks 0 [l,.n i',.n en,.n 0,.n ac,.n d,.n n,.n 0,.s s1,.s s2,y,s4,s5,s6,s7,s8,.n s9]
theorem QqV {s0 s9:Int}{s1 s2:Str}{s3 s4 s5 s6 s7 s8:LD}{g:Nat}{E:Ex}{Ks:Nat→List LD→Prop}{q q1 q2:QF}(A:At l i ts)(d0:0≤d)(d1:d+(g:Int)≤40)(hv:Q53 ts=true)(h:(pf g).sum ts=some (E,r))(hk:∀y i',isE E y→At l i' r→Ks 0 [l,.n i',.n en,.n 0,.n ac,.n d,.n n,.n 0,.s s1,.s s2,y,s4,s5,s6,s7,s8,.n s9]) :
  QiX l i en 0 ac d n s0 s1 s2 s3 s4 s5 s6 s7 s8 s9 Ks q Qa q1 Qf Qg QLG q2:=by
 refine Eq.mpr (Qre ..) ?_
 simp only[Q53,Bool.and_eq_true,Bool.not_eq_true'] at hv
 obtain⟨⟨⟨⟨v1,v2⟩,v3⟩,v4⟩,v5⟩:=hv
 refine QR9 A v1 (bifF (QR9 A v2 (bifF (QR9 A v3 (bifF ?_)))))
 have last:QLG [l,.n i,.n en,.n 0,.n ac,.n d,.n n] [apK (.p 5::k7) fun (y l2:LD) (i2 en2 e2 ac2 d2 n2:Int)=>Ks 0 [l2,.n i2,.n en2,.n e2,.n ac2,.n d2,.n n2,.n 0,.s s1,.s s2,y,s4,s5,s6,s7,s8,.n s9]]:=QabI A d0 d1 h fun y i' hy A'=>hk y i' hy A'
 cases hn:nmB ts with
 | false=>exact Qf0 A hn (bifF (Qf0 A hn (bifF last)))
 | true=>
  rw[hn,Bool.true_and] at v4 v5
  exact Qf0 A hn (bifT (QabL A hn v4 (Qf0 A hn (bifT (QabL A hn v5 last)))))
inductive St1 where
 | asg (x:Str) (E:Ex)
 | ret (E:Ex)
def isS:St1→Int→List LD→Prop
 | .asg x E,n,fs=>∃y,isE E y∧fs=[.n 0,.s x,.s [],y,.nul,.nul,.nul,.nul,.nul,.n n]
 | .ret E,n,fs=>∃y,isE E y∧fs=[.n 9,.s [],.s [],y,.nul,.nul,.nul,.nul,.nul,.n n]
def wRet:Str:=b8 [114,101,116,117,114,110]
def QVI (g:Nat)(ts:List Tk):Option (St1×List Tk):=
 if isB ts wRet=true then (if nmB ts||isB ts (b8 [42]) then none else ((pf g).sum ts.tail).bind fun p=>if isB p.2 (b8 [59])=true then some (.ret p.1,p.2.tail) else none)
 else match ts with
  | []=>none
  | (k,x)::t=>if k=0∧QOn x=false∧isB ts (b8 [97,115,115,101,114,116])=false∧isB ts (b8 [105,102])=false∧isB ts (b8 [119,104,105,108,101])=false∧isB ts (b8 [42])=false∧isB t (b8 [40])=false∧isB t (b8 [91])=false∧isB t (b8 [61])=true∧Q53 t.tail=true
   then ((pf g).sum t.tail).bind fun p=>if isB p.2 (b8 [59])=true then some (.asg x p.1,p.2.tail) else none else none
def QLP:QF:=fun xs Ks=>∃l i en ac d n ts r g S,xs=[l,.n i,.n en,.n 0,.n ac,.n d,.n n]∧At l i ts∧0≤d∧d+((g:Nat):Int)≤40∧0≤n∧n<200∧QVI g ts=some (S,r)∧∀fs i',isS S n fs→At l i' r→nthK Ks 0 (fs++[l,.n i',.n en,.n 0,.n ac,.n d,.n (n+1)])
theorem Qrx {g:Nat}{S:St1}{Ks:Nat→List LD→Prop}{q q1 q2 q3 q4:QF}(A:At l i ts)(d0:0≤d)(d1:d+(g:Int)≤40)(n0:0≤n)(n1:n<200)(h:QVI g ts=some (S,r))(hk:∀fs i',isS S n fs→At l i' r→Ks 0 (fs++[l,.n i',.n en,.n 0,.n ac,.n d,.n (n+1)])) :
  Qks l i en 0 ac d n Ks q q1 Qd Qa Qc Qf Qg QLG q2 q3 q4 QMp:=by
 refine Eq.mpr (QsC ..) ?_
 have ew:IntKind.i64.wrap (n+1)=n+1:=QJ (by omega) (by omega)
 unfold QVI at h
 split at h
 ·rename_i hr
  split at h
  ·cases h
  rename_i hno
  simp only[Bool.or_eq_true,not_or,Bool.not_eq_true] at hno
  obtain⟨p,hp,he⟩:=QQd h
  split at he
  case isFalse=>cases he
  rename_i hs
  simp only[Option.some.injEq,Prod.mk.injEq] at he
  obtain⟨rfl,rfl⟩:=he
  refine Qf0 A hno.1 (bifF (Q4n A hno.2 (bifF (QaaO A hr (bifT (bifD (fun h=>absurd h (by omega)) fun _=>?_))))))
  simp only[];rw[ew]
  refine Q4m A hr fun i1 A1=>bifT (QabI A1 d0 d1 hp fun y i2 hy A2=>Qfw A2 hs fun i3 A3=>?_)
  exact hk _ _ ⟨y,hy,rfl⟩ A3
 ·rename_i hr
  split at h
  ·cases h
  rename_i k x t
  split at h
  case isFalse=>cases h
  rename_i hc
  obtain⟨rfl,hw,c1,c2,c3,c4,c5,c6,c7,c8⟩:=hc
  obtain⟨p,hp,he⟩:=QQd h
  split at he
  case isFalse=>cases he
  rename_i hs
  simp only[Option.some.injEq,Prod.mk.injEq] at he
  obtain⟨rfl,rfl⟩:=he
  have hr':isB ((0,x)::t) wRet=false:=by simpa using hr
  refine Qf0 A (b:=true) (by simp[nmB,hw]) (bifT (bifD (fun h=>absurd h (by omega)) fun _=>?_))
  simp only[];rw[ew]
  refine QR9 A hr' (bifF (QR9 A c1 (bifF (Q4n A c2 (bifF (Q4n A c3 (bifF (QR9 A c4 (bifF (Ql3 A hw fun i1 A1=>?_))))))))))
  refine QR9 A1 c5 (bifF (QR9 A1 c6 (bifF (Qfw A1 c7 fun i2 A2=>?_))))
  refine⟨l,i2,en,ac,d,n+1,_,_,_,_,_,_,_,_,_,_,t.tail,p.2,g,p.1,rfl,A2,d0,d1,c8,hp,fun y i3 hy A3 _=>Qfw A3 hs fun i4 A4=>?_⟩
  exact hk _ _ ⟨y,hy,rfl⟩ A4
def QOv (g:Nat):Nat→List Tk→Option (List St1×List Tk)
 | 0,_=>none
 | j+1,ts=>if isB ts (b8 [125])=true then some ([],ts.tail) else (QVI g ts).bind fun p=>(QOv g j p.2).map fun q=>(p.1::q.1,q.2)
def isSs:List St1→Int→List LD→Prop
 | [],_,es=>es=[]
 | S::SS,n,es=>∃fs r,es=.t fs::r∧isS S n fs∧isSs SS (n+1) r
def QMM (j:Nat):QF:=fun xs Ks=>∃l i en ac d n w ts r g SS,xs=[l,.n i,.n en,.n 0,.n ac,.n d,.n n,.t w]∧At l i ts∧0≤d∧d+((g:Nat):Int)≤40∧0≤n∧n+(SS.length:Int)≤200∧w.length≤n∧QOv g j ts=some (SS,r)∧∀es i',isSs SS n es→At l i' r→nthK Ks 0 [l,.n i',.n en,.n 0,.n ac,.n d,.n (n+(SS.length:Int)),.t (w++es)]
def Qq:QF:=fun xs Ks=>∃l i en ac d ts r g j SS,xs=[l,.n i,.n en,.n 0,.n ac,.n d,.n 0]∧At l i ts∧0≤d∧d+((g:Nat):Int)≤40∧(SS.length:Int)≤200∧QOv g j ts=some (SS,r)∧∀(L:LD) i',isSs SS 0 L.es→At l i' r→nthK Ks 0 [L,l,.n i',.n en,.n 0,.n ac,.n d,.n (SS.length:Int)]
theorem Qoh {w:List LD}{Ks:List (List LD→Prop)}{q q1:QF}{j:Nat}(h:QMM (j+1) [l,.n i,.n en,.n 0,.n ac,.n d,.n n,.t w] Ks):Qhx l i en 0 ac d n w (fun ys=>QMM j ys Ks) (nthK Ks) q q1 Qa QLP:=by
 obtain⟨l_,i_,en_,ac_,d_,n_,w_,ts,r,g,SS,eq,A,d0,d1,n0,n1,hw,h,hk⟩:=h
 simp only[List.cons.injEq,LD.n.injEq,LD.t.injEq,and_true,true_and] at eq
 obtain⟨rfl,rfl,rfl,rfl,rfl,rfl,rfl⟩:=eq
 refine Eq.mpr (Qo1 ..) ?_
 refine bifD (fun _=>?_) fun h=>absurd rfl h
 simp only[QOv] at h
 split at h
 ·rename_i hb
  simp only[Option.some.injEq,Prod.mk.injEq] at h
  obtain⟨rfl,rfl⟩:=h
  refine Q4m A hb fun i' A'=>bifT ?_
  have:=hk [] i' rfl A'
  simpa using this
 ·rename_i hb
  obtain⟨p,hp,he⟩:=QQd h
  obtain⟨q2,hq,he⟩:=QXt he
  simp only[Prod.mk.injEq] at he
  obtain⟨rfl,rfl⟩:=he
  rw[List.length_cons] at n1 hk
  refine QR9 A (Bool.eq_false_iff.2 hb) (bifF (bifD (fun hc=>?_) fun _=>?_))
  ·exfalso
   cases ts with
   | nil=>cases hp
   | cons a t=>exact absurd A.cons.1 (by omega)
  refine⟨l,i,en,ac,d,n,ts,p.2,g,p.1,rfl,A,d0,d1,n0,by omega,hp,fun fs i' hS A'=>?_⟩
  have key:((w.length+1) * 144≤140737488355328∧w.length+1≤4611686018427387904)∧QMM j [l,.n i',.n en,.n 0,.n ac,.n d,.n (n+1),.t (w++[.t fs])] Ks:=by
   refine⟨by omega,l,i',en,ac,d,n+1,w++[.t fs],p.2,q2.2,g,q2.1,rfl,A',d0,d1,by omega,by omega,by rw[List.length_append,List.length_singleton];omega,hq,fun es i2 hes A2=>?_⟩
   have:=hk (.t fs::es) i2 ⟨fs,es,rfl,hS,hes⟩ A2
   rw[List.append_assoc]
   rwa [show n+1+(q2.1.length:Int)=n+((q2.1.length+1:Nat):Int) by omega]
  cases hp1:p.1 with
  | asg x E=>
   rw[hp1] at hS
   obtain⟨y,hy,rfl⟩:=hS
   exact fun _=>key
  | ret E=>
   rw[hp1] at hS
   obtain⟨y,hy,rfl⟩:=hS
   exact fun _=>key
theorem QqX {g j:Nat}{SS:List St1}{Ks:Nat→List LD→Prop}{q q1 q2 q3:QF}(A:At l i ts)(d0:0≤d)(d1:d+(g:Int)≤40)(n1:(SS.length:Int)≤200)(h:QOv g j ts=some (SS,r))(hk:∀(L:LD) i',isSs SS 0 L.es→At l i' r→Ks 0 [L,l,.n i',.n en,.n 0,.n ac,.n d,.n (SS.length:Int)]) :
  QiZ l i en 0 ac d 0 Ks q q1 q2 q3 (fun xs Ks=>∃j,QMM j xs Ks):=by
 refine Eq.mpr (Qrg ..) ?_
 refine⟨j,l,i,en,ac,d,0,[],ts,r,g,SS,rfl,A,d0,d1,by omega,by omega,by simp,h,fun es i' hes A' _=>?_⟩
 rw[show (0:Int)+(SS.length:Int)=SS.length by omega,List.nil_append]
 refine⟨fun e=>hk _ _ ?_ A',fun a c _=>hk _ _ ?_ A'⟩
 ·have e':es=[]:=e
  rw[e'] at hes;exact hes
 ·exact hes
def Qw:QF:=fun xs Ks=>∃ptr most l i en ac d n w x ts,xs=[.b ptr,.n most,l,.n i,.n en,.n 0,.n ac,.n d,.n n,.t w]∧At l i ((0,x)::ts)∧QOn x=false∧(w.length:Int)<most∧most≤1000∧∀i',At l i' ts→nthK Ks 0 [l,.n i',.n en,.n 0,.n ac,.n d,.n n,.t (w++[.t [.s x,.b ptr]])]
theorem QrB {ptr:Bool}{most:Int}{w:List LD}{x:Str}{Ks:Nat→List LD→Prop}{q q1:QF}(A:At l i ((0,x)::ts))(hx:QOn x=false)(h1:(w.length:Int)<most)(h2:most≤1000)(hk:∀i',At l i' ts→Ks 0 [l,.n i',.n en,.n 0,.n ac,.n d,.n n,.t (w++[.t [.s x,.b ptr]])]) :
  Qkw ptr most l i en 0 ac d n w Ks q q1 Qf Qg:=by
 refine Eq.mpr (QsG ..) ?_
 have room:(w.length+1) * 24≤140737488355328∧w.length+1≤4611686018427387904:=by omega
 refine Qf0 A (b:=true) (by simp[nmB,hx]) (bifT (bifD (fun h=>absurd h (by show ¬most≤(w.length:Int);omega)) fun _=>Ql3 A hx fun i' A'=>?_))
 cases ptr with
 | true=>exact bifT ⟨room,hk _ A'⟩
 | false=>exact bifF ⟨room,hk _ A'⟩
def wVar:Str:=b8 [118,97,114]
def wPtr:Str:=b8 [112,116,114]
def Q4p:Nat→List Tk→Option (List Str×List Tk)
 | 0,_=>none
 | j+1,ts=>if isB ts wVar=true then (match ts.tail with
   | (0,x)::t=>if isB ts wPtr=false∧QOn x=false∧isB t (b8 [59])=true then (Q4p j t.tail).map fun p=>(x::p.1,p.2) else none
   | _=>none) else if isB ts wPtr=true then none else some ([],ts)
def varE (x:Str):LD:=.t [.s x,.b false]
def QRj (j:Nat):QF:=fun _ _=>False
def QOo (j:Nat):QF:=fun xs Ks=>∃l i en ac d n f bo pa lo ts vs r,xs=[l,.n i,.n en,.n 0,.n ac,.n d,.n n,.s f,bo,.t pa,.t lo]∧At l i ts∧Q4p j ts=some (vs,r)∧(lo.length:Int)+(vs.length:Int)≤20∧∀i',At l i' r→nthK Ks 0 [l,.n i',.n en,.n 0,.n ac,.n d,.n n,.s f,bo,.t pa,.t (lo++vs.map varE)]
theorem Qyj {f:Str}{bo:LD}{pa lo:List LD}{Ks:List (List LD→Prop)}{q q1 q2 q3 q4 q5 q6:QF}{j:Nat}(h:QOo (j+1) [l,.n i,.n en,.n 0,.n ac,.n d,.n n,.s f,bo,.t pa,.t lo] Ks):Qpl l i en 0 ac d n f bo pa lo (fun ys=>QOo j ys Ks) (nthK Ks) q q1 q2 Qd q3 Qc q4 q5 q6 Qw:=by
 obtain⟨l_,i_,en_,ac_,d_,n_,f_,bo_,pa_,lo_,ts,vs,r,eq,A,h,hn,hk⟩:=h
 simp only[List.cons.injEq,LD.n.injEq,LD.t.injEq,LD.s.injEq,and_true,true_and] at eq
 obtain⟨rfl,rfl,rfl,rfl,rfl,rfl,rfl,rfl,rfl,rfl⟩:=eq
 refine Eq.mpr (Qy1 ..) ?_
 simp only[Q4p] at h
 split at h
 ·rename_i hv
  split at h
  case h_2=>cases h
  rename_i x t ht
  split at h
  case isFalse=>cases h
  rename_i hc
  obtain⟨c1,c2,c3⟩:=hc
  obtain⟨p,hp,he⟩:=QXt h
  simp only[Prod.mk.injEq] at he
  obtain⟨rfl,rfl⟩:=he
  obtain⟨k',w',t',rfl,_⟩:=Q6s hv
  simp only[List.tail_cons] at ht
  subst ht
  rw[List.length_cons] at hn
  refine QaaO A hv (bifT (Q4n A c1 (bifF ⟨false,20,l,_,en,ac,d,n,lo,x,t,rfl,A.nx,c2,by omega,by omega,fun i' A' _=>Qfw A' c3 fun i2 A2=>?_⟩)))
  dsimp only[pj,LD.i,LD.st,LD.bo,LD.cs]
  refine⟨l,i2,en,ac,d,n,f,bo,pa,_,t.tail,p.1,p.2,rfl,A2,hp,by rw[List.length_append,List.length_singleton];omega,fun i3 A3=>?_⟩
  have:=hk i3 A3
  rw[List.append_assoc]
  exact this
 ·rename_i hv
  split at h
  ·cases h
  rename_i hp
  simp only[Option.some.injEq,Prod.mk.injEq] at h
  obtain⟨rfl,rfl⟩:=h
  refine Q4n A (Bool.eq_false_iff.2 hv) (bifF (Q4n A (Bool.eq_false_iff.2 hp) (bifF ?_)))
  have:=hk i A
  rwa [List.map_nil,List.append_nil] at this
def Q6c (ts:List Tk):Option (Str×List Str×List St1):=match ts with
 | (k,w)::(0,f)::t=>if isB [(k,w)] (b8 [102,110])=true∧QOn f=false∧isB t (b8 [40])=true∧isB t.tail (b8 [41])=true∧isB t.tail.tail (b8 [123])=true
  then (Q4p 21 t.tail.tail.tail).bind fun v=>(QOv 20 200 v.2).bind fun p=>if p.2=[]∧p.1.length≤200∧v.1.length≤20 then some (f,v.1,p.1) else none else none
 | _=>none
def Qac:QF:=fun xs Ks=>∃s g ts f vs SS,xs=[.s s]∧s.length≤4096∧ts.length≤4096∧lexL g s=some ts∧Q6c ts=some (f,vs,SS)∧∀pa lo bo:LD,pa.es=[]→lo.es=vs.map varE→isSs SS 0 bo.es→nthK Ks 0 [.s f,pa,lo,bo,.n 0,.n 0]
theorem QDc {s:Str}{g:Nat}{ts:List Tk}{f:Str}{vs:List Str}{SS:List St1}{Ks:Nat→List LD→Prop}{q q1 q2:QF}(hs:s.length≤4096)(hts:ts.length≤4096)(hl:lexL g s=some ts)(hp:Q6c ts=some (f,vs,SS))(hk:∀pa lo bo:LD,pa.es=[]→lo.es=vs.map varE→isSs SS 0 bo.es→Ks 0 [.s f,pa,lo,bo,.n 0,.n 0]) :
  Qvg s Ks q Qy q1 Qd Qa Qc Qg Qh Qq Qw q2 (fun xs Ks=>∃j,QOo j xs Ks):=by
 refine Eq.mpr (QDy ..) ?_
 refine QBq hs hl fun l hlt=>?_
 have A0:At l 0 ts:=⟨by omega,by omega,by have h:=congrArg List.length hlt;rw[List.length_map] at h;show l.es.length≤4096;omega,hlt⟩
 unfold Q6c at hp
 split at hp
 case h_2=>cases hp
 rename_i k w f' t
 split at hp
 case isFalse=>cases hp
 rename_i hc
 obtain⟨c1,c2,c3,c4,c5⟩:=hc
 obtain⟨v,hv,hp⟩:=QQd hp
 obtain⟨p,hps,hp⟩:=QQd hp
 split at hp
 case isFalse=>cases hp
 rename_i hc
 obtain⟨e1,e2,e3⟩:=hc
 simp only[Option.some.injEq,Prod.mk.injEq] at hp
 obtain⟨rfl,rfl,rfl⟩:=hp
 refine bifN (fun h=>absurd rfl h) fun _=>Qfw A0 (t:=b8 [102,110]) c1 fun i1 A1=>Ql3 A1 c2 fun i2 A2=>Qfw A2 c3 fun i3 A3=>Q4m A3 c4 fun i4 A4=>bifT (QaaO A4 c5 (bifT (QwK (by omega) (by omega) (bifT ?_))))
 obtain⟨k5,w5,t5,ht5,_⟩:=Q6s c5
 rw[ht5] at A4
 rw[ht5,List.tail_cons] at hv
 refine⟨21,l,_,_,0,0+1,0,f',.nul,[],[],t5,v.1,v.2,rfl,A4.nx,hv,by show ((0:Nat):Int)+(v.1.length:Int)≤20;omega,fun i6 A6 _=>?_⟩
 refine⟨l,i6,_,0,0+1,v.2,p.2,20,200,p.1,rfl,A6,by omega,by omega,by omega,hps,fun L i7 hL A7 _=>?_⟩
 rw[e1] at A7
 dsimp only[pj,LD.i,LD.st,LD.bo,LD.cs]
 refine bifD (fun _=>bifD (fun h=>absurd A7.nil (by have:i7<(l.len:Int):=h;omega)) fun _=>?_) fun h=>absurd rfl h
 refine bifN (fun h=>absurd rfl h) fun _=>?_
 have hvar:([]++v.1.map varE:List LD)=v.1.map varE:=rfl
 refine⟨fun _=>⟨fun e=>hk _ _ _ rfl ?_ hL,fun a c _=>hk _ _ _ rfl rfl hL⟩,fun a c _=>⟨fun e=>hk _ _ _ rfl ?_ hL,fun a c _=>hk _ _ _ rfl rfl hL⟩⟩
 ·exact e.symm
 ·exact e.symm
end
end Go.Proofs.YtemffgbncjnmkaaGreat
set_option maxHeartbeats 4000000
namespace Go.Proofs.YtemffgbncjnmkaaGreat
open Go Go.Sh Go.Va
theorem tbg {P:Program}{t:Tr FFn}{i:Nat}{g:FFn}(h:t.get i=some g)(k:QC P t):KOk P i g:=QC.get k h
theorem lsn {P:Program}{i:Nat}:∀S∈([]:List LCt),LsI P i S:=fun _ h=>nomatch h
theorem lsc {P:Program}{i:Nat}{a:LCt}{l:List LCt}(h:LsI P i a)(t:∀S∈l,LsI P i S):∀S∈a::l,LsI P i S:=fun S hS=>by
 rcases List.mem_cons.1 hS with e | e
 ·rw[e];exact h
 ·exact t S e
theorem zs {α:Type}{x:α}{p:Prop}(h:(none:Option α)=some x):p:=nomatch h
theorem Q7c:∀i g,Qng.get i=some g→KOk Tryz.prog i g:=fun _ _ h=>tbg h (trivial)
theorem Qz5:KOk Tryz.prog 26 (.q (Qjj QD)):=kq rfl (q_of Q7c QAh (ls:=[]) lsn rfl fun xs Ks _ h=>by
     obtain⟨c,rfl,h1⟩:=h
     exact QzR (Ks:=nthK Ks) h1)
theorem Q71:∀i g,Qof.get i=some g→KOk Tryz.prog i g:=fun _ _ h=>tbg h (trivial)
theorem QBP:KOk Tryz.prog 27 (.q (QkT QE)):=kq rfl (q_of Q71 QCh (ls:=[]) lsn rfl fun xs Ks _ h=>by
     obtain⟨c,rfl,h1⟩:=h
     exact QBx (Ks:=nthK Ks) h1)
theorem Q5a:∀i g,Ql6.get i=some g→KOk Tryz.prog i g:=fun _ _ h=>tbg h (trivial)
theorem Q9l:LsI Tryz.prog 28 (Qe3 fun xs Ks=>∃j,QdG j xs Ks):=Qae (S:=Qe3 fun _ _=>False) Q5a QBJ (ls:=[]) lsn rfl (q:=fun j=>QdG j)
 (fun xs Ks h=>by
   obtain⟨s,c,i,_,h1,h2,h3,h4,h5⟩:=h
   first | omega | exact absurd h1.2.2.2 (Nat.not_lt_zero _) | exact absurd h1.1.2.2.2 (Nat.not_lt_zero _))
 (fun j xs Ks _ h=>by
   obtain⟨_,_,_,rfl,_⟩:=id h
   exact QBw h)
theorem QEZ:KOk Tryz.prog 28 (.q (Qn8 QV)):=kq rfl (q_of Q5a QFe (ls:=[Qe3 fun xs Ks=>∃j,QdG j xs Ks]) (lsc Q9l lsn) rfl fun xs Ks _ h=>by
     obtain⟨s,c,rfl,h1,h2,h3⟩:=h
     exact QEK (Ks:=nthK Ks) h1 h2 h3)
theorem Q3b:∀i g,QkF.get i=some g→KOk Tryz.prog i g:=fun _ _ h=>tbg h (trivial)
theorem Q8b:LsI Tryz.prog 55 (QeA fun xs Ks=>∃j,Qdc j xs Ks):=Qae (S:=QeA fun _ _=>False) Q3b Qz3 (ls:=[]) lsn rfl (q:=fun j=>Qdc j)
 (fun xs Ks h=>by
   obtain⟨s,l,i,_,h1,h2,h3,h4,h5,h6⟩:=h
   first | omega | exact absurd h1.2.2.2 (Nat.not_lt_zero _) | exact absurd h1.1.2.2.2 (Nat.not_lt_zero _))
 (fun j xs Ks _ h=>by
   obtain⟨_,_,_,rfl,_⟩:=id h
   exact QzP h)
theorem QDj:KOk Tryz.prog 55 (.q (QmT QbE)):=kq rfl (q_of Q3b QDr (ls:=[QeA fun xs Ks=>∃j,Qdc j xs Ks]) (lsc Q8b lsn) rfl fun xs Ks _ h=>by
     obtain⟨s,rfl,h1⟩:=h
     exact QDb (Ks:=nthK Ks) h1)
theorem Q0h:∀i g,QhI.get i=some g→KOk Tryz.prog i g:=fun _ _ h=>tbg h (trivial)
theorem Q6t:LsI Tryz.prog 199 (Qdj fun xs Ks=>∃j,Qcw j xs Ks):=Qae (S:=Qdj fun _ _=>False) Q0h Qw3 (ls:=[]) lsn rfl (q:=fun j=>Qcw j)
 (fun xs Ks h=>by
   obtain⟨s,n,i,_,h1,h2,h3,h4,h5,h6,h7,h8⟩:=h
   first | omega | exact absurd h1.2.2.2 (Nat.not_lt_zero _) | exact absurd h1.1.2.2.2 (Nat.not_lt_zero _))
 (fun j xs Ks _ h=>by
   obtain⟨_,_,_,rfl,_⟩:=id h
   exact QwL h)
theorem Qqo:KOk Tryz.prog 199 (.q (Qf7 QK)):=kq rfl (q_of Q0h QAg (ls:=[Qdj fun xs Ks=>∃j,Qcw j xs Ks]) (lsc Q6t lsn) rfl fun xs Ks _ h=>by
     obtain⟨s,rfl,h1,h2,h3⟩:=h
     exact QzQ (Ks:=nthK Ks) h1 h2 h3)
theorem QQl:∀i g,(QcT QD QE QV).get i=some g→KOk Tryz.prog i g:=fun _ _ h=>tbg h ⟨Qz5,⟨QBP,QEZ⟩⟩
theorem QYh:LsI Tryz.prog 9 (Qbu fun xs Ks=>∃j,Qa0 j xs Ks):=Qae (S:=Qbu fun _ _=>False) QQl QvI (ls:=[]) lsn rfl (q:=fun j=>Qa0 j)
 (fun xs Ks h=>h) (fun j xs Ks _ h=>h.elim)
theorem QYg:LsI Tryz.prog 9 (Qbt fun xs Ks=>∃j,QaZ j xs Ks):=Qae (S:=Qbt fun _ _=>False) QQl QvH (ls:=[]) lsn rfl (q:=fun j=>QaZ j)
 (fun xs Ks h=>by
   obtain⟨s,i,f,w,_,h1,h2⟩:=h
   exact absurd h1.2.2.2 (Nat.not_lt_zero _))
 (fun j xs Ks _ h=>by
   obtain⟨_,_,_,_,rfl,_⟩:=id h
   exact Qvs h)
theorem QYf:LsI Tryz.prog 9 (Qbs fun xs Ks=>∃j,QaY j xs Ks):=Qae (S:=Qbs fun _ _=>False) QQl QvG (ls:=[]) lsn rfl (q:=fun j=>QaY j)
 (fun xs Ks h=>by
   obtain⟨s,i,c,f,n,w,k,_,h1,h2,h3,h4,h5⟩:=h
   exact absurd h1.2.2.2 (Nat.not_lt_zero _))
 (fun j xs Ks _ h=>by
   obtain⟨_,_,_,_,_,_,_,rfl,_⟩:=id h
   exact Qvr h)
theorem Q6u:LsI Tryz.prog 9 (Qdk fun xs Ks=>∃j,Qaw j xs Ks):=Qae (S:=Qdk fun _ _=>False) QQl Qw4 (ls:=[Qbu fun xs Ks=>∃j,Qa0 j xs Ks,Qbt fun xs Ks=>∃j,QaZ j xs Ks,Qbs fun xs Ks=>∃j,QaY j xs Ks]) (lsc QYh (lsc QYg (lsc QYf lsn))) rfl (q:=fun j=>Qaw j)
 (fun xs Ks h=>by
   obtain⟨s,i,w,ts,_,h1,h2,h3,h4,h5,h6⟩:=h
   exact zs h5)
 (fun j xs Ks _ h=>by
   obtain⟨_,_,_,_,rfl,_⟩:=id h
   exact QwM h)
theorem Qqp:KOk Tryz.prog 9 (.q (Qf8 Qy)):=kq rfl (q_of QQl QAi (ls:=[Qdk fun xs Ks=>∃j,Qaw j xs Ks,Qbu fun xs Ks=>∃j,Qa0 j xs Ks,Qbt fun xs Ks=>∃j,QaZ j xs Ks,Qbs fun xs Ks=>∃j,QaY j xs Ks]) (lsc Q6u (lsc QYh (lsc QYg (lsc QYf lsn)))) rfl fun xs Ks _ h=>by
     obtain⟨s,ts,g,rfl,h1,h2,h3⟩:=h
     exact QzS (Ks:=nthK Ks) (q1:=QD) (q2:=QE) (q3:=QV) (q4:=fun xs Ks=>∃j,Qa0 j xs Ks) (q5:=fun xs Ks=>∃j,QaZ j xs Ks) (q6:=fun xs Ks=>∃j,QaY j xs Ks) h1 h2 h3)
theorem Q4w:∀i g,QjA.get i=some g→KOk Tryz.prog i g:=fun _ _ h=>tbg h (trivial)
theorem Qbj:KOk Tryz.prog 14 (.q (QaB Qd)):=kq rfl (q_of Q4w Qv1 (ls:=[]) lsn rfl fun xs Ks _ h=>by
     obtain⟨t,l,i,en,ac,d,n,ts,rfl,h1,h2⟩:=h
     exact Qvq (Ks:=nthK Ks) h1 h2)
theorem Q2E:∀i g,(QhC Qd).get i=some g→KOk Tryz.prog i g:=fun _ _ h=>tbg h (Qbj)
theorem Qar:KOk Tryz.prog 12 (.q (Q4 Qa)):=kq rfl (q_of Q2E Qsc (ls:=[]) lsn rfl fun xs Ks _ h=>by
     obtain⟨t,l,i,en,ac,d,n,ts,rfl,h1,h2,h3⟩:=h
     exact Qrw (Ks:=nthK Ks) h1 h2 h3)
theorem Qaf:KOk Tryz.prog 16 (.q (QY Qb)):=kq rfl fun _ _ _ _ _ h=>h.elim
theorem Q2D:∀i g,(QhB Qb Qa).get i=some g→KOk Tryz.prog i g:=fun _ _ h=>tbg h ⟨Qar,Qaf⟩
theorem Qbi:KOk Tryz.prog 10 (.q (QaA Qc)):=kq rfl (q_of Q2D Qsb (ls:=[]) lsn rfl fun xs Ks _ h=>by
     obtain⟨t,l,i,en,ac,d,n,ts,rfl,h1,h2,h3⟩:=h
     exact Qrv (Ks:=nthK Ks) (q1:=Qb) h1 h2 h3)
theorem Q1a:∀i g,(Qha QbE).get i=some g→KOk Tryz.prog i g:=fun _ _ h=>tbg h (QDj)
theorem Qa4:KOk Tryz.prog 29 (.q (Qao Qf)):=kq rfl (q_of Q1a Qra (ls:=[]) lsn rfl fun xs Ks _ h=>by
     obtain⟨l,i,en,ac,d,n,ts,rfl,h1,h2⟩:=h
     exact QqY (Ks:=nthK Ks) h1 h2)
theorem Q2H:∀i g,(QhF Qb Qf).get i=some g→KOk Tryz.prog i g:=fun _ _ h=>tbg h ⟨Qaf,Qa4⟩
theorem QbX:KOk Tryz.prog 11 (.q (QaJ Qg)):=kq rfl (q_of Q2H Qsg (ls:=[]) lsn rfl fun xs Ks _ h=>by
     obtain⟨l,i,en,ac,d,n,w,ts,rfl,h1,h2,h3⟩:=h
     exact QrA (Ks:=nthK Ks) (q1:=Qb) h1 h2 h3)
theorem Q2G:∀i g,(QhE Qb).get i=some g→KOk Tryz.prog i g:=fun _ _ h=>tbg h (Qaf)
theorem Qd0:KOk Tryz.prog 15 (.q (QbD Qh)):=kq rfl (q_of Q2G Qsf (ls:=[]) lsn rfl fun xs Ks _ h=>by
     obtain⟨l,i,en,ac,d,n,rfl,h1,h2,h3⟩:=h
     exact Qrz (Ks:=nthK Ks) (q1:=Qb) h1 h2 h3)
theorem QjD:∀k,(∀G:Gd,G.Q→@QOk _ G Tryz.prog 148 (Qem (QNi k)))∧(∀G:Gd,G.Q→@QOk _ G Tryz.prog 89 (Qfp (QNY k)))∧(∀G:Gd,G.Q→@QOk _ G Tryz.prog 56 (Qbp (QOb k)))
 | 0=>⟨fun G _ xs Ks _ h=>by
   obtain⟨_,_,_,_,_,_,_,_,_,_,_,_,_,h,_⟩:=h
   exact zs h,
  fun G _ xs Ks _ h=>by
   obtain⟨_,_,_,_,_,_,_,_,_,_,_,_,_,h,_⟩:=h
   exact zs h,
  fun G _ xs Ks _ h=>by
   obtain⟨_,_,_,_,_,_,_,_,_,_,_,_,_,h,_⟩:=h
   exact zs h⟩
 | k+1=>by
  have ih:=QjD k
  obtain⟨r_ref6_parser_un,r_ref6_parser_prod,r_ref6_parser_sum⟩:=ih
  refine⟨?_,?_,?_⟩
  ·have ht:∀i g,(Qjz QK Qb Qd Qc Qf Qg Qh (QNi k) (QOb k)).get i=some g→KOk Tryz.prog i g:=fun _ _ h=>tbg h ⟨⟨⟨Qbi,QbX⟩,⟨Qbj,Qd0⟩⟩,⟨⟨Qaf,Qa4⟩,⟨(kq rfl r_ref6_parser_sum),⟨(kq rfl r_ref6_parser_un),Qqo⟩⟩⟩⟩
   exact q_of ht Qv0 (ls:=[]) lsn rfl fun xs Ks _ h=>by
     obtain⟨l,i,en,ac,d,n,ts,E,r,rfl,h1,h2,h3,h4,h5⟩:=h
     exact Qvp (Ks:=nthK Ks) (q1:=Qb) h1 h2 h3 h4 h5
  ·have ht:∀i g,(QeO Qd (QNi k)).get i=some g→KOk Tryz.prog i g:=fun _ _ h=>tbg h ⟨Qbj,(kq rfl r_ref6_parser_un)⟩
   have i_ref6_parser_prod_2:LsI Tryz.prog 89 (Qb5 fun xs Ks=>∃j,QMR k j xs Ks):=Qae (S:=Qb5 fun _ _=>False) ht QpK (ls:=[]) lsn rfl (q:=fun j=>QMR k j)
    (fun xs Ks h=>by
    obtain⟨a,l,i,en,ac,d,n,ts,X,E,r,_,h1,h2,h3,h4,h5,h6⟩:=h
    exact zs h5)
    (fun j xs Ks _ h=>by
    obtain⟨_,_,_,_,_,_,_,_,_,_,_,rfl,_⟩:=id h;exact Qpx h)
   exact q_of ht Qse (ls:=[Qb5 fun xs Ks=>∃j,QMR k j xs Ks]) (lsc i_ref6_parser_prod_2 lsn) rfl fun xs Ks _ h=>by
     obtain⟨l,i,en,ac,d,n,ts,E,r,rfl,h1,h2,h3,h4,h5⟩:=h
     exact Qry (Ks:=nthK Ks) (q1:=Qd) h1 h2 h3 h4 h5
  ·have ht:∀i g,(Qfd Qd (QNY k)).get i=some g→KOk Tryz.prog i g:=fun _ _ h=>tbg h ⟨Qbj,(kq rfl r_ref6_parser_prod)⟩
   have i_ref6_parser_sum_2:LsI Tryz.prog 56 (Qcg fun xs Ks=>∃j,QMX k j xs Ks):=Qae (S:=Qcg fun _ _=>False) ht Qq3 (ls:=[]) lsn rfl (q:=fun j=>QMX k j)
    (fun xs Ks h=>by
    obtain⟨a,l,i,en,ac,d,n,ts,X,E,r,_,h1,h2,h3,h4,h5,h6⟩:=h
    exact zs h5)
    (fun j xs Ks _ h=>by
    obtain⟨_,_,_,_,_,_,_,_,_,_,_,rfl,_⟩:=id h;exact QqW h)
   exact q_of ht Quh (ls:=[Qcg fun xs Ks=>∃j,QMX k j xs Ks]) (lsc i_ref6_parser_sum_2 lsn) rfl fun xs Ks _ h=>by
     obtain⟨l,i,en,ac,d,n,ts,E,r,rfl,h1,h2,h3,h4,h5⟩:=h
     exact QtR (Ks:=nthK Ks) (q1:=Qd) h1 h2 h3 h4 h5
theorem QWX:KOk Tryz.prog 56 (.q (Qbp QLG)):=kq rfl fun G hg=>Qnr (q:=fun k=>QOb k) fun k=>(QjD k).2.2 G hg
theorem QV1:KOk Tryz.prog 59 (.q (QdD QLL)):=kq rfl fun _ _ _ _ _ h=>h.elim
theorem Q09:∀i g,(Qg9 Qa Qc Qf Qg QLG QLL).get i=some g→KOk Tryz.prog i g:=fun _ _ h=>tbg h ⟨⟨Qbi,⟨QbX,Qar⟩⟩,⟨Qa4,⟨QWX,QV1⟩⟩⟩
theorem Q2N:KOk Tryz.prog 60 (.q (QeX QMp)):=kq rfl (q_of Q09 Qq8 (ls:=[]) lsn rfl fun xs Ks _ h=>by
     obtain⟨l,i,en,ac,d,n,s0,s1,s2,s3,s4,s5,s6,s7,s8,s9,ts,r,g,E,rfl,h1,h2,h3,h4,h5,h6⟩:=h
     exact QqV (Ks:=nthK Ks) (q1:=Qc) (q2:=QLL) h1 h2 h3 h4 h5 h6)
theorem Q3z:KOk Tryz.prog 57 (.q (QdC QL8)):=kq rfl fun _ _ _ _ _ h=>h.elim
theorem Q2O:KOk Tryz.prog 58 (.q (QeY QL1)):=kq rfl fun _ _ _ _ _ h=>h.elim
theorem Q2F:∀i g,(QhD Qb Qd Qa Qc Qf Qg QLG QL8 QLL QL1 QMp).get i=some g→KOk Tryz.prog i g:=fun _ _ h=>tbg h ⟨⟨⟨Qbi,QbX⟩,⟨Qar,⟨Qbj,Qaf⟩⟩⟩,⟨⟨Qa4,⟨QWX,Q3z⟩⟩,⟨Q2O,⟨QV1,Q2N⟩⟩⟩⟩
theorem Q3y:KOk Tryz.prog 30 (.q (Qfo QLP)):=kq rfl (q_of Q2F Qsd (ls:=[]) lsn rfl fun xs Ks _ h=>by
     obtain⟨l,i,en,ac,d,n,ts,r,g,S,rfl,h1,h2,h3,h4,h5,h6,h7⟩:=h
     exact Qrx (Ks:=nthK Ks) (q1:=Qb) (q2:=QL8) (q3:=QLL) (q4:=QL1) h1 h2 h3 h4 h5 h6 h7)
theorem QT6:∀i g,(Qen Qb Qa QLP).get i=some g→KOk Tryz.prog i g:=fun _ _ h=>tbg h ⟨Qar,⟨Qaf,Q3y⟩⟩
theorem Q0M:LsI Tryz.prog 17 (QbF fun xs Ks=>∃j,QMM j xs Ks):=Qae (S:=QbF fun _ _=>False) QT6 QoD (ls:=[]) lsn rfl (q:=fun j=>QMM j)
 (fun xs Ks h=>by
   obtain⟨l,i,en,ac,d,n,w,ts,r,g,SS,_,h1,h2,h3,h4,h5,h6,h7,h8⟩:=h
   exact zs h7)
 (fun j xs Ks _ h=>by
   obtain⟨_,_,_,_,_,_,_,_,_,_,_,rfl,_⟩:=id h
   exact Qoh h)
theorem Qq6:KOk Tryz.prog 17 (.q (Qck Qq)):=kq rfl (q_of QT6 Qq9 (ls:=[QbF fun xs Ks=>∃j,QMM j xs Ks]) (lsc Q0M lsn) rfl fun xs Ks _ h=>by
     obtain⟨l,i,en,ac,d,ts,r,g,j,SS,rfl,h1,h2,h3,h4,h5,h6⟩:=h
     exact QqX (Ks:=nthK Ks) (q1:=Qb) (q2:=Qa) (q3:=QLP) h1 h2 h3 h4 h5 h6)
theorem Q2I:∀i g,(QhG Qb Qf Qg).get i=some g→KOk Tryz.prog i g:=fun _ _ h=>tbg h ⟨QbX,⟨Qaf,Qa4⟩⟩
theorem QrS:KOk Tryz.prog 13 (.q (Qfq Qw)):=kq rfl (q_of Q2I Qsh (ls:=[]) lsn rfl fun xs Ks _ h=>by
     obtain⟨ptr,most,l,i,en,ac,d,n,w,x,ts,rfl,h1,h2,h3,h4,h5⟩:=h
     exact QrB (Ks:=nthK Ks) (q1:=Qb) h1 h2 h3 h4 h5)
theorem QXu:∀i g,(QgH Qy Qb Qd Qa Qc Qg Qh Qq Qw).get i=some g→KOk Tryz.prog i g:=fun _ _ h=>tbg h ⟨⟨⟨Qqp,Qbi⟩,⟨QbX,Qar⟩⟩,⟨⟨QrS,Qbj⟩,⟨Qd0,⟨Qaf,Qq6⟩⟩⟩⟩
theorem Q7q:LsI Tryz.prog 6 (Qd3 fun xs Ks=>∃j,QRj j xs Ks):=Qae (S:=Qd3 fun _ _=>False) QXu Qyx (ls:=[]) lsn rfl (q:=fun j=>QRj j)
 (fun xs Ks h=>h) (fun j xs Ks _ h=>h.elim)
theorem Q7p:LsI Tryz.prog 6 (Qd2 fun xs Ks=>∃j,QOo j xs Ks):=Qae (S:=Qd2 fun _ _=>False) QXu Qyw (ls:=[]) lsn rfl (q:=fun j=>QOo j)
 (fun xs Ks h=>by
   obtain⟨l,i,en,ac,d,n,f,bo,pa,lo,ts,vs,r,_,h1,h2,h3,h4⟩:=h
   exact zs h2)
 (fun j xs Ks _ h=>by
   obtain⟨_,_,_,_,_,_,_,_,_,_,_,_,_,rfl,_⟩:=id h
   exact Qyj h)
theorem QDk:KOk Tryz.prog 6 (.q (QmU Qac)):=kq rfl (q_of QXu QDs (ls:=[Qd3 fun xs Ks=>∃j,QRj j xs Ks,Qd2 fun xs Ks=>∃j,QOo j xs Ks]) (lsc Q7q (lsc Q7p lsn)) rfl fun xs Ks _ h=>by
     obtain⟨s,g,ts,f,vs,SS,rfl,h1,h2,h3,h4,h5⟩:=h
     exact QDc (Ks:=nthK Ks) (q1:=Qb) (q2:=fun xs Ks=>∃j,QRj j xs Ks) h1 h2 h3 h4 h5)
theorem Q3f:∀k,(∀G:Gd,G.Q→@QOk _ G Tryz.prog 5 (QTo (QS1 k)))
 | 0=>fun G _ xs Ks _ h=>by
   obtain⟨_,_,_,_,_,h,_⟩:=h
   exact absurd h (by omega)
 | k+1=>by
  have ih:=Q3f k
  have r_ref6_Dec:=ih
  have ht:∀i g,(Q28 (QS1 k)).get i=some g→KOk Tryz.prog i g:=fun _ _ h=>tbg h ((kq rfl r_ref6_Dec))
  exact q_of ht Q6i (ls:=[]) lsn rfl fun xs Ks _ h=>by
     obtain⟨n,rfl,h1,h2,h3,h4,h5⟩:=h
     exact QaaR (Ks:=nthK Ks) h1 h2 h3 h5
theorem QaaV:KOk Tryz.prog 5 (.q (QTo QMo)):=kq rfl fun G hg=>Qnr (q:=fun k=>QS1 k) fun k=>(Q3f k) G hg
end Go.Proofs.YtemffgbncjnmkaaGreat
