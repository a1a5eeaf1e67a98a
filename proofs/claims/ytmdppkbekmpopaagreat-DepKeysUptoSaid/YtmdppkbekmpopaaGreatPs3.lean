import Derived.Test.YtmdppkbekmpopaaGreatPt
set_option linter.unusedVariables false
set_option linter.unusedSimpArgs false
set_option linter.unusedSectionVars false
set_option maxRecDepth 100000
noncomputable section
namespace Go.Proofs.YtmdppkbekmpopaaGreat
open Go Go.Sh Go.Va
def Nm (s:Str):Prop:=s≠[]∧s.length≤4096
structure Tok (l:LD):Prop where
 w:wt l (.l 4)
 n:l.len≤4096
 t:∀e∈l.es,(e.f 1).st.length≤4096∧((e.f 0).i=0→(e.f 1).st≠[])
inductive WE:LD→Prop
 | num (a:Addr) (n:Int):WE (.p a [.n 0,.n n,.s [],.nul,.nul])
 | var (a:Addr) (s:Str):Nm s→WE (.p a [.n 1,.n 0,.s s,.nul,.nul])
 | bin (a:Addr) (k:Int) (x y:LD):2≤k→k≤6→WE x→WE y→WE (.p a [.n k,.n 0,.s [],x,y])
 | neg (a:Addr) (x:LD):WE x→WE (.p a [.n 7,.n 0,.s [],x,.nul])
inductive WC:LD→Prop
 | cmp (a:Addr) (k:Int) (x y:LD):0≤k→k≤5→WE x→WE y→WC (.p a [.n k,x,y,.nul,.nul,.s []])
 | two (a:Addr) (k:Int) (p q:LD):6≤k→k≤7→WC p→WC q→WC (.p a [.n k,.nul,.nul,p,q,.s []])
 | not (a:Addr) (p:LD):WC p→WC (.p a [.n 8,.nul,.nul,p,.nul,.s []])
 | null (a:Addr) (s:Str):Nm s→WC (.p a [.n 9,.nul,.nul,.nul,.nul,.s s])
def WA (d:LD):Prop:=∃e,d=.t [.b false,.s [],e]∧WE e
structure OkS (k:Int)(X Y:Str)(E F C ar th el:LD):Prop where
 k0:0≤k∧k≤12
 x:(k≤6→Nm X)∧(7≤k→k≠8→X=[])∧(k=8→X=[]∨Nm X)
 y:(k=1∨k=2∨k=4∨k=6∨k=7∨k=8→Nm Y)∧(¬(k=1∨k=2∨k=4∨k=6∨k=7∨k=8)→Y=[])
 e:(k=0∨k=5∨k=6∨k=7∨k=9→WE E)∧(¬(k=0∨k=5∨k=6∨k=7∨k=9)→E=.nul)
 f:(k=7→WE F)∧(k≠7→F=.nul)
 c:(10≤k→WC C)∧(k<10→C=.nul)
 a:k≠8→ar.es=[]
 t:(k≠10∧k≠11→th.es=[])∧(k≠10→el.es=[])
 n:ar.len≤4096∧th.len≤4096∧el.len≤4096
inductive WS:LD→Prop
 | mk (k:Int) (X Y:Str) (E F C ar th el:LD) (n:Int):OkS k X Y E F C ar th el→(∀x∈ar.es,WA x)→(∀s∈th.es,WS s)→(∀s∈el.es,WS s)→WS (.t [.n k,.s X,.s Y,E,F,C,ar,th,el,.n n])
def WV (d:LD):Prop:=∃s b,d=.t [.s s,.b b]∧Nm s
structure St0 (l:LD)(i d:Int):Prop where
 t:Tok l
 i0:0≤i
 i1:i≤l.len
 d0:0≤d
 d1:d≤40
theorem ly1:(Vb.ly:List (List CK))[1]?=some [.s]:=rfl
variable {i:Int}{l:LD}
theorem Tok.at (h:Tok l)(h0:0≤i)(h1:i<l.len):((l.at 3 i).f 1).st.length≤4096∧(((l.at 3 i).f 0).i=0→((l.at 3 i).f 1).st≠[]):=by
 have hm:i.toNat<l.es.length:=by have:i<(l.es.length:Int):=h1;omega
 have hg:=h.t (l.es.getD i.toNat .nul) (by rw[List.getD_eq_getElem?_getD,List.getElem?_eq_getElem hm];exact List.getElem_mem hm)
 exact hg
theorem decB {n:Nat}(h0:0≤i)(h1:i<(Int.ofNat n)):((decide (0≤i))&&(decide (i<(Int.ofNat n))))=true:=decA (decD h0) (decD h1)
def QlX (c:Int):Bool:=(decide (97≤c)&&decide (c≤122))||(decide (65≤c)&&decide (c≤90))||decide (c=95)
def Qo5 (c:Int):Bool:=decide (48≤c)&&decide (c≤57)
def QD:QF:=fun xs Ks=>∃c,xs=[.n c]∧nthK Ks 0 [.b (QlX c)]
def QE:QF:=fun xs Ks=>∃c,xs=[.n c]∧nthK Ks 0 [.b (Qo5 c)]
variable {c:Int}{f:TelK [.b]}
theorem Qvm (h:f (QlX c)):QD [.n c] [apK [.b] f]:=⟨c,rfl,fun _=>h⟩
theorem Qyd (h:f (Qo5 c)):QE [.n c] [apK [.b] f]:=⟨c,rfl,fun _=>h⟩
variable {Ks:KN}{q:QF}
theorem QzR (hk:Ks 0 [.b (QlX c)]):QqK c Ks q:=by
 refine Eq.mpr (QAy ..) ?_
 unfold QlX at hk
 repeat' first
  | refine bifD (fun h=>?_) (fun h=>?_)
  | (simp only[*,decide_true,decide_false,Bool.true_and,Bool.false_and,Bool.and_true,Bool.and_false,Bool.or_true,Bool.true_or,Bool.or_false,Bool.false_or] at hk;exact hk)
theorem QBx (hk:Ks 0 [.b (Qo5 c)]):Qta c Ks q:=by
 refine Eq.mpr (QCF ..) ?_
 unfold Qo5 at hk
 repeat' first
  | refine bifD (fun h=>?_) (fun h=>?_)
  | (simp only[*,decide_true,decide_false,Bool.true_and,Bool.false_and,Bool.and_true,Bool.and_false,Bool.or_true,Bool.true_or,Bool.or_false,Bool.false_or] at hk;exact hk)
def QV:QF:=fun xs Ks=>∃s c,xs=[.s s,.n c]∧s.length≤1000000∧∀b,nthK Ks 0 [.b b]
def QdG (j:Nat):QF:=fun xs Ks=>∃s c i,xs=[.s s,.n c,.n i]∧s.length≤1000000∧0≤i∧i≤(s.length:Int)∧(s.length - i:Int).toNat<j∧nthK Ks 0 []∧nthK Ks 1 [.b true]
variable {s:Str}
theorem QHR (hs:s.length≤1000000)(h:∀b:Bool,f b):QV [.s s,.n c] [apK [.b] f]:=⟨s,c,rfl,hs,fun b _=>h b⟩
theorem QEK (hs:s.length≤1000000)(hk:∀b,Ks 0 [.b b]):Qya s c Ks q (fun xs Ks=>∃j,QdG j xs Ks):=by
 refine Eq.mpr (QFl ..) ?_
 exact⟨_,s,c,0,rfl,hs,om,om,nl,fun _=>hk _,fun _=>hk _⟩
variable {j:Nat}
theorem QBw {Ks:List LP}(h:QdG (j+1) [.s s,.n c,.n i] Ks):Qs9 s c i (fun ys=>QdG j ys Ks) (nthK Ks) q:=by
 obtain⟨s',c',i',e,hs,h0,h1,hj,k0,k1⟩:=h
 cases e
 refine Eq.mpr (QCE ..) ?_
 refine bifD (fun hc=>⟨decB h0 hc,bifD (fun _=>k1) fun _=>?_⟩) fun _=>k0
 have hc':i<(s.length:Int):=hc
 rw[QJ (x:=i+1) om om]
 exact⟨s,c,i+1,rfl,hs,om,om,om,k0,k1⟩
def QbE:QF:=fun xs Ks=>∃s,xs=[.s s]∧∀b,nthK Ks 0 [.b b]
def Qdc (j:Nat):QF:=fun xs Ks=>∃s l i,xs=[.s s,l,.n i]∧wt l (.l 1)∧l.len≤1000000∧0≤i∧i≤l.len∧(l.len - i:Int).toNat<j∧nthK Ks 0 []∧nthK Ks 1 [.b true]
theorem QJZ (h:∀b:Bool,f b):QbE [.s s] [apK [.b] f]:=⟨s,rfl,fun b _=>h b⟩
theorem QDb (hk:∀b,Ks 0 [.b b]):Qvf s Ks q (fun xs Ks=>∃j,Qdc j xs Ks):=by
 refine Eq.mpr (QDx ..) ?_
 intro a c hc
 refine⟨_,s,_,0,rfl,?_,?_,om,?_,nl,fun _=>hk _,fun _=>hk _⟩
 ·simp only[wt,ly1,wtE,wtT,wtL,List.length_cons,List.length_nil,List.length_map,QIZ]
  refine⟨om,om,by simp,?_⟩
  refine⟨?_,?_,?_,?_,?_,?_,?_,?_,?_,?_,?_,trivial⟩
  all_goals exact⟨om,trivial⟩
 ·simp[LD.len,LD.es]
 ·simp[LD.len,LD.es]
theorem QzP {Ks:List LP}(h:Qdc (j+1) [.s s,l,.n i] Ks):QqI s l i (fun ys=>Qdc j ys Ks) (nthK Ks) q:=by
 obtain⟨s',l',i',e,hw,hs,h0,h1,hj,k0,k1⟩:=h
 cases e
 refine Eq.mpr (QAw ..) ?_
 refine bifD (fun hc=>⟨decB h0 hc,bifD (fun _=>k1) fun _=>?_⟩) fun _=>k0
 have hc':i<(l.len:Int):=hc
 rw[QJ (x:=i+1) om om]
 exact⟨s,l,i+1,rfl,hw,hs,om,om,om,k0,k1⟩
def QK:QF:=fun xs Ks=>∃s,xs=[.s s]∧s.length≤1000000∧∀n,nthK Ks 0 [.n n]
def Qcw (j:Nat):QF:=fun xs Ks=>∃s n i,xs=[.s s,.n n,.n i]∧s.length≤1000000∧0≤i∧i≤(s.length:Int)∧(s.length - i:Int).toNat<j∧∀n,nthK Ks 0 [.n n]
theorem QBo {f:TelK [.i .i64]}(hs:s.length≤1000000)(h:∀n:Int,f n):QK [.s s] [apK [.i .i64] f]:=⟨s,rfl,hs,fun n _=>h n⟩
theorem QzQ (hs:s.length≤1000000)(hk:∀n,Ks 0 [.n n]):QqJ s Ks q (fun xs Ks=>∃j,Qcw j xs Ks):=by
 refine Eq.mpr (QAx ..) ?_
 exact⟨_,s,0,0,rfl,hs,om,om,nl,fun n hw=>hk _⟩
theorem QwL {n:Int}{Ks:List LP}(h:Qcw (j+1) [.s s,.n n,.n i] Ks):QnP s n i (fun ys=>Qcw j ys Ks) (nthK Ks) q:=by
 obtain⟨s',n',i',e,hs,h0,h1,hj,hk⟩:=h
 cases e
 refine Eq.mpr (QxK ..) ?_
 refine bifD (fun hc=>⟨decB h0 hc,?_⟩) fun _=>hk _
 have hc':i<(s.length:Int):=hc
 rw[QJ (x:=i+1) om om]
 exact⟨s,_,i+1,rfl,hs,om,om,om,hk⟩
end Go.Proofs.YtmdppkbekmpopaaGreat
namespace Go.Proofs.YtmdppkbekmpopaaGreat
open Go Go.Sh Go.Va
section
variable {m m1 m2 m3 m4:Int}
variable {a:Addr}{n:Int}
theorem QKI (h:1≤m):CN WE m (.p a [.n 0,.n n,.s [],.nul,.nul]):=⟨.num _ _,by simp only[nN,nNL];omega⟩
variable {s:Str}
theorem QKH (hs:Nm s)(h:1≤m):CN WE m (.p a [.n 1,.n 0,.s s,.nul,.nul]):=⟨.var _ _ hs,by simp only[nN,nNL];omega⟩
variable {k:Int}{x y:LD}
theorem QGR (h2:2≤k)(h6:k≤6)(hx:CN WE m1 x)(hy:CN WE m2 y)(h:m1+m2+1≤m):CN WE m (.p a [.n k,.n 0,.s [],x,y]):=⟨.bin _ _ _ _ h2 h6 hx.w hy.w,by have:=hx.n;have:=hy.n;simp only[nN,nNL];omega⟩
theorem QKJ (hx:CN WE m1 x)(h:m1+1≤m):CN WE m (.p a [.n 7,.n 0,.s [],x,.nul]):=⟨.neg _ _ hx.w,by have:=hx.n;simp only[nN,nNL];omega⟩
theorem QKK (h2:0≤k)(h6:k≤5)(hx:CN WE m1 x)(hy:CN WE m2 y)(h:m1+m2+1≤m):CN WC m (.p a [.n k,x,y,.nul,.nul,.s []]):=⟨.cmp _ _ _ _ h2 h6 hx.w hy.w,by have:=hx.n;have:=hy.n;simp only[nN,nNL];omega⟩
theorem QGP (h2:6≤k)(h6:k≤7)(hx:CN WC m1 x)(hy:CN WC m2 y)(h:m1+m2+1≤m):CN WC m (.p a [.n k,.nul,.nul,x,y,.s []]):=⟨.two _ _ _ _ h2 h6 hx.w hy.w,by have:=hx.n;have:=hy.n;simp only[nN,nNL];omega⟩
theorem QGQ (hx:CN WC m1 x)(h:m1+1≤m):CN WC m (.p a [.n 8,.nul,.nul,x,.nul,.s []]):=⟨.not _ _ hx.w,by have:=hx.n;simp only[nN,nNL];omega⟩
theorem QEs (hs:Nm s)(h:1≤m):CN WC m (.p a [.n 9,.nul,.nul,.nul,.nul,.s s]):=⟨.null _ _ hs,by simp only[nN,nNL];omega⟩
theorem QGS (hx:CN WE m1 x)(h:m1+1≤m):CN WA m (.t [.b false,.s [],x]):=⟨⟨_,rfl,hx.w⟩,by have:=hx.n;simp only[nN,nNL];omega⟩
theorem Qtx (k:Int)(X Y:Str)(E F C ar th el:LD)(n:Int):nN (.t [.n k,.s X,.s Y,E,F,C,ar,th,el,.n n])=nN E+nN F+nN C+nN ar+nN th+nN el+1:=by
 simp only[nN,nNL];omega
theorem cn_s {X Y:Str}{E F C ar th el:LD}(h:WS (.t [.n k,.s X,.s Y,E,F,C,ar,th,el,.n n]))(hn:(nN E:Int)+nN F+nN C+nN ar+nN th+nN el+1≤m):CN WS m (.t [.n k,.s X,.s Y,E,F,C,ar,th,el,.n n]):=⟨h,by rw[Qtx];omega⟩
end
end Go.Proofs.YtmdppkbekmpopaaGreat
namespace Go.Proofs.YtmdppkbekmpopaaGreat
open Go Go.Sh Go.Va
def TkOk (e:LD):Prop:=(e.f 1).st.length≤4096∧((e.f 0).i=0→(e.f 1).st≠[])
def Qy:QF:=fun xs Ks=>∃s,xs=[.s s]∧s.length≤100000000∧∀(l:LD) (a e:Int),(e=0→l.len≤4096∧∀x∈l.es,TkOk x)→nthK Ks 0 [l,.n a,.n e]
variable {s:Str}
theorem QBq {f:TelK [.l 4,.i .i64,.i .i64]}(hs:s.length≤100000000)(h:∀(l:LD) (a e:Int),(e=0→l.len≤4096∧∀x∈l.es,TkOk x)→wtL [l,.n a,.n e] [.l 4,.i .i64,.i .i64]→f l a e):Qy [.s s] [apK [.l 4,.i .i64,.i .i64] f]:=⟨s,rfl,hs,h⟩
def okI (s:Str)(i:Int)(j:Nat):Prop:=s.length≤4096∧0≤i∧i≤(s.length:Int)∧(s.length - i:Int).toNat<j
def Qa0 (j:Nat):QF:=fun xs Ks=>∃s i w,xs=[.s s,.n i,.t w]∧okI s i j∧∀i',i≤i'→i'≤(s.length:Int)→(i'<(s.length:Int)→byteAt s i'=10)→nthK Ks 0 [.s s,.n i',.t w]
def QaZ (j:Nat):QF:=fun xs Ks=>∃s i f w,xs=[.s s,.n i,.n f,.t w]∧okI s i j∧∀i',i≤i'→i'≤(s.length:Int)→(i'<(s.length:Int)→QlX (byteAt s i')=false)→nthK Ks 0 [.s s,.n i',.n f,.t w]
def QaY (j:Nat):QF:=fun xs Ks=>∃s i c f n g w,xs=[.s s,.n i,.n c,.n f,.n n,.b g,.t w]∧okI s i j∧∀i' n' g',i≤i'→i'≤(s.length:Int)→(i'<(s.length:Int)→Qo5 (byteAt s i')=false)→nthK Ks 0 [.s s,.n i',.n c,.n f,.n n',.b g',.t w]
def okT (s:Str)(i:Int)(w:List LD)(j:Nat):Prop:=okI s i j∧(w.length:Int)≤i∧∀x∈w,TkOk x
def Qaw (j:Nat):QF:=fun xs Ks=>∃s i w,xs=[.s s,.n i,.t w]∧okT s i w j∧(∀w':List LD,w'.length≤4096→(∀x∈w',TkOk x)→nthK Ks 0 [.t w'])∧∀a e:Int,e≠0→nthK Ks 1 [.nul,.n a,.n e]
variable {i:Int}{j:Nat}
theorem okI.next (h:okI s i (j+1))(hc:i<(s.length:Int)):IntKind.i64.wrap (i+1)=i+1∧okI s (i+1) j:=by
 obtain⟨h0,h1,h2,h3⟩:=h
 exact⟨QJ om om,h0,om,om,om⟩
variable {Ks:List LP}{q q1 q2 q3:QF}{w:List LD}
theorem Qvt (h:Qa0 (j+1) [.s s,.n i,.t w] Ks):Qm4 s i w (fun ys=>Qa0 j ys Ks) (nthK Ks) q q1 q2 q3:=by
 obtain⟨s',i',w',e,ho,hk⟩:=h
 cases e
 refine Eq.mpr (Qwf ..) ?_
 obtain⟨h0,h1,h2,h3⟩:=id ho
 refine bifD (fun hc=>⟨decB h1 hc,?_⟩) fun hc=>hk _ om h2 fun h=>absurd h hc
 obtain⟨e1,ho'⟩:=ho.next hc
 rw[e1]
 have go:Qa0 j [.s s,.n (i+1),.t w] Ks:=⟨s,i+1,w,rfl,ho',fun i' a b c=>hk i' om b c⟩
 first
  | exact bifN (fun _=>go) (fun hx=>hk _ om h2 fun _=>hx)
  | exact bifD (fun hx=>hk _ om h2 fun _=>hx) (fun _=>go)
variable {f:Int}
theorem Qvs (h:QaZ (j+1) [.s s,.n i,.n f,.t w] Ks):Qm3 s i f w (fun ys=>QaZ j ys Ks) (nthK Ks) q QD QE q3:=by
 obtain⟨s',i',f',w',e,ho,hk⟩:=h
 cases e
 refine Eq.mpr (Qwe ..) ?_
 obtain⟨h0,h1,h2,h3⟩:=id ho
 refine bifD (fun hc=>⟨decB h1 hc,Qvm ?_⟩) fun hc=>hk _ om h2 fun h=>absurd h hc
 obtain⟨e1,ho'⟩:=ho.next hc
 rw[e1]
 have go:QaZ j [.s s,.n (i+1),.n f,.t w] Ks:=⟨s,i+1,f,w,rfl,ho',fun i' a b c=>hk i' om b c⟩
 refine bifI (fun _=>go) fun hl=>⟨decB h1 hc,Qyd (bifI (fun _=>go) fun _=>hk _ om h2 fun _=>hl)⟩
theorem Qvr {c n:Int}{g:Bool}(h:QaY (j+1) [.s s,.n i,.n c,.n f,.n n,.b g,.t w] Ks):Qm2 s i c f n g w (fun ys=>QaY j ys Ks) (nthK Ks) q q1 QE q3:=by
 obtain⟨s',i',c',f',n',g',w',e,ho,hk⟩:=h
 cases e
 refine Eq.mpr (Qwd ..) ?_
 obtain⟨h0,h1,h2,h3⟩:=id ho
 refine bifD (fun hc=>⟨decB h1 hc,Qyd ?_⟩) fun hc=>hk _ _ _ om h2 fun h=>absurd h hc
 obtain⟨e1,ho'⟩:=ho.next hc
 rw[e1]
 have go:∀n g,QaY j [.s s,.n (i+1),.n c,.n f,.n n,.b g,.t w] Ks:=fun n g=>⟨s,i+1,c,f,n,g,w,rfl,ho',fun i' n' g' a b c=>hk i' n' g' om b c⟩
 exact bifI (fun _=>bifI (fun _=>go _ _) fun _=>⟨decB h1 hc,go _ _⟩) fun hl=>hk _ _ _ om h2 fun _=>hl
theorem TkOk.mk {k a:Int}{t:Str}(h1:t.length≤4096)(h2:k=0→t≠[]):TkOk (.t [.n k,.s t,.n a]):=⟨h1,h2⟩
theorem Qyn (s:Str)(a b:Nat):(List.drop a (List.take b s)).length≤s.length:=by simp;omega
theorem QJ2 {a b:Nat}(h1:a<b)(h2:b≤s.length):List.drop a (List.take b s)≠[]:=by
 intro h
 have:=congrArg List.length h
 simp at this;omega
theorem QwM (h:Qaw (j+1) [.s s,.n i,.t w] Ks) :
  QnQ s i w (fun ys=>Qaw j ys Ks) (nthK Ks) q QD QE QV (fun xs Ks=>∃j,Qa0 j xs Ks) (fun xs Ks=>∃j,QaZ j xs Ks) (fun xs Ks=>∃j,QaY j xs Ks):=by
 obtain⟨s',i',w',e,⟨ho,hw,ht⟩,k0,k1⟩:=h
 cases e
 refine Eq.mpr (QxL ..) ?_
 obtain⟨h0,h1,h2,h3⟩:=id ho
 refine bifD (fun hc=>⟨decB h1 hc,?_⟩) fun hc=>k0 w om ht
 have hc':i<(s.length:Int):=hc
 obtain⟨e1,ho'⟩:=ho.next hc'
 have e2:IntKind.i64.wrap (i+2)=i+2:=QJ om om
 rw[e1,e2]
 have go:∀i',i<i'→i'≤(s.length:Int)→Qaw j [.s s,.n i',.t w] Ks:=fun i' a b=>⟨s,i',w,rfl,⟨⟨h0,om,b,om⟩,om,ht⟩,k0,k1⟩
 have go1:∀(i':Int) (x:LD),i<i'→i'≤(s.length:Int)→TkOk x→Qaw j [.s s,.n i',.t (w++[x])] Ks:=fun i' x a b hx=>⟨s,i',w++[x],rfl,⟨⟨h0,om,b,om⟩,by rw[List.length_append,List.length_singleton];omega,fun y hy=>by
  rcases List.mem_append.1 hy with h | h
  ·exact ht y h
  ·rw[List.mem_singleton.1 h];exact hx⟩,k0,k1⟩
 have room:((w.length+1) * 32≤140737488355328∧w.length+1≤4611686018427387904):=om
 have sl:∀ {a b:Int}{n:Nat},0≤a→a≤b→b≤(n:Int)→((decide (0≤a))&&((decide (a≤b))&&(decide (b≤(Int.ofNat n)))))=true:=fun a b c=>decA (decD a) (decA (decD b) (decD c))
 have one:∀(b:Int),b≤(s.length:Int)→i<b→b≤i+2→Qaw j [.s s,.n (IntKind.i64.wrap (i+(Int.ofNat (List.drop i.toNat (List.take b.toNat s)).length))),.t (w++[.t [.n 2,.s (List.drop i.toNat (List.take b.toNat s)),.n i]])] Ks:=fun b hb1 hb2 hb3=>by
  have e3:(Int.ofNat (List.drop i.toNat (List.take b.toNat s)).length)=b - i:=by
   rw[List.length_drop,List.length_take,Int.ofNat_eq_natCast];omega
  rw[e3,QJ (x:=i+(b - i)) om om]
  exact go1 _ _ om om (.mk (Nat.le_trans (Qyn _ _ _) h0) om)
 refine bifD (fun _=>go _ om om) fun _=>bifD (fun _=>go _ om om) fun _=>bifD (fun _=>go _ om om) fun _=>bifD (fun _=>go _ om om) fun _=>bifD (fun h35=>?_) fun _=>?_
 ·refine⟨_,s,i,w,rfl,⟨h0,h1,h2,nl⟩,fun i' a b c _=>?_⟩
  refine go i' ?_ b
  rcases Int.lt_or_eq_of_le a with h | h
  ·exact h
  ·subst h;have:=c hc';omega
 refine Qvm (bifI (fun hl=>?_) fun _=>Qyd (bifI (fun hd=>?_) fun _=>?_))
 ·refine⟨_,s,i,i,w,rfl,⟨h0,h1,h2,nl⟩,fun i' a b c _=>?_⟩
  have hi:i<i':=by
   rcases Int.lt_or_eq_of_le a with h | h
   ·exact h
   ·subst h
    have h5:=c hc'
    have h6:QlX (byteAt s i)=true:=hl
    rw[h6] at h5;cases h5
  have hsl:=sl (a:=i) (b:=i') (n:=s.length) h1 om b
  refine bifD (fun _=>k1 _ _ (by decide)) fun _=>⟨hsl,room,?_⟩
  have hne:=QJ2 (s:=s) (a:=i.toNat) (b:=i'.toNat) om om
  exact go1 i' _ hi b (.mk (Nat.le_trans (Qyn _ _ _) h0) fun _=>hne)
 ·refine⟨_,s,i,_,i,0,false,w,rfl,⟨h0,h1,h2,nl⟩,fun i' n' g' a b c _=>?_⟩
  dsimp only[pj,LD.i,LD.st,LD.bo,LD.cs]
  have hi:i<i':=by
   rcases Int.lt_or_eq_of_le a with h | h
   ·exact h
   ·subst h
    have h5:=c hc'
    have h6:Qo5 (byteAt s i)=true:=hd
    rw[h6] at h5;cases h5
  have fin:(((decide (0≤i))&&((decide (i≤i'))&&(decide (i'≤(Int.ofNat s.length)))))=true∧((w.length+1) * 32≤140737488355328∧w.length+1≤4611686018427387904)∧Qaw j [.s s,.n i',.t (w++[.t [.n 1,.s (List.drop i.toNat (List.take i'.toNat s)),.n i]])] Ks):=
   ⟨sl h1 om b,room,go1 i' _ hi b (.mk (Nat.le_trans (Qyn _ _ _) h0) fun h=>by cases h)⟩
  refine bifI (fun _=>k1 _ _ (by decide)) fun _=>bifD (fun _=>k1 _ _ (by decide)) fun _=>bifD (fun hc2=>⟨decB (by show 0≤i';omega) hc2,Qvm (bifI (fun _=>k1 _ _ (by decide)) fun _=>?_)⟩) fun _=>?_
  ·exact bifD (fun _=>bifD (fun _=>k1 _ _ (by decide)) fun _=>fin) fun _=>fin
  ·exact bifD (fun _=>bifD (fun _=>k1 _ _ (by decide)) fun _=>fin) fun _=>fin
 ·refine⟨sl h1 om om,bifD (fun h2'=>?_) fun _=>?_⟩
  ·have hs2:=sl (a:=i) (b:=i+2) (n:=s.length) h1 om h2'
   have l1:=fun (P:Prop) (h:P)=>And.intro hs2 h
   have d1:Qaw j [.s s,.n (IntKind.i64.wrap (i+(Int.ofNat (List.drop i.toNat (List.take (i+2).toNat s)).length))),.t (w++[.t [.n 2,.s (List.drop i.toNat (List.take (i+2).toNat s)),.n i]])] Ks:=one (i+2) h2' om om
   repeat' first
    | exact⟨hs2,room,d1⟩
    | refine⟨hs2,bifD (fun _=>?_) fun _=>?_⟩
    | refine QHR (by simp) fun b=>bifI (fun _=>⟨room,one (i+1) om om om⟩) fun _=>k1 _ _ (by decide)
  ·exact QHR (by simp) fun b=>bifI (fun _=>⟨room,one (i+1) om om om⟩) fun _=>k1 _ _ (by decide)
theorem QzS {Ks:KN}{q4 q5 q6:QF}(hk:∀(l:LD) (a e:Int),(e=0→l.len≤4096∧∀x∈l.es,TkOk x)→Ks 0 [l,.n a,.n e])(hs:s.length≤100000000):QqL s Ks q q1 q2 q3 (fun xs Ks=>∃j,Qaw j xs Ks) q4 q5 q6:=by
 refine Eq.mpr (QAz ..) ?_
 refine bifD (fun _=>hk _ _ _ om) fun h=>?_
 have h':s.length≤4096:=by
  have:¬(4096:Int)<(s.length:Int):=h
  omega
 refine⟨_,s,0,[],rfl,⟨⟨h',om,om,nl⟩,by simp,by simp⟩,fun w' hl ht hw=>⟨fun e=>?_,fun a c hc=>?_⟩,fun a e he hw=>?_⟩
 ·exact hk _ _ _ fun _=>⟨by simp[LD.len,LD.es],by simp[LD.es]⟩
 ·exact hk _ _ _ fun _=>⟨hl,ht⟩
 ·exact hk _ _ _ fun h=>absurd h he
end Go.Proofs.YtmdppkbekmpopaaGreat
namespace Go.Proofs.YtmdppkbekmpopaaGreat
open Go Go.Sh Go.Va
def er (e:Int):Nat:=if e=0 then 0 else 1
theorem Qan (e:Int):er e≤1:=by unfold er;split<;>omega
variable {e:Int}
theorem er_0 (h:e=0):er e=0:=by unfold er;rw[if_pos h]
theorem er_1 (h:e≠0):er e=1:=by unfold er;rw[if_neg h]
theorem er_z (h:er e=0):e=0:=by
 unfold er at h;split at h
 ·assumption
 ·omega
theorem QxH (h:er e=1):e≠0:=fun h2=>by rw[er_0 h2] at h;omega
variable {A B:Prop}
theorem bifE (h1:er e=0→A)(h2:er e=1→B):bif decide (e=0) then A else B:=bifD (fun h=>h1 (er_0 h)) fun h=>h2 (er_1 h)
theorem QbJ (h1:er e=1→A)(h2:er e=0→B):bif (!(decide (e=0))) then A else B:=bifN (fun h=>h1 (er_1 h)) fun h=>h2 (er_0 h)
abbrev tx (l:LD)(i:Int):Str:=((l.at 3 i).f 1).st
abbrev kd (l:LD)(i:Int):Int:=((l.at 3 i).f 0).i
abbrev PL (l:LD)(i en e ac d n:Int):List LD:=[l,.n i,.n en,.n e,.n ac,.n d,.n n]
def Qb:QF:=fun xs Ks=>∃x l i en e ac d n,xs=.n x::PL l i en e ac d n∧St0 l i d∧x≠0∧∀e' ac',e'≠0→nthK Ks 0 (PL l i en e' ac' d n)
def Qd:QF:=fun xs Ks=>∃t l i en e ac d n,xs=.s t::PL l i en e ac d n∧St0 l i d∧(e=0→i<l.len→tx l i=t→kd l i≠1→nthK Ks 0 (.b true::PL l i en e ac d n))∧nthK Ks 0 (.b false::PL l i en e ac d n)
def Qa:QF:=fun xs Ks=>∃t l i en e ac d n,xs=.s t::PL l i en e ac d n∧St0 l i d∧(e=0→i<l.len→tx l i=t→nthK Ks 0 (.b true::PL l (i+1) en e ac d n))∧nthK Ks 0 (.b false::PL l i en e ac d n)
def Qc:QF:=fun xs Ks=>∃t l i en e ac d n,xs=.s t::PL l i en e ac d n∧St0 l i d∧(e=0→i<l.len→nthK Ks 0 (PL l (i+1) en e ac d n))∧∀e' ac',e'≠0→nthK Ks 0 (PL l i en e' ac' d n)
def Qf:QF:=fun xs Ks=>∃l i en e ac d n,xs=PL l i en e ac d n∧St0 l i d∧(e=0→i<l.len→kd l i=0→nthK Ks 0 (.b true::PL l i en e ac d n))∧nthK Ks 0 (.b false::PL l i en e ac d n)
def Qg:QF:=fun xs Ks=>∃l i en e ac d n,xs=PL l i en e ac d n∧St0 l i d∧(e=0→i<l.len→Nm (tx l i)→nthK Ks 0 (.s (tx l i)::PL l (i+1) en e ac d n))∧∀e' ac',e'≠0→nthK Ks 0 (.s []::PL l i en e' ac' d n)
def Qh:QF:=fun xs Ks=>∃l i en e ac d n,xs=PL l i en e ac d n∧St0 l i d∧(e=0→d<40→nthK Ks 0 (.b true::PL l i en e ac (d+1) n))∧∀e' ac',e'≠0→nthK Ks 0 (.b false::PL l i en e' ac' d n)
abbrev ksP:List CK:=[.l 4,.i .i64,.i .i64,.i .i64,.i .i64,.i .i64,.i .i64]
section
variable {l:LD}{i en e ac d n:Int} (T:Tok l) (i0:0≤i) (i1:i≤l.len) (d0:0≤d) (d1:d≤40)
include T i0 i1 d0 d1
theorem QdM {x:Int}{f:TelK ksP}(hx:x≠0)(h:∀(e' ac':Int),er e'=1→f l i en e' ac' d n):Qb [.n x,l,.n i,.n en,.n e,.n ac,.n d,.n n] [apK ksP f]:=⟨x,l,i,en,e,ac,d,n,rfl,⟨T,i0,i1,d0,d1⟩,hx,fun e' ac' h' _=>h e' ac' (er_1 h')⟩
variable {f:TelK (.b::ksP)}{t:Str}
theorem u_is (h1:er e=0→i<l.len→tx l i=t→kd l i≠1→f true l i en e ac d n)(h2:f false l i en e ac d n):Qd [.s t,l,.n i,.n en,.n e,.n ac,.n d,.n n] [apK (.b::ksP) f]:=⟨t,l,i,en,e,ac,d,n,rfl,⟨T,i0,i1,d0,d1⟩,fun a b c d _=>h1 (er_0 a) b c d,fun _=>h2⟩
theorem QcI (h1:er e=0→i<l.len→tx l i=t→f true l (i+1:Int) en e ac d n)(h2:f false l i en e ac d n):Qa [.s t,l,.n i,.n en,.n e,.n ac,.n d,.n n] [apK (.b::ksP) f]:=⟨t,l,i,en,e,ac,d,n,rfl,⟨T,i0,i1,d0,d1⟩,fun a b c _=>h1 (er_0 a) b c,fun _=>h2⟩
theorem Qfw {f:TelK ksP}(h:∀(i' e' ac':Int),i≤i'→i'≤i+1→i'≤l.len→er e≤er e'→er e'≤1→i+1≤i'+er e'→f l i' en e' ac' d n):Qc [.s t,l,.n i,.n en,.n e,.n ac,.n d,.n n] [apK ksP f]:=
 ⟨t,l,i,en,e,ac,d,n,rfl,⟨T,i0,i1,d0,d1⟩,fun h1 h2 _=>h (i+1) e ac om om om (nr) (Qan _) om,fun e' ac' h1 _=>h i e' ac' om om om (by rw[er_1 h1];exact Qan _) (Qan _) (by rw[er_1 h1];omega)⟩
theorem Qf0 (h1:er e=0→i<l.len→kd l i=0→f true l i en e ac d n)(h2:f false l i en e ac d n):Qf [l,.n i,.n en,.n e,.n ac,.n d,.n n] [apK (.b::ksP) f]:=⟨l,i,en,e,ac,d,n,rfl,⟨T,i0,i1,d0,d1⟩,fun a b c _=>h1 (er_0 a) b c,fun _=>h2⟩
theorem Ql3 {f:TelK (.s::ksP)}(h:∀(s:Str) (i' e' ac':Int),i≤i'→i'≤i+1→i'≤l.len→er e≤er e'→er e'≤1→i+1≤i'+er e'→(er e'=0→Nm s)→s.length≤4096→f s l i' en e' ac' d n):Qg [l,.n i,.n en,.n e,.n ac,.n d,.n n] [apK (.s::ksP) f]:=
 ⟨l,i,en,e,ac,d,n,rfl,⟨T,i0,i1,d0,d1⟩,fun h1 h2 h3 _=>h (tx l i) (i+1) e ac om om om (nr) (Qan _) om (fun _=>h3) h3.2,fun e' ac' h1 _=>h [] i e' ac' om om om (by rw[er_1 h1];exact Qan _) (Qan _) (by rw[er_1 h1];omega) (fun h=>absurd (er_z h) h1) (by simp)⟩
theorem QwK (h1:er e=0→d<40→f true l i en e ac (d+1:Int) n)(h2:∀(e' ac':Int),er e'=1→f false l i en e' ac' d n):Qh [l,.n i,.n en,.n e,.n ac,.n d,.n n] [apK (.b::ksP) f]:=⟨l,i,en,e,ac,d,n,rfl,⟨T,i0,i1,d0,d1⟩,fun a b _=>h1 (er_0 a) b,fun e' ac' h' _=>h2 e' ac' (er_1 h')⟩
end
variable {Ks:KN}{ac d e en i n:Int}{l:LD}{q:QF}
theorem QrC {x:Int}(S:St0 l i d)(hx:x≠0)(hk:∀e' ac',e'≠0→Ks 0 (PL l i en e' ac' d n)):Qkx x l i en e ac d n Ks q:=by
 refine Eq.mpr (QsH ..) ?_
 refine bifD (fun he=>bifD (fun hc=>⟨decB S.i0 hc,hk _ _ hx⟩) fun _=>hk _ _ hx) fun he=>hk _ _ he
variable {t:Str}
theorem Qvq (S:St0 l i d)(h1:e=0→i<l.len→tx l i=t→kd l i≠1→Ks 0 (.b true::PL l i en e ac d n))(h2:Ks 0 (.b false::PL l i en e ac d n)):Qm1 t l i en e ac d n Ks q:=by
 refine Eq.mpr (Qwc ..) ?_
 exact bifD (fun he=>bifD (fun hc=>⟨decB S.i0 hc,bifN (fun hk=>⟨decB S.i0 hc,bifD (fun ht=>h1 he hc ht hk) fun _=>h2⟩) fun _=>h2⟩) fun _=>h2) fun _=>h2
theorem Qrw (S:St0 l i d)(h1:e=0→i<l.len→tx l i=t→Ks 0 (.b true::PL l (i+1) en e ac d n))(h2:Ks 0 (.b false::PL l i en e ac d n)):Qkr t l i en e ac d n Ks q Qd:=by
 refine Eq.mpr (QsB ..) ?_
 have hl:=S.t.n
 have hi:=S.i1
 have hi0:=S.i0
 refine u_is S.t S.i0 S.i1 S.d0 S.d1 (fun he hc ht _=>?_) h2
 have e1:IntKind.i64.wrap (i+1)=i+1:=QJ om om
 simp only[cond_true,e1]
 exact h1 (er_z he) hc ht
theorem Qrv (S:St0 l i d)(h1:e=0→i<l.len→Ks 0 (PL l (i+1) en e ac d n))(h2:∀e' ac',e'≠0→Ks 0 (PL l i en e' ac' d n)):Qkq t l i en e ac d n Ks q Qb Qa:=by
 refine Eq.mpr (QsA ..) ?_
 refine QcI S.t S.i0 S.i1 S.d0 S.d1 (fun he hc ht=>?_) ?_
 ·exact h1 (er_z he) hc
 ·exact QdM S.t S.i0 S.i1 S.d0 S.d1 (by decide) fun e' ac' h=>h2 _ _ (QxH h)
theorem QqY (S:St0 l i d)(h1:e=0→i<l.len→kd l i=0→Ks 0 (.b true::PL l i en e ac d n))(h2:Ks 0 (.b false::PL l i en e ac d n)):Qi0 l i en e ac d n Ks q QbE:=by
 refine Eq.mpr (Qrh ..) ?_
 refine bifD (fun he=>?_) fun he=>?_
 ·refine bifD (fun hc=>⟨decB S.i0 hc,bifD (fun hk=>⟨decB S.i0 hc,QJZ fun b=>bifI (fun _=>?_) fun _=>?_⟩) fun _=>?_⟩) fun hc=>?_
  ·repeat' first
    | exact h2
    | refine⟨rfl,?_⟩
  ·repeat' first
    | exact h1 he hc hk
    | refine⟨rfl,?_⟩
  ·repeat' first
    | exact h2
    | refine⟨rfl,?_⟩
  ·repeat' first
    | exact h2
    | refine⟨rfl,?_⟩
 ·repeat' first
   | exact h2
   | refine⟨rfl,?_⟩
theorem QrA (S:St0 l i d)(h1:e=0→i<l.len→Nm (tx l i)→Ks 0 (.s (tx l i)::PL l (i+1) en e ac d n))(h2:∀e' ac',e'≠0→Ks 0 (.s []::PL l i en e' ac' d n)):Qkv l i en e ac d n Ks q Qb Qf:=by
 refine Eq.mpr (QsF ..) ?_
 have hl:=S.t.n
 have hi:=S.i1
 have hi0:=S.i0
 refine Qf0 S.t S.i0 S.i1 S.d0 S.d1 (fun he hc hk=>?_) ?_
 ·have e1:IntKind.i64.wrap (i+1)=i+1:=QJ om om
  have e2:IntKind.i64.wrap (i+1 - 1)=i:=by rw[QJ om om];omega
  simp only[cond_true,e1,e2]
  exact⟨decB hi0 (by show i<(l.len:Int);omega),h1 (er_z he) hc ⟨(S.t.at hi0 hc).2 hk,(S.t.at hi0 hc).1⟩⟩
 ·exact QdM S.t S.i0 S.i1 S.d0 S.d1 (by decide) fun e' ac' h=>h2 _ _ (QxH h)
theorem Qrz (S:St0 l i d)(h1:e=0→d<40→Ks 0 (.b true::PL l i en e ac (d+1) n))(h2:∀e' ac',e'≠0→Ks 0 (.b false::PL l i en e' ac' d n)):Qku l i en e ac d n Ks q Qb:=by
 refine Eq.mpr (QsE ..) ?_
 have hd:=S.d1
 have hd0:=S.d0
 have e1:IntKind.i64.wrap (d+1)=d+1:=QJ om om
 rw[e1]
 refine bifN (fun he=>h2 _ _ he) fun he=>bifD (fun _=>?_) fun hc=>h1 he om
 exact QdM S.t S.i0 S.i1 S.d0 S.d1 (by decide) fun e' ac' h=>h2 _ _ (QxH h)
end Go.Proofs.YtmdppkbekmpopaaGreat
set_option maxHeartbeats 4000000
namespace Go.Proofs.YtmdppkbekmpopaaGreat
open Go Go.Sh Go.Va
def PK (W:LD→Prop)(l:LD)(i e:Int)(K:LD→Int→Int→Int→Int→Prop):Prop:=∀(r:LD) (i' e' ac' n':Int),i≤i'→i'≤l.len→er e≤er e'→er e'≤1→i+1≤i'+er e'→(er e'=0→CN W (i' - i) r)→K r i' e' ac' n'
def qP (W:LD→Prop)(r k:Nat):QF:=fun xs Ks=>∃l i en e ac d n,xs=PL l i en e ac d n∧St0 l i d∧10 * (40 - d).toNat+r<k∧PK W l i e fun x i' e' ac' n'=>nthK Ks 0 (x::PL l i' en e' ac' d n')
def qLP (W:LD→Prop)(m r k j:Nat):QF:=fun xs Ks=>∃a l i en e ac d n o,xs=a::PL l i en e ac d n∧St0 l i d∧10 * (40 - d).toNat+r<k∧(l.len - i:Int).toNat<j∧(er e=0→CN W (i - o) a) ∧
 ∀(w:Nat) (a':LD) (i' e' ac' n':Int),w<m→i≤i'→i'≤l.len→er e≤er e'→er e'≤1→(er e'=0→CN W (i' - o) a')→nthK Ks w (a'::PL l i' en e' ac' d n')
section
variable {l:LD}{i en e ac d n:Int} (T:Tok l) (i0:0≤i) (i1:i≤l.len) (d0:0≤d) (d1:d≤40)
include T i0 i1 d0 d1
variable {W:LD→Prop}{k r t:Nat}
theorem u_Pp {f:TelK (.p t::ksP)}(hk:10 * (40 - d).toNat+r<k)(h:PK W l i e fun x i' e' ac' n'=>f x l i' en e' ac' d n'):qP W r k [l,.n i,.n en,.n e,.n ac,.n d,.n n] [apK (.p t::ksP) f]:=⟨l,i,en,e,ac,d,n,rfl,⟨T,i0,i1,d0,d1⟩,hk,fun r i' e' ac' n' a1 a2 a3 a4 a5 a6 _=>h r i' e' ac' n' a1 a2 a3 a4 a5 a6⟩
theorem u_Pl {f:TelK (.l t::ksP)}(hk:10 * (40 - d).toNat+r<k)(h:PK W l i e fun x i' e' ac' n'=>f x l i' en e' ac' d n'):qP W r k [l,.n i,.n en,.n e,.n ac,.n d,.n n] [apK (.l t::ksP) f]:=⟨l,i,en,e,ac,d,n,rfl,⟨T,i0,i1,d0,d1⟩,hk,fun r i' e' ac' n' a1 a2 a3 a4 a5 a6 _=>h r i' e' ac' n' a1 a2 a3 a4 a5 a6⟩
variable {a:LD}{o:Int}
theorem QHU {f:TelK (.p t::ksP)}(hk:10 * (40 - d).toNat+r<k)(ha:er e=0→CN W (i - o) a)(h:∀(a':LD) (i' e' ac' n':Int),i≤i'→i'≤l.len→er e≤er e'→er e'≤1→(er e'=0→CN W (i' - o) a')→f a' l i' en e' ac' d n') :
  ∃j,qLP W 1 r k j [a,l,.n i,.n en,.n e,.n ac,.n d,.n n] [apK (.p t::ksP) f]:=⟨_,a,l,i,en,e,ac,d,n,o,rfl,⟨T,i0,i1,d0,d1⟩,hk,nl,ha,fun w a' i' e' ac' n' hw b1 b2 b3 b3' b4=>by
   match w,hw with
   | 0,_=>exact fun _=>h a' i' e' ac' n' b1 b2 b3 b3' b4⟩
theorem QHT {f g:TelK (.p t::ksP)}(hk:10 * (40 - d).toNat+r<k)(ha:er e=0→CN W (i - o) a)(h:∀(a':LD) (i' e' ac' n':Int),i≤i'→i'≤l.len→er e≤er e'→er e'≤1→(er e'=0→CN W (i' - o) a')→f a' l i' en e' ac' d n'∧g a' l i' en e' ac' d n') :
  ∃j,qLP W 2 r k j [a,l,.n i,.n en,.n e,.n ac,.n d,.n n] [apK (.p t::ksP) f,apK (.p t::ksP) g]:=⟨_,a,l,i,en,e,ac,d,n,o,rfl,⟨T,i0,i1,d0,d1⟩,hk,nl,ha,fun w a' i' e' ac' n' hw b1 b2 b3 b3' b4=>by
   match w,hw with
   | 0,_=>exact fun _=>(h a' i' e' ac' n' b1 b2 b3 b3' b4).1
   | 1,_=>exact fun _=>(h a' i' e' ac' n' b1 b2 b3 b3' b4).2⟩
end
abbrev Qts (k:Nat):QF:=qP WE 0 k
abbrev Qtt (k:Nat):QF:=qP WE 1 k
abbrev Qeo (k:Nat):QF:=qP WE 2 k
abbrev Qoq (k:Nat):QF:=qP WC 3 k
abbrev Qw2 (k:Nat):QF:=qP WC 4 k
abbrev Qor (k:Nat):QF:=qP WC 5 k
def WAs (r:LD):Prop:=r.len≤4096∧∀x∈r.es,WA x
abbrev Qos (k:Nat):QF:=qP WAs 3 k
theorem Qvp {l:LD}{i en e ac d n:Int}{Ks:KN}{q:QF}{k:Nat}(S:St0 l i d)(hr:10 * (40 - d).toNat+0<k+1)(hk:PK WE l i e fun x i' e' ac' n'=>Ks 0 (x::PL l i' en e' ac' d n')):Qm0 l i en e ac d n Ks q QK Qb Qd Qc Qf Qg Qh (Qts k) (Qeo k):=by
 obtain⟨T,i0,i1,d0,d1⟩:=S
 have hl:=T.n
 have he0:=Qan e
 refine Eq.mpr (Qwb ..) ?_
 repeat' first
  | exact hk _ _ _ _ _ om om om om om (fun h=>QKI om)
  | exact hk _ _ _ _ _ om om om om om (fun h=>QKH (hs h) om)
  | exact hk _ _ _ _ _ om om om om om (fun h=>QKJ (hr h) om)
  | exact hk _ _ _ _ _ om om om om om (fun h=>(hr om).up om)
  | with_reducible refine bifT ?_
  | with_reducible refine bifF ?_
  | (simp (disch:=omega) only [cond_true,cond_false,QJ,Int.add_sub_cancel,Int.ofNat_eq_natCast])
  | refine⟨decC om om,?_⟩
  | refine⟨⟨rfl,trivial⟩,?_⟩
  | refine⟨⟨trivial,trivial⟩,?_⟩
  | refine⟨trivial,?_⟩
  | refine⟨rfl,?_⟩
  | refine QbJ (fun _=>?_) (fun _=>?_)
  | refine bifE (fun _=>?_) (fun _=>?_)
  | refine bifN (fun _=>?_) (fun _=>?_)
  | refine bifD (fun hc=>?_) (fun hc=>?_)
  | refine QdM T om om om om (by decide) (fun e' ac' he=>?_)
  | refine u_is T om om om om (fun he hc ht _=>?_) ?_
  | refine QwK T om om om om (fun he hd=>?_) (fun e' ac' he=>?_)
  | refine u_Pp T om om om om om (fun r i' e' ac' n' a1 a2 a3 a3' a4 hr=>?_)
  | refine Qfw T om om om om (fun i' e' ac' b1 b2 b3 b4 b4' b5=>?_)
  | refine QBo (Nat.le_trans (T.at i0 om).1 om) (fun _=>?_)
  | refine Qf0 T om om om om (fun he hc _=>?_) ?_
  | refine Ql3 T om om om om (fun s i' e' ac' a1 a2 a3 a4 a4' a5 hs hl=>?_)
  | intro _
  | exact hk _ _ _ _ _ om om om om om (fun h=>(by omega:False).elim)
end Go.Proofs.YtmdppkbekmpopaaGreat
