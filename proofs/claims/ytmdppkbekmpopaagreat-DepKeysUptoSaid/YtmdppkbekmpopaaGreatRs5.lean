import Derived.Test.YtmdppkbekmpopaaGreatRs1
set_option linter.unusedVariables false
set_option linter.unusedSimpArgs false
set_option linter.unusedSectionVars false
set_option maxRecDepth 100000
noncomputable section
namespace Go.Proofs.YtmdppkbekmpopaaGreat
open Go Go.Sh Go.Va
inductive RS (fp fl:LD):LD→Prop
 | mk (k:Int) (X Y:Str) (E F C ar th el:LD) (n:Int):OkS k X Y E F C ar th el→KdS fp fl k X Y→(∀x∈ar.es,WA2 x)→(∀s∈th.es,RS fp fl s)→(∀s∈el.es,RS fp fl s)→RS fp fl (.t [.n k,.s X,.s Y,E,F,C,ar,th,el,.n n])
theorem QHq (es:List LD)(i:Nat):nNL (es.take i)≤nNL es:=by
 have:=QhX (es.take i) (es.drop i)
 rw[List.take_append_drop] at this;omega
theorem QAe {es:List LD}{i:Nat}(h:i<es.length):nNL (es.take (i+1))=nNL (es.take i)+nN (es.getD i .nul):=by
 rw[List.take_succ_eq_append_getElem h,QhX,List.getD_eq_getElem?_getD,List.getElem?_eq_getElem h]
 simp only[nNL,Option.getD_some];omega
def QcA (k:Nat):QF:=fun xs Ks=>∃fn fp fl fb l,xs=[.s fn,fp,fl,fb,l]∧Fv fp fl∧l.len≤4096∧(∀s∈l.es,WS s)∧SizeOf.sizeOf l<k∧∀(r:LD) (a:Int),r.len≤l.len→(∀s∈r.es,RS fp fl s)→nN r≤nN l→nthK Ks 0 [r,.n a]
variable {fb fl fp l:LD}{fn:Str}{k:Nat}
theorem Qvl {f:TelK [.l 8,.i .i64]}(hv:Fv fp fl)(hl:l.len≤4096)(hw:∀s∈l.es,WS s)(hk:SizeOf.sizeOf l<k)(h:∀(r:LD) (a:Int),r.len≤l.len→(∀s∈r.es,RS fp fl s)→nN r≤nN l→f r a):QcA k [.s fn,fp,fl,fb,l] [apK [.l 8,.i .i64] f]:=⟨fn,fp,fl,fb,l,rfl,hv,hl,hw,hk,fun r a h1 h2 h3 _=>h r a h1 h2 h3⟩
theorem QIs {k:Int}{X Y:Str}{E F C ar th el:LD}{n:Int}{f:TelK [.i .i64,.s,.s,.p 5,.p 5,.p 6,.l 7,.l 8,.l 8,.i .i64,.b]}(hv:Fv fp fl)(hS:OkS k X Y E F C ar th el)(ha:∀x∈ar.es,WA x)
  (h:∀(k':Int) (X' Y':Str) (E' F' C' ar' th' el':LD) (n':Int) (b:Bool),(b=true→ResS fp fl k' X' Y' E' F' C' ar' th' el' th el (nN E+nN F+nN C+nN ar))→f k' X' Y' E' F' C' ar' th' el' n' b) :
  Qak [.s fn,fp,fl,fb,.n k,.s X,.s Y,E,F,C,ar,th,el,.n n] [apK [.i .i64,.s,.s,.p 5,.p 5,.p 6,.l 7,.l 8,.l 8,.i .i64,.b] f]:=
 ⟨fn,fp,fl,fb,k,X,Y,E,F,C,ar,th,el,n,rfl,hv,hS,ha,fun k' X' Y' E' F' C' ar' th' el' n' b hb _=>h k' X' Y' E' F' C' ar' th' el' n' b hb⟩
def Qcx (k j:Nat):QF:=fun xs Ks=>∃l i fn fp fl fb w,xs=[l,.n i,.s fn,fp,fl,fb,.t w]∧Fv fp fl∧l.len≤4096∧(∀s∈l.es,WS s)∧SizeOf.sizeOf l<k+1∧0≤i∧i≤l.len∧(l.len - i:Int).toNat<j∧(w.length:Int)≤i∧(∀s∈w,RS fp fl s)∧nNL w≤nNL (l.es.take i.toNat) ∧
 (∀w':List LD,w'.length≤l.len→(∀s∈w',RS fp fl s)→nNL w'≤nN l→nthK Ks 0 [.s fn,fp,fl,fb,.t w'])∧∀a:Int,nthK Ks 1 [.nul,.n a,.s fn,fp,fl,fb]
variable {q:QF}
theorem QwO {i:Int}{w:List LD}{Ks:List LP}{j:Nat}(h:Qcx k (j+1) [l,.n i,.s fn,fp,fl,fb,.t w] Ks) :
  QnS l i fn fp fl fb w (fun ys=>Qcx k j ys Ks) (nthK Ks) q Qak (QcA k):=by
 obtain⟨l_,i_,fn_,fp_,fl_,fb_,w_,eq,hv,hl,hws,hk,h0,h1,hj,hw,hr,hcn,k0,k1⟩:=h
 cases eq
 refine Eq.mpr (QxN ..) ?_
 refine bifD (fun hc=>⟨decB h0 hc,?_⟩) fun hc=>k0 w om hr (Nat.le_trans hcn (Nat.le_trans (QHq _ _) (QoI l)))
 have hc':i<(l.len:Int):=hc
 have hlt:i.toNat<l.es.length:=by have:l.len=l.es.length:=rfl;omega
 have ei:IntKind.i64.wrap (i+1)=i+1:=QJ om om
 have hm:l.es.getD i.toNat .nul∈l.es:=by rw[List.getD_eq_getElem?_getD,List.getElem?_eq_getElem hlt];exact List.getElem_mem hlt
 have hs:=hws _ hm
 have hsz:SizeOf.sizeOf (l.es.getD i.toNat .nul)<SizeOf.sizeOf l:=by
  cases l<;>simp only[LD.es,List.not_mem_nil] at hm
  have:=List.sizeOf_lt_of_mem hm
  simp only[LD.es,LD.l.sizeOf_spec];omega
 have htk:=QAe hlt
 simp only[at_f,ei]
 generalize l.es.getD i.toNat .nul=s at hs hsz htk
 cases hs with
 | mk kk X Y E F C ar th el n hS hA hT hE=>
  have z1:SizeOf.sizeOf th<SizeOf.sizeOf l:=by simp at hsz;omega
  have z2:SizeOf.sizeOf el<SizeOf.sizeOf l:=by simp at hsz;omega
  have z3:SizeOf.sizeOf LD.nul<SizeOf.sizeOf l:=by simp at hsz ⊢;omega
  refine QIs hv hS hA fun k' X' Y' E' F' C' ar' th' el' n' b hb=>bifI (fun hb'=>?_) fun _=>⟨decB h0 hc,k1 _⟩
  have R:=hb hb'
  have t1:th'.len≤4096∧(∀s∈th'.es,WS s)∧SizeOf.sizeOf th'<k:=by
   rcases R.t.1 with rfl | rfl
   ·exact⟨hS.n.2.1,hT,om⟩
   ·exact⟨zo,(fun x h=>by cases h),om⟩
  have t2:el'.len≤4096∧(∀s∈el'.es,WS s)∧SizeOf.sizeOf el'<k:=by
   rcases R.t.2 with rfl | rfl
   ·exact⟨hS.n.2.2,hE,om⟩
   ·exact⟨zo,(fun x h=>by cases h),om⟩
  refine Qvl hv t1.1 t1.2.1 t1.2.2 fun r1 a1 l1 p1 m1=>bifD (fun _=>k1 _) fun _=>Qvl hv t2.1 t2.2.1 t2.2.2 fun r2 a2 l2 p2 m2=>bifD (fun _=>k1 _) fun _=>⟨om,?_⟩
  have nil:∀ {x y:LD},x.len≤y.len→y.es=[]→x.es=[]:=fun {x y} h e=>by
   have e1:y.len=0:=by show y.es.length=0;rw[e];rfl
   have:x.es.length=0:=by have:x.len=x.es.length:=rfl;omega
   exact List.eq_nil_of_length_eq_zero this
  refine⟨l,i+1,fn,fp,fl,fb,_,rfl,hv,hl,hws,hk,om,om,om,by rw[List.length_append,List.length_singleton];omega,Qtz hr (.mk _ _ _ _ _ _ _ _ _ _ ⟨R.s.k0,R.s.x,R.s.y,R.s.e,R.s.f,R.s.c,R.s.a,⟨fun h=>nil l1 (R.s.t.1 h),fun h=>nil l2 (R.s.t.2 h)⟩,⟨R.s.n.1,om,om⟩⟩ R.k R.a p1 p2),?_,k0,k1⟩
  have e2:(i+1).toNat=i.toNat+1:=om
  have m0:nN E'+nN F'+nN C'+nN ar'≤nN E+nN F+nN C+nN ar:=R.m
  have tt:(th'=th∨th'=.nul)∧(el'=el∨el'=.nul):=R.t
  have m3:nN th'≤nN th:=by rcases tt.1 with h | h<;>simp[h,nN]
  have m4:nN el'≤nN el:=by rcases tt.2 with h | h<;>simp[h,nN]
  rw[Qtx] at htk
  rw[e2,QhX]
  simp only[nNL]
  rw[Qtx];omega
theorem QzT {Ks:KN}(hv:Fv fp fl)(hl:l.len≤4096)(hw:∀s∈l.es,WS s)(hk:SizeOf.sizeOf l<k+1)(h:∀(r:LD) (a:Int),r.len≤l.len→(∀s∈r.es,RS fp fl s)→nN r≤nN l→Ks 0 [r,.n a]) :
  QqM fn fp fl fb l Ks q Qak (QcA k) (fun xs Ks=>∃j,Qcx k j xs Ks):=by
 refine Eq.mpr (QAA ..) ?_
 refine⟨_,l,0,fn,fp,fl,fb,[],rfl,hv,hl,hw,hk,om,om,nl,by simp,by simp,by simp[nNL],fun w' h1 h2 h3 _=>⟨fun e=>?_,fun a c _=>?_⟩,fun a _=>?_⟩
 ·exact h _ _ (zo) (fun s hs=>by cases hs) (zo)
 ·exact h _ _ h1 h2 h3
 ·exact h _ _ (zo) (fun s hs=>by cases hs) (zo)
end Go.Proofs.YtmdppkbekmpopaaGreat
set_option maxHeartbeats 4000000
namespace Go.Proofs.YtmdppkbekmpopaaGreat
open Go Go.Sh Go.Va
mutual
def clT:LD→List Str
 | .t cs=>clC cs
 | _=>[]
def clD:LD→List Str
 | .l _ _ es=>clL es
 | _=>[]
def clC:List LD→List Str
 | k::_::Y::_::_::_::_::th::el::_=>(if k.i=8 then [Y.st] else [])++(clD th++clD el)
 | _=>[]
def clL:List LD→List Str
 | []=>[]
 | x::r=>clT x++clL r
end
def addG (kn fd:List LD)(s:Str):List LD:=match QU s kn with
 | some e=>if (e.f 1).i=0 then upE s (.t [.s s]) fd else fd
 | none=>upE s (.t [.s s]) fd
theorem QC6 (kn fd:List LD)(s:Str):(addG kn fd s).length≤fd.length+1:=by
 unfold addG
 have:=Qi6 s (.t [.s s]) fd
 split
 ·split<;>omega
 ·exact this
theorem Qjg (kn:List LD):∀(l:List Str) (fd:List LD),(l.foldl (addG kn) fd).length≤fd.length+l.length
 | [],fd=>by simp
 | s::l,fd=>by
  have h1:=Qjg kn l (addG kn fd s)
  have h2:=QC6 kn fd s
  simp only[List.foldl_cons,List.length_cons];omega
theorem Qwn (k:Int)(X Y:Str)(E F C ar th el:LD)(n:Int):clT (.t [.n k,.s X,.s Y,E,F,C,ar,th,el,.n n])=(if k=8 then [Y] else [])++(clD th++clD el):=by
 simp only[clT,clC];rfl
theorem Qo8 (d:LD):clL d.es=clD d:=by cases d<;>simp[LD.es,clL,clD]
variable {fl fp:LD}
theorem RS.ls {s:LD}(h:RS fp fl s):∃k X Y E F C ar th el n,s=.t [.n k,.s X,.s Y,E,F,C,ar,th,el,.n n]∧th.len≤4096∧el.len≤4096∧(∀x∈th.es,RS fp fl x)∧∀x∈el.es,RS fp fl x:=by
 cases h with
 | mk k X Y E F C ar th el n hS hK ha ht he=>exact⟨k,X,Y,E,F,C,ar,th,el,n,rfl,hS.n.2.1,hS.n.2.2,ht,he⟩
structure VsOk (fp fl l:LD)(fd:List LD)(k:Nat):Prop where
 len:l.len≤4096
 rs:∀x∈l.es,RS fp fl x
 sz:SizeOf.sizeOf l<k
 cnt:fd.length+(clL l.es).length<1000000
def QdR (k:Nat):QF:=fun xs Ks=>∃fp fl l kn fd,xs=[l,.t kn,.t fd]∧VsOk fp fl l fd k∧nthK Ks 0 [.b true,.t kn,.t ((clL l.es).foldl (addG kn) fd)]
variable {fd kn:List LD}{k:Nat}{l:LD}
theorem Qvj {f:TelK [.b,.r 25,.r 26]}(h:VsOk fp fl l fd k)(hf:f true kn ((clL l.es).foldl (addG kn) fd)):QdR k [l,.t kn,.t fd] [apK [.b,.r 25,.r 26] f]:=⟨fp,fl,l,kn,fd,rfl,h,fun _=>hf⟩
def Qfz (k j:Nat):QF:=fun xs Ks=>∃fp fl l i kn fd,xs=[l,.n (Int.ofNat l.len),.n i,.t kn,.t fd]∧l.len≤4096∧(∀x∈l.es,RS fp fl x)∧SizeOf.sizeOf l<k+1∧0≤i∧i≤l.len∧(l.len - i:Int).toNat<j∧fd.length+(clL (l.es.drop i.toNat)).length<1000000 ∧
 nthK Ks 0 [.t kn,.t ((clL (l.es.drop i.toNat)).foldl (addG kn) fd)]
variable {q:QF}
theorem Qoj {Ks:KN}(h:VsOk fp fl l fd (k+1))(hk:Ks 0 [.b true,.t kn,.t ((clL l.es).foldl (addG kn) fd)]) :
  Qhz l kn fd Ks q (QdR k) (fun xs Ks=>∃j,Qfz k j xs Ks):=by
 refine Eq.mpr (Qo3 ..) ?_
 exact⟨_,fp,fl,l,0,kn,fd,rfl,h.len,h.rs,h.sz,om,Int.natCast_nonneg _,nl,h.cnt,fun _=>hk⟩
theorem Qwo (x:LD)(r:List LD):clL (x::r)=clT x++clL r:=by simp only[clL]
theorem Qnb {n i:Int}{Ks:List LP}{j:Nat}(h:Qfz k (j+1) [l,.n n,.n i,.t kn,.t fd] Ks) :
  Qge l n i kn fd (fun ys=>Qfz k j ys Ks) (nthK Ks) q (QdR k):=by
 obtain⟨fp,fl,l_,i_,kn_,fd_,e,hl,hrs,hsz,h0,h1,hj,hc,hk⟩:=h
 cases e
 refine Eq.mpr (Qne ..) ?_
 have l1:l.len=l.es.length:=rfl
 refine bifD (fun hc'=>?_) fun hc'=>?_
 ·have hc2:i<(l.len:Int):=hc'
  have hlt:i.toNat<l.es.length:=om
  have hm:l.es.getD i.toNat .nul∈l.es:=by rw[List.getD_eq_getElem?_getD,List.getElem?_eq_getElem hlt];exact List.getElem_mem hlt
  obtain⟨kk,X,Y,E,F,C,ar,th,el,m,hs,ht1,he1,ht2,he2⟩:=(hrs _ hm).ls
  have ei:IntKind.i64.wrap (i+1)=i+1:=QJ om om
  have e2:(i+1).toNat=i.toNat+1:=om
  have hsz2:SizeOf.sizeOf (l.es.getD i.toNat .nul)<SizeOf.sizeOf l:=by
   cases l<;>simp only[LD.es] at hlt hm ⊢<;>try (simp at hlt;done)
   have:=List.sizeOf_lt_of_mem hm
   simp only[LD.l.sizeOf_spec];omega
  rw[drop_at hlt,Qwo] at hk hc
  have g0:(l.at 10 i).f 0=.n kk:=by rw[at_f,hs];rfl
  have g2:(l.at 10 i).f 2=.s Y:=by rw[at_f,hs];rfl
  have g7:(l.at 10 i).f 7=th:=by rw[at_f,hs];rfl
  have g8:(l.at 10 i).f 8=el:=by rw[at_f,hs];rfl
  simp only[g0,g2,g7,g8,ei,show ∀x:Int,(LD.n x).i=x from fun _=>rfl,show ∀x:Str,(LD.s x).st=x from fun _=>rfl]
  rw[hs] at hk hc hsz2
  rw[Qwn] at hk hc
  have z1:SizeOf.sizeOf th<SizeOf.sizeOf l:=by simp at hsz2;omega
  have z2:SizeOf.sizeOf el<SizeOf.sizeOf l:=by simp at hsz2;omega
  have t1:clL th.es=clD th:=Qo8 th
  have t2:clL el.es=clD el:=Qo8 el
  have go:∀fd1:List LD,fd1.length+((clD th++clD el)++clL (l.es.drop (i.toNat+1))).length<1000000→nthK Ks 0 [.t kn,.t (((clD th++clD el)++clL (l.es.drop (i.toNat+1))).foldl (addG kn) fd1)] →
    QdR k [th,.t kn,.t fd1] [apK [.b,.r 25,.r 26] fun (b:Bool) (kn1:List LD) (fd2:List LD)=>(bif b then QdR k [el,.t kn1,.t fd2] [apK [.b,.r 25,.r 26] fun (b2:Bool) (kn2:List LD) (fd3:List LD)=>(bif b2 then Qfz k j [l,.n (Int.ofNat l.len),.n (i+1),.t kn2,.t fd3] Ks else nthK Ks 1 [.b false,.t kn2,.t fd3]:Prop)] else nthK Ks 1 [.b false,.t kn1,.t fd2]:Prop)]:=fun fd1 hc1 hk1=>by
   simp only[List.length_append] at hc1
   rw[List.foldl_append,List.foldl_append] at hk1
   have f1:=Qjg kn (clD th) fd1
   have f2:=Qjg kn (clD el) ((clD th).foldl (addG kn) fd1)
   have f3:=Qjg kn (clL th.es) fd1
   have t1':=congrArg List.length t1
   refine Qvj (fp:=fp) (fl:=fl) ⟨ht1,ht2,om,by rw[t1];omega⟩ ?_
   rw[t1]
   refine bifT ?_
   refine Qvj (fp:=fp) (fl:=fl) (kn:=kn) (fd:=(clD th).foldl (addG kn) fd1) ⟨he1,he2,om,by rw[t2];omega⟩ ?_
   rw[t2]
   refine bifT ?_
   exact⟨fp,fl,l,i+1,kn,(clD el).foldl (addG kn) ((clD th).foldl (addG kn) fd1),rfl,hl,hrs,hsz,om,om,om,by rw[e2];omega,by rw[e2];exact hk1⟩
  refine⟨decC h0 hc2,bifD (fun h8=>?_) fun h8=>?_⟩
  ·have h8':kk=8:=h8
   rw[if_pos h8'] at hk hc
   simp only[List.append_assoc,List.singleton_append,List.cons_append,List.foldl_cons] at hk
   simp only[List.length_append,List.length_cons,List.length_nil] at hc
   have hla:=QC6 kn fd Y
   have hul:=Qi6 Y (.t [.s Y]) fd
   refine⟨fun e9 he9=>bifD (fun hz=>⟨om,go _ ?_ ?_⟩) fun hz=>go _ ?_ ?_,fun hn=>⟨om,go _ ?_ ?_⟩⟩
   ·simp only[List.length_append];omega
   ·simp only[List.append_assoc]
    have ea:addG kn fd Y=upE Y (.t [.s Y]) fd:=by
     show (match QU Y kn with | some e=>if (e.f 1).i=0 then upE Y (.t [.s Y]) fd else fd | none=>upE Y (.t [.s Y]) fd)=_
     rw[show QU Y kn=some e9 from he9];exact if_pos hz
    rw[ea] at hk;exact hk
   ·simp only[List.length_append];omega
   ·simp only[List.append_assoc]
    have ea:addG kn fd Y=fd:=by
     show (match QU Y kn with | some e=>if (e.f 1).i=0 then upE Y (.t [.s Y]) fd else fd | none=>upE Y (.t [.s Y]) fd)=_
     rw[show QU Y kn=some e9 from he9];exact if_neg hz
    rw[ea] at hk;exact hk
   ·simp only[List.length_append];omega
   ·simp only[List.append_assoc]
    have ea:addG kn fd Y=upE Y (.t [.s Y]) fd:=by
     show (match QU Y kn with | some e=>if (e.f 1).i=0 then upE Y (.t [.s Y]) fd else fd | none=>upE Y (.t [.s Y]) fd)=_
     rw[show QU Y kn=none from hn]
    rw[ea] at hk;exact hk
  ·have h8':¬kk=8:=h8
   rw[if_neg h8',List.nil_append] at hk hc
   exact go fd hc hk
 ·have hc2:¬i<(l.len:Int):=hc'
  rw[List.drop_eq_nil_of_le om] at hk
  exact hk
end Go.Proofs.YtmdppkbekmpopaaGreat
namespace Go.Proofs.YtmdppkbekmpopaaGreat
open Go Go.Sh Go.Va
def rowS (l:List Str):List LD:=l.map fun s=>.t [.s s]
def Qfr (l:List Str):List Str:=l.mergeSort fun x y=>decide (x≤y)
def Qo9 (fp fl fb:LD):List Str:=Qfr (((clL fb.es).foldl (addG (knL (fp.es++fl.es) [])) []).map keyE)
def Q9:QF:=fun xs Ks=>∃fn fp fl fb,xs=[.s fn,fp,fl,fb]∧Fv fp fl∧nthK Ks 0 [.t (knL (fp.es++fl.es) []),.t []]
variable {fb fl fp:LD}{fn:Str}
theorem QC7 {f:TelK [.r 25]}(hv:Fv fp fl)(h:f (knL (fp.es++fl.es) [])):Qal [.s fn,fp,fl,fb] [apK [.r 25] f]:=⟨fn,fp,fl,fb,rfl,hv,fun _=>h⟩
theorem QzN {f:TelK [.r 25,.r 26]}(hv:Fv fp fl)(h:f (knL (fp.es++fl.es) []) []):Q9 [.s fn,fp,fl,fb] [apK [.r 25,.r 26] f]:=⟨fn,fp,fl,fb,rfl,hv,fun _=>h⟩
variable {Ks:KN}{q:QF}
theorem Qq2 (hv:Fv fp fl)(hk:Ks 0 [.t (knL (fp.es++fl.es) []),.t []]):Qi4 fn fp fl fb Ks q Qal:=by
 refine Eq.mpr (Qrl ..) ?_
 exact QC7 hv hk
def QO:QF:=fun xs Ks=>∃kn fd,xs=[.t kn,.t fd]∧fd.length≤1000000∧nthK Ks 0 [.t kn,.t fd,.t (rowS (Qfr (fd.map keyE)))]
theorem QG7 {kn fd:List LD}{f:TelK [.r 25,.r 26,.r 1]}(h:fd.length≤1000000)(hf:f kn fd (rowS (Qfr (fd.map keyE)))):QO [.t kn,.t fd] [apK [.r 25,.r 26,.r 1] f]:=⟨kn,fd,rfl,h,fun _=>hf⟩
def Qs:QF:=fun xs Ks=>∃k,QdR k xs Ks
def QP:QF:=fun xs Ks=>∃fn fp fl fb,xs=[.s fn,fp,fl,fb]∧Fv fp fl∧fb.len≤4096∧(∀x∈fb.es,RS fp fl x)∧(clL fb.es).length<1000000∧nthK Ks 0 [.t (rowS (Qo9 fp fl fb))]
theorem QzZ (hv:Fv fp fl)(hl:fb.len≤4096)(hr:∀x∈fb.es,RS fp fl x)(hc:(clL fb.es).length<1000000)(hk:Ks 0 [.t (rowS (Qo9 fp fl fb))]) :
  QqS fn fp fl fb Ks q Q9 Qs QO:=by
 refine Eq.mpr (QAG ..) ?_
 refine QzN hv ?_
 have hlen:=Qjg (knL (fp.es++fl.es) []) (clL fb.es) []
 simp only[List.length_nil] at hlen
 refine⟨_,Qvj (fp:=fp) (fl:=fl) (kn:=knL (fp.es++fl.es) []) (fd:=[]) ⟨hl,hr,nl,by simp only[List.length_nil];omega⟩ ?_⟩
 refine bifT ?_
 exact QG7 (kn:=knL (fp.es++fl.es) []) (fd:=(clL fb.es).foldl (addG (knL (fp.es++fl.es) [])) []) om hk
end Go.Proofs.YtmdppkbekmpopaaGreat
namespace Go.Proofs.YtmdppkbekmpopaaGreat
open Go Go.Sh Go.Va
abbrev nmAt (es:List LD)(a:Nat):Str:=((es.getD a .nul).f 0).st
def ND (es:List LD)(m:Nat):Prop:=∀a b,a<b→b<m→nmAt es a≠nmAt es b
def Qz:QF:=fun xs Ks=>∃k,QcA k xs Ks
variable {fb fl fp l:LD}{fn:Str}
theorem Qzn {f:TelK [.l 8,.i .i64]}(hv:Fv fp fl)(hl:l.len≤4096)(hw:∀s∈l.es,WS s)(h:∀(r:LD) (a:Int),r.len≤l.len→(∀s∈r.es,RS fp fl s)→nN r≤nN l→f r a):Qz [.s fn,fp,fl,fb,l] [apK [.l 8,.i .i64] f]:=⟨_,Qvl hv hl hw (nl) h⟩
def QQ:QF:=fun xs Ks=>∃fn fp fl fb u,xs=[.s fn,fp,fl,fb,.s u]∧Fv fp fl∧fb.len≤4096∧(∀s∈fb.es,WS s)∧(∀a e:Int,e≠0→nthK Ks 0 [.s [],.nul,.nul,.nul,.n a,.n e]) ∧
 (fn=u→ND (fp.es++fl.es) (fp.es++fl.es).length→∀r:LD,r.len≤fb.len→(∀s∈r.es,RS fp fl s)→nN r≤nN fb→nthK Ks 0 [.s fn,fp,fl,r,.n 0,.n 0])
def Qbe (j:Nat):QF:=fun xs Ks=>∃l i k fn fp fl fb z0 z1 z2 z3,xs=[l,.n i,.n k,.s fn,fp,fl,fb,.s z0,z1,z2,z3]∧l.len≤10000∧0≤k∧k≤i∧i<l.len∧(i - k:Int).toNat<j ∧
 ((∀a,k.toNat≤a→a<i.toNat→nmAt l.es a≠nmAt l.es i.toNat)→nthK Ks 0 [l,.n i,.s fn,fp,fl,fb,.s z0,z1,z2,z3])∧nthK Ks 1 [.n (-1),.n 60,.s fn,fp,fl,fb,.s [],.nul,.nul,.nul]
def Qbf (j:Nat):QF:=fun xs Ks=>∃l i fn fp fl fb z0 z1 z2 z3,xs=[l,.n i,.s fn,fp,fl,fb,.s z0,z1,z2,z3]∧l.len≤10000∧0≤i∧i≤l.len∧(l.len - i:Int).toNat<j∧ND l.es i.toNat ∧
 (ND l.es l.len→nthK Ks 0 [.s fn,fp,fl,fb,.s z0,z1,z2,z3])∧nthK Ks 1 [.n (-1),.n 60,.s fn,fp,fl,fb,.s [],.nul,.nul,.nul]
variable {Ks:List LP}{i:Int}{j:Nat}{q q1:QF}{z0:Str}{z1 z2 z3:LD}
theorem QtY {k:Int}(h:Qbe (j+1) [l,.n i,.n k,.s fn,fp,fl,fb,.s z0,z1,z2,z3] Ks) :
  QlK l i k fn fp fl fb z0 z1 z2 z3 (fun ys=>Qbe j ys Ks) (nthK Ks) q q1:=by
 obtain⟨l_,i_,k_,fn_,fp_,fl_,fb_,z0_,z1_,z2_,z3_,eq,hl,h0,h1,h2,hj,k0,k1⟩:=h
 cases eq
 refine Eq.mpr (QuE ..) ?_
 have ek:k<i→IntKind.i64.wrap (k+1)=k+1:=fun h=>QJ om om
 refine bifD (fun hc=>⟨decB h0 (by show k<(l.len:Int);omega),decB om h2,bifD (fun _=>k1) fun hn=>?_⟩) fun hc=>k0 fun a h3 h4=>(by omega:False).elim
 rw[ek hc]
 refine⟨l,i,k+1,fn,fp,fl,fb,z0,z1,z2,z3,rfl,hl,om,om,h2,om,fun ha=>k0 fun a h3 h4=>?_,k1⟩
 by_cases e:a=k.toNat
 ·subst e;exact hn
 ·exact ha a om h4
theorem QtZ (h:Qbf (j+1) [l,.n i,.s fn,fp,fl,fb,.s z0,z1,z2,z3] Ks) :
  QlL l i fn fp fl fb z0 z1 z2 z3 (fun ys=>Qbf j ys Ks) (nthK Ks) q q1 (fun xs Ks=>∃j,Qbe j xs Ks):=by
 obtain⟨l_,i_,fn_,fp_,fl_,fb_,z0_,z1_,z2_,z3_,eq,hl,h0,h1,hj,hd,k0,k1⟩:=h
 cases eq
 refine Eq.mpr (QuF ..) ?_
 refine bifD (fun hc=>?_) fun hc=>k0 ?_
 ·have hc':i<(l.len:Int):=hc
  refine⟨_,l,i,0,fn,fp,fl,fb,z0,z1,z2,z3,rfl,hl,om,h0,hc',nl,fun ha _=>?_,fun _=>k1⟩
  have ei:IntKind.i64.wrap (i+1)=i+1:=QJ om om
  show Qbf j [l,.n (IntKind.i64.wrap (i+1)),.s fn,fp,fl,fb,.s z0,z1,z2,z3] Ks
  rw[ei]
  refine⟨l,i+1,fn,fp,fl,fb,z0,z1,z2,z3,rfl,hl,om,om,om,fun a b h3 h4=>?_,k0,k1⟩
  by_cases e:b=i.toNat
  ·subst e;exact ha a om h3
  ·exact hd a b h3 om
 ·have hc':¬i<(l.len:Int):=hc
  have:i.toNat=l.len:=om
  rw[←this];exact hd
theorem QwR {u:Str}{Ks:KN}{q8:QF}(hv:Fv fp fl)(hb:fb.len≤4096)(hw:∀s∈fb.es,WS s)(k1:∀a e:Int,e≠0→Ks 0 [.s [],.nul,.nul,.nul,.n a,.n e])
  (k0:fn=u→ND (fp.es++fl.es) (fp.es++fl.es).length→∀r:LD,r.len≤fb.len→(∀s∈r.es,RS fp fl s)→nN r≤nN fb→Ks 0 [.s fn,fp,fl,r,.n 0,.n 0]) :
  QnV fn fp fl fb u Ks q Qz (fun xs Ks=>∃j,Qbf j xs Ks) q8:=by
 refine Eq.mpr (QxQ ..) ?_
 obtain⟨h1,h2⟩:=id hv
 have h1':fp.es.length≤5000:=h1
 have h2':fl.es.length≤5000:=h2
 refine bifN (fun _=>k1 _ _ (by decide)) fun hu=>bifD (fun _=>k1 _ _ (by decide)) fun _=>⟨om,rfl,om,fun he=>?_,fun a c hc=>?_⟩
 ·refine⟨_,.nul,0,fn,fp,fl,fb,[],.nul,.nul,.nul,rfl,zo,om,by simp[LD.len,LD.es],nl,fun a b h3 h4=>absurd h4 nt,fun _ _=>?_,fun _=>k1 (-1) 60 (by decide)⟩
  exact Qzn hv hb hw fun r a l1 p1 m1=>bifD (fun _=>k1 _ _ (by decide)) fun _=>k0 hu (by rw[he];intro a b h3 h4;simp at h4) r l1 p1 m1
 ·refine⟨_,_,0,fn,fp,fl,fb,[],.nul,.nul,.nul,rfl,?_,om,om,nl,fun a b h3 h4=>absurd h4 nt,fun hd _=>?_,fun _=>k1 (-1) 60 (by decide)⟩
  ·show (fp.es++fl.es).length≤10000
   rw[List.length_append];omega
  ·exact Qzn hv hb hw fun r a l1 p1 m1=>bifD (fun _=>k1 _ _ (by decide)) fun _=>k0 hu hd r l1 p1 m1
end Go.Proofs.YtmdppkbekmpopaaGreat
namespace Go.Proofs.YtmdppkbekmpopaaGreat
open Go Go.Sh Go.Va
def strs (es:List LD):List Str:=es.map fun e=>(e.f 0).st
variable {es:List LD}{i:Nat}
theorem Qyo (h:i<es.length):(strs es)[i]?=some ((es.getD i .nul).f 0).st:=by
 rw[strs,List.getElem?_map,List.getElem?_eq_getElem h,List.getD_eq_getElem?_getD,List.getElem?_eq_getElem h];rfl
def hasB (l:List Str)(s:Str):Bool:=l.any fun x=>decide (x=s)
variable {s:Str}
theorem QV7 (h:i<es.length):hasB ((strs es).drop i) s=(decide (((es.getD i .nul).f 0).st=s)||hasB ((strs es).drop (i+1)) s):=by
 have hl:i<(strs es).length:=by rw[strs,List.length_map];exact h
 have hg:=Qyo h
 rw[List.getElem?_eq_getElem hl,sj] at hg
 rw[List.drop_eq_getElem_cons hl,hg];rfl
def QLP:QF:=fun xs Ks=>∃l s,xs=[l,.s s]∧l.len≤1000000∧nthK Ks 0 [.b (hasB (strs l.es) s)]
def QMF (j:Nat):QF:=fun xs Ks=>∃l s i,xs=[l,.s s,.n i]∧l.len≤1000000∧0≤i∧i≤l.len∧(l.len - i:Int).toNat<j∧(hasB ((strs l.es).drop i.toNat) s=false→nthK Ks 0 [])∧(hasB ((strs l.es).drop i.toNat) s=true→nthK Ks 1 [.b true])
variable {l:LD}{q:QF}
theorem QUg {i:Int}{Ks:List LP}{j:Nat}(h:QMF (j+1) [l,.s s,.n i] Ks):QRA l s i (fun ys=>QMF j ys Ks) (nthK Ks) q:=by
 obtain⟨l_,s_,i_,eq,hl,h0,h1,hj,k0,k1⟩:=h
 cases eq
 refine Eq.mpr (QUu ..) ?_
 refine bifD (fun hc=>?_) fun hc=>k0 ?_
 ·have hc':i<(l.len:Int):=hc
  have hlt:i.toNat<l.es.length:=by have:l.len=l.es.length:=rfl;omega
  rw[QV7 hlt] at k0 k1
  have ei:IntKind.i64.wrap (i+1)=i+1:=QJ om om
  have e2:(i+1).toNat=i.toNat+1:=om
  rw[ei]
  refine⟨decB h0 hc,bifD (fun hn=>k1 ?_) fun hn=>?_⟩
  ·have hn':((l.es.getD i.toNat .nul).f 0).st=s:=hn
   rw[decide_eq_true hn'];rfl
  ·have hn':¬((l.es.getD i.toNat .nul).f 0).st=s:=hn
   rw[decide_eq_false hn',Bool.false_or] at k0 k1
   exact⟨l,s,i+1,rfl,hl,om,om,om,by rw[e2];exact k0,by rw[e2];exact k1⟩
 ·have hc':¬i<(l.len:Int):=hc
  have:l.es.length≤i.toNat:=by have:l.len=l.es.length:=rfl;omega
  rw[List.drop_eq_nil_of_le (by rw[strs,List.length_map];exact this)];rfl
theorem QU0 {Ks:KN}(hl:l.len≤1000000)(hk:Ks 0 [.b (hasB (strs l.es) s)]):QSX l s Ks q (fun xs Ks=>∃j,QMF j xs Ks):=by
 refine Eq.mpr (QVl ..) ?_
 refine⟨_,l,s,0,rfl,hl,om,om,nl,fun h _=>?_,fun h _=>?_⟩
 ·have h':hasB (strs l.es) s=false:=h
  rw[h'] at hk;exact hk
 ·have h':hasB (strs l.es) s=true:=h
  rw[h'] at hk;exact hk
end Go.Proofs.YtmdppkbekmpopaaGreat
namespace Go.Proofs.YtmdppkbekmpopaaGreat
open Go Go.Sh Go.Va
def addS:List Str→Str→List Str
 | [],s=>[s]
 | x::r,s=>if Go.Op.bytesLess x s=true then x::addS r s else if x=s then x::r else s::x::r
def QcH:List Str→Str→Nat
 | [],_=>0
 | x::r,s=>if Go.Op.bytesLess x s=true then QcH r s+1 else 0
theorem QB7:∀(l:List Str) (s:Str),QcH l s≤l.length
 | [],_=>nr
 | x::r,s=>by
  have:=QB7 r s
  simp only[QcH,List.length_cons];split<;>omega
theorem QEE:∀(l:List Str) (s:Str),addS l s=if l[QcH l s]?=some s then l else l.take (QcH l s)++([s]++l.drop (QcH l s))
 | [],s=>by simp[addS,QcH]
 | x::r,s=>by
  by_cases h:Go.Op.bytesLess x s=true
  ·have e1:QcH (x::r) s=QcH r s+1:=by simp only[QcH];exact if_pos h
   have e2:addS (x::r) s=x::addS r s:=by simp only[addS];exact if_pos h
   simp only[e1,e2,QEE r s,List.getElem?_cons_succ,List.take_succ_cons,List.drop_succ_cons]
   split<;>simp
  ·have e1:QcH (x::r) s=0:=by simp only[QcH];exact if_neg h
   have e2:addS (x::r) s=if x=s then x::r else s::x::r:=by simp only[addS];exact if_neg h
   simp only[e1,e2,List.getElem?_cons_zero,List.take_zero,List.drop_zero,sj]
   split<;>simp
def Qcz (j:Nat):QF:=fun xs Ks=>∃l s i,xs=[l,.s s,.n i]∧l.len≤1000000∧0≤i∧i≤l.len∧(l.len - i:Int).toNat<j∧nthK Ks 0 [l,.s s,.n (i+(QcH ((strs l.es).drop i.toNat) s:Nat))]
variable {l:LD}{q:QF}{s:Str}
theorem QzY {i:Int}{Ks:List LP}{j:Nat}(h:Qcz (j+1) [l,.s s,.n i] Ks):QqR l s i (fun ys=>Qcz j ys Ks) (nthK Ks) q:=by
 obtain⟨l_,s_,i_,eq,hl,h0,h1,hj,k0⟩:=h
 cases eq
 refine Eq.mpr (QAF ..) ?_
 have hz:(i:Int)+((0:Nat):Int)=i:=om
 refine bifD (fun hc=>?_) fun hc=>?_
 ·have hc':i<(l.len:Int):=hc
  have hlt:i.toNat<l.es.length:=by have:l.len=l.es.length:=rfl;omega
  have hlt2:i.toNat<(strs l.es).length:=by rw[strs,List.length_map];exact hlt
  have hg:=Qyo hlt
  rw[List.getElem?_eq_getElem hlt2,sj] at hg
  rw[List.drop_eq_getElem_cons hlt2,hg] at k0
  simp only[QcH] at k0
  have ei:IntKind.i64.wrap (i+1)=i+1:=QJ om om
  have e2:(i+1).toNat=i.toNat+1:=om
  rw[ei]
  refine⟨decB h0 hc,bifI (fun hn=>?_) fun hn=>?_⟩
  ·have hn':Go.Op.bytesLess ((l.es.getD i.toNat .nul).f 0).st s=true:=hn
   rw[if_pos hn'] at k0
   refine⟨l,s,i+1,rfl,hl,om,om,om,?_⟩
   rw[e2]
   have e3:i+1+((QcH ((strs l.es).drop (i.toNat+1)) s:Nat):Int)=i+((QcH ((strs l.es).drop (i.toNat+1)) s+1:Nat):Int):=om
   rw[e3];exact k0
  ·have hn':¬Go.Op.bytesLess ((l.es.getD i.toNat .nul).f 0).st s=true:=by
    intro h;have h2:Go.Op.bytesLess ((l.es.getD i.toNat .nul).f 0).st s=false:=hn;rw[h] at h2;cases h2
   rw[if_neg hn',hz] at k0;exact k0
 ·have hc':¬i<(l.len:Int):=hc
  have:l.es.length≤i.toNat:=by have:l.len=l.es.length:=rfl;omega
  rw[List.drop_eq_nil_of_le (by rw[strs,List.length_map];exact this)] at k0
  simp only[QcH] at k0
  rw[hz] at k0;exact k0
theorem u_A2 {f:TelK [.l 1,.s,.i .i64]}(hl:l.len≤1000000)(h:f l s ((QcH (strs l.es) s:Nat):Int)):∃j,Qcz j [l,.s s,.n 0] [apK [.l 1,.s,.i .i64] f]:=
 ⟨_,l,s,0,rfl,hl,om,om,nl,fun _=>by
  have e:(0:Int)+((QcH ((strs l.es).drop (0:Int).toNat) s:Nat):Int)=(QcH (strs l.es) s:Nat):=by simp
  rw[e];exact h⟩
theorem QFF (l:LD)(k n:Nat):(l.sub k (some n) none none).es=l.es.drop n:=by
 cases l<;>simp[LD.sub,LD.es,QA4,gD]
theorem QFG (l:LD)(k n:Nat)(h:n≤l.len):(l.sub k none (some n) (some n)).es=l.es.take n∧(l.sub k none (some n) (some n)).cap≤n:=by
 cases l<;>simp[LD.sub,LD.es,LD.cap,QA4,gD]
def QH:QF:=fun xs Ks=>∃l s,xs=[l,.s s]∧l.len≤1000000∧∀r:LD,strs r.es=addS (strs l.es) s→nthK Ks 0 [r]
theorem QDd {Ks:KN}(hl:l.len≤1000000)(hk:∀r:LD,strs r.es=addS (strs l.es) s→Ks 0 [r]):Qvh l s Ks q (fun xs Ks=>∃j,Qcz j xs Ks):=by
 refine Eq.mpr (QDz ..) ?_
 refine u_A2 hl ?_
 have hle:=QB7 (strs l.es) s
 have hsl:(strs l.es).length=l.len:=by rw[strs,List.length_map];rfl
 have hN:=QEE (strs l.es) s
 generalize QcH (strs l.es) s=N at hle hN
 obtain⟨p1,p2⟩:=QFG l 1 N om
 have p3:=QFF l 1 N
 have p4:(l.sub 1 none (some N) (some N)).len=N:=by
  show (l.sub 1 none (some N) (some N)).es.length=N
  rw[p1,List.length_take];have:l.len=l.es.length:=rfl;omega
 have ins:∀r:LD,r.es=l.es.take N++([.t [.s s]]++l.es.drop N)→¬(strs l.es)[N]?=some s→Ks 0 [r]:=fun r hr hn=>hk r (by
  rw[hN,if_neg hn,hr]
  simp[strs,List.map_append,List.map_take,List.map_drop,LD.f,LD.cs,LD.st])
 have tail:¬(strs l.es)[N]?=some s→((((decide (0≤(N:Int)))&&(decide ((N:Int)≤(Int.ofNat l.len))))&&((decide ((N:Int)≤(N:Int)))&&(decide ((N:Int)≤(Int.ofNat l.len)))))=true∧((decide (0≤(N:Int)))&&(decide ((N:Int)≤(Int.ofNat l.len))))=true):=fun _=>by
  have h3:(N:Int)≤Int.ofNat l.len:=by show (N:Int)≤(l.len:Int);omega
  exact⟨decA (decA (decD om) (decD h3)) (decA (decD (Int.le_refl _)) (decD h3)),decA (decD om) (decD h3)⟩
 have fin:¬(strs l.es)[N]?=some s→((((1+(l.sub 1 (some N) none none).es.length) * 16)≤140737488355328∧(1+(l.sub 1 (some N) none none).es.length)≤4611686018427387904)∧((l.sub 1 none (some N) (some N)).cap<((l.sub 1 none (some N) (some N)).len+([(LD.t [(LD.s s)])]++(l.sub 1 (some N) none none).es).length)∧(((((l.sub 1 none (some N) (some N)).len+([(LD.t [(LD.s s)])]++(l.sub 1 (some N) none none).es).length) * 16)≤140737488355328∧((l.sub 1 none (some N) (some N)).len+([(LD.t [(LD.s s)])]++(l.sub 1 (some N) none none).es).length)≤4611686018427387904)∧((((l.sub 1 none (some N) (some N)).es++([(LD.t [(LD.s s)])]++(l.sub 1 (some N) none none).es))=[]→Ks 0 [LD.nul])∧(∀a8:Go.Addr,(∀c9:Nat,(((l.sub 1 none (some N) (some N)).es++([(LD.t [(LD.s s)])]++(l.sub 1 (some N) none none).es)).length≤c9→Ks 0 [(LD.l a8 c9 ((l.sub 1 none (some N) (some N)).es++([(LD.t [(LD.s s)])]++(l.sub 1 (some N) none none).es)))]))))))):=fun hn=>by
  rw[p4,p1,p3,List.length_append,List.length_singleton,List.length_drop]
  have:l.len=l.es.length:=rfl
  refine⟨⟨om,om⟩,om,⟨om,om⟩,fun h=>by simp at h,fun a c _=>ins _ rfl hn⟩
 have key:∀n:Nat,((N:Int)).toNat=N:=fun _=>Int.toNat_natCast N
 dsimp only
 rw[key 0]
 refine bifD (fun hc=>?_) fun hc=>?_
 ·have hc':(N:Int)<(l.len:Int):=hc
  have hlt:N<l.es.length:=by have:l.len=l.es.length:=rfl;omega
  have hg:=Qyo hlt
  refine⟨decB om hc,bifD (fun he=>hk l ?_) fun he=>?_⟩
  ·have he':((l.es.getD N .nul).f 0).st=s:=he
   rw[hN,if_pos (by rw[hg,he'])]
  ·have he':¬((l.es.getD N .nul).f 0).st=s:=he
   have hn:¬(strs l.es)[N]?=some s:=by rw[hg];intro h;exact he' (by simpa using h)
   exact⟨(tail hn).1,(tail hn).2,fin hn⟩
 ·have hc':¬(N:Int)<(l.len:Int):=hc
  have hn:¬(strs l.es)[N]?=some s:=by rw[List.getElem?_eq_none om];intro h;cases h
  exact⟨(tail hn).1,(tail hn).2,fin hn⟩
end Go.Proofs.YtmdppkbekmpopaaGreat
