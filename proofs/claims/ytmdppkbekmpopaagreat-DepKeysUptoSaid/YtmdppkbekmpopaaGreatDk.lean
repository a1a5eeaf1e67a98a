import Derived.Test.YtmdppkbekmpopaaGreatRs5
set_option linter.unusedVariables false
set_option linter.unusedSimpArgs false
set_option linter.unusedSectionVars false
set_option maxRecDepth 100000
set_option maxHeartbeats 4000000
noncomputable section
namespace Go.Proofs.YtmdppkbekmpopaaGreat
open Go Go.Sh Go.Va
def QaO:QF:=fun xs Ks=>∃k b,xs=[.n k,b]∧wt b (.l 0)∧0≤k∧∀s:Str,s.length≤200000→nthK Ks 0 [.s s]
variable {k:Int}
theorem QA2 {b:LD}{f:TelK [.s]}(hb:wt b (.l 0))(h0:0≤k)(h:∀s:Str,s.length≤200000→f s):QaO [.n k,b] [apK [.s] f]:=⟨k,b,rfl,hb,h0,fun s h1 _=>h s h1⟩
def UnOk (e:LD):Prop:=∃a b:Str,e=.t [.s a,.s b]∧b.length≤200000
def Qbg:QF:=fun xs Ks=>∃g l,xs=[.n g,l]∧wt l (.l 22)∧∀r:LD,r.len≤5→(∀e∈r.es,UnOk e)→nthK Ks 0 [r]
variable {g:Int}{l:LD}
theorem QIu {f:TelK [.l 20]}(hl:wt l (.l 22))(h:∀r:LD,r.len≤5→(∀e∈r.es,UnOk e)→f r):Qbg [.n g,l] [apK [.l 20] f]:=⟨g,l,rfl,hl,fun r h1 h2 _=>h r h1 h2⟩
theorem ly22:(Vb.ly:List (List CK))[22]?=some [.l 0]:=rfl
theorem Qoa:∀e∈([]:List LD),UnOk e:=fun e h=>nomatch h
theorem Qa9 {a b:Str}{r:List LD}(hb:b.length≤200000)(h:∀e∈r,UnOk e):∀e∈.t [.s a,.s b]::r,UnOk e:=fun e he=>by
 rcases List.mem_cons.1 he with rfl | he
 ·exact⟨a,b,rfl,hb⟩
 ·exact h e he
variable {q:QF}
theorem QBu {Ks:KN}(hl:wt l (.l 22))(hk:∀r:LD,r.len≤5→(∀e∈r.es,UnOk e)→Ks 0 [r]):Qs7 g l Ks q QX Q7 QaO:=by
 refine Eq.mpr (QCC ..) ?_
 have hw:∀j:Int,0≤j→j<l.len→wt ((l.at 1 j).f 0) (.l 0):=fun j h0 h1=>QHQ (QHP hl ly22 h0 h1) rfl
 have i200:∀s:Str,s.length≤100→s.length≤200000:=fun s h=>by omega
 refine bifD (fun b0=>⟨decD b0,Qod om fun n0 _=>QA2 (hw 0 om b0) om fun t0 ht0=>?_⟩) fun _=>Qg8 fun z hz a c hc=>hk _ (by show 1≤5;omega) (Qa9 (i200 z hz) Qoa)
 refine bifD (fun b1=>⟨decD b1,Qod om fun n1 _=>QA2 (hw 1 om b1) om fun t1 ht1=>?_⟩) fun _=>Qg8 fun z hz a c hc=>hk _ (by show 2≤5;omega) (Qa9 ht0 (Qa9 (i200 z hz) Qoa))
 refine bifD (fun b2=>⟨decD b2,Qod om fun n2 _=>QA2 (hw 2 om b2) om fun t2 ht2=>?_⟩) fun _=>Qg8 fun z hz a c hc=>hk _ (by show 3≤5;omega) (Qa9 ht0 (Qa9 ht1 (Qa9 (i200 z hz) Qoa)))
 refine bifD (fun b3=>⟨decD b3,Qod om fun n3 _=>QA2 (hw 3 om b3) om fun t3 ht3=>?_⟩) fun _=>Qg8 fun z hz a c hc=>hk _ (by show 4≤5;omega) (Qa9 ht0 (Qa9 ht1 (Qa9 (i200 z hz) (Qa9 ht2 Qoa))))
 exact bifD (fun _=>Qg8 fun z hz a c hc=>hk _ (by show 5≤5;omega) (Qa9 ht0 (Qa9 ht1 (Qa9 (i200 z hz) (Qa9 ht2 (Qa9 ht3 Qoa)))))) fun _=>Qg8 fun z hz a c hc=>hk _ (by show 5≤5;omega) (Qa9 ht0 (Qa9 ht1 (Qa9 (i200 z hz) (Qa9 ht2 (Qa9 ht3 Qoa)))))
def Qax:QF:=fun xs Ks=>∃l m,xs=[l,.n m]∧∀b:Bool,nthK Ks 0 [.b b]
def QcU (j:Nat):QF:=fun xs Ks=>∃l m i,xs=[l,.n m,.n i]∧l.len≤4∧0≤i∧i≤l.len∧(l.len - i:Int).toNat<j∧nthK Ks 0 []∧nthK Ks 1 [.b false]
variable {m:Int}
theorem QIz {f:TelK [.b]}(h:∀b:Bool,f b):Qax [l,.n m] [apK [.b] f]:=⟨l,m,rfl,fun b _=>h b⟩
variable {Ks:List LP}{i:Int}{j:Nat}
theorem Qyg (h:QcU (j+1) [l,.n m,.n i] Ks):Qpi l m i (fun ys=>QcU j ys Ks) (nthK Ks) q:=by
 obtain⟨l_,m_,i_,eq,hl,h0,h1,hj,k0,k1⟩:=h
 cases eq
 refine Eq.mpr (QyY ..) ?_
 refine bifD (fun hc=>⟨decB h0 hc,bifD (fun _=>k1) fun _=>?_⟩) fun hc=>k0
 have hc':i<(l.len:Int):=hc
 have ei:IntKind.i64.wrap (i+1)=i+1:=QJ om om
 rw[ei]
 exact⟨l,m,i+1,rfl,hl,om,om,om,k0,k1⟩
theorem QBv {Ks:KN}(hk:∀b:Bool,Ks 0 [.b b]):Qs8 l m Ks q (fun xs Ks=>∃j,QcU j xs Ks):=by
 refine Eq.mpr (QCD ..) ?_
 refine bifD (fun _=>hk _) fun hc=>?_
 have hc':¬4<(l.len:Int):=hc
 exact⟨_,l,m,0,rfl,om,om,om,nl,fun _=>hk _,fun _=>hk _⟩
theorem Qnl {es:List LD}{i:Nat}(h:i<es.length):(strs es).drop i=((es.getD i .nul).f 0).st::(strs es).drop (i+1):=by
 have hl:i<(strs es).length:=by rw[strs,List.length_map];exact h
 have hg:=Qyo h
 rw[List.getElem?_eq_getElem hl,sj] at hg
 rw[List.drop_eq_getElem_cons hl,hg]
def QZ:QF:=fun xs Ks=>∃ce ar,xs=[ce,ar]∧ce.len≤5000∧ar.len≤5000∧∀n:Int,nthK Ks 0 [.n n]
variable {ar ce:LD}
theorem QDV {f:TelK [.i .i64]}(h1:ce.len≤5000)(h2:ar.len≤5000)(h:∀n:Int,f n):QZ [ce,ar] [apK [.i .i64] f]:=⟨ce,ar,rfl,h1,h2,fun n _=>h n⟩
def Qcy (j:Nat):QF:=fun xs Ks=>∃i ce ar w,xs=[.n i,ce,ar,.t w]∧ar.len≤5000∧0≤i∧i≤ar.len∧(ar.len - i:Int).toNat<j∧(w.length:Int)≤5000+i∧∀w':List LD,w'.length≤10000→nthK Ks 0 [ce,ar,.t w']
def Qbr (j:Nat):QF:=fun xs Ks=>∃l i k,xs=[l,.n i,.n k]∧l.len≤10000∧0≤k∧k≤i∧i<l.len∧(i - k:Int).toNat<j∧nthK Ks 0 [l,.n i]∧nthK Ks 1 [.n 60]
def QbN (j:Nat):QF:=fun xs Ks=>∃l i,xs=[l,.n i]∧l.len≤10000∧0≤i∧i≤l.len∧(l.len - i:Int).toNat<j∧nthK Ks 0 []∧nthK Ks 1 [.n 60]
theorem QwV {w:List LD}(h:Qcy (j+1) [.n i,ce,ar,.t w] Ks):QnZ i ce ar w (fun ys=>Qcy j ys Ks) (nthK Ks) q:=by
 obtain⟨i_,ce_,ar_,w_,eq,hl,h0,h1,hj,hw,hk⟩:=h
 cases eq
 refine Eq.mpr (QxU ..) ?_
 refine bifD (fun hc=>⟨decB h0 hc,⟨om,om⟩,?_⟩) fun hc=>hk w om
 have hc':i<(ar.len:Int):=hc
 have ei:IntKind.i64.wrap (i+1)=i+1:=QJ om om
 rw[ei]
 exact⟨i+1,ce,ar,_,rfl,hl,om,om,om,by rw[List.length_append,List.length_singleton];omega,hk⟩
theorem Qvw (h:Qbr (j+1) [l,.n i,.n k] Ks):Qm7 l i k (fun ys=>Qbr j ys Ks) (nthK Ks) q:=by
 obtain⟨l_,i_,k_,eq,hl,h0,h1,h2,hj,k0,k1⟩:=h
 cases eq
 refine Eq.mpr (Qwi ..) ?_
 refine bifD (fun hc=>⟨decB h0 (by show k<(l.len:Int);omega),decB om h2,bifD (fun _=>k1) fun _=>?_⟩) fun hc=>k0
 have ei:IntKind.i64.wrap (k+1)=k+1:=QJ om om
 rw[ei]
 exact⟨l,i,k+1,rfl,hl,om,om,h2,om,k0,k1⟩
theorem QwU (h:QbN (j+1) [l,.n i] Ks):QnY l i (fun ys=>QbN j ys Ks) (nthK Ks) q (fun xs Ks=>∃j,Qbr j xs Ks):=by
 obtain⟨l_,i_,eq,hl,h0,h1,hj,k0,k1⟩:=h
 cases eq
 refine Eq.mpr (QxT ..) ?_
 refine bifD (fun hc=>⟨_,l,i,0,rfl,hl,om,h0,hc,nl,fun _=>?_,fun _=>k1⟩) fun hc=>k0
 have hc':i<(l.len:Int):=hc
 have ei:IntKind.i64.wrap (i+1)=i+1:=QJ om om
 show QbN j [l,.n (IntKind.i64.wrap (i+1))] Ks
 rw[ei]
 exact⟨l,i+1,rfl,hl,om,om,om,k0,k1⟩
theorem QzX {Ks:KN}{q10:QF}(h1:ce.len≤5000)(h2:ar.len≤5000)(hk:∀n:Int,Ks 0 [.n n]):QqQ ce ar Ks q (fun xs Ks=>∃j,Qcy j xs Ks) (fun xs Ks=>∃j,QbN j xs Ks) q10:=by
 refine Eq.mpr (QAE ..) ?_
 have h1':ce.es.length≤5000:=h1
 refine⟨⟨om,om⟩,_,0,ce,ar,ce.es,rfl,h2,om,om,nl,om,fun w hw _=>⟨fun _=>?_,fun a c hc=>?_⟩⟩
 ·exact⟨_,.nul,0,rfl,zo,om,by simp[LD.len,LD.es],nl,fun _=>hk _,fun _=>hk _⟩
 ·exact⟨_,_,0,rfl,hw,om,om,nl,fun _=>hk _,fun _=>hk _⟩
structure FnP (fn:Str)(fp fl fb:LD):Prop where
 v:Fv fp fl
 d:ND (fp.es++fl.es) (fp.es++fl.es).length
 n:fb.len≤4096
 r:∀x∈fb.es,RS fp fl x
 m:nN fb≤4096
def FnOk (d:LD):Prop:=∃fn fp fl fb,d=.t [.s fn,fp,fl,fb]∧FnP fn fp fl fb
def PrOk (F:LD):Prop:=F.len≤5∧∀e∈F.es,FnOk e
def QaP:QF:=fun xs Ks=>∃t,xs=[t]∧t.len≤5∧(∀e∈t.es,UnOk e)∧∀gc ga F:LD,PrOk F→nthK Ks 0 [gc,ga,F]
def QaI (j:Nat):QF:=fun xs Ks=>∃t i a zc za zf gc ga pf fn fp fl fb,xs=[t,.n i,.n a,zc,za,zf,gc,ga,pf,.s fn,fp,fl,fb]∧pf.len≤5∧0≤a∧a≤pf.len∧a.toNat<j∧∀a':Int,0≤a'→a'≤pf.len→nthK Ks 0 [t,.n i,.n a',zc,za,zf,gc,ga,pf,.s fn,fp,fl,fb]
def Qbd (j:Nat):QF:=fun xs Ks=>∃t i zc za zf gc ga pf,xs=[t,.n i,zc,za,zf,gc,ga,pf]∧t.len≤5∧(∀e∈t.es,UnOk e)∧0≤i∧i≤t.len∧(t.len - i:Int).toNat<j∧(pf.len:Int)≤i∧(∀e∈pf.es,FnOk e)∧∀gc' ga' pf':LD,PrOk pf'→nthK Ks 0 [zc,za,zf,gc',ga',pf']
variable {s:Str}
theorem QIw {f:TelK [.l 1,.l 11,.i .i64,.i .i64]}(hs:s.length≤100000000)(h1:∀a e:Int,e≠0→f .nul .nul a e)(h2:∀ce ar:LD,WG ce ar→f ce ar (0:Int) (0:Int)):QW [.s s] [apK [.l 1,.l 11,.i .i64,.i .i64] f]:=⟨s,rfl,hs,fun a e h _=>h1 a e h,fun ce ar h _=>h2 ce ar h⟩
theorem QIx {f:TelK [.s,.l 9,.l 9,.l 8,.i .i64,.i .i64]}(hs:s.length≤100000000)(h1:∀a e:Int,e≠0→f [] .nul .nul .nul a e)(h2:∀(n:Str) (pa lo bo:LD),WF n pa lo bo→f n pa lo bo (0:Int) (0:Int)):Qac [.s s] [apK [.s,.l 9,.l 9,.l 8,.i .i64,.i .i64] f]:=⟨s,rfl,hs,fun a e h _=>h1 a e h,fun n pa lo bo h _=>h2 n pa lo bo h⟩
variable {fb fl fp:LD}{fn:Str}
theorem QJ1 {u:Str}{f:TelK [.s,.l 9,.l 9,.l 8,.i .i64,.i .i64]}(hv:Fv fp fl)(hb:fb.len≤4096)(hw:∀s∈fb.es,WS s)(h1:∀a e:Int,e≠0→f [] .nul .nul .nul a e)
  (h2:fn=u→ND (fp.es++fl.es) (fp.es++fl.es).length→∀r:LD,r.len≤fb.len→(∀s∈r.es,RS fp fl s)→nN r≤nN fb→f fn fp fl r (0:Int) (0:Int)):QQ [.s fn,fp,fl,fb,.s u] [apK [.s,.l 9,.l 9,.l 8,.i .i64,.i .i64] f]:=
 ⟨fn,fp,fl,fb,u,rfl,hv,hb,hw,fun a e h _=>h1 a e h,fun a b r c d e _=>h2 a b r c d e⟩
variable {ga gc pf t za zc zf:LD}{q1 q2 q3 q4:QF}
theorem QrF {a:Int}(h:QaI (j+1) [t,.n i,.n a,zc,za,zf,gc,ga,pf,.s fn,fp,fl,fb] Ks) :
  QkA t i a zc za zf gc ga pf fn fp fl fb (fun ys=>QaI j ys Ks) (nthK Ks) q q1 q2 q3 q4:=by
 obtain⟨t_,i_,a_,zc_,za_,zf_,gc_,ga_,pf_,fn_,fp_,fl_,fb_,eq,hl,h0,h1,hj,hk⟩:=h
 cases eq
 refine Eq.mpr (QsK ..) ?_
 refine bifD (fun hc=>?_) fun hc=>hk a h0 h1
 have ei:IntKind.i64.wrap (a - 1)=a - 1:=QJ om om
 rw[ei]
 exact⟨decB om (by show a - 1<(pf.len:Int);omega),bifI (fun _=>⟨t,i,a - 1,zc,za,zf,gc,ga,pf,fn,fp,fl,fb,rfl,hl,om,om,om,hk⟩) fun _=>hk a h0 h1⟩
abbrev ksG:List CK:=[.l 20,.i .i64,.i .i64,.l 1,.l 11,.l 10,.l 1,.l 11,.l 10,.s,.l 9,.l 9,.l 8]
theorem QK3 {f:TelK ksG}(hl:pf.len≤5)(h:∀a':Int,0≤a'→a'≤pf.len→f t i a' zc za zf gc ga pf fn fp fl fb) :
  ∃j,QaI j [t,.n i,.n (Int.ofNat pf.len),zc,za,zf,gc,ga,pf,.s fn,fp,fl,fb] [apK ksG f]:=⟨_,t,i,_,zc,za,zf,gc,ga,pf,fn,fp,fl,fb,rfl,hl,Int.natCast_nonneg _,Int.le_refl _,nl,fun a' b0 b1 _=>h a' b0 b1⟩
theorem QtU (h:Qbd (j+1) [t,.n i,zc,za,zf,gc,ga,pf] Ks) :
  QlG t i zc za zf gc ga pf (fun ys=>Qbd j ys Ks) (nthK Ks) q QQ Qac QW QZ (fun xs Ks=>∃j,QaI j xs Ks):=by
 obtain⟨t_,i_,zc_,za_,zf_,gc_,ga_,pf_,eq,hl,hu,h0,h1,hj,hp,hf,hk⟩:=h
 cases eq
 refine Eq.mpr (QuA ..) ?_
 refine bifD (fun hc=>⟨decB h0 hc,?_⟩) fun hc=>hk gc ga pf ⟨om,hf⟩
 have hc':i<(t.len:Int):=hc
 have hlt:i.toNat<t.es.length:=by have:t.len=t.es.length:=rfl;omega
 have ei:IntKind.i64.wrap (i+1)=i+1:=QJ om om
 obtain⟨a,b,hab,hb⟩:=hu (t.es.getD i.toNat .nul) (by rw[List.getD_eq_getElem?_getD,List.getElem?_eq_getElem hlt];exact List.getElem_mem hlt)
 have g1:((t.at 2 i).f 1).st=b:=by rw[at_f,hab];rfl
 have g0:((t.at 2 i).f 0).st=a:=by rw[at_f,hab];rfl
 have go:∀gc' ga' pf':LD,(pf'.len:Int)≤i+1→(∀e∈pf'.es,FnOk e)→Qbd j [t,.n (i+1),zc,za,zf,gc',ga',pf'] Ks:=fun gc' ga' pf' h2 h3=>⟨t,i+1,zc,za,zf,gc',ga',pf',rfl,hl,hu,om,om,om,h2,h3,hk⟩
 simp only[g0,g1,ei]
 have same:=go gc ga pf om hf
 refine bifD (fun _=>⟨decB h0 hc,QIw om (fun _ _ _=>?_) fun ce ar hw=>?_⟩) fun _=>⟨decB h0 hc,QIx om (fun _ _ hne=>?_) fun f pa lo bo hw=>?_⟩
 ·exact bifD (fun _=>QDV (zo) (zo) fun n=>bifD (fun _=>go _ _ pf om hf) fun _=>same) fun _=>same
 ·exact bifD (fun _=>QDV (Nat.le_trans hw.c.1 om) (Nat.le_trans hw.a.1 om) fun n=>bifD (fun _=>go _ _ pf om hf) fun _=>same) fun _=>same
 ·exact bifN (fun _=>same) fun h=>absurd h hne
 ·refine bifN (fun _=>same) fun _=>⟨decB h0 hc,?_⟩
  have hv:Fv pa lo:=⟨Nat.le_trans hw.p.1 om,Nat.le_trans hw.l.1 om⟩
  refine QJ1 hv hw.b.w.1 hw.b.w.2 (fun _ _ hne=>bifN (fun _=>same) fun h=>absurd h hne) fun _ hd r hr1 hr2 hr3=>bifN (fun h=>absurd rfl h) fun _=>?_
  have hbn:=hw.b.n
  have hbl:bo.len≤4096:=hw.b.w.1
  have hfn:FnOk (.t [.s f,pa,lo,r]):=⟨f,pa,lo,r,rfl,⟨hv,hd,om,hr2,om⟩⟩
  have lp:pf.len=pf.es.length:=rfl
  refine QK3 om fun a' b0 b1=>?_
  have hN:a'.toNat≤pf.len:=om
  obtain⟨p1,p2⟩:=QFG pf 4 a'.toNat hN
  have p3:=QFF pf 4 a'.toNat
  have p4:(pf.sub 4 none (some a'.toNat) (some a'.toNat)).len=a'.toNat:=by
   show (pf.sub 4 none (some a'.toNat) (some a'.toNat)).es.length=a'.toNat
   rw[p1,List.length_take];omega
  have d1:decide (a'≤Int.ofNat pf.len)=true:=decD b1
  have hmem:∀e∈pf.es.take a'.toNat++([LD.t [LD.s f,pa,lo,r]]++pf.es.drop a'.toNat),FnOk e:=fun e he=>by
   rcases List.mem_append.1 he with h | h
   ·exact hf e (List.mem_of_mem_take h)
   ·rcases List.mem_append.1 h with h | h
    ·rw[List.mem_singleton.1 h];exact hfn
    ·exact hf e (List.mem_of_mem_drop h)
  have hln:(pf.es.take a'.toNat++([LD.t [LD.s f,pa,lo,r]]++pf.es.drop a'.toNat)).length=pf.es.length+1:=by
   simp only[List.length_append,List.length_take,List.length_drop,List.length_cons,List.length_nil];omega
  rw[p4,p1,p3,ei]
  simp only[List.length_append,List.length_cons,List.length_nil,List.length_drop]
  refine⟨decA (decA (decD b0) d1) (decA (decD (Int.le_refl _)) d1),decA (decD b0) d1,trivial,trivial,⟨om,om⟩,trivial,trivial,om,⟨om,om⟩,trivial,trivial,fun h=>by simp at h,fun a2 c2 _=>?_⟩
  refine go _ _ _ ?_ hmem
  show ((pf.es.take a'.toNat++([LD.t [LD.s f,pa,lo,r]]++pf.es.drop a'.toNat)).length:Int)≤i+1
  rw[hln];omega
theorem QwN {Ks:KN}{q14:QF}(hl:t.len≤5)(hu:∀e∈t.es,UnOk e)(hk:∀gc ga F:LD,PrOk F→Ks 0 [gc,ga,F]):QnR t Ks q q1 q2 q3 q4 (fun xs Ks=>∃j,Qbd j xs Ks) q14:=by
 refine Eq.mpr (QxM ..) ?_
 exact⟨_,t,0,.nul,.nul,.nul,.nul,.nul,.nul,rfl,hl,hu,om,Int.natCast_nonneg _,nl,by simp[LD.len,LD.es],fun e h=>(nomatch h),fun gc ga F h _=>hk gc ga F h⟩
end Go.Proofs.YtmdppkbekmpopaaGreat
namespace Go.Proofs.YtmdppkbekmpopaaGreat
open Go Go.Sh Go.Va
def Qgo:Nat:=16760816
def QjN:List (Nat×RP):=(nf [0,1])
def QuS:FC:=cdF tp QjN Qgo Tryz.f125
def Qli:FFn:=.f 2 Qgo 5 [] (evC QuS)
def Qgp:Nat:=536869840
def QjO:List (Nat×RP):=(nf [0,1,2,3,4])
def QuT:FC:=cdF tp QjO Qgp Tryz.f126
def Qlj:FFn:=.f 2 Qgp 5 [] (evC QuT)
def Qgq:Nat:=1073741776
def QjP:List (Nat×RP):=(nf [0,1,2,3,4])
def QuU:FC:=cdF tp QjP Qgq Tryz.f127
def Qlk:FFn:=.f 2 Qgq 5 [] (evC QuU)
def QaE:Nat:=2596148428058486841447635043482496
def QbB:List (Nat×RP):=([pq 12 10 [0,3,6,9,12,15,18,23,24,27],pq 14 10 [0,3,6,9,12,15,18,23,24,27],pq 17 10 [0,3,6,9,12,15,18,23,24,27]]++nf [0,3,4,5,6,7,8,9,11,13,15,16,18,21,20,22,23,24,25,26])
def QsZ:FC:=cdF tp QbB QaE Tryz.f79
def Qj8:FFn:=.f 2 QaE 7 [] (evC QsZ)
def QkK:Nat:=33554368
def Qow:List (Nat×RP):=([pq 3 14 [0,3,6,9,12,15,18,21,24,27,30,33,36,39]]++nf [0,1,2])
def QAP:FC:=cdF tp Qow QkK Tryz.f32
def Qqw:FFn:=.f 1 QkK 5 [.t 2,.t 3,.t 4] (evC QAP)
def Qht:FC:=cdL tp QbB QaE 1 Tryz.f79
def QgD:FC:=cdL tp QbB QaE 19 Tryz.f79
def Qd8 (q:QF):Ctr:=⟨⟨[.p 0 0,zS],[.c [zS,zL 9,zL 9,zL 8,zL 1,zL 1,zL 1] 0]⟩,[⟨[],[.c [zS,zL 9,zL 9,zL 8,zL 1,zL 1,zL 1] 0]⟩],q⟩
def Qcc (q:QF):Ctr:=⟨⟨[.p 0 0,.h (.p 5)],[.c [zS,zL 9,zL 9,zL 8,zL 1,zL 1,zL 1] 0]⟩,[⟨[],[.c [zS,zL 9,zL 9,zL 8,zL 1,zL 1,zL 1] 0]⟩],q⟩
def QcS (q:QF):Ctr:=⟨⟨[.p 0 0,.h (.p 6)],[.c [zS,zL 9,zL 9,zL 8,zL 1,zL 1,zL 1] 0]⟩,[⟨[],[.c [zS,zL 9,zL 9,zL 8,zL 1,zL 1,zL 1] 0]⟩],q⟩
def Qcv (q:QF):Ctr:=⟨⟨[.p 0 0,zL 8],[.c [zS,zL 9,zL 9,zL 8,zL 1,zL 1,zL 1] 0]⟩,[⟨[],[.c [zS,zL 9,zL 9,zL 8,zL 1,zL 1,zL 1] 0]⟩],q⟩
def Qb9 (q:QF):LCt:=⟨1,[0,1,4],[(some 0,[])],⟨⟨[.p 0 0,zL 8,zI],[.c [zS,zL 9,zL 9,zL 8,zL 1,zL 1,zL 1] 0]⟩,[⟨[],[.c [zS,zL 9,zL 9,zL 8,zL 1,zL 1,zL 1] 0]⟩],q⟩⟩
def QaG (q:QF):LCt:=⟨19,[0,1,4,5,6],[(some 3,[0,1,4,5])],⟨⟨[.p 0 0,zL 8,zI,.p 1 0,zI],[.c [zS,zL 9,zL 9,zL 8,zL 1,zL 1,zL 1] 0,.c [zI,zS,zS,.h (.p 5),.h (.p 5),.h (.p 6),zL 7,zL 8,zL 8,zI] 0]⟩,[⟨[.p 0 0,zL 8,zI,.p 1 0],[.c [zS,zL 9,zL 9,zL 8,zL 1,zL 1,zL 1] 0,.c [zI,zS,zS,.h (.p 5),.h (.p 5),.h (.p 6),zL 7,zL 8,zL 8,zI] 0]⟩],q⟩⟩
def Qjk (q:QF):Ctr:=⟨⟨[.a [zS,zL 9,zL 9,zL 8]],[]⟩,[⟨[zL 1,zL 1,zL 1],[]⟩],q⟩
def Qiy (Ql QH:QF):Tr FFn:=(.node 165 (.leaf 49 (.q (Qih QH))) (.leaf 165 (.q (QcX Ql))))
def Qiz (Qo Qk:QF):Tr FFn:=(.node 126 (.leaf 125 (.q (Qd8 Qo))) (.leaf 126 (.q (Qcc Qk))))
def QiA (Qk Qr:QF):Tr FFn:=(.node 127 (.leaf 126 (.q (Qcc Qk))) (.leaf 127 (.q (QcS Qr))))
def Qc0 (QH Qo Qk Qr Qp:QF):Tr FFn:=(.node 125 (.node 79 (.leaf 49 (.q (Qih QH))) (.leaf 79 (.q (Qcv Qp)))) (.node 126 (.leaf 125 (.q (Qd8 Qo))) (.node 127 (.leaf 126 (.q (Qcc Qk))) (.leaf 127 (.q (QcS Qr))))))
def Qni (Qp:QF):Tr FFn:=(.leaf 79 (.q (Qcv Qp)))
def QlH:=fun (name:Str) (fn:Str) (fp:LD) (fl:LD) (fb:LD) (uc:LD) (ua:LD) (uk:LD) (Ks:KN) (q Ql QH:QF)=>QG (Qiy Ql QH) [] Qli (Qd8 q) [.s name,.s fn,fp,fl,fb,uc,ua,uk] Ks
def QlI:=fun (e:LD) (fn:Str) (fp:LD) (fl:LD) (fb:LD) (uc:LD) (ua:LD) (uk:LD) (Ks:KN) (q Qo Qk:QF)=>QG (Qiz Qo Qk) [] Qlj (Qcc q) [e,.s fn,fp,fl,fb,uc,ua,uk] Ks
def QlJ:=fun (c:LD) (fn:Str) (fp:LD) (fl:LD) (fb:LD) (uc:LD) (ua:LD) (uk:LD) (Ks:KN) (q Qk Qr:QF)=>QG (QiA Qk Qr) [] Qlk (QcS q) [c,.s fn,fp,fl,fb,uc,ua,uk] Ks
def QkB:=fun (l:LD) (fn:Str) (fp:LD) (fl:LD) (fb:LD) (uc:LD) (ua:LD) (uk:LD) (Ks:KN) (q QH Qo Qk Qr Qp ql_1 ql_19:QF)=>QG (Qc0 QH Qo Qk Qr Qp) [Qb9 ql_1,QaG ql_19] Qj8 (Qcv q) [l,.s fn,fp,fl,fb,uc,ua,uk] Ks
def Qip:=fun (l:LD) (i:Int) (fn:Str) (fp:LD) (fl:LD) (fb:LD) (uc:LD) (ua:LD) (uk:LD) (R:LP) (Ks:KN) (q QH Qo Qk Qr Qp ql_19:QF)=>Qaa (Qc0 QH Qo Qk Qr Qp) [QaG ql_19] QaE Qht (Qb9 q) [l,.n i,.s fn,fp,fl,fb,uc,ua,uk] R Ks
def Qhy:=fun (l:LD) (i:Int) (k:Int) (fn:Str) (fp:LD) (fl:LD) (fb:LD) (uc:LD) (ua:LD) (uk:LD) (s0:Int) (s1:Str) (s2:Str) (s3:LD) (s4:LD) (s5:LD) (s6:LD) (s7:LD) (s8:LD) (s9:Int) (R:LP) (Ks:KN) (q QH Qo Qk Qr Qp:QF)=>Qaa (Qc0 QH Qo Qk Qr Qp) [] QaE QgD (QaG q) [l,.n i,.n k,.s fn,fp,fl,fb,uc,ua,uk,.n s0,.s s1,.s s2,s3,s4,s5,s6,s7,s8,.n s9] R Ks
def QqO:=fun (fn:Str) (fp:LD) (fl:LD) (fb:LD) (Ks:KN) (q Qp:QF)=>QG (Qni Qp) [] Qqw (Qjk q) [.s fn,fp,fl,fb] Ks
abbrev K0Ut:List CK:=[.s,.l 9,.l 9,.l 8,.l 1,.l 1,.l 1]
theorem QuB (name fn:Str)(fp fl fb uc ua uk:LD)(Ks:KN)(q Ql QH:QF):QlH name fn fp fl fb uc ua uk Ks q Ql QH=((bif (!(decide (name=bzz []))) then Ql [.s fn,fp,fl,fb,.s name] [apK [.i .i64] fun (aa:Int)=>((bif (decide (aa=0)) then QH [uc,.s name] [apK [.l 1] fun (ab:LD)=>(Ks 0 [.s fn,fp,fl,fb,ab,ua,uk]:Prop)] else Ks 0 [.s fn,fp,fl,fb,uc,ua,uk]):Prop)] else Ks 0 [.s fn,fp,fl,fb,uc,ua,uk])):=kx
theorem QuC (e:LD)(fn:Str)(fp fl fb uc ua uk:LD)(Ks:KN)(q Qo Qk:QF):QlI e fn fp fl fb uc ua uk Ks q Qo Qk=((bif (!e.is) then Ks 0 [.s fn,fp,fl,fb,uc,ua,uk] else (e.is=true∧(bif (decide ((e.f 0).i=1)) then (e.is=true∧Qo [.s (e.f 2).st,.s fn,fp,fl,fb,uc,ua,uk] [apK K0Ut fun (aa:Str) (ab ac ad ae af ag:LD)=>((e.is=true∧Qk [(e.f 3),.s aa,ab,ac,ad,ae,af,ag] [apK K0Ut fun (ah:Str) (ai aj ak al am an:LD)=>((e.is=true∧Qk [(e.f 4),.s ah,ai,aj,ak,al,am,an] [apK K0Ut fun (ao:Str) (ap aq ar zz au av:LD)=>(Ks 0 [.s ao,ap,aq,ar,zz,au,av]:Prop)]):Prop)]):Prop)]) else (e.is=true∧Qk [(e.f 3),.s fn,fp,fl,fb,uc,ua,uk] [apK K0Ut fun (aa:Str) (ab ac ad ae af ag:LD)=>((e.is=true∧Qk [(e.f 4),.s aa,ab,ac,ad,ae,af,ag] [apK K0Ut fun (ah:Str) (ai aj ak al am an:LD)=>(Ks 0 [.s ah,ai,aj,ak,al,am,an]:Prop)]):Prop)]))))):=kx
theorem QuD (c:LD)(fn:Str)(fp fl fb uc ua uk:LD)(Ks:KN)(q Qk Qr:QF):QlJ c fn fp fl fb uc ua uk Ks q Qk Qr=((bif (!c.is) then Ks 0 [.s fn,fp,fl,fb,uc,ua,uk] else (c.is=true∧Qk [(c.f 1),.s fn,fp,fl,fb,uc,ua,uk] [apK K0Ut fun (aa:Str) (ab ac ad ae af ag:LD)=>((c.is=true∧Qk [(c.f 2),.s aa,ab,ac,ad,ae,af,ag] [apK K0Ut fun (ah:Str) (ai aj ak al am an:LD)=>((c.is=true∧Qr [(c.f 3),.s ah,ai,aj,ak,al,am,an] [apK K0Ut fun (ao:Str) (ap aq ar zz au av:LD)=>((c.is=true∧Qr [(c.f 4),.s ao,ap,aq,ar,zz,au,av] [apK K0Ut fun (aw:Str) (ax ay az a0 a1 a2:LD)=>(Ks 0 [.s aw,ax,ay,az,a0,a1,a2]:Prop)]):Prop)]):Prop)]):Prop)]))):=kx
theorem QsL (l:LD)(fn:Str)(fp fl fb uc ua uk:LD)(Ks:KN)(q QH Qo Qk Qr Qp ql_1 ql_19:QF):QkB l fn fp fl fb uc ua uk Ks q QH Qo Qk Qr Qp ql_1 ql_19=(ql_1 [l,.n (0:Int),.s fn,fp,fl,fb,uc,ua,uk] [apK K0Ut fun (aa:Str) (ab ac ad ae af ag:LD)=>(Ks 0 [.s aa,ab,ac,ad,ae,af,ag]:Prop)]):=kx
theorem Qqc (l:LD)(i:Int)(fn:Str)(fp fl fb uc ua uk:LD)(R:LP)(Ks:KN)(q QH Qo Qk Qr Qp ql_19:QF):Qip l i fn fp fl fb uc ua uk R Ks q QH Qo Qk Qr Qp ql_19=(((fun (C1:Str→LD→LD→LD→LD→LD→LD→Prop)=>(((fun (C2:Str→LD→LD→LD→LD→LD→LD→Prop)=>(((fun (C3:Prop)=>((bif (decide (i<(Int.ofNat l.len))) then (((decide (0≤i))&&(decide (i<(Int.ofNat l.len))))=true∧(bif (decide (((l.at 10 i).f 0).i=0)) then C3 else (bif (decide (((l.at 10 i).f 0).i=4)) then C3 else (bif (decide (((l.at 10 i).f 0).i=1)) then Qo [.s ((l.at 10 i).f 2).st,.s fn,fp,fl,fb,uc,ua,uk] [apK K0Ut fun (aa:Str) (ab ac ad ae af ag:LD)=>C2 aa ab ac ad ae af ag] else (bif (decide (((l.at 10 i).f 0).i=6)) then Qo [.s ((l.at 10 i).f 1).st,.s fn,fp,fl,fb,uc,ua,uk] [apK K0Ut fun (aa:Str) (ab ac ad ae af ag:LD)=>(QH [af,.s ((l.at 10 i).f 2).st] [apK [.l 1] fun (ah:LD)=>C2 aa ab ac ad ae ah ag]:Prop)] else (bif (decide (((l.at 10 i).f 0).i=7)) then QH [ua,.s ((l.at 10 i).f 2).st] [apK [.l 1] fun (ai:LD)=>(Qk [((l.at 10 i).f 3),.s fn,fp,fl,fb,uc,ai,uk] [apK K0Ut fun (aj:Str) (ac ad ae af ag ah:LD)=>C1 aj ac ad ae af ag ah]:Prop)] else (bif (decide (((l.at 10 i).f 0).i=8)) then Qo [.s ((l.at 10 i).f 1).st,.s fn,fp,fl,fb,uc,ua,uk] [apK K0Ut fun (aa:Str) (ab ac ad ae af ag:LD)=>(QH [ag,.s ((l.at 10 i).f 2).st] [apK [.l 1] fun (ah:LD)=>(ql_19 [l,.n i,.n (0:Int),.s aa,ab,ac,ad,ae,af,ah,.n ((l.at 10 i).f 0).i,.s ((l.at 10 i).f 1).st,.s ((l.at 10 i).f 2).st,((l.at 10 i).f 3),((l.at 10 i).f 4),((l.at 10 i).f 5),((l.at 10 i).f 6),((l.at 10 i).f 7),((l.at 10 i).f 8),.n ((l.at 10 i).f 9).i] [apK [.l 8,.i .i64,.s,.l 9,.l 9,.l 8,.l 1,.l 1,.l 1,.i .i64,.s,.s,.p 5,.p 5,.p 6,.l 7,.l 8,.l 8,.i .i64] fun (ak:LD) (al:Int) (am:Str) (an ao ap aq ar zz:LD) (au:Int) (av aw:Str) (ax ay az a0 a1 a2:LD) (a3:Int)=>(Qk [ax,.s am,an,ao,ap,aq,ar,zz] [apK K0Ut fun (a4:Str) (a5 a6 a7 a8 a9 ba:LD)=>(Qk [ay,.s a4,a5,a6,a7,a8,a9,ba] [apK K0Ut fun (bb:Str) (bc bd be bf bg bh:LD)=>(Qr [az,.s bb,bc,bd,be,bf,bg,bh] [apK K0Ut fun (bi:Str) (bj bk bl bm bn bp:LD)=>(Qp [a1,.s bi,bj,bk,bl,bm,bn,bp] [apK K0Ut fun (bq:Str) (br bs bt bu bv bw:LD)=>(Qp [a2,.s bq,br,bs,bt,bu,bv,bw] [apK K0Ut fun (bx:Str) (bz b0 b1 b2 b3 b4:LD)=>(R [ak,.n (IntKind.i64.wrap (al+1)),.s bx,bz,b0,b1,b2,b3,b4]:Prop)]:Prop)]:Prop)]:Prop)]:Prop)]:Prop)]:Prop)]:Prop)] else Qk [((l.at 10 i).f 3),.s fn,fp,fl,fb,uc,ua,uk] [apK K0Ut fun (aa:Str) (ab ac ad ae af ag:LD)=>C1 aa ab ac ad ae af ag]))))))) else Ks 0 [.s fn,fp,fl,fb,uc,ua,uk]):Prop)) ((Qo [.s ((l.at 10 i).f 1).st,.s fn,fp,fl,fb,uc,ua,uk] [apK K0Ut fun (aa:Str) (ab ac ad ae af ag:LD)=>C2 aa ab ac ad ae af ag]:Prop))):Prop)) (fun (aa:Str) (ab ac ad ae af ag:LD)=>((Qk [((l.at 10 i).f 3),.s aa,ab,ac,ad,ae,af,ag] [apK K0Ut fun (b5:Str) (ak b6 b7 an ao ap:LD)=>C1 b5 ak b6 b7 an ao ap]:Prop):Prop))):Prop)) (fun (b5:Str) (ak b6 b7 an ao ap:LD)=>((Qk [((l.at 10 i).f 4),.s b5,ak,b6,b7,an,ao,ap] [apK K0Ut fun (b8:Str) (ar zz b9 ca cb ax:LD)=>(Qr [((l.at 10 i).f 5),.s b8,ar,zz,b9,ca,cb,ax] [apK K0Ut fun (cc:Str) (az a0 a1 a2 cd ce:LD)=>(Qp [((l.at 10 i).f 7),.s cc,az,a0,a1,a2,cd,ce] [apK K0Ut fun (cf:Str) (a6 a7 a8 a9 ba cg:LD)=>(Qp [((l.at 10 i).f 8),.s cf,a6,a7,a8,a9,ba,cg] [apK K0Ut fun (ch:Str) (bd be bf bg bh ci:LD)=>(R [l,.n (IntKind.i64.wrap (i+1)),.s ch,bd,be,bf,bg,bh,ci]:Prop)]:Prop)]:Prop)]:Prop)]:Prop):Prop)))):=kx
theorem Qo2 (l:LD)(i k:Int)(fn:Str)(fp fl fb uc ua uk:LD)(s0:Int)(s1 s2:Str)(s3 s4 s5 s6 s7 s8:LD)(s9:Int)(R:LP)(Ks:KN)(q QH Qo Qk Qr Qp:QF):Qhy l i k fn fp fl fb uc ua uk s0 s1 s2 s3 s4 s5 s6 s7 s8 s9 R Ks q QH Qo Qk Qr Qp=((bif (decide (k<(Int.ofNat s6.len))) then (((decide (0≤k))&&(decide (k<(Int.ofNat s6.len))))=true∧Qk [((s6.at 3 k).f 2),.s fn,fp,fl,fb,uc,ua,uk] [apK K0Ut fun (aa:Str) (ab ac ad ae af ag:LD)=>(R [l,.n i,.n (IntKind.i64.wrap (k+1)),.s aa,ab,ac,ad,ae,af,ag,.n s0,.s s1,.s s2,s3,s4,s5,s6,s7,s8,.n s9]:Prop)]) else Ks 0 [l,.n i,.s fn,fp,fl,fb,uc,ua,uk,.n s0,.s s1,.s s2,s3,s4,s5,s6,s7,s8,.n s9])):=kx
theorem QAC (fn:Str)(fp fl fb:LD)(Ks:KN)(q Qp:QF):QqO fn fp fl fb Ks q Qp=(Qp [fb,.s fn,fp,fl,fb,.nul,.nul,.nul] [apK K0Ut fun (z7:Str) (y8 y9 aa ab ac ad:LD)=>(Ks 0 [ab,ac,ad]:Prop)]):=kx
def QL7:Nat:=1099511618560
def QMo:List (Nat×RP):=(nf [0,2,4,5,6,7])
def QTg:FC:=cdF tp QMo QL7 Tryz.f96
def QOf:FFn:=.f 2 QL7 6 [] (evC QTg)
def QMy:Nat:=1073732608
def QM2:List (Nat×RP):=(nf [0,2,3,4,5,6])
def QTh:FC:=cdF tp QM2 QMy Tryz.f143
def QOg:FFn:=.f 2 QMy 5 [] (evC QTh)
def QMs:Nat:=4294962176
def QMS:List (Nat×RP):=(nf [0,2,3,4,5,6])
def QSI:FC:=cdF tp QMS QMs Tryz.f100
def QNY:FFn:=.f 2 QMs 6 [] (evC QSI)
def QMr:Nat:=268434432
def QMR:List (Nat×RP):=(nf [0,2,3,4,5])
def QSH:FC:=cdF tp QMR QMr Tryz.f40
def QNX:FFn:=.f 2 QMr 5 [] (evC QSH)
def QMX:Nat:=4190192
def QNJ:List (Nat×RP):=([pq 1 6 [0,3,6,9,12,17],pq 3 8 [0,3,6,9,12,15,18,23]]++nf [0,2])
def QQG:FC:=cdF tp QNJ QMX Tryz.f144
def QMY:FFn:=.f 2 QMX 5 [] (evC QQG)
def QLT:Nat:=4835564927877962870538240
def QL0:List (Nat×RP):=([pq 3 8 [0,3,6,9,12,15,18,23],pq 7 8 [0,3,6,9,12,15,18,23],pq 9 6 [0,3,6,9,12,17],pq 11 8 [0,3,6,9,12,15,18,23],pq 15 6 [0,3,6,9,12,17]]++nf [0,2,4,6,8,10,12,14,16,17,18])
def QQ7:FC:=cdF tp QL0 QLT Tryz.f102
def QM8:FFn:=.f 2 QLT 7 [] (evC QQ7)
def QMp:Nat:=7848832
def QMP:List (Nat×RP):=(nf [0,1,3,4,5,6,7])
def QSF:FC:=cdF tp QMP QMp Tryz.f41
def QNV:FFn:=.f 2 QMp 5 [.t 4] (evC QSF)
def QMq:Nat:=31395584
def QMQ:List (Nat×RP):=(nf [0,1,3,4,5,6,7])
def QSG:FC:=cdF tp QMQ QMq Tryz.f97
def QNW:FFn:=.f 2 QMq 5 [.c 4 4 true,.t 5] (evC QSG)
def QLU:Nat:=8974205718118400
def QL3:List (Nat×RP):=(nf [0,1,2,4,5,6,9,10,11,12,15,16,17,18])
def QRn:FC:=cdF tp QL3 QLU Tryz.f42
def QME:FFn:=.f 2 QLU 6 [.t 4] (evC QRn)
def QQv:Nat:=8
def QR0:List (Nat×RP):=(nf [0,1])
def QVt:FC:=cdF tp QR0 QQv Tryz.f99
def QQz:FFn:=.f 1 QQv 3 [.t 2] (evC QVt)
def QL2:Nat:=2474635734985635830962321408
def QMc:List (Nat×RP):=([pq 4 11 [0,3,6,9,12,15,18,21,24,27,32],pq 8 9 [0,3,6,9,12,15,18,21,26],pq 17 6 [0,3,6,9,12,17]]++nf [0,1,2,3,5,7,9,10,11,13,14,15,16])
def QRR:FC:=cdF tp QMc QL2 Tryz.f43
def QNl:FFn:=.f 2 QL2 7 [] (evC QRR)
def QOt:Nat:=2
def QPD:List (Nat×RP):=(nf [0,1])
def QTG:FC:=cdF tp QPD QOt Tryz.f101
def QOu:FFn:=.f 0 QOt 2 [.c 0 6 true] (evC QTG)
def QOc:Nat:=232
def QPi:List (Nat×RP):=(nf [0,1,2,3])
def QTf:FC:=cdF tp QPi QOc Tryz.f103
def QOe:FFn:=.f 1 QOc 4 [.t 2] (evC QTf)
def QMT:Nat:=288098433749729280
def QNF:List (Nat×RP):=([pq 1 6 [3,6,9,16,2,12],pq 2 6 [0,3,6,9,14,17],pq 6 8 [0,3,6,9,12,15,20,23]]++nf [0,3,5,7,8,10,11,12,13])
def QWc:FC:=cdF tp QNF QMT Tryz.f18
def QSa:FFn:=.f 4 QMT 6 [.t 8] (evC QWc)
def QOd:Nat:=6
def QPj:List (Nat×RP):=(nf [0,1])
def QTi:FC:=cdF tp QPj QOd Tryz.f39
def QOh:FFn:=.f 0 QOd 2 [.t 0] (evC QTi)
def QNr:Nat:=248
def QOE:List (Nat×RP):=(nf [0,1])
def QSk:FC:=cdF tp QOE QNr Tryz.f44
def QNu:FFn:=.f 1 QNr 4 [.t 2] (evC QSk)
def QNH:Nat:=1048480
def QOZ:List (Nat×RP):=(nf [0,2,3,4])
def QVV:FC:=cdF tp QOZ QNH Tryz.f51
def QTx:FFn:=.f 2 QNH 5 [.t 4] (evC QVV)
def QRk:Nat:=1048480
def QSJ:List (Nat×RP):=(nf [0,1,2,3])
def QVW:FC:=cdF tp QSJ QRk Tryz.f145
def QTy:FFn:=.f 2 QRk 5 [.t 4] (evC QVW)
def QQu:Nat:=4032
def QRZ:List (Nat×RP):=(nf [0,1,2,3])
def QVr:FC:=cdF tp QRZ QQu Tryz.f50
def QSO:FFn:=.f 2 QQu 4 [.t 4] (evC QVr)
def QQs:Nat:=4064
def QRX:List (Nat×RP):=(nf [0,1])
def QVp:FC:=cdF tp QRX QQs Tryz.f45
def QSM:FFn:=.f 2 QQs 4 [.t 4] (evC QVp)
def QQt:Nat:=523232
def QRY:List (Nat×RP):=([pq 3 7 [0,3,6,12,15,11,20]]++nf [0,1,2,4])
def QVq:FC:=cdF tp QRY QQt Tryz.f104
def QSN:FFn:=.f 2 QQt 5 [.t 4] (evC QVq)
def QMM:Nat:=2147467200
def QND:List (Nat×RP):=([pq 5 13 [0,3,6,9,12,15,21,24,27,30,33,20,38]]++nf [0,1,2,4,6])
def QUw:FC:=cdF tp QND QMM Tryz.f105
def QRr:FFn:=.f 2 QMM 5 [.t 4] (evC QUw)
def QMG:Nat:=35184304979904
def QNm:List (Nat×RP):=([pq 1 10 [0,3,6,12,15,21,24,11,20,29],pq 6 15 [0,3,6,9,12,15,18,24,27,30,33,36,39,23,44]]++nf [0,2,3,5,7])
def QT8:FC:=cdF tp QNm QMG Tryz.f52
def QQY:FFn:=.f 2 QMG 6 [.t 4] (evC QT8)
def QM5:Nat:=16514496
def QN6:List (Nat×RP):=(nf [0,1,4,5,3,6])
def QUU:FC:=cdF tp QN6 QM5 Tryz.f46
def QR9:FFn:=.f 2 QM5 5 [.t 4] (evC QUU)
def QNG:Nat:=33028992
def QOY:List (Nat×RP):=(nf [0,1,4,5,3,6])
def QVU:FC:=cdF tp QOY QNG Tryz.f47
def QTw:FFn:=.f 2 QNG 5 [.c 4 4 true,.t 5] (evC QVU)
def QMN:Nat:=267385792
def QNE:List (Nat×RP):=(nf [0,1,4,5,3,6])
def QUx:FC:=cdF tp QNE QMN Tryz.f53
def QRs:FFn:=.f 2 QMN 5 [.c 4 6 true] (evC QUx)
def QL6:Nat:=174224530304863205730105345695902259527680
def QMg:List (Nat×RP):=([pq 6 13 [0,3,6,9,12,18,21,24,27,30,17,35,38],pq 7 12 [0,3,6,9,12,15,31,20,21,24,27,35],pq 18 12 [0,3,6,9,12,15,31,20,21,24,27,35]]++nf [0,1,2,3,8,9,10,13,14,12,5,15,19,20,21,22,25,24,26,17,27])
def QVo:FC:=cdF tp QMg QL6 Tryz.f19
def QSL:FFn:=.f 4 QL6 8 [.t 8] (evC QVo)
def QOI:FC:=cdL tp QMo QL7 1 Tryz.f96
def QOH:FC:=cdL tp QMo QL7 3 Tryz.f96
def QOJ:FC:=cdL tp QM2 QMy 1 Tryz.f143
def QOz:FC:=cdL tp QMS QMs 1 Tryz.f100
def QOy:FC:=cdL tp QMR QMr 1 Tryz.f40
def QNz:FC:=cdL tp QL0 QLT 1 Tryz.f102
def QNy:FC:=cdL tp QL0 QLT 5 Tryz.f102
def QNn:FC:=cdL tp QL0 QLT 13 Tryz.f102
def QOw:FC:=cdL tp QMP QMp 2 Tryz.f41
def QOx:FC:=cdL tp QMQ QMq 2 Tryz.f97
def QNM:FC:=cdL tp QL3 QLU 3 Tryz.f42
def QNL:FC:=cdL tp QL3 QLU 8 Tryz.f42
def QNx:FC:=cdL tp QL3 QLU 14 Tryz.f42
def QN1:FC:=cdL tp QMc QL2 6 Tryz.f43
def QNN:FC:=cdL tp QMc QL2 12 Tryz.f43
def QSe:FC:=cdL tp QNF QMT 4 Tryz.f18
def QSd:FC:=cdL tp QNF QMT 9 Tryz.f18
def QRw:FC:=cdL tp QOZ QNH 1 Tryz.f51
def QPM:FC:=cdL tp QND QMM 3 Tryz.f105
def QPo:FC:=cdL tp QNm QMG 4 Tryz.f52
def QQb:FC:=cdL tp QN6 QM5 2 Tryz.f46
def QRv:FC:=cdL tp QOY QNG 2 Tryz.f47
def QPN:FC:=cdL tp QNE QMN 2 Tryz.f53
def QQ3:FC:=cdL tp QMg QL6 4 Tryz.f19
def QQe:FC:=cdL tp QMg QL6 11 Tryz.f19
def QQd:FC:=cdL tp QMg QL6 16 Tryz.f19
def QQc:FC:=cdL tp QMg QL6 23 Tryz.f19
end Go.Proofs.YtmdppkbekmpopaaGreat
