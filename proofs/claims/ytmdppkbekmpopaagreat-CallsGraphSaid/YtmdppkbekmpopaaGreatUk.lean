import Derived.Test.YtmdppkbekmpopaaGreatRs3
set_option linter.unusedVariables false
set_option linter.unusedSimpArgs false
set_option maxRecDepth 100000
noncomputable section
namespace Go.Proofs.YtmdppkbekmpopaaGreat
open Go Go.Sh Go.Va
def strs (es:List LD):List Str:=es.map fun e=>(e.f 0).st
theorem Qyo {es:List LD}{i:Nat}(h:i<es.length):(strs es)[i]?=some ((es.getD i .nul).f 0).st:=by
 rw[strs,List.getElem?_map,List.getElem?_eq_getElem h,List.getD_eq_getElem?_getD,List.getElem?_eq_getElem h];rfl
def addS:List Str→Str→List Str
 | [],s=>[s]
 | x::r,s=>if Go.Op.bytesLess x s=true then x::addS r s else if x=s then x::r else s::x::r
def QcH:List Str→Str→Nat
 | [],_=>0
 | x::r,s=>if Go.Op.bytesLess x s=true then QcH r s+1 else 0
theorem QB7:∀(l:List Str)(s:Str),QcH l s≤l.length
 | [],_=>Nat.le_refl _
 | x::r,s=>by
  have:=QB7 r s
  simp only[QcH,List.length_cons];split<;>omega
theorem QEE:∀(l:List Str)(s:Str),addS l s=if l[QcH l s]?=some s then l else l.take (QcH l s)++([s]++l.drop (QcH l s))
 | [],s=>by simp[addS,QcH]
 | x::r,s=>by
  by_cases h:Go.Op.bytesLess x s=true
  ·have e1:QcH (x::r) s=QcH r s+1:=by simp only[QcH];exact if_pos h
   have e2:addS (x::r) s=x::addS r s:=by simp only[addS];exact if_pos h
   simp only[e1,e2,QEE r s,List.getElem?_cons_succ,List.take_succ_cons,List.drop_succ_cons]
   split<;>simp
  ·have e1:QcH (x::r) s=0:=by simp only[QcH];exact if_neg h
   have e2:addS (x::r) s=if x=s then x::r else s::x::r:=by simp only[addS];exact if_neg h
   simp only[e1,e2,List.getElem?_cons_zero,List.take_zero,List.drop_zero,Option.some.injEq]
   split<;>simp
def Qcz (j:Nat):QF:=fun xs Ks=>∃l s i,xs=[l,.s s,.n i]∧l.len≤1000000∧0≤i∧i≤l.len∧(l.len - i:Int).toNat<j∧nthK Ks 0 [l,.s s,.n (i+(QcH ((strs l.es).drop i.toNat) s:Nat))]
theorem QzY {l:LD}{s:Str}{i:Int}{Ks:List (List LD→Prop)}{q:QF}{j:Nat}(h:Qcz (j+1) [l,.s s,.n i] Ks):QqR l s i (fun ys=>Qcz j ys Ks) (nthK Ks) q:=by
 obtain⟨l_,s_,i_,eq,hl,h0,h1,hj,k0⟩:=h
 simp only[List.cons.injEq,LD.n.injEq,LD.s.injEq,and_true] at eq
 obtain⟨rfl,rfl,rfl⟩:=eq
 refine Eq.mpr (QAF ..) ?_
 have hz:(i:Int)+((0:Nat):Int)=i:=by omega
 refine bifD (fun hc=>?_) fun hc=>?_
 ·have hc':i<(l.len:Int):=hc
  have hlt:i.toNat<l.es.length:=by have:l.len=l.es.length:=rfl;omega
  have hlt2:i.toNat<(strs l.es).length:=by rw[strs,List.length_map];exact hlt
  have hg:=Qyo hlt
  rw[List.getElem?_eq_getElem hlt2,Option.some.injEq] at hg
  rw[List.drop_eq_getElem_cons hlt2,hg] at k0
  simp only[QcH] at k0
  have ei:IntKind.i64.wrap (i+1)=i+1:=QJ (by omega) (by omega)
  have e2:(i+1).toNat=i.toNat+1:=by omega
  rw[ei]
  refine⟨decB h0 hc,bifI (fun hn=>?_) fun hn=>?_⟩
  ·have hn':Go.Op.bytesLess ((l.es.getD i.toNat .nul).f 0).st s=true:=hn
   rw[if_pos hn'] at k0
   refine⟨l,s,i+1,rfl,hl,by omega,by omega,by omega,?_⟩
   rw[e2]
   have e3:i+1+((QcH ((strs l.es).drop (i.toNat+1)) s:Nat):Int)=i+((QcH ((strs l.es).drop (i.toNat+1)) s+1:Nat):Int):=by omega
   rw[e3];exact k0
  ·have hn':¬Go.Op.bytesLess ((l.es.getD i.toNat .nul).f 0).st s=true:=by
    intro h;have h2:Go.Op.bytesLess ((l.es.getD i.toNat .nul).f 0).st s=false:=hn;rw[h] at h2;cases h2
   rw[if_neg hn',hz] at k0;exact k0
 ·have hc':¬i<(l.len:Int):=hc
  have:l.es.length≤i.toNat:=by have:l.len=l.es.length:=rfl;omega
  rw[List.drop_eq_nil_of_le (by rw[strs,List.length_map];exact this)] at k0
  simp only[QcH] at k0
  rw[hz] at k0;exact k0
theorem u_A2 {l:LD}{s:Str}{f:TelK [.l 1,.s,.i .i64]}(hl:l.len≤1000000)(h:f l s ((QcH (strs l.es) s:Nat):Int)):∃j,Qcz j [l,.s s,.n 0] [apK [.l 1,.s,.i .i64] f]:=
 ⟨_,l,s,0,rfl,hl,by omega,by omega,Nat.lt_succ_self _,fun _=>by
  have e:(0:Int)+((QcH ((strs l.es).drop (0:Int).toNat) s:Nat):Int)=(QcH (strs l.es) s:Nat):=by simp
  rw[e];exact h⟩
theorem QFF (l:LD)(k n:Nat):(l.sub k (some n) none none).es=l.es.drop n:=by
 cases l<;>simp[LD.sub,LD.es,QA4,gD]
theorem QFG (l:LD)(k n:Nat)(h:n≤l.len):(l.sub k none (some n) (some n)).es=l.es.take n∧(l.sub k none (some n) (some n)).cap≤n:=by
 cases l<;>simp[LD.sub,LD.es,LD.cap,QA4,gD]
def QH:QF:=fun xs Ks=>∃l s,xs=[l,.s s]∧l.len≤1000000∧∀r:LD,strs r.es=addS (strs l.es) s→nthK Ks 0 [r]
theorem QDd {l:LD}{s:Str}{Ks:Nat→List LD→Prop}{q:QF}(hl:l.len≤1000000)(hk:∀r:LD,strs r.es=addS (strs l.es) s→Ks 0 [r]):Qvh l s Ks q (fun xs Ks=>∃j,Qcz j xs Ks):=by
 refine Eq.mpr (QDz ..) ?_
 refine u_A2 hl ?_
 have hle:=QB7 (strs l.es) s
 have hsl:(strs l.es).length=l.len:=by rw[strs,List.length_map];rfl
 have hN:=QEE (strs l.es) s
 generalize QcH (strs l.es) s=N at hle hN
 obtain⟨p1,p2⟩:=QFG l 1 N (by omega)
 have p3:=QFF l 1 N
 have p4:(l.sub 1 none (some N) (some N)).len=N:=by
  show (l.sub 1 none (some N) (some N)).es.length=N
  rw[p1,List.length_take];have:l.len=l.es.length:=rfl;omega
 have ins:∀r:LD,r.es=l.es.take N++([.t [.s s]]++l.es.drop N)→¬(strs l.es)[N]?=some s→Ks 0 [r]:=fun r hr hn=>hk r (by
  rw[hN,if_neg hn,hr]
  simp[strs,List.map_append,List.map_take,List.map_drop,LD.f,LD.cs,LD.st])
 have tail:¬(strs l.es)[N]?=some s→((((decide (0≤(N:Int)))&&(decide ((N:Int)≤(Int.ofNat l.len))))&&((decide ((N:Int)≤(N:Int)))&&(decide ((N:Int)≤(Int.ofNat l.len)))))=true∧((decide (0≤(N:Int)))&&(decide ((N:Int)≤(Int.ofNat l.len))))=true):=fun _=>by
  have h3:(N:Int)≤Int.ofNat l.len:=by show (N:Int)≤(l.len:Int);omega
  exact⟨decA (decA (decD (by omega)) (decD h3)) (decA (decD (Int.le_refl _)) (decD h3)),decA (decD (by omega)) (decD h3)⟩
 have fin:¬(strs l.es)[N]?=some s→((((1+(l.sub 1 (some N) none none).es.length) * 16)≤140737488355328∧(1+(l.sub 1 (some N) none none).es.length)≤4611686018427387904)∧((l.sub 1 none (some N) (some N)).cap<((l.sub 1 none (some N) (some N)).len+([(LD.t [(LD.s s)])]++(l.sub 1 (some N) none none).es).length)∧(((((l.sub 1 none (some N) (some N)).len+([(LD.t [(LD.s s)])]++(l.sub 1 (some N) none none).es).length) * 16)≤140737488355328∧((l.sub 1 none (some N) (some N)).len+([(LD.t [(LD.s s)])]++(l.sub 1 (some N) none none).es).length)≤4611686018427387904)∧((((l.sub 1 none (some N) (some N)).es++([(LD.t [(LD.s s)])]++(l.sub 1 (some N) none none).es))=[]→Ks 0 [LD.nul])∧(∀a8:Go.Addr,(∀c9:Nat,(((l.sub 1 none (some N) (some N)).es++([(LD.t [(LD.s s)])]++(l.sub 1 (some N) none none).es)).length≤c9→Ks 0 [(LD.l a8 c9 ((l.sub 1 none (some N) (some N)).es++([(LD.t [(LD.s s)])]++(l.sub 1 (some N) none none).es)))]))))))):=fun hn=>by
  rw[p4,p1,p3,List.length_append,List.length_singleton,List.length_drop]
  have:l.len=l.es.length:=rfl
  refine⟨⟨by omega,by omega⟩,by omega,⟨by omega,by omega⟩,fun h=>by simp at h,fun a c _=>ins _ rfl hn⟩
 have key:∀n:Nat,((N:Int)).toNat=N:=fun _=>Int.toNat_natCast N
 dsimp only
 rw[key 0]
 refine bifD (fun hc=>?_) fun hc=>?_
 ·have hc':(N:Int)<(l.len:Int):=hc
  have hlt:N<l.es.length:=by have:l.len=l.es.length:=rfl;omega
  have hg:=Qyo hlt
  refine⟨decB (by omega) hc,bifD (fun he=>hk l ?_) fun he=>?_⟩
  ·have he':((l.es.getD N .nul).f 0).st=s:=he
   rw[hN,if_pos (by rw[hg,he'])]
  ·have he':¬((l.es.getD N .nul).f 0).st=s:=he
   have hn:¬(strs l.es)[N]?=some s:=by rw[hg];intro h;exact he' (by simpa using h)
   exact⟨(tail hn).1,(tail hn).2,fin hn⟩
 ·have hc':¬(N:Int)<(l.len:Int):=hc
  have hn:¬(strs l.es)[N]?=some s:=by rw[List.getElem?_eq_none (by omega)];intro h;cases h
  exact⟨(tail hn).1,(tail hn).2,fin hn⟩
end Go.Proofs.YtmdppkbekmpopaaGreat
set_option maxHeartbeats 4000000
namespace Go.Proofs.YtmdppkbekmpopaaGreat
open Go Go.Sh Go.Va
def QaO:QF:=fun xs Ks=>∃k b,xs=[.n k,b]∧wt b (.l 0)∧0≤k∧∀s:Str,s.length≤200000→nthK Ks 0 [.s s]
theorem QA2 {k:Int}{b:LD}{f:TelK [.s]}(hb:wt b (.l 0))(h0:0≤k)(h:∀s:Str,s.length≤200000→f s):QaO [.n k,b] [apK [.s] f]:=⟨k,b,rfl,hb,h0,fun s h1 _=>h s h1⟩
def UnOk (e:LD):Prop:=∃a b:Str,e=.t [.s a,.s b]∧b.length≤200000
def Qbg:QF:=fun xs Ks=>∃g l,xs=[.n g,l]∧wt l (.l 22)∧∀r:LD,r.len≤5→(∀e∈r.es,UnOk e)→nthK Ks 0 [r]
theorem QIu {g:Int}{l:LD}{f:TelK [.l 20]}(hl:wt l (.l 22))(h:∀r:LD,r.len≤5→(∀e∈r.es,UnOk e)→f r):Qbg [.n g,l] [apK [.l 20] f]:=⟨g,l,rfl,hl,fun r h1 h2 _=>h r h1 h2⟩
theorem ly22:(Vb.ly:List (List CK))[22]?=some [.l 0]:=rfl
theorem Qoa:∀e∈([]:List LD),UnOk e:=fun e h=>nomatch h
theorem Qa9 {a b:Str}{r:List LD}(hb:b.length≤200000)(h:∀e∈r,UnOk e):∀e∈.t [.s a,.s b]::r,UnOk e:=fun e he=>by
 rcases List.mem_cons.1 he with rfl | he
 ·exact⟨a,b,rfl,hb⟩
 ·exact h e he
theorem QBu {g:Int}{l:LD}{Ks:Nat→List LD→Prop}{q:QF}(hl:wt l (.l 22))(hk:∀r:LD,r.len≤5→(∀e∈r.es,UnOk e)→Ks 0 [r]):Qs7 g l Ks q QX Q7 QaO:=by
 refine Eq.mpr (QCC ..) ?_
 have hw:∀j:Int,0≤j→j<l.len→wt ((l.at 1 j).f 0) (.l 0):=fun j h0 h1=>QHQ (QHP hl ly22 h0 h1) rfl
 have i200:∀s:Str,s.length≤100→s.length≤200000:=fun s h=>by omega
 refine bifD (fun b0=>⟨decD b0,Qod (by omega) fun n0 _=>QA2 (hw 0 (by omega) b0) (by omega) fun t0 ht0=>?_⟩) fun _=>Qg8 fun z hz a c hc=>hk _ (by show 1≤5;omega) (Qa9 (i200 z hz) Qoa)
 refine bifD (fun b1=>⟨decD b1,Qod (by omega) fun n1 _=>QA2 (hw 1 (by omega) b1) (by omega) fun t1 ht1=>?_⟩) fun _=>Qg8 fun z hz a c hc=>hk _ (by show 2≤5;omega) (Qa9 ht0 (Qa9 (i200 z hz) Qoa))
 refine bifD (fun b2=>⟨decD b2,Qod (by omega) fun n2 _=>QA2 (hw 2 (by omega) b2) (by omega) fun t2 ht2=>?_⟩) fun _=>Qg8 fun z hz a c hc=>hk _ (by show 3≤5;omega) (Qa9 ht0 (Qa9 ht1 (Qa9 (i200 z hz) Qoa)))
 refine bifD (fun b3=>⟨decD b3,Qod (by omega) fun n3 _=>QA2 (hw 3 (by omega) b3) (by omega) fun t3 ht3=>?_⟩) fun _=>Qg8 fun z hz a c hc=>hk _ (by show 4≤5;omega) (Qa9 ht0 (Qa9 ht1 (Qa9 (i200 z hz) (Qa9 ht2 Qoa))))
 exact bifD (fun _=>Qg8 fun z hz a c hc=>hk _ (by show 5≤5;omega) (Qa9 ht0 (Qa9 ht1 (Qa9 (i200 z hz) (Qa9 ht2 (Qa9 ht3 Qoa)))))) fun _=>Qg8 fun z hz a c hc=>hk _ (by show 5≤5;omega) (Qa9 ht0 (Qa9 ht1 (Qa9 (i200 z hz) (Qa9 ht2 (Qa9 ht3 Qoa)))))
def Qax:QF:=fun xs Ks=>∃l m,xs=[l,.n m]∧∀b:Bool,nthK Ks 0 [.b b]
def QcU (j:Nat):QF:=fun xs Ks=>∃l m i,xs=[l,.n m,.n i]∧l.len≤4∧0≤i∧i≤l.len∧(l.len - i:Int).toNat<j∧nthK Ks 0 []∧nthK Ks 1 [.b false]
theorem QIz {l:LD}{m:Int}{f:TelK [.b]}(h:∀b:Bool,f b):Qax [l,.n m] [apK [.b] f]:=⟨l,m,rfl,fun b _=>h b⟩
theorem Qyg {l:LD}{m i:Int}{Ks:List (List LD→Prop)}{q:QF}{j:Nat}(h:QcU (j+1) [l,.n m,.n i] Ks):Qpi l m i (fun ys=>QcU j ys Ks) (nthK Ks) q:=by
 obtain⟨l_,m_,i_,eq,hl,h0,h1,hj,k0,k1⟩:=h
 simp only[List.cons.injEq,LD.n.injEq,and_true] at eq
 obtain⟨rfl,rfl,rfl⟩:=eq
 refine Eq.mpr (QyY ..) ?_
 refine bifD (fun hc=>⟨decB h0 hc,bifD (fun _=>k1) fun _=>?_⟩) fun hc=>k0
 have hc':i<(l.len:Int):=hc
 have ei:IntKind.i64.wrap (i+1)=i+1:=QJ (by omega) (by omega)
 rw[ei]
 exact⟨l,m,i+1,rfl,hl,by omega,by omega,by omega,k0,k1⟩
theorem QBv {l:LD}{m:Int}{Ks:Nat→List LD→Prop}{q:QF}(hk:∀b:Bool,Ks 0 [.b b]):Qs8 l m Ks q (fun xs Ks=>∃j,QcU j xs Ks):=by
 refine Eq.mpr (QCD ..) ?_
 refine bifD (fun _=>hk _) fun hc=>?_
 have hc':¬4<(l.len:Int):=hc
 exact⟨_,l,m,0,rfl,by omega,by omega,by omega,Nat.lt_succ_self _,fun _=>hk _,fun _=>hk _⟩
def Q3:QF:=fun xs Ks=>∃a b,xs=[a,b]∧a.len≤1000000∧(strs a.es=strs b.es→nthK Ks 0 [.b true])∧(strs a.es≠strs b.es→nthK Ks 0 [.b false])
def Qcm (j:Nat):QF:=fun xs Ks=>∃a b i,xs=[a,b,.n i]∧a.len≤1000000∧a.len=b.len∧0≤i∧i≤a.len∧(a.len - i:Int).toNat<j∧((strs a.es).drop i.toNat=(strs b.es).drop i.toNat→nthK Ks 0 [])∧((strs a.es).drop i.toNat≠(strs b.es).drop i.toNat→nthK Ks 1 [.b false])
theorem QFD {a b:LD}{f:TelK [.b]}(hl:a.len≤1000000)(h:strs a.es=strs b.es)(hf:f true):Q3 [a,b] [apK [.b] f]:=⟨a,b,rfl,hl,fun _ _=>hf,fun hn=>absurd h hn⟩
theorem Qnl {es:List LD}{i:Nat}(h:i<es.length):(strs es).drop i=((es.getD i .nul).f 0).st::(strs es).drop (i+1):=by
 have hl:i<(strs es).length:=by rw[strs,List.length_map];exact h
 have hg:=Qyo h
 rw[List.getElem?_eq_getElem hl,Option.some.injEq] at hg
 rw[List.drop_eq_getElem_cons hl,hg]
theorem Qvy {a b:LD}{i:Int}{Ks:List (List LD→Prop)}{q:QF}{j:Nat}(h:Qcm (j+1) [a,b,.n i] Ks):Qm9 a b i (fun ys=>Qcm j ys Ks) (nthK Ks) q:=by
 obtain⟨a_,b_,i_,eq,hl,hab,h0,h1,hj,k0,k1⟩:=h
 simp only[List.cons.injEq,LD.n.injEq,and_true] at eq
 obtain⟨rfl,rfl,rfl⟩:=eq
 refine Eq.mpr (Qwk ..) ?_
 have la:a.len=a.es.length:=rfl
 have lb:b.len=b.es.length:=rfl
 refine bifD (fun hc=>?_) fun hc=>k0 ?_
 ·have hc':i<(a.len:Int):=hc
  have ha:i.toNat<a.es.length:=by omega
  have hb:i.toNat<b.es.length:=by omega
  rw[Qnl ha,Qnl hb] at k0 k1
  have ei:IntKind.i64.wrap (i+1)=i+1:=QJ (by omega) (by omega)
  have e2:(i+1).toNat=i.toNat+1:=by omega
  rw[ei]
  refine⟨decB h0 hc,decB h0 (by show i<(b.len:Int);omega),bifN (fun hn=>k1 ?_) fun hn=>?_⟩
  ·intro h
   rw[List.cons.injEq] at h
   exact hn h.1
  ·have hn':((a.es.getD i.toNat .nul).f 0).st=((b.es.getD i.toNat .nul).f 0).st:=hn
   rw[hn'] at k0 k1
   exact⟨a,b,i+1,rfl,hl,hab,by omega,by omega,by omega,fun h=>k0 (by rw[e2] at h;rw[h]),fun h=>k1 (by rw[e2] at h;intro h';rw[List.cons.injEq] at h';exact h h'.2)⟩
 ·have hc':¬i<(a.len:Int):=hc
  rw[List.drop_eq_nil_of_le (by rw[strs,List.length_map];omega),List.drop_eq_nil_of_le (by rw[strs,List.length_map];omega)]
theorem Qym {a b:LD}{Ks:Nat→List LD→Prop}{q:QF}(hl:a.len≤1000000)(k0:strs a.es=strs b.es→Ks 0 [.b true])(k1:strs a.es≠strs b.es→Ks 0 [.b false]):Qpo a b Ks q (fun xs Ks=>∃j,Qcm j xs Ks):=by
 refine Eq.mpr (Qy4 ..) ?_
 refine bifN (fun hn=>k1 ?_) fun he=>?_
 ·intro h
  apply hn
  have:=congrArg List.length h
  rw[strs,strs,List.length_map,List.length_map] at this
  show (a.es.length:Int)=(b.es.length:Int)
  omega
 ·have he':(a.len:Int)=(b.len:Int):=he
  exact⟨_,a,b,0,rfl,hl,by omega,by omega,by omega,Nat.lt_succ_self _,fun h _=>k0 h,fun h _=>k1 h⟩
def QZ:QF:=fun xs Ks=>∃ce ar,xs=[ce,ar]∧ce.len≤5000∧ar.len≤5000∧∀n:Int,nthK Ks 0 [.n n]
theorem QDV {ce ar:LD}{f:TelK [.i .i64]}(h1:ce.len≤5000)(h2:ar.len≤5000)(h:∀n:Int,f n):QZ [ce,ar] [apK [.i .i64] f]:=⟨ce,ar,rfl,h1,h2,fun n _=>h n⟩
def Qcy (j:Nat):QF:=fun xs Ks=>∃i ce ar w,xs=[.n i,ce,ar,.t w]∧ar.len≤5000∧0≤i∧i≤ar.len∧(ar.len - i:Int).toNat<j∧(w.length:Int)≤5000+i∧∀w':List LD,w'.length≤10000→nthK Ks 0 [ce,ar,.t w']
def Qbr (j:Nat):QF:=fun xs Ks=>∃l i k,xs=[l,.n i,.n k]∧l.len≤10000∧0≤k∧k≤i∧i<l.len∧(i - k:Int).toNat<j∧nthK Ks 0 [l,.n i]∧nthK Ks 1 [.n 60]
def QbN (j:Nat):QF:=fun xs Ks=>∃l i,xs=[l,.n i]∧l.len≤10000∧0≤i∧i≤l.len∧(l.len - i:Int).toNat<j∧nthK Ks 0 []∧nthK Ks 1 [.n 60]
theorem QwV {i:Int}{ce ar:LD}{w:List LD}{Ks:List (List LD→Prop)}{q:QF}{j:Nat}(h:Qcy (j+1) [.n i,ce,ar,.t w] Ks):QnZ i ce ar w (fun ys=>Qcy j ys Ks) (nthK Ks) q:=by
 obtain⟨i_,ce_,ar_,w_,eq,hl,h0,h1,hj,hw,hk⟩:=h
 simp only[List.cons.injEq,LD.n.injEq,LD.t.injEq,and_true] at eq
 obtain⟨rfl,rfl,rfl,rfl⟩:=eq
 refine Eq.mpr (QxU ..) ?_
 refine bifD (fun hc=>⟨decB h0 hc,⟨by omega,by omega⟩,?_⟩) fun hc=>hk w (by omega)
 have hc':i<(ar.len:Int):=hc
 have ei:IntKind.i64.wrap (i+1)=i+1:=QJ (by omega) (by omega)
 rw[ei]
 exact⟨i+1,ce,ar,_,rfl,hl,by omega,by omega,by omega,by rw[List.length_append,List.length_singleton];omega,hk⟩
theorem Qvw {l:LD}{i k:Int}{Ks:List (List LD→Prop)}{q:QF}{j:Nat}(h:Qbr (j+1) [l,.n i,.n k] Ks):Qm7 l i k (fun ys=>Qbr j ys Ks) (nthK Ks) q:=by
 obtain⟨l_,i_,k_,eq,hl,h0,h1,h2,hj,k0,k1⟩:=h
 simp only[List.cons.injEq,LD.n.injEq,and_true] at eq
 obtain⟨rfl,rfl,rfl⟩:=eq
 refine Eq.mpr (Qwi ..) ?_
 refine bifD (fun hc=>⟨decB h0 (by show k<(l.len:Int);omega),decB (by omega) h2,bifD (fun _=>k1) fun _=>?_⟩) fun hc=>k0
 have ei:IntKind.i64.wrap (k+1)=k+1:=QJ (by omega) (by omega)
 rw[ei]
 exact⟨l,i,k+1,rfl,hl,by omega,by omega,h2,by omega,k0,k1⟩
theorem QwU {l:LD}{i:Int}{Ks:List (List LD→Prop)}{q:QF}{j:Nat}(h:QbN (j+1) [l,.n i] Ks):QnY l i (fun ys=>QbN j ys Ks) (nthK Ks) q (fun xs Ks=>∃j,Qbr j xs Ks):=by
 obtain⟨l_,i_,eq,hl,h0,h1,hj,k0,k1⟩:=h
 simp only[List.cons.injEq,LD.n.injEq,and_true] at eq
 obtain⟨rfl,rfl⟩:=eq
 refine Eq.mpr (QxT ..) ?_
 refine bifD (fun hc=>⟨_,l,i,0,rfl,hl,by omega,h0,hc,Nat.lt_succ_self _,fun _=>?_,fun _=>k1⟩) fun hc=>k0
 have hc':i<(l.len:Int):=hc
 have ei:IntKind.i64.wrap (i+1)=i+1:=QJ (by omega) (by omega)
 show QbN j [l,.n (IntKind.i64.wrap (i+1))] Ks
 rw[ei]
 exact⟨l,i+1,rfl,hl,by omega,by omega,by omega,k0,k1⟩
theorem QzX {ce ar:LD}{Ks:Nat→List LD→Prop}{q q10:QF}(h1:ce.len≤5000)(h2:ar.len≤5000)(hk:∀n:Int,Ks 0 [.n n]):QqQ ce ar Ks q (fun xs Ks=>∃j,Qcy j xs Ks) (fun xs Ks=>∃j,QbN j xs Ks) q10:=by
 refine Eq.mpr (QAE ..) ?_
 have h1':ce.es.length≤5000:=h1
 refine⟨⟨by omega,by omega⟩,_,0,ce,ar,ce.es,rfl,h2,by omega,by omega,Nat.lt_succ_self _,by omega,fun w hw _=>⟨fun _=>?_,fun a c hc=>?_⟩⟩
 ·exact⟨_,.nul,0,rfl,Nat.zero_le _,by omega,by simp[LD.len,LD.es],Nat.lt_succ_self _,fun _=>hk _,fun _=>hk _⟩
 ·exact⟨_,_,0,rfl,hw,by omega,by omega,Nat.lt_succ_self _,fun _=>hk _,fun _=>hk _⟩
structure FnP (fn:Str)(fp fl fb:LD):Prop where
 v:Fv fp fl
 d:ND (fp.es++fl.es) (fp.es++fl.es).length
 n:fb.len≤4096
 r:∀x∈fb.es,RS fp fl x
 m:nN fb≤4096
def FnOk (d:LD):Prop:=∃fn fp fl fb,d=.t [.s fn,fp,fl,fb]∧FnP fn fp fl fb
def PrOk (F:LD):Prop:=F.len≤5∧∀e∈F.es,FnOk e
def QaP:QF:=fun xs Ks=>∃t,xs=[t]∧t.len≤5∧(∀e∈t.es,UnOk e)∧∀gc ga F:LD,PrOk F→nthK Ks 0 [gc,ga,F]
def QaI (j:Nat):QF:=fun xs Ks=>∃t i a zc za zf gc ga pf fn fp fl fb,xs=[t,.n i,.n a,zc,za,zf,gc,ga,pf,.s fn,fp,fl,fb]∧pf.len≤5∧0≤a∧a≤pf.len∧a.toNat<j∧∀a':Int,0≤a'→a'≤pf.len→nthK Ks 0 [t,.n i,.n a',zc,za,zf,gc,ga,pf,.s fn,fp,fl,fb]
def Qbd (j:Nat):QF:=fun xs Ks=>∃t i zc za zf gc ga pf,xs=[t,.n i,zc,za,zf,gc,ga,pf]∧t.len≤5∧(∀e∈t.es,UnOk e)∧0≤i∧i≤t.len∧(t.len - i:Int).toNat<j∧(pf.len:Int)≤i∧(∀e∈pf.es,FnOk e)∧∀gc' ga' pf':LD,PrOk pf'→nthK Ks 0 [zc,za,zf,gc',ga',pf']
theorem QIw {s:Str}{f:TelK [.l 1,.l 11,.i .i64,.i .i64]}(hs:s.length≤100000000)(h1:∀a e:Int,e≠0→f .nul .nul a e)(h2:∀ce ar:LD,WG ce ar→f ce ar (0:Int) (0:Int)):QW [.s s] [apK [.l 1,.l 11,.i .i64,.i .i64] f]:=⟨s,rfl,hs,fun a e h _=>h1 a e h,fun ce ar h _=>h2 ce ar h⟩
theorem QIx {s:Str}{f:TelK [.s,.l 9,.l 9,.l 8,.i .i64,.i .i64]}(hs:s.length≤100000000)(h1:∀a e:Int,e≠0→f [] .nul .nul .nul a e)(h2:∀(n:Str) (pa lo bo:LD),WF n pa lo bo→f n pa lo bo (0:Int) (0:Int)):Qac [.s s] [apK [.s,.l 9,.l 9,.l 8,.i .i64,.i .i64] f]:=⟨s,rfl,hs,fun a e h _=>h1 a e h,fun n pa lo bo h _=>h2 n pa lo bo h⟩
theorem QJ1 {fn u:Str}{fp fl fb:LD}{f:TelK [.s,.l 9,.l 9,.l 8,.i .i64,.i .i64]}(hv:Fv fp fl)(hb:fb.len≤4096)(hw:∀s∈fb.es,WS s)(h1:∀a e:Int,e≠0→f [] .nul .nul .nul a e)
  (h2:fn=u→ND (fp.es++fl.es) (fp.es++fl.es).length→∀r:LD,r.len≤fb.len→(∀s∈r.es,RS fp fl s)→nN r≤nN fb→f fn fp fl r (0:Int) (0:Int)):QQ [.s fn,fp,fl,fb,.s u] [apK [.s,.l 9,.l 9,.l 8,.i .i64,.i .i64] f]:=
 ⟨fn,fp,fl,fb,u,rfl,hv,hb,hw,fun a e h _=>h1 a e h,fun a b r c d e _=>h2 a b r c d e⟩
theorem QrF {t:LD}{i a:Int}{zc za zf gc ga pf:LD}{fn:Str}{fp fl fb:LD}{Ks:List (List LD→Prop)}{q q1 q2 q3 q4:QF}{j:Nat}(h:QaI (j+1) [t,.n i,.n a,zc,za,zf,gc,ga,pf,.s fn,fp,fl,fb] Ks) :
  QkA t i a zc za zf gc ga pf fn fp fl fb (fun ys=>QaI j ys Ks) (nthK Ks) q q1 q2 q3 q4:=by
 obtain⟨t_,i_,a_,zc_,za_,zf_,gc_,ga_,pf_,fn_,fp_,fl_,fb_,eq,hl,h0,h1,hj,hk⟩:=h
 simp only[List.cons.injEq,LD.n.injEq,LD.s.injEq,and_true] at eq
 obtain⟨rfl,rfl,rfl,rfl,rfl,rfl,rfl,rfl,rfl,rfl,rfl,rfl,rfl⟩:=eq
 refine Eq.mpr (QsK ..) ?_
 refine bifD (fun hc=>?_) fun hc=>hk a h0 h1
 have ei:IntKind.i64.wrap (a - 1)=a - 1:=QJ (by omega) (by omega)
 rw[ei]
 exact⟨decB (by omega) (by show a - 1<(pf.len:Int);omega),bifI (fun _=>⟨t,i,a - 1,zc,za,zf,gc,ga,pf,fn,fp,fl,fb,rfl,hl,by omega,by omega,by omega,hk⟩) fun _=>hk a h0 h1⟩
abbrev ksG:List CK:=[.l 20,.i .i64,.i .i64,.l 1,.l 11,.l 10,.l 1,.l 11,.l 10,.s,.l 9,.l 9,.l 8]
theorem QK3 {t:LD}{i:Int}{zc za zf gc ga pf:LD}{fn:Str}{fp fl fb:LD}{f:TelK ksG}(hl:pf.len≤5)(h:∀a':Int,0≤a'→a'≤pf.len→f t i a' zc za zf gc ga pf fn fp fl fb) :
  ∃j,QaI j [t,.n i,.n (Int.ofNat pf.len),zc,za,zf,gc,ga,pf,.s fn,fp,fl,fb] [apK ksG f]:=⟨_,t,i,_,zc,za,zf,gc,ga,pf,fn,fp,fl,fb,rfl,hl,Int.natCast_nonneg _,Int.le_refl _,Nat.lt_succ_self _,fun a' b0 b1 _=>h a' b0 b1⟩
theorem QtU {t:LD}{i:Int}{zc za zf gc ga pf:LD}{Ks:List (List LD→Prop)}{q:QF}{j:Nat}(h:Qbd (j+1) [t,.n i,zc,za,zf,gc,ga,pf] Ks) :
  QlG t i zc za zf gc ga pf (fun ys=>Qbd j ys Ks) (nthK Ks) q QQ Qac QW QZ (fun xs Ks=>∃j,QaI j xs Ks):=by
 obtain⟨t_,i_,zc_,za_,zf_,gc_,ga_,pf_,eq,hl,hu,h0,h1,hj,hp,hf,hk⟩:=h
 simp only[List.cons.injEq,LD.n.injEq,and_true] at eq
 obtain⟨rfl,rfl,rfl,rfl,rfl,rfl,rfl,rfl⟩:=eq
 refine Eq.mpr (QuA ..) ?_
 refine bifD (fun hc=>⟨decB h0 hc,?_⟩) fun hc=>hk gc ga pf ⟨by omega,hf⟩
 have hc':i<(t.len:Int):=hc
 have hlt:i.toNat<t.es.length:=by have:t.len=t.es.length:=rfl;omega
 have ei:IntKind.i64.wrap (i+1)=i+1:=QJ (by omega) (by omega)
 obtain⟨a,b,hab,hb⟩:=hu (t.es.getD i.toNat .nul) (by rw[List.getD_eq_getElem?_getD,List.getElem?_eq_getElem hlt];exact List.getElem_mem hlt)
 have g1:((t.at 2 i).f 1).st=b:=by rw[at_f,hab];rfl
 have g0:((t.at 2 i).f 0).st=a:=by rw[at_f,hab];rfl
 have go:∀gc' ga' pf':LD,(pf'.len:Int)≤i+1→(∀e∈pf'.es,FnOk e)→Qbd j [t,.n (i+1),zc,za,zf,gc',ga',pf'] Ks:=fun gc' ga' pf' h2 h3=>⟨t,i+1,zc,za,zf,gc',ga',pf',rfl,hl,hu,by omega,by omega,by omega,h2,h3,hk⟩
 simp only[g0,g1,ei]
 have same:=go gc ga pf (by omega) hf
 refine bifD (fun _=>⟨decB h0 hc,QIw (by omega) (fun _ _ _=>?_) fun ce ar hw=>?_⟩) fun _=>⟨decB h0 hc,QIx (by omega) (fun _ _ hne=>?_) fun f pa lo bo hw=>?_⟩
 ·exact bifD (fun _=>QDV (Nat.zero_le _) (Nat.zero_le _) fun n=>bifD (fun _=>go _ _ pf (by omega) hf) fun _=>same) fun _=>same
 ·exact bifD (fun _=>QDV (Nat.le_trans hw.c.1 (by omega)) (Nat.le_trans hw.a.1 (by omega)) fun n=>bifD (fun _=>go _ _ pf (by omega) hf) fun _=>same) fun _=>same
 ·exact bifN (fun _=>same) fun h=>absurd h hne
 ·refine bifN (fun _=>same) fun _=>⟨decB h0 hc,?_⟩
  have hv:Fv pa lo:=⟨Nat.le_trans hw.p.1 (by omega),Nat.le_trans hw.l.1 (by omega)⟩
  refine QJ1 hv hw.b.w.1 hw.b.w.2 (fun _ _ hne=>bifN (fun _=>same) fun h=>absurd h hne) fun _ hd r hr1 hr2 hr3=>bifN (fun h=>absurd rfl h) fun _=>?_
  have hbn:=hw.b.n
  have hbl:bo.len≤4096:=hw.b.w.1
  have hfn:FnOk (.t [.s f,pa,lo,r]):=⟨f,pa,lo,r,rfl,⟨hv,hd,by omega,hr2,by omega⟩⟩
  have lp:pf.len=pf.es.length:=rfl
  refine QK3 (by omega) fun a' b0 b1=>?_
  have hN:a'.toNat≤pf.len:=by omega
  obtain⟨p1,p2⟩:=QFG pf 4 a'.toNat hN
  have p3:=QFF pf 4 a'.toNat
  have p4:(pf.sub 4 none (some a'.toNat) (some a'.toNat)).len=a'.toNat:=by
   show (pf.sub 4 none (some a'.toNat) (some a'.toNat)).es.length=a'.toNat
   rw[p1,List.length_take];omega
  have d1:decide (a'≤Int.ofNat pf.len)=true:=decD b1
  have hmem:∀e∈pf.es.take a'.toNat++([LD.t [LD.s f,pa,lo,r]]++pf.es.drop a'.toNat),FnOk e:=fun e he=>by
   rcases List.mem_append.1 he with h | h
   ·exact hf e (List.mem_of_mem_take h)
   ·rcases List.mem_append.1 h with h | h
    ·rw[List.mem_singleton.1 h];exact hfn
    ·exact hf e (List.mem_of_mem_drop h)
  have hln:(pf.es.take a'.toNat++([LD.t [LD.s f,pa,lo,r]]++pf.es.drop a'.toNat)).length=pf.es.length+1:=by
   simp only[List.length_append,List.length_take,List.length_drop,List.length_cons,List.length_nil];omega
  rw[p4,p1,p3,ei]
  simp only[List.length_append,List.length_cons,List.length_nil,List.length_drop]
  refine⟨decA (decA (decD b0) d1) (decA (decD (Int.le_refl _)) d1),decA (decD b0) d1,trivial,trivial,⟨by omega,by omega⟩,trivial,trivial,by omega,⟨by omega,by omega⟩,trivial,trivial,fun h=>by simp at h,fun a2 c2 _=>?_⟩
  refine go _ _ _ ?_ hmem
  show ((pf.es.take a'.toNat++([LD.t [LD.s f,pa,lo,r]]++pf.es.drop a'.toNat)).length:Int)≤i+1
  rw[hln];omega
theorem QwN {t:LD}{Ks:Nat→List LD→Prop}{q q1 q2 q3 q4 q14:QF}(hl:t.len≤5)(hu:∀e∈t.es,UnOk e)(hk:∀gc ga F:LD,PrOk F→Ks 0 [gc,ga,F]):QnR t Ks q q1 q2 q3 q4 (fun xs Ks=>∃j,Qbd j xs Ks) q14:=by
 refine Eq.mpr (QxM ..) ?_
 exact⟨_,t,0,.nul,.nul,.nul,.nul,.nul,.nul,rfl,hl,hu,by omega,Int.natCast_nonneg _,Nat.lt_succ_self _,by simp[LD.len,LD.es],fun e h=>(nomatch h),fun gc ga F h _=>hk gc ga F h⟩
def Qab:QF:=fun xs Ks=>∃g l,xs=[.n g,l]∧wt l (.l 22)∧∀gc ga F:LD,PrOk F→nthK Ks 0 [gc,ga,F]
theorem Qyf {g:Int}{l:LD}{Ks:Nat→List LD→Prop}{q:QF}(hl:wt l (.l 22))(hk:∀gc ga F:LD,PrOk F→Ks 0 [gc,ga,F]):Qph g l Ks q Qbg QaP:=by
 refine Eq.mpr (QyX ..) ?_
 exact QIu hl fun r h1 h2=>⟨r,rfl,h1,h2,fun gc ga F h _=>hk gc ga F h⟩
def Qgo:Nat:=16760816
def QjN:List (Nat×RP):=(nf [0,1])
def QuS:FC:=cdF Tryz.prog QjN Qgo Tryz.f125
def Qli:FFn:=.f 2 Qgo 5 [] (evC QuS)
def Qgp:Nat:=536869840
def QjO:List (Nat×RP):=(nf [0,1,2,3,4])
def QuT:FC:=cdF Tryz.prog QjO Qgp Tryz.f126
def Qlj:FFn:=.f 2 Qgp 5 [] (evC QuT)
def Qgq:Nat:=1073741776
def QjP:List (Nat×RP):=(nf [0,1,2,3,4])
def QuU:FC:=cdF Tryz.prog QjP Qgq Tryz.f127
def Qlk:FFn:=.f 2 Qgq 5 [] (evC QuU)
def QaE:Nat:=2596148428058486841447635043482496
def QbB:List (Nat×RP):=([pq 12 10 [0,3,6,9,12,15,18,23,24,27],pq 14 10 [0,3,6,9,12,15,18,23,24,27],pq 17 10 [0,3,6,9,12,15,18,23,24,27]]++nf [0,3,4,5,6,7,8,9,11,13,15,16,18,21,20,22,23,24,25,26])
def QsZ:FC:=cdF Tryz.prog QbB QaE Tryz.f79
def Qj8:FFn:=.f 2 QaE 7 [] (evC QsZ)
def QkK:Nat:=33554368
def Qow:List (Nat×RP):=([pq 3 14 [0,3,6,9,12,15,18,21,24,27,30,33,36,39]]++nf [0,1,2])
def QAP:FC:=cdF Tryz.prog Qow QkK Tryz.f32
def Qqw:FFn:=.f 1 QkK 5 [.t 2,.t 3,.t 4] (evC QAP)
def QaK:Nat:=4722294407682884233408
def QbU:List (Nat×RP):=(nf [0,1,2,5,4,6,9,10,11,14,15,16,13,17,8])
def QAQ:FC:=cdF Tryz.prog QbU QaK Tryz.f12
def Qqx:FFn:=.f 1 QaK 7 [.t 2] (evC QAQ)
def Qht:FC:=cdL Tryz.prog QbB QaE 1 Tryz.f79
def QgD:FC:=cdL Tryz.prog QbB QaE 19 Tryz.f79
def QmG:FC:=cdL Tryz.prog QbU QaK 3 Tryz.f12
def QmF:FC:=cdL Tryz.prog QbU QaK 7 Tryz.f12
def Qlt:FC:=cdL Tryz.prog QbU QaK 12 Tryz.f12
end Go.Proofs.YtmdppkbekmpopaaGreat
