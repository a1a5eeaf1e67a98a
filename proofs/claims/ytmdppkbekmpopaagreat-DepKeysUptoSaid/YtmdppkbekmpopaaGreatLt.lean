import Derived.Test.YtmdppkbekmpopaaGreatDs2
set_option linter.unusedVariables false
set_option linter.unusedSimpArgs false
set_option linter.unusedSectionVars false
set_option maxRecDepth 100000
noncomputable section
namespace Go.Proofs.YtmdppkbekmpopaaGreat
open Go Go.Sh Go.Va
def QLA:QF:=fun xs Ks=>∃n w,xs=[.n n,.t w]∧wr w (nuB n) Ks
def QLR:QF:=fun xs Ks=>∃n w,xs=[.n n,.t w]∧wr w (inB n) Ks
def QLC:QF:=fun xs Ks=>∃b w,xs=[.b b,.t w]∧wr w (boB b) Ks
def QLF:QF:=fun xs Ks=>∃s w,xs=[.s s,.t w]∧wr w (stB s) Ks
def QLY:QF:=fun xs Ks=>∃so lo hi w,xs=[.b so,.n lo,.n hi,.t w]∧wr w (ivB so lo hi) Ks
def QLW:QF:=fun xs Ks=>∃l w,xs=[l,.t w]∧l.len≤1000000∧wr w (nuB (Int.ofNat l.len)++l.es.flatMap gA) Ks
def QLG:QF:=fun xs Ks=>∃al en so lo hi mo w,xs=[al,.b en,.b so,.n lo,.n hi,mo,.t w]∧(al.len≤1000000∧mo.len≤1000000)∧wr w (suB al en so lo hi mo) Ks
section
variable {w:List LD}{f:TelK [.r 0]}
variable {n:Int}
theorem QRe (hf:Fit w (nuB n))(h:f (w++nuB n)):QLA [.n n,.t w] [apK [.r 0] f]:=⟨n,w,rfl,hf,fun _=>h⟩
theorem QUA (hf:Fit w (inB n))(h:f (w++inB n)):QLR [.n n,.t w] [apK [.r 0] f]:=⟨n,w,rfl,hf,fun _=>h⟩
theorem QPy {b:Bool}(hf:Fit w (boB b))(h:f (w++boB b)):QLC [.b b,.t w] [apK [.r 0] f]:=⟨b,w,rfl,hf,fun _=>h⟩
theorem QQK {s:Str}(hf:Fit w (stB s))(h:f (w++stB s)):QLF [.s s,.t w] [apK [.r 0] f]:=⟨s,w,rfl,hf,fun _=>h⟩
variable {hi lo:Int}{so:Bool}
theorem QUH (hf:Fit w (ivB so lo hi))(h:f (w++ivB so lo hi)):QLY [.b so,.n lo,.n hi,.t w] [apK [.r 0] f]:=⟨so,lo,hi,w,rfl,hf,fun _=>h⟩
theorem QUI {l:LD}(hl:l.len≤1000000)(hf:Fit w (nuB (Int.ofNat l.len)++l.es.flatMap gA))(h:f (w++(nuB (Int.ofNat l.len)++l.es.flatMap gA))):QLW [l,.t w] [apK [.r 0] f]:=⟨l,w,rfl,hl,hf,fun _=>h⟩
theorem QV4 {al:LD}{en:Bool}{mo:LD}(hl:al.len≤1000000∧mo.len≤1000000)(hf:Fit w (suB al en so lo hi mo))(h:f (w++suB al en so lo hi mo)):QLG [al,.b en,.b so,.n lo,.n hi,mo,.t w] [apK [.r 0] f]:=⟨al,en,so,lo,hi,mo,w,rfl,hl,hf,fun _=>h⟩
end
def QPu (j:Nat):QF:=fun xs Ks=>∃v w,xs=[.n v,.t w]∧v.toNat<j∧Fit w (nuB v)∧∀v' w',w'++[nb (IntKind.wrap .u8 v')]=w++nuB v→nthK Ks 0 [.n v',.t w']
variable {j:Nat}{q:QF}{v:Int}{w:List LD}
theorem QUE {Ks:List LP}(h:QPu (j+1) [.n v,.t w] Ks):QSn v w (fun ys=>QPu j ys Ks) (nthK Ks) q:=by
 obtain⟨v_,w_,eq,hj,hf,hk⟩:=h
 cases eq
 refine Eq.mpr (QUS ..) ?_
 rw[nuB] at hf hk
 refine bifD (fun hc=>?_) fun hc=>?_
 ·rw[dif_pos hc] at hf hk
  rw[show ∀(x:LD) (r:List LD),x::r=[x]++r from fun _ _=>rfl] at hf hk
  refine⟨fit1 hf.l rfl,v / 128,_,rfl,om,hf.r,fun v' w' he=>hk v' w' ?_⟩
  rw[he,List.append_assoc];rfl
 ·rw[dif_neg hc] at hf hk
  exact hk v w rfl
variable {Ks:KN}
theorem QVL (hf:Fit w (nuB v))(hk:Ks 0 [.t (w++nuB v)]):QTI v w Ks q (fun xs Ks=>∃j,QPu j xs Ks):=by
 refine Eq.mpr (QVS ..) ?_
 refine⟨_,v,w,rfl,nl,hf,fun v' w' he _=>⟨fit1 hf he,?_⟩⟩
 show Ks 0 [.t (w'++[nb (IntKind.wrap .u8 v')])]
 rw[he];exact hk
variable {n:Int}
theorem QVM (hf:Fit w (inB n))(hk:Ks 0 [.t (w++inB n)]):QTJ n w Ks q QLA:=by
 refine Eq.mpr (QVT ..) ?_
 rw[inB,inV] at hf hk
 refine bifD (fun hc=>?_) fun hc=>?_
 ·rw[decide_eq_false om] at hf hk;exact QRe hf hk
 ·rw[decide_eq_true om] at hf hk;exact QRe hf hk
theorem QUZ {b:Bool}(hf:Fit w (boB b))(hk:Ks 0 [.t (w++boB b)]):QSW b w Ks q:=by
 refine Eq.mpr (QVk ..) ?_
 cases b
 ·exact bifF ⟨fit1 hf rfl,hk⟩
 ·exact bifT ⟨fit1 hf rfl,hk⟩
variable {s:Str}
theorem QUX (hf:Fit w (stB s))(hk:Ks 0 [.t (w++stB s)]):QSU s w Ks q QLA:=by
 refine Eq.mpr (QVi ..) ?_
 refine QRe hf.l ⟨fitS hf,?_⟩
 rw[List.append_assoc];exact hk
variable {hi lo:Int}{so:Bool}
theorem QUY (hf:Fit w (ivB so lo hi))(hk:Ks 0 [.t (w++ivB so lo hi)]):QSV so lo hi w Ks q QLR QLC:=by
 refine Eq.mpr (QVj ..) ?_
 cases so with
 | true=>
  refine bifT (QPy hf.l (bifT (QUA hf.r.l ⟨rfl,QUA hf.r.r ?_⟩)))
  rw[List.append_assoc,List.append_assoc];exact hk
 | false=>exact bifF (QPy hf.l (bifF (by rw[ivB,cond_false,List.append_nil] at hk;exact hk)))
def QPA (j:Nat):QF:=fun xs Ks=>∃l i w,xs=[l,.n i,.t w]∧0≤i∧((l.len:Int) - i).toNat<j∧l.len≤1000000∧Fit w (fmD gA l.es i)∧nthK Ks 0 [.t (w++fmD gA l.es i)]
variable {i:Int}{l:LD}{q1:QF}
theorem QTl {Ks:List LP}(h:QPA (j+1) [l,.n i,.t w] Ks):QQg l i w (fun ys=>QPA j ys Ks) (nthK Ks) q q1 QLR:=by
 obtain⟨l_,i_,w_,eq,h0,hj,hl,hf,hk⟩:=h
 cases eq
 refine Eq.mpr (QTC ..) ?_
 have le:l.len=l.es.length:=rfl
 refine bifD (fun hc=>⟨decB h0 hc,decB h0 hc,?_⟩) fun hc=>?_
 ·have hc':i<(l.len:Int):=hc
  rw[QNv h0 om] at hf hk
  have e:gA (l.es.getD i.toNat .nul)=inB ((l.at 2 i).f 0).i++inB ((l.at 2 i).f 1).i:=by simp only[at_f];rfl
  rw[e] at hf hk
  refine QUA hf.l.l (QUA hf.l.r ?_)
  show QPA j [l,.n (IntKind.i64.wrap (i+1)),_] Ks
  rw[QJ (x:=i+1) om om,List.append_assoc]
  rw[←List.append_assoc] at hk
  exact⟨l,i+1,_,rfl,om,om,hl,hf.r,hk⟩
 ·have hc':¬i<(l.len:Int):=hc
  rwa [QNw om,List.append_nil] at hk
theorem QUe (hl:l.len≤1000000)(hf:Fit w (nuB (Int.ofNat l.len)++l.es.flatMap gA))(hk:Ks 0 [.t (w++(nuB (Int.ofNat l.len)++l.es.flatMap gA))]):QRy l w Ks q QLA q1 (fun xs Ks=>∃j,QPA j xs Ks):=by
 refine Eq.mpr (QUs ..) ?_
 rw[←List.append_assoc] at hk
 exact QRe hf.l ⟨_,l,0,_,rfl,om,nl,hl,hf.r,fun _=>hk⟩
def QPz (j:Nat):QF:=fun xs Ks=>∃i w al en so lo hi mo,xs=[.n i,.t w,al,.b en,.b so,.n lo,.n hi,mo]∧0≤i∧((mo.len:Int) - i).toNat<j∧mo.len≤1000000∧Fit w (fmD gM mo.es i)∧nthK Ks 0 [.t (w++fmD gM mo.es i),al,.b en,.b so,.n lo,.n hi,mo]
variable {al mo:LD}{en:Bool}
theorem QS1 {Ks:List LP}{q2 q3:QF}(h:QPz (j+1) [.n i,.t w,al,.b en,.b so,.n lo,.n hi,mo] Ks) :
  QPU i w al en so lo hi mo (fun ys=>QPz j ys Ks) (nthK Ks) q q1 q2 QLF QLY q3:=by
 obtain⟨i_,w_,al_,en_,so_,lo_,hi_,mo_,eq,h0,hj,hl,hf,hk⟩:=h
 cases eq
 refine Eq.mpr (QS9 ..) ?_
 have le:mo.len=mo.es.length:=rfl
 refine bifD (fun hc=>⟨decB h0 hc,decB h0 hc,?_⟩) fun hc=>?_
 ·have hc':i<(mo.len:Int):=hc
  rw[QNv h0 om] at hf hk
  have e:gM (mo.es.getD i.toNat .nul)=stB ((mo.at 4 i).f 0).st++ivB ((mo.at 4 i).f 1).bo ((mo.at 4 i).f 2).i ((mo.at 4 i).f 3).i:=by simp only[at_f];rfl
  rw[e] at hf hk
  refine QQK hf.l.l ⟨rfl,rfl,QUH hf.l.r ⟨rfl,rfl,?_⟩⟩
  show QPz j [.n (IntKind.i64.wrap (i+1)),.t (w++stB ((mo.at 4 i).f 0).st++_),al,.b en,.b so,.n lo,.n hi,mo] Ks
  rw[QJ (x:=i+1) om om,List.append_assoc]
  rw[←List.append_assoc] at hk
  exact⟨i+1,_,al,en,so,lo,hi,mo,rfl,om,om,hl,hf.r,hk⟩
 ·have hc':¬i<(mo.len:Int):=hc
  rwa [QNw om,List.append_nil] at hk
theorem QTO (hl:al.len≤1000000∧mo.len≤1000000)(hf:Fit w (suB al en so lo hi mo))(hk:Ks 0 [.t (w++suB al en so lo hi mo)]) :
  QRc al en so lo hi mo w Ks q QLA QLC QLF QLY QLW (fun xs Ks=>∃j,QPz j xs Ks):=by
 refine Eq.mpr (QT4 ..) ?_
 have hf2:Fit w ((nuB (Int.ofNat al.len)++al.es.flatMap gA)++(boB en++(ivB so lo hi++(nuB (Int.ofNat mo.len)++mo.es.flatMap gM)))):=by rw[List.append_assoc];exact hf
 have fin:Ks 0 [.t (w++(nuB (Int.ofNat al.len)++al.es.flatMap gA)++boB en++ivB so lo hi++nuB (Int.ofNat mo.len)++fmD gM mo.es 0)]:=by
  rw[QWn]
  simp only[suB,List.append_assoc] at hk ⊢
  exact hk
 cases en
 ·exact bifF (QUI hl.1 hf2.l ⟨⟨rfl,rfl,rfl,trivial⟩,rfl,QPy hf2.r.l ⟨⟨rfl,rfl,rfl,trivial⟩,QUH hf2.r.r.l (QRe hf2.r.r.r.l ⟨_,0,_,al,_,so,lo,hi,mo,rfl,om,nl,hl.2,hf2.r.r.r.r,fun _=>fin⟩)⟩⟩)
 ·exact bifT (QUI hl.1 hf2.l ⟨⟨rfl,rfl,rfl,trivial⟩,rfl,QPy hf2.r.l ⟨⟨rfl,rfl,rfl,trivial⟩,QUH hf2.r.r.l (QRe hf2.r.r.r.l ⟨_,0,_,al,_,so,lo,hi,mo,rfl,om,nl,hl.2,hf2.r.r.r.r,fun _=>fin⟩)⟩⟩)
def fnD (es:List LD)(s:Str)(i:Int):Option LD:=(es.drop i.toNat).find? fun e=>decide ((e.f 0).st=s)
abbrev fnE (es:List LD)(s:Str):Option LD:=fnD es s 0
variable {es:List LD}
theorem QQ1 (h0:0≤i)(h1:i<(es.length:Int)):fnD es s i=if ((es.getD i.toNat .nul).f 0).st=s then some (es.getD i.toNat .nul) else fnD es s (i+1):=by
 have hl:i.toNat<es.length:=om
 have e2:(i+1).toNat=i.toNat+1:=om
 have hg:es.getD i.toNat .nul=es[i.toNat]:=by rw[List.getD_eq_getElem?_getD,List.getElem?_eq_getElem hl];rfl
 rw[fnD,List.drop_eq_getElem_cons hl,List.find?_cons,fnD,e2,hg]
 by_cases h:(es[i.toNat].f 0).st=s
 ·rw[decide_eq_true h,if_pos h]
 ·rw[decide_eq_false h,if_neg h]
theorem QQ2 (h1:¬i<(es.length:Int)):fnD es s i=none:=by
 rw[fnD,List.drop_eq_nil_of_le om];rfl
theorem QNg {e:LD}(h:fnE es s=some e):e∈es∧(e.f 0).st=s:=by
 have h':es.find? (fun e=>decide ((e.f 0).st=s))=some e:=h
 exact⟨List.mem_of_find?_eq_some h',by simpa using List.find?_some h'⟩
def txN (es:List LD)(s:Str):Str:=match fnE es s with
 | some e=>(e.f 1).st
 | none=>[]
def QQM (j:Nat):QF:=fun xs Ks=>∃name t i,xs=[.s name,t,.n (t.len:Int),.n i]∧0≤i∧((t.len:Int) - i).toNat<j∧t.len≤1000000∧(fnD t.es name i=none→nthK Ks 0 [])∧∀e,fnD t.es name i=some e→nthK Ks 1 [.s (e.f 1).st]
variable {name:Str}{t:LD}
theorem QRC {Ks:List LP}(h:QQM (j+1) [.s name,t,.n n,.n i] Ks):QOK name t n i (fun ys=>QQM j ys Ks) (nthK Ks) q:=by
 obtain⟨name_,t_,i_,eq,h0,hj,hl,k0,k1⟩:=h
 cases eq
 refine Eq.mpr (QRM ..) ?_
 have le:t.len=t.es.length:=rfl
 refine bifD (fun hc=>⟨decB h0 hc,?_⟩) fun hc=>k0 (QQ2 om)
 rw[QQ1 h0 om] at k0 k1
 rw[QJ (x:=i+1) om om]
 simp only[at_f]
 refine bifD (fun he=>?_) fun he=>?_
 ·rw[if_pos he] at k1;exact k1 _ rfl
 ·rw[if_neg he] at k0 k1
  exact⟨name,t,i+1,rfl,om,om,hl,k0,k1⟩
def QLL:QF:=fun xs Ks=>∃name gc ga pf t su w,xs=[.s name,gc,ga,pf,t,su,.t w]∧t.len≤1000000∧nthK Ks 0 [.s (txN t.es name),gc,ga,pf,t,su,.t w]
variable {ga gc pf su:LD}
theorem QVY {f:TelK [.s,.l 1,.l 11,.l 10,.l 20,.l 16,.r 0]}(hl:t.len≤1000000)(h:f (txN t.es name) gc ga pf t su w):QLL [.s name,gc,ga,pf,t,su,.t w] [apK [.s,.l 1,.l 11,.l 10,.l 20,.l 16,.r 0] f]:=⟨name,gc,ga,pf,t,su,w,rfl,hl,fun _=>h⟩
theorem QSt (hl:t.len≤1000000)(hk:Ks 0 [.s (txN t.es name),gc,ga,pf,t,su,.t w]):QPq name gc ga pf t su w Ks q (fun xs Ks=>∃j,QQM j xs Ks):=by
 refine Eq.mpr (QSB ..) ?_
 refine⟨_,name,t,0,rfl,om,nl,hl,fun h _=>?_,fun e h _=>?_⟩
 ·rw[txN,show fnE t.es name=none from h] at hk;exact hk
 ·rw[txN,show fnE t.es name=some e from h] at hk;exact hk
def QQN (j:Nat):QF:=fun xs Ks=>∃t name i,xs=[t,.s name,.n i]∧0≤i∧((t.len:Int) - i).toNat<j∧t.len≤1000000∧(fnD t.es name i=none→nthK Ks 0 [])∧∀e,fnD t.es name i=some e→nthK Ks 1 [.s (e.f 1).st]
theorem QTK {Ks:List LP}(h:QQN (j+1) [t,.s name,.n i] Ks):QQ8 t name i (fun ys=>QQN j ys Ks) (nthK Ks) q:=by
 obtain⟨t_,name_,i_,eq,h0,hj,hl,k0,k1⟩:=h
 cases eq
 refine Eq.mpr (QT0 ..) ?_
 have le:t.len=t.es.length:=rfl
 refine bifD (fun hc=>⟨decB h0 hc,?_⟩) fun hc=>k0 (QQ2 (by have hc':¬i<(t.len:Int):=hc;omega))
 have hc':i<(t.len:Int):=hc
 rw[QQ1 h0 om] at k0 k1
 rw[QJ (x:=i+1) om om]
 simp only[at_f]
 refine bifD (fun he=>⟨decB h0 hc,?_⟩) fun he=>?_
 ·rw[if_pos he] at k1;exact k1 _ rfl
 ·rw[if_neg he] at k0 k1
  exact⟨t,name,i+1,rfl,om,om,hl,k0,k1⟩
def QLN:QF:=fun xs Ks=>∃t name,xs=[t,.s name]∧t.len≤1000000∧nthK Ks 0 [.s (txN t.es name)]
theorem QV3 {f:TelK [.s]}(hl:t.len≤1000000)(h:f (txN t.es name)):QLN [t,.s name] [apK [.s] f]:=⟨t,name,rfl,hl,fun _=>h⟩
theorem QUC (hl:t.len≤1000000)(hk:Ks 0 [.s (txN t.es name)]):QSl t name Ks q (fun xs Ks=>∃j,QQN j xs Ks):=by
 refine Eq.mpr (QUQ ..) ?_
 refine⟨_,t,name,0,rfl,om,nl,hl,fun h _=>?_,fun e h _=>?_⟩
 ·rw[txN,show fnE t.es name=none from h] at hk;exact hk
 ·rw[txN,show fnE t.es name=some e from h] at hk;exact hk
def QQQ (j:Nat):QF:=fun xs Ks=>∃name l i fn fp fl fb,xs=[.s name,l,.n (l.len:Int),.n i,.s fn,fp,fl,fb]∧0≤i∧((l.len:Int) - i).toNat<j∧l.len≤1000000∧(fnD l.es name i=none→nthK Ks 0 [.s fn,fp,fl,fb])∧∀e,fnD l.es name i=some e→nthK Ks 1 [.b true,.s (e.f 0).st,e.f 1,e.f 2,e.f 3]
variable {fb fl fp:LD}{fn:Str}
theorem QRD {Ks:List LP}(h:QQQ (j+1) [.s name,l,.n n,.n i,.s fn,fp,fl,fb] Ks):QOL name l n i fn fp fl fb (fun ys=>QQQ j ys Ks) (nthK Ks) q:=by
 obtain⟨name_,l_,i_,fn_,fp_,fl_,fb_,eq,h0,hj,hl,k0,k1⟩:=h
 cases eq
 refine Eq.mpr (QRN ..) ?_
 have le:l.len=l.es.length:=rfl
 refine bifD (fun hc=>⟨decB h0 hc,?_⟩) fun hc=>k0 (QQ2 om)
 rw[QQ1 h0 om] at k0 k1
 rw[QJ (x:=i+1) om om]
 simp only[at_f]
 refine bifD (fun he=>?_) fun he=>?_
 ·rw[if_pos he] at k1;exact k1 _ rfl
 ·rw[if_neg he] at k0 k1
  exact⟨name,l,i+1,fn,fp,fl,fb,rfl,om,om,hl,k0,k1⟩
abbrev ksF:List CK:=[.s,.l 9,.l 9,.l 8,.b,.l 1,.l 11,.l 10,.l 20,.l 16,.r 0]
def QLB:QF:=fun xs Ks=>∃name gc ga pf t su w,xs=[.s name,gc,ga,pf,t,su,.t w]∧pf.len≤1000000∧(fnE pf.es name=none→nthK Ks 0 [.s [],.nul,.nul,.nul,.b false,gc,ga,pf,t,su,.t w])∧∀e,fnE pf.es name=some e→nthK Ks 0 [.s (e.f 0).st,e.f 1,e.f 2,e.f 3,.b true,gc,ga,pf,t,su,.t w]
theorem QVZ {f:TelK ksF}(hl:pf.len≤1000000)(k0:fnE pf.es name=none→f [] .nul .nul .nul false gc ga pf t su w)(k1:∀e,fnE pf.es name=some e→f (e.f 0).st (e.f 1) (e.f 2) (e.f 3) true gc ga pf t su w) :
  QLB [.s name,gc,ga,pf,t,su,.t w] [apK ksF f]:=⟨name,gc,ga,pf,t,su,w,rfl,hl,fun h _=>k0 h,fun e h _=>k1 e h⟩
theorem QSu (hl:pf.len≤1000000)(k0:fnE pf.es name=none→Ks 0 [.s [],.nul,.nul,.nul,.b false,gc,ga,pf,t,su,.t w])
  (k1:∀e,fnE pf.es name=some e→Ks 0 [.s (e.f 0).st,e.f 1,e.f 2,e.f 3,.b true,gc,ga,pf,t,su,.t w]):QPr name gc ga pf t su w Ks q (fun xs Ks=>∃j,QQQ j xs Ks):=by
 refine Eq.mpr (QSC ..) ?_
 exact⟨_,name,pf,0,_,_,_,_,rfl,om,nl,hl,fun h _=>k0 h,fun e h _=>k1 e h⟩
def QQP (j:Nat):QF:=fun xs Ks=>∃l name i fn fp fl fb,xs=[l,.s name,.n i,.s fn,fp,fl,fb]∧0≤i∧((l.len:Int) - i).toNat<j∧l.len≤1000000∧(fnD l.es name i=none→nthK Ks 0 [.s fn,fp,fl,fb])∧∀e,fnD l.es name i=some e→nthK Ks 1 [.b true,.s (e.f 0).st,e.f 1,e.f 2,e.f 3]
theorem QUD {Ks:List LP}(h:QQP (j+1) [l,.s name,.n i,.s fn,fp,fl,fb] Ks):QSm l name i fn fp fl fb (fun ys=>QQP j ys Ks) (nthK Ks) q:=by
 obtain⟨l_,name_,i_,fn_,fp_,fl_,fb_,eq,h0,hj,hl,k0,k1⟩:=h
 cases eq
 refine Eq.mpr (QUR ..) ?_
 have le:l.len=l.es.length:=rfl
 refine bifD (fun hc=>⟨decB h0 hc,?_⟩) fun hc=>k0 (QQ2 (by have hc':¬i<(l.len:Int):=hc;omega))
 have hc':i<(l.len:Int):=hc
 rw[QQ1 h0 om] at k0 k1
 rw[QJ (x:=i+1) om om]
 simp only[at_f]
 refine bifD (fun he=>⟨decB h0 hc,?_⟩) fun he=>?_
 ·rw[if_pos he] at k1;exact k1 _ rfl
 ·rw[if_neg he] at k0 k1
  exact⟨l,name,i+1,fn,fp,fl,fb,rfl,om,om,hl,k0,k1⟩
def QLQ:QF:=fun xs Ks=>∃pf name,xs=[pf,.s name]∧pf.len≤1000000∧(fnE pf.es name=none→nthK Ks 0 [.s [],.nul,.nul,.nul,.b false])∧∀e,fnE pf.es name=some e→nthK Ks 0 [.s (e.f 0).st,e.f 1,e.f 2,e.f 3,.b true]
theorem r_fn {f:TelK [.s,.l 9,.l 9,.l 8,.b]}(hl:pf.len≤1000000)(k0:fnE pf.es name=none→f [] .nul .nul .nul false)(k1:∀e,fnE pf.es name=some e→f (e.f 0).st (e.f 1) (e.f 2) (e.f 3) true) :
  QLQ [pf,.s name] [apK [.s,.l 9,.l 9,.l 8,.b] f]:=⟨pf,name,rfl,hl,fun h _=>k0 h,fun e h _=>k1 e h⟩
theorem QVK (hl:pf.len≤1000000)(k0:fnE pf.es name=none→Ks 0 [.s [],.nul,.nul,.nul,.b false])
  (k1:∀e,fnE pf.es name=some e→Ks 0 [.s (e.f 0).st,e.f 1,e.f 2,e.f 3,.b true]):QTH pf name Ks q (fun xs Ks=>∃j,QQP j xs Ks):=by
 refine Eq.mpr (QVR ..) ?_
 exact⟨_,pf,name,0,_,_,_,_,rfl,om,nl,hl,fun h _=>k0 h,fun e h _=>k1 e h⟩
def QQO (j:Nat):QF:=fun xs Ks=>∃name i a b c su al en so lo hi mo,xs=[.s name,.n i,a,b,c,su,al,.b en,.b so,.n lo,.n hi,mo]∧0≤i∧((su.len:Int) - i).toNat<j∧su.len≤1000000∧(fnD su.es name i=none→nthK Ks 0 [a,b,c,su,al,.b en,.b so,.n lo,.n hi,mo])∧∀e,fnD su.es name i=some e→nthK Ks 1 [a,b,c,su,e.f 1,.b (e.f 2).bo,.b (e.f 3).bo,.n (e.f 4).i,.n (e.f 5).i,e.f 6]
variable {a b c:LD}
theorem QTm {Ks:List LP}(h:QQO (j+1) [.s name,.n i,a,b,c,su,al,.b en,.b so,.n lo,.n hi,mo] Ks) :
  QQh name i a b c su al en so lo hi mo (fun ys=>QQO j ys Ks) (nthK Ks) q:=by
 obtain⟨name_,i_,a_,b_,c_,su_,al_,en_,so_,lo_,hi_,mo_,eq,h0,hj,hl,k0,k1⟩:=h
 cases eq
 refine Eq.mpr (QTD ..) ?_
 have le:su.len=su.es.length:=rfl
 refine bifD (fun hc=>⟨decB h0 hc,?_⟩) fun hc=>k0 (QQ2 (by have hc':¬i<(su.len:Int):=hc;omega))
 have hc':i<(su.len:Int):=hc
 rw[QQ1 h0 om] at k0 k1
 rw[QJ (x:=i+1) om om]
 simp only[at_f]
 refine bifD (fun he=>⟨decB h0 hc,?_⟩) fun he=>?_
 ·rw[if_pos he] at k1;exact k1 _ rfl
 ·rw[if_neg he] at k0 k1
  exact⟨name,i+1,a,b,c,su,al,en,so,lo,hi,mo,rfl,om,om,hl,k0,k1⟩
abbrev ksS6:List CK:=[.l 14,.b,.b,.i .i64,.i .i64,.l 12]
def QLM:QF:=fun xs Ks=>∃a b c su name,xs=[a,b,c,su,.s name]∧su.len≤1000000∧(fnE su.es name=none→nthK Ks 0 [.nul,.b false,.b false,.n 0,.n 0,.nul])∧∀e,fnE su.es name=some e→nthK Ks 0 [e.f 1,.b (e.f 2).bo,.b (e.f 3).bo,.n (e.f 4).i,.n (e.f 5).i,e.f 6]
theorem QWq {f:TelK ksS6}(hl:su.len≤1000000)(k0:fnE su.es name=none→f .nul false false (0:Int) (0:Int) .nul)(k1:∀e,fnE su.es name=some e→f (e.f 1) (e.f 2).bo (e.f 3).bo (e.f 4).i (e.f 5).i (e.f 6)) :
  QLM [a,b,c,su,.s name] [apK ksS6 f]:=⟨a,b,c,su,name,rfl,hl,fun h _=>k0 h,fun e h _=>k1 e h⟩
theorem QUf (hl:su.len≤1000000)(k0:fnE su.es name=none→Ks 0 [.nul,.b false,.b false,.n 0,.n 0,.nul])
  (k1:∀e,fnE su.es name=some e→Ks 0 [e.f 1,.b (e.f 2).bo,.b (e.f 3).bo,.n (e.f 4).i,.n (e.f 5).i,e.f 6]):QRz a b c su name Ks q (fun xs Ks=>∃j,QQO j xs Ks):=by
 refine Eq.mpr (QUt ..) ?_
 exact⟨_,name,0,a,b,c,su,_,_,_,_,_,_,rfl,om,nl,hl,fun h _=>k0 h,fun e h _=>k1 e h⟩
end Go.Proofs.YtmdppkbekmpopaaGreat
namespace Go.Proofs.YtmdppkbekmpopaaGreat
open Go Go.Sh Go.Va
end Go.Proofs.YtmdppkbekmpopaaGreat
