import Derived.Test.YtmdppkbekmpopaaGreatSo
set_option linter.unusedVariables false
set_option linter.unusedSimpArgs false
set_option linter.unusedSectionVars false
set_option maxRecDepth 100000
set_option maxHeartbeats 4000000
noncomputable section
namespace Go.Proofs.YtmdppkbekmpopaaGreat
open Go Go.Sh Go.Va
def cOf (pf:LD)(s:Str):List Str:=match fnE pf.es s with
 | some e=>(clD (e.f 3)).foldl addS []
 | none=>[]
def QMJ (pf n:LD):List Str:=(((strs n.es).flatMap (cOf pf)).filter fun s=>!hasB (strs n.es) s).foldl addS []
def KS (ca:List LD)(p:Str→Prop):Prop:=(ca.map keyE).Nodup∧∀x,x∈ca.map keyE↔p x
variable {ca:List LD}{p:Str→Prop}
theorem KS.to {p':Str→Prop}(h:KS ca p)(e:∀x,p x↔p' x):KS ca p':=⟨h.1,fun x=>(h.2 x).trans (e x)⟩
theorem KS.up {k:Str}{y:LD}(h:KS ca p)(hy:keyE y=k):KS (upE k y ca) fun x=>x=k∨p x:=⟨QwJ hy h.1,fun x=>by rw[Qtm hy,h.2]⟩
theorem QUT (k:Str):∀es:List LD,(dlE k es).map keyE=(es.map keyE).erase k
 | []=>rfl
 | e::r=>by
  unfold dlE
  rw[List.map_cons,List.erase_cons]
  by_cases h:keyE e=k
  ·rw[if_pos h,if_pos (by simpa using h)]
  ·rw[if_neg h,if_neg (by simpa using h),List.map_cons,QUT k r]
theorem KS.del (k:Str)(h:KS ca p):KS (dlE k ca) fun x=>x≠k∧p x:=by
 rw[KS,QUT]
 exact⟨h.1.erase k,fun x=>by rw[h.1.mem_erase_iff,h.2]⟩
def QP5 (j:Nat):QF:=fun xs Ks=>∃list l2 n i k gc ga pf t su w ca cs p,xs=[list,l2,.n n,.n i,.n (cs.length:Int),.n k,gc,ga,pf,t,su,.t w,.t ca,.t cs]∧0≤k∧k≤(cs.length:Int)∧((cs.length:Int) - k).toNat<j∧cs.length≤1000000∧(ca.length:Int)+(cs.length - k)≤1000000000∧KS ca p ∧
 ∀ca',KS ca' (fun x=>p x∨x∈(strs cs).drop k.toNat)→(ca'.length:Int)≤ca.length+(cs.length - k)→nthK Ks 0 [list,l2,.n n,.n i,gc,ga,pf,t,su,.t w,.t ca']
variable {Ks:List LP}{ga gc l2 list pf su t:LD}{i n:Int}{j:Nat}{q q1 q2 q3:QF}{w:List LD}
theorem QQj {m k:Int}{cs:List LD}(h:QP5 (j+1) [list,l2,.n n,.n i,.n m,.n k,gc,ga,pf,t,su,.t w,.t ca,.t cs] Ks) :
  QN2 list l2 n i m k gc ga pf t su w ca cs (fun ys=>QP5 j ys Ks) (nthK Ks) q q1 q2 q3:=by
 obtain⟨list_,l2_,n_,i_,k_,gc_,ga_,pf_,t_,su_,w_,ca_,cs_,p,eq,h0,h1,hj,hl,hca,hks,hk⟩:=h
 cases eq
 refine Eq.mpr (QQB ..) ?_
 refine bifD (fun hc=>⟨decB h0 hc,?_⟩) fun hc=>hk ca (hks.to fun x=>?_) om
 ·have hlt:k.toNat<cs.length:=om
  rw[Qnl hlt] at hk
  rw[QJ (x:=k+1) om om]
  have e2:(k+1).toNat=k.toNat+1:=om
  have step:∀v:Int,QP5 j [list,l2,.n n,.n i,.n (cs.length:Int),.n (k+1),gc,ga,pf,t,su,.t w,.t (upE ((cs.getD k.toNat .nul).f 0).st (.t [.s ((cs.getD k.toNat .nul).f 0).st,.n v]) ca),.t cs] Ks:=fun v=>by
   have hlen:=Qi6 ((cs.getD k.toNat .nul).f 0).st (.t [.s ((cs.getD k.toNat .nul).f 0).st,.n v]) ca
   refine⟨list,l2,n,i,k+1,gc,ga,pf,t,su,w,_,cs,_,rfl,om,om,om,hl,om,hks.up (Qxu _ _),fun ca' h2 h3=>hk ca' (h2.to fun x=>?_) om⟩
   ·rw[e2,List.mem_cons]
    constructor
    ·rintro ((h | h) | h)
     ·exact .inr (.inl h)
     ·exact .inl h
     ·exact .inr (.inr h)
    ·rintro (h | h | h)
     ·exact .inl (.inr h)
     ·exact .inl (.inl h)
     ·exact .inr h
  exact⟨fun e _=>⟨om,step _⟩,fun _=>⟨om,step _⟩⟩
 ·rw[List.drop_eq_nil_of_le (by rw[Ql8];omega)];simp
def QRi (j:Nat):QF:=fun xs Ks=>∃list l2 i gc ga pf t su w ca p,xs=[list,l2,.n (l2.len:Int),.n i,gc,ga,pf,t,su,.t w,.t ca]∧0≤i∧i≤(l2.len:Int)∧((l2.len:Int) - i).toNat<j∧l2.len≤100∧FsOk pf∧(ca.length:Int)≤4096 * i∧KS ca p ∧
 ∀ca',KS ca' (fun x=>p x∨x∈((strs l2.es).drop i.toNat).flatMap (cOf pf))→ca'.length≤4096 * l2.len→nthK Ks 0 [list,gc,ga,pf,t,su,.t w,.t ca']
theorem QQk (h:QRi (j+1) [list,l2,.n n,.n i,gc,ga,pf,t,su,.t w,.t ca] Ks) :
  QN3 list l2 n i gc ga pf t su w ca (fun ys=>QRi j ys Ks) (nthK Ks) q QLB QP q1 (fun xs Ks=>∃j,QP5 j xs Ks):=by
 obtain⟨list_,l2_,i_,gc_,ga_,pf_,t_,su_,w_,ca_,p,eq,h0,h1,hj,hl,hF,hca,hks,hk⟩:=h
 cases eq
 refine Eq.mpr (QQC ..) ?_
 have le:l2.len=l2.es.length:=rfl
 refine bifD (fun hc=>⟨decB h0 hc,?_⟩) fun hc=>hk ca (hks.to fun x=>?_) om
 ·have hlt:i.toNat<l2.es.length:=om
  rw[Qnl hlt,List.flatMap_cons] at hk
  simp only[at_f]
  rw[QJ (x:=i+1) om om]
  have e2:(i+1).toNat=i.toNat+1:=om
  generalize ((l2.es.getD i.toNat .nul).f 0).st=nm at hk
  refine QVZ (Nat.le_trans hF.1 om) (fun hn=>bifF ?_) fun e he=>bifT ?_
  ·have hc0:cOf pf nm=[]:=by rw[cOf,hn]
   rw[hc0,List.nil_append] at hk
   exact⟨list,l2,i+1,gc,ga,pf,t,su,w,ca,p,rfl,om,om,om,hl,hF,om,hks,fun ca' h2 h3=>hk ca' (by rw[e2] at h2;exact h2) h3⟩
  ·obtain⟨hm,_⟩:=QNg he
   obtain⟨fn,fp,fl,fb,rfl,P⟩:=hF.2 e hm
   have hcf:cOf pf nm=(clD fb).foldl addS []:=by rw[cOf,he];rfl
   rw[hcf] at hk
   refine QIB P fun cs hcs1 hcs2=>?_
   have hcs3:strs cs=(clD fb).foldl addS []:=hcs2
   rw[←hcs3] at hk
   refine⟨_,list,l2,_,i,0,gc,ga,pf,t,su,w,ca,cs,p,rfl,om,om,nl,om,om,hks,fun ca' h2 h3 _=>?_⟩
   show QRi j [list,l2,.n (l2.len:Int),.n (IntKind.i64.wrap (i+1)),gc,ga,pf,t,su,.t w,.t ca'] Ks
   rw[QJ (x:=i+1) om om]
   refine⟨list,l2,i+1,gc,ga,pf,t,su,w,ca',_,rfl,om,om,om,hl,hF,om,h2,fun ca2 h4 h5=>hk ca2 (h4.to fun x=>?_) h5⟩
   rw[e2,List.mem_append,or_assoc]
   exact Iff.rfl
 ·rw[List.drop_eq_nil_of_le (by rw[Ql8];omega)];simp
def QO3 (j:Nat):QF:=fun xs Ks=>∃l2 i ca p,xs=[l2,.n (l2.len:Int),.n i,.t ca]∧0≤i∧((l2.len:Int) - i).toNat<j∧l2.len≤100∧KS ca p ∧
 ∀ca',KS ca' (fun x=>x ∉ (strs l2.es).drop i.toNat∧p x)→ca'.length≤ca.length→nthK Ks 0 [.t ca']
theorem QNI (h:QO3 (j+1) [l2,.n n,.n i,.t ca] Ks):QNO l2 n i ca (fun ys=>QO3 j ys Ks) (nthK Ks) q q1 q2 q3:=by
 obtain⟨l2_,i_,ca_,p,eq,h0,hj,hl,hks,hk⟩:=h
 cases eq
 refine Eq.mpr (QP1 ..) ?_
 have le:l2.len=l2.es.length:=rfl
 refine bifD (fun hc=>⟨decB h0 hc,?_⟩) fun hc=>hk ca (hks.to fun x=>?_) (nr)
 ·have hlt:i.toNat<l2.es.length:=om
  rw[Qnl hlt] at hk
  simp only[at_f]
  rw[QJ (x:=i+1) om om]
  have e2:(i+1).toNat=i.toNat+1:=om
  generalize ((l2.es.getD i.toNat .nul).f 0).st=nm at hk
  have hlen:=(QT5 nm ca).length_le
  refine⟨l2,i+1,_,_,rfl,om,om,hl,hks.del nm,fun ca' h2 h3=>hk ca' (h2.to fun x=>?_) om⟩
  rw[e2,List.mem_cons,not_or]
  constructor
  ·rintro⟨a,b,c⟩;exact⟨⟨b,a⟩,c⟩
  ·rintro⟨⟨b,a⟩,c⟩;exact⟨a,b,c⟩
 ·rw[List.drop_eq_nil_of_le (by rw[Ql8];omega)];simp
abbrev QLH:QF:=Q6
abbrev ksCa:List CK:=[.l 1,.l 11,.l 10,.l 20,.l 16,.r 0,.r 1]
def QLI:QF:=fun xs Ks=>∃list gc ga pf t su w,xs=[list,gc,ga,pf,t,su,.t w]∧list.len≤100∧FsOk pf∧nthK Ks 0 [gc,ga,pf,t,su,.t w,.t (rowS (QMJ pf list))]
theorem QV0 {f:TelK ksCa}(hl:list.len≤100)(hF:FsOk pf)(h:f gc ga pf t su w (rowS (QMJ pf list))):QLI [list,gc,ga,pf,t,su,.t w] [apK ksCa f]:=⟨list,gc,ga,pf,t,su,w,rfl,hl,hF,fun _=>h⟩
theorem QWj {l:List Str}{s:Str}:hasB l s=true↔s∈l:=by simp[hasB]
theorem QRd {Ks:KN}{q8:QF}(hl:list.len≤100)(hF:FsOk pf)(hk:Ks 0 [gc,ga,pf,t,su,.t w,.t (rowS (QMJ pf list))]) :
  QOC list gc ga pf t su w Ks q q1 q2 QLH (fun xs Ks=>∃j,QRi j xs Ks) q8 (fun xs Ks=>∃j,QO3 j xs Ks):=by
 refine Eq.mpr (QRl ..) ?_
 refine⟨_,list,list,0,gc,ga,pf,t,su,w,[],fun _=>False,rfl,om,om,nl,hl,hF,by simp,⟨by simp,fun x=>by simp⟩,fun ca h1 h2 _=>?_⟩
 refine⟨_,list,0,ca,_,rfl,om,nl,hl,h1,fun ca' h3 h4 _=>?_⟩
 refine⟨ca',rfl,om,fun _=>?_⟩
 have e:Qfr (ca'.map keyE)=QMJ pf list:=by
  refine QEN (QvA h3.1) (QEf (by simp[SS])) fun x=>?_
  rw[Qnm,h3.2,QMJ,QCr,List.mem_filter,Bool.not_eq_true',←Bool.not_eq_true,QWj]
  show x ∉ strs list.es∧(False∨x∈(strs list.es).flatMap (cOf pf))↔_
  constructor
  ·rintro⟨a,b | b⟩
   ·exact b.elim
   ·exact .inl ⟨b,a⟩
  ·rintro (⟨a,b⟩ | b)
   ·exact⟨b,.inr a⟩
   ·cases b
 rw[e];exact hk
def gV (e:LD):List LD:=boB (e.f 1).bo
def suE:Option LD→List LD
 | some e=>suB (e.f 1) (e.f 2).bo (e.f 3).bo (e.f 4).i (e.f 5).i (e.f 6)
 | none=>suB .nul false false 0 0 .nul
def caF (su:LD)(c:Str):Option LD→List LD
 | some e=>boB true++(nuB (Int.ofNat (e.f 1).len)++((e.f 1).es.flatMap gV++suE (fnE su.es c)))
 | none=>boB false
def calB (pf su:LD)(c:Str):List LD:=stB c++caF su c (fnE pf.es c)
def SusL (su:LD):Prop:=su.len≤1000000∧∀e∈su.es,(e.f 1).len≤1000000∧(e.f 6).len≤1000000
def QSp (j:Nat):QF:=fun xs Ks=>∃name l i gc ga pf t su w,xs=[.s name,l,.n (l.len:Int),.n i,gc,ga,pf,t,su,.t w]∧0≤i∧((l.len:Int) - i).toNat<j∧l.len≤1000000∧Fit w (fmD gV l.es i)∧nthK Ks 0 [.s name,gc,ga,pf,t,su,.t (w++fmD gV l.es i)]
variable {l:LD}{name:Str}{q4:QF}
theorem QQH (h:QSp (j+1) [.s name,l,.n n,.n i,gc,ga,pf,t,su,.t w] Ks) :
  QOl name l n i gc ga pf t su w (fun ys=>QSp j ys Ks) (nthK Ks) q q1 QLz q2 q3 q4:=by
 obtain⟨name_,l_,i_,gc_,ga_,pf_,t_,su_,w_,eq,h0,hj,hl,hf,hk⟩:=h
 cases eq
 refine Eq.mpr (QQ5 ..) ?_
 have le:l.len=l.es.length:=rfl
 refine bifD (fun hc=>⟨decB h0 hc,?_⟩) fun hc=>?_
 ·rw[QNv h0 om] at hf hk
  have e:gV (l.es.getD i.toNat .nul)=boB ((l.at 2 i).f 1).bo:=by simp only[at_f];rfl
  rw[e] at hf hk
  have ei:IntKind.wrap .i64 (i+1)=i+1:=QJ om om
  rw[ei]
  rw[←List.append_assoc] at hk
  refine bifI (fun hb a c _=>?_) fun hb a c _=>?_
  all_goals
   have hb':((l.at 2 i).f 1).bo=_:=hb
   rw[hb'] at hf hk
   exact u_W1 (g:=gB) hf.l ⟨name,l,i+1,gc,ga,pf,t,su,_,rfl,om,om,hl,hf.r,hk⟩
 ·rwa [QNw om,List.append_nil] at hk
def QQL (j:Nat):QF:=fun xs Ks=>∃name l i gc ga pf t su w s0 s1 s2 s3 s4 s5,xs=[.s name,l,.n (l.len:Int),.n i,gc,ga,pf,t,su,.t w,s0,.b s1,.b s2,.n s3,.n s4,s5]∧0≤i∧((l.len:Int) - i).toNat<j∧l.len≤1000000 ∧
 (fnD l.es name i=none→nthK Ks 0 [gc,ga,pf,t,su,.t w,s0,.b s1,.b s2,.n s3,.n s4,s5])∧∀e,fnD l.es name i=some e→nthK Ks 0 [gc,ga,pf,t,su,.t w,e.f 1,.b (e.f 2).bo,.b (e.f 3).bo,.n (e.f 4).i,.n (e.f 5).i,e.f 6]
theorem QQl {s0:LD}{s1 s2:Bool}{s3 s4:Int}{s5:LD}{q5:QF}(h:QQL (j+1) [.s name,l,.n n,.n i,gc,ga,pf,t,su,.t w,s0,.b s1,.b s2,.n s3,.n s4,s5] Ks) :
  QN4 name l n i gc ga pf t su w s0 s1 s2 s3 s4 s5 (fun ys=>QQL j ys Ks) (nthK Ks) q q1 q2 q3 q4 q5:=by
 obtain⟨name_,l_,i_,gc_,ga_,pf_,t_,su_,w_,a0,a1,a2,a3,a4,a5,eq,h0,hj,hl,k0,k1⟩:=h
 cases eq
 refine Eq.mpr (QQD ..) ?_
 have le:l.len=l.es.length:=rfl
 refine bifD (fun hc=>⟨decB h0 hc,?_⟩) fun hc=>k0 (QQ2 om)
 rw[QQ1 h0 om] at k0 k1
 rw[QJ (x:=i+1) om om]
 simp only[at_f]
 refine bifD (fun he=>?_) fun he=>?_
 ·rw[if_pos he] at k1;exact k1 _ rfl
 ·rw[if_neg he] at k0 k1
  exact⟨name,l,i+1,gc,ga,pf,t,su,w,s0,s1,s2,s3,s4,s5,rfl,om,om,hl,k0,k1⟩
abbrev ksW:List CK:=[.l 1,.l 11,.l 10,.l 20,.l 16,.r 0]
def QLJ:QF:=fun xs Ks=>∃name gc ga pf t su w,xs=[.s name,gc,ga,pf,t,su,.t w]∧FsOk pf∧SusL su∧Fit w (calB pf su name)∧nthK Ks 0 [gc,ga,pf,t,su,.t (w++calB pf su name)]
theorem QWf {f:TelK ksW}(hF:FsOk pf)(hs:SusL su)(hf:Fit w (calB pf su name))(h:f gc ga pf t su (w++calB pf su name)):QLJ [.s name,gc,ga,pf,t,su,.t w] [apK ksW f]:=⟨name,gc,ga,pf,t,su,w,rfl,hF,hs,hf,fun _=>h⟩
theorem QRE {Ks:KN}(hF:FsOk pf)(hs:SusL su)(hf:Fit w (calB pf su name))(hk:Ks 0 [gc,ga,pf,t,su,.t (w++calB pf su name)]) :
  QOM name gc ga pf t su w Ks q QLx QLz QLy QLK QLB (fun xs Ks=>∃j,QSp j xs Ks) (fun xs Ks=>∃j,QQL j xs Ks):=by
 refine Eq.mpr (QRO ..) ?_
 rw[calB] at hf hk
 refine QVZ (Nat.le_trans hF.1 om) (fun hn=>bifF fun a c _=>u_W1 (g:=gT) hf.l ?_) fun e he=>bifT fun a c _=>u_W1 (g:=gT) hf.l ?_
 ·rw[hn,caF] at hf hk
  intro a c _
  refine u_W1 (g:=gB) hf.r ?_
  rw[←List.append_assoc] at hk;exact hk
 ·rw[he,caF] at hf hk
  obtain⟨hm,_⟩:=QNg he
  obtain⟨fn,fp,fl,fb,rfl,P⟩:=hF.2 e hm
  intro a c _
  refine u_W1 (g:=gB) hf.r.l ⟨rfl,fun a c _=>u_W1 (g:=gN) hf.r.r.l ?_⟩
  refine⟨_,name,fp,0,gc,ga,pf,t,su,_,rfl,om,nl,Nat.le_trans P.v.1 om,hf.r.r.r.l,fun _=>?_⟩
  have hr:=hf.r.r.r.r
  have fin:∀al en so lo hi mo,suE (fnE su.es name)=suB al en so lo hi mo→Ks 0 [gc,ga,pf,t,su,.t (w++gT (.t [.s name])++gB (.t [.b true])++gN (.t [.n (Int.ofNat fp.len)])++fmD gV fp.es 0++gS (.t [al,.b en,.b so,.n lo,.n hi,mo]))]:=fun al en so lo hi mo es=>by
   rw[es] at hk
   simp only[←List.append_assoc] at hk
   exact hk
  refine⟨_,name,su,0,gc,ga,pf,t,su,_,.nul,false,false,0,0,.nul,rfl,om,nl,hs.1,fun hz _ a c _=>?_,fun e2 h2 _ a c _=>?_⟩
  ·have hz':fnE su.es name=none:=hz
   rw[hz',suE] at hr
   exact u_W1 (g:=gS) (p:=SuL) hr (fin .nul false false 0 0 .nul (by rw[hz',suE])) ⟨zo,zo⟩
  ·have h2':fnE su.es name=some e2:=h2
   rw[h2',suE] at hr
   exact u_W1 (g:=gS) (p:=SuL) hr (fin (e2.f 1) (e2.f 2).bo (e2.f 3).bo (e2.f 4).i (e2.f 5).i (e2.f 6) (by rw[h2',suE])) (hs.2 _ (QNg h2').1)
end Go.Proofs.YtmdppkbekmpopaaGreat
namespace Go.Proofs.YtmdppkbekmpopaaGreat
open Go Go.Sh Go.Va
def gK (t e:LD):List LD:=stB (e.f 0).st++stB (txN t.es (e.f 0).st)
def gC (pf su e:LD):List LD:=calB pf su (e.f 0).st
def glN:Str:=bzz [103,108,111,98,97,108,115]
def keyB (pf t n su:LD):List LD:=stB (txN t.es glN)++(n.es.flatMap (gK t)++(QMJ pf n).flatMap (calB pf su))
theorem QV8 (pf su:LD)(l:List Str):(rowS l).flatMap (gC pf su)=l.flatMap (calB pf su):=by
 rw[rowS,List.flatMap_map];rfl
structure KeyP (pf t n su:LD):Prop where
 f:FsOk pf
 s:SusL su
 t0:t.len≤1000000
 n0:n.len≤100
 c:(QMJ pf n).length≤1000000
 b:Fit [] (keyB pf t n su)
def QLO:QF:=fun xs Ks=>∃l,xs=[l]∧l.es.length≤1099511627776∧nthK Ks 0 [.t l.es]
variable {l:LD}{q:QF}
theorem QS0 {Ks:KN}(hl:l.es.length≤1099511627776)(hk:Ks 0 [.t l.es]):QPT l Ks q:=by
 refine Eq.mpr (QS8 ..) ?_
 cases hb:l.is
 ·refine bifT ?_
  have:l.es=[]:=by cases l<;>first | rfl | cases hb
  rw[this] at hk;exact hk
 ·exact bifF ⟨⟨om,om⟩,hk⟩
def QRh (j:Nat):QF:=fun xs Ks=>∃list l2 i gc ga pf t su w,xs=[list,l2,.n (l2.len:Int),.n i,gc,ga,pf,t,su,.t w]∧0≤i∧((l2.len:Int) - i).toNat<j∧l2.len≤1000000∧t.len≤1000000∧Fit w (fmD (gK t) l2.es i)∧nthK Ks 0 [list,gc,ga,pf,t,su,.t (w++fmD (gK t) l2.es i)]
variable {Ks:List LP}{ga gc pf su t:LD}{i:Int}{j:Nat}{q1 q2 q3:QF}{w:List LD}
theorem QU2 {list l2:LD}{n:Int}(h:QRh (j+1) [list,l2,.n n,.n i,gc,ga,pf,t,su,.t w] Ks) :
  QSZ list l2 n i gc ga pf t su w (fun ys=>QRh j ys Ks) (nthK Ks) q QLy QLL q1 q2 q3:=by
 obtain⟨list_,l2_,i_,gc_,ga_,pf_,t_,su_,w_,eq,h0,hj,hl,ht,hf,hk⟩:=h
 cases eq
 refine Eq.mpr (QVn ..) ?_
 have le:l2.len=l2.es.length:=rfl
 refine bifD (fun hc=>⟨decB h0 hc,?_⟩) fun hc=>?_
 ·rw[QNv h0 om] at hf hk
  have e:gK t (l2.es.getD i.toNat .nul)=stB ((l2.at 1 i).f 0).st++stB (txN t.es ((l2.at 1 i).f 0).st):=by simp only[at_f];rfl
  rw[e] at hf hk
  refine QVY ht fun a c _=>u_W2 (g:=gT) hf.l ?_
  show QRh j [list,l2,.n (l2.len:Int),.n (IntKind.i64.wrap (i+1)),gc,ga,pf,t,su,_] Ks
  rw[QJ (x:=i+1) om om]
  rw[←List.append_assoc] at hk
  exact⟨list,l2,i+1,gc,ga,pf,t,su,_,rfl,om,om,hl,ht,hf.r,hk⟩
 ·rwa [QNw om,List.append_nil] at hk
def QRg (j:Nat):QF:=fun xs Ks=>∃i gc ga pf t su w c,xs=[.n (c.length:Int),.n i,gc,ga,pf,t,su,.t w,.t c]∧0≤i∧((c.length:Int) - i).toNat<j∧c.length≤1000000∧FsOk pf∧SusL su∧Fit w (fmD (gC pf su) c i)∧nthK Ks 0 [gc,ga,pf,t,su,.t (w++fmD (gC pf su) c i)]
variable {q4:QF}
theorem QU1 {n:Int}{c:List LD}(h:QRg (j+1) [.n n,.n i,gc,ga,pf,t,su,.t w,.t c] Ks) :
  QSY n i gc ga pf t su w c (fun ys=>QRg j ys Ks) (nthK Ks) q q1 q2 q3 QLJ q4:=by
 obtain⟨i_,gc_,ga_,pf_,t_,su_,w_,c_,eq,h0,hj,hl,hF,hs,hf,hk⟩:=h
 cases eq
 refine Eq.mpr (QVm ..) ?_
 refine bifD (fun hc=>⟨decB h0 hc,?_⟩) fun hc=>?_
 ·rw[QNv h0 om] at hf hk
  refine QWf hF hs hf.l ?_
  show QRg j [.n (c.length:Int),.n (IntKind.i64.wrap (i+1)),gc,ga,pf,t,su,_,.t c] Ks
  rw[QJ (x:=i+1) om om]
  rw[←List.append_assoc] at hk
  exact⟨i+1,gc,ga,pf,t,su,_,c,rfl,om,om,hl,hF,hs,hf.r,hk⟩
 ·rwa [QNw om,List.append_nil] at hk
def QL5:QF:=fun xs Ks=>∃gc ga pf t n su,xs=[gc,ga,pf,t,n,su]∧KeyP pf t n su∧nthK Ks 0 [.s (QNe (keyB pf t n su))]
variable {n:LD}
theorem QV2 {Ks:KN}(h:KeyP pf t n su)(hk:Ks 0 [.s (QNe (keyB pf t n su))]) :
  QUc gc ga pf t n su Ks q QLy QLL QLI QLJ QLO (fun xs Ks=>∃j,QRh j xs Ks) (fun xs Ks=>∃j,QRg j xs Ks):=by
 refine Eq.mpr (QWa ..) ?_
 have hb:=h.b
 have hn:=h.n0
 have hc:=h.c
 rw[keyB] at hb
 have fin:∀z,z=keyB pf t n su→(z=[]→QLO [.nul] [apK [.r 0] fun z=>Ks 0 [.s (QNe z)]])∧∀(a:Addr) (c:Nat),z.length≤c→QLO [.l a c z] [apK [.r 0] fun z=>Ks 0 [.s (QNe z)]]:=fun z hz=>by
  have hl:z.length≤1099511627776:=by have:=h.b;rw[hz];simpa [Fit] using this
  rw[←hz] at hk
  refine⟨fun hz=>⟨.nul,rfl,zo,fun _=>?_⟩,fun a c _=>⟨_,rfl,hl,fun _=>hk⟩⟩
  rw[hz] at hk;exact hk
 refine⟨⟨rfl,rfl,rfl,trivial⟩,QVY h.t0 fun a c _=>u_W1 (g:=gT) hb.l ?_⟩
 refine⟨_,n,n,0,gc,ga,pf,t,su,_,rfl,om,nl,om,h.t0,hb.r.l,fun _=>QV0 hn h.f ?_⟩
 refine⟨_,0,gc,ga,pf,t,su,_,_,rfl,om,nl,by rw[QBG];exact hc,h.f,h.s,?_,fun _=>fin _ ?_⟩
 ·show Fit ([]++stB (txN t.es glN)++n.es.flatMap (gK t)) ((rowS (QMJ pf n)).flatMap (gC pf su))
  rw[QV8];exact hb.r.r
 ·show []++stB (txN t.es glN)++n.es.flatMap (gK t)++(rowS (QMJ pf n)).flatMap (gC pf su)=keyB pf t n su
  rw[QV8,keyB,List.nil_append,List.append_assoc]
theorem QWC {s:Str}{f:TelK [.b]}(hl:l.len≤1000000)(h:f (hasB (strs l.es) s)):QLP [l,.s s] [apK [.b] f]:=⟨l,s,rfl,hl,fun _=>h⟩
abbrev nin (n:LD):Str→Bool:=fun s=>!hasB (strs n.es) s
def QPC (j:Nat):QF:=fun xs Ks=>∃t n su c i nc k gc ga pf w,xs=[t,n,su,c,.n i,nc,.n k,gc,ga,pf,.t w]∧0≤k∧k≤(nc.len:Int)∧((nc.len:Int) - k).toNat<j∧nc.len≤4096∧n.len≤100∧(c.len:Int)+(nc.len - k)≤1000000 ∧
 ∀c',(c'.len:Int)≤c.len+(nc.len - k)→strs c'.es=(((strs nc.es).drop k.toNat).filter (nin n)).foldl addS (strs c.es)→nthK Ks 0 [t,n,su,c',.n i,gc,ga,pf,.t w]
variable {c:LD}{k:Int}{q10 q5 q6 q7:QF}
theorem QTN {nc:LD}(h:QPC (j+1) [t,n,su,c,.n i,nc,.n k,gc,ga,pf,.t w] Ks) :
  QRb t n su c i nc k gc ga pf w (fun ys=>QPC j ys Ks) (nthK Ks) q q1 q2 q3 q4 q5 q6 q7 QLP QH q10:=by
 obtain⟨t_,n_,su_,c_,i_,nc_,k_,gc_,ga_,pf_,w_,eq,h0,h1,hj,hl,hn,hcl,hk⟩:=h
 cases eq
 refine Eq.mpr (QT3 ..) ?_
 have le:nc.len=nc.es.length:=rfl
 refine bifD (fun hc=>⟨decB h0 hc,?_⟩) fun hc=>?_
 ·have hc':k<(nc.len:Int):=hc
  have hlt:k.toNat<nc.es.length:=om
  rw[Qnl hlt] at hk
  simp only[at_f]
  rw[QJ (x:=k+1) om om]
  have e2:(k+1).toNat=k.toNat+1:=om
  generalize ((nc.es.getD k.toNat .nul).f 0).st=nm at hk
  refine QWC om ?_
  cases hb:hasB (strs n.es) nm with
  | true=>
   refine bifT ⟨t,n,su,c,i,nc,k+1,gc,ga,pf,w,rfl,om,om,om,hl,hn,om,fun c' h2 h3=>hk c' om ?_⟩
   rw[h3,e2,List.filter_cons,if_neg (by show ¬(!hasB (strs n.es) nm)=true;rw[hb];exact Bool.false_ne_true)]
  | false=>
   refine bifF ⟨decB h0 hc,QA3 om fun r hr1 hr2=>⟨t,n,su,r,i,nc,k+1,gc,ga,pf,w,rfl,om,om,om,hl,hn,om,fun c' h2 h3=>hk c' om ?_⟩⟩
   rw[h3,e2,hr2,List.filter_cons,if_pos (by show (!hasB (strs n.es) nm)=true;rw[hb];rfl),List.foldl_cons]
 ·have hc':¬k<(nc.len:Int):=hc
  refine hk c om ?_
  rw[List.drop_eq_nil_of_le (by rw[Ql8];omega)];rfl
def QRf (j:Nat):QF:=fun xs Ks=>∃t n su c i gc ga pf w,xs=[t,n,su,c,.n i,gc,ga,pf,.t w]∧0≤i∧i≤(n.len:Int)∧((n.len:Int) - i).toNat<j∧n.len≤100∧t.len≤1000000∧FsOk pf∧(c.len:Int)≤4096 * i∧Fit w (fmD (gK t) n.es i) ∧
 ∀c',c'.len≤4096 * n.len→strs c'.es=((((strs n.es).drop i.toNat).flatMap (cOf pf)).filter (nin n)).foldl addS (strs c.es)→nthK Ks 0 [su,c',gc,ga,pf,.t (w++fmD (gK t) n.es i)]
variable {q8 q9:QF}
theorem QUd (h:QRf (j+1) [t,n,su,c,.n i,gc,ga,pf,.t w] Ks) :
  QRx t n su c i gc ga pf w (fun ys=>QRf j ys Ks) (nthK Ks) q q1 q2 QLF q3 QLN QLQ q6 q8 q9 QN (fun xs Ks=>∃j,QPC j xs Ks):=by
 obtain⟨t_,n_,su_,c_,i_,gc_,ga_,pf_,w_,eq,h0,h1,hj,hl,ht,hF,hcl,hf,hk⟩:=h
 cases eq
 refine Eq.mpr (QUr ..) ?_
 have le:n.len=n.es.length:=rfl
 refine bifD (fun hc=>⟨decB h0 hc,decB h0 hc,?_⟩) fun hc=>?_
 ·have hc':i<(n.len:Int):=hc
  have hlt:i.toNat<n.es.length:=om
  rw[QNv h0 om] at hf hk
  rw[Qnl hlt,List.flatMap_cons,List.filter_append,List.foldl_append] at hk
  simp only[at_f]
  rw[QJ (x:=i+1) om om]
  have e2:(i+1).toNat=i.toNat+1:=om
  rw[gK] at hf hk
  generalize ((n.es.getD i.toNat .nul).f 0).st=nm at hk hf
  refine QQK hf.l.l (QV3 ht (QQK hf.l.r ⟨decB h0 hc,r_fn (Nat.le_trans hF.1 om) (fun hn=>bifF ?_) fun e he=>bifT ?_⟩))
  ·have hc0:cOf pf nm=[]:=by rw[cOf,hn]
   rw[hc0] at hk
   refine⟨t,n,su,c,i+1,gc,ga,pf,_,rfl,om,om,om,hl,ht,hF,om,by rw[List.append_assoc];exact hf.r,fun c' h2 h3=>?_⟩
   have:=hk c' h2 (by rw[e2] at h3;exact h3)
   simp only[List.append_assoc] at this ⊢
   exact this
  ·obtain⟨hm,_⟩:=QNg he
   obtain⟨fn,fp,fl,fb,rfl,P⟩:=hF.2 e hm
   have hcf:cOf pf nm=(clD fb).foldl addS []:=by rw[cOf,he];rfl
   rw[hcf] at hk
   refine QIy P.v P.n P.r P.m fun a b nc hnc1 hnc2=>?_
   have hnc3:strs nc.es=(clD fb).foldl addS []:=hnc2
   rw[←hnc3] at hk
   refine⟨_,t,n,su,c,i,nc,0,gc,ga,pf,_,rfl,om,om,nl,hnc1,hl,om,fun c1 h2 h3 _=>?_⟩
   show QRf j [t,n,su,c1,.n (IntKind.i64.wrap (i+1)),gc,ga,pf,_] Ks
   rw[QJ (x:=i+1) om om]
   refine⟨t,n,su,c1,i+1,gc,ga,pf,_,rfl,om,om,om,hl,ht,hF,om,by rw[List.append_assoc];exact hf.r,fun c' h4 h5=>?_⟩
   have:=hk c' h4 (by rw[h5,e2,h3];rfl)
   show nthK Ks 0 [su,c',gc,ga,pf,.t (w++stB nm++stB (txN t.es nm)++fmD (gK t) n.es (i+1))]
   simp only[List.append_assoc] at this ⊢
   exact this
 ·have hc':¬i<(n.len:Int):=hc
  rw[QNw om,List.append_nil] at hk
  refine hk c om ?_
  rw[List.drop_eq_nil_of_le (by rw[Ql8];omega)];rfl
def QPB (j:Nat):QF:=fun xs Ks=>∃su c i k gc ga pf w fn fp fl fb,xs=[su,c,.n i,.n k,gc,ga,pf,.t w,.s fn,fp,fl,fb]∧0≤k∧((fp.len:Int) - k).toNat<j∧fp.len≤1000000∧Fit w (fmD gV fp.es k)∧nthK Ks 0 [su,c,.n i,gc,ga,pf,.t (w++fmD gV fp.es k),.s fn,fp,fl,fb]
theorem QTL {fn:Str}{fp fl fb:LD}(h:QPB (j+1) [su,c,.n i,.n k,gc,ga,pf,.t w,.s fn,fp,fl,fb] Ks) :
  QQ9 su c i k gc ga pf w fn fp fl fb (fun ys=>QPB j ys Ks) (nthK Ks) q q1 QLC q3 q4 q5 q6 q7 q8 q9 q10:=by
 obtain⟨su_,c_,i_,k_,gc_,ga_,pf_,w_,fn_,fp_,fl_,fb_,eq,h0,hj,hl,hf,hk⟩:=h
 cases eq
 refine Eq.mpr (QT1 ..) ?_
 have le:fp.len=fp.es.length:=rfl
 refine bifD (fun hc=>⟨decB h0 hc,?_⟩) fun hc=>?_
 ·have hc':k<(fp.len:Int):=hc
  rw[QNv h0 om] at hf hk
  have e:gV (fp.es.getD k.toNat .nul)=boB ((fp.at 2 k).f 1).bo:=by simp only[at_f];rfl
  rw[e] at hf hk
  have ei:IntKind.wrap .i64 (k+1)=k+1:=QJ om om
  rw[ei]
  rw[←List.append_assoc] at hk
  refine bifI (fun hb=>?_) fun hb=>?_
  all_goals
   have hb':((fp.at 2 k).f 1).bo=_:=hb
   rw[hb'] at hf hk
   exact QPy hf.l ⟨su,c,i,k+1,gc,ga,pf,_,fn,fp,fl,fb,rfl,om,om,hl,hf.r,hk⟩
 ·have hc':¬k<(fp.len:Int):=hc
  rwa [QNw om,List.append_nil] at hk
def QO2 (j:Nat):QF:=fun xs Ks=>∃su c i gc ga pf w,xs=[su,c,.n i,gc,ga,pf,.t w]∧0≤i∧((c.len:Int) - i).toNat<j∧c.len≤1000000∧FsOk pf∧SusL su∧Fit w (fmD (gC pf su) c.es i)∧nthK Ks 0 [gc,ga,pf,.t (w++fmD (gC pf su) c.es i)]
theorem QTM (h:QO2 (j+1) [su,c,.n i,gc,ga,pf,.t w] Ks) :
  QRa su c i gc ga pf w (fun ys=>QO2 j ys Ks) (nthK Ks) q QLA QLC QLF QLG q5 QLQ QLM q8 q9 q10 (fun xs Ks=>∃j,QPB j xs Ks):=by
 obtain⟨su_,c_,i_,gc_,ga_,pf_,w_,eq,h0,hj,hl,hF,hs,hf,hk⟩:=h
 cases eq
 refine Eq.mpr (QT2 ..) ?_
 have le:c.len=c.es.length:=rfl
 refine bifD (fun hc=>⟨decB h0 hc,?_⟩) fun hc=>?_
 ·have hc':i<(c.len:Int):=hc
  rw[QNv h0 om] at hf hk
  have next:∀w',w'=w++gC pf su (c.es.getD i.toNat .nul)→QO2 j [su,c,.n (IntKind.i64.wrap (i+1)),gc,ga,pf,.t w'] Ks:=fun w' hw=>by
   subst hw
   rw[QJ (x:=i+1) om om]
   rw[←List.append_assoc] at hk
   exact⟨su,c,i+1,gc,ga,pf,_,rfl,om,om,hl,hF,hs,hf.r,hk⟩
  have hf1:=hf.l
  rw[gC,calB] at hf1 next
  simp only[at_f]
  generalize hnm:((c.es.getD i.toNat .nul).f 0).st=nm at hf1 next
  refine r_fn (Nat.le_trans hF.1 om) (fun hn=>bifF ⟨decB h0 hc,QQK hf1.l ?_⟩) fun e he=>bifT ⟨decB h0 hc,QQK hf1.l ?_⟩
  ·rw[hn,caF] at hf1 next
   exact QPy hf1.r (next _ (List.append_assoc ..))
  ·rw[he,caF] at hf1 next
   obtain⟨hm,_⟩:=QNg he
   obtain⟨fn,fp,fl,fb,rfl,P⟩:=hF.2 e hm
   refine QPy hf1.r.l (QRe hf1.r.r.l ?_)
   refine⟨_,su,c,i,0,gc,ga,pf,_,fn,fp,fl,fb,rfl,om,nl,Nat.le_trans P.v.1 om,hf1.r.r.r.l,fun _=>?_⟩
   have hr:=hf1.r.r.r.r
   refine⟨decB h0 hc,?_⟩
   have hq:((c.at 1 i).f 0).st=nm:=by simp only[at_f];exact hnm
   have fin:∀al en so lo hi mo,al.len≤1000000∧mo.len≤1000000→suE (fnE su.es nm)=suB al en so lo hi mo→QLG [al,.b en,.b so,.n lo,.n hi,mo,.t (w++stB nm++boB true++nuB (Int.ofNat fp.len)++fmD gV fp.es 0)] [apK [.r 0] fun z=>QO2 j [su,c,.n (IntKind.i64.wrap (i+1)),gc,ga,pf,.t z] Ks]:=fun al en so lo hi mo hle es=>by
    rw[es] at hr
    refine QV4 hle hr (next _ ?_)
    rw[es]
    simp only[List.append_assoc]
    rfl
   refine QWq hs.1 (fun hz=>?_) fun e2 h2=>?_
   ·have hz':fnE su.es nm=none:=by rw[←hq];exact hz
    exact fin .nul false false 0 0 .nul ⟨zo,zo⟩ (by rw[hz',suE])
   ·have h2':fnE su.es nm=some e2:=by rw[←hq];exact h2
    exact fin (e2.f 1) (e2.f 2).bo (e2.f 3).bo (e2.f 4).i (e2.f 5).i (e2.f 6) (hs.2 _ (QNg h2').1) (by rw[h2',suE])
 ·have hc':¬i<(c.len:Int):=hc
  rwa [QNw om,List.append_nil] at hk
def QLX:QF:=fun xs Ks=>∃gc ga pf t n su,xs=[gc,ga,pf,t,n,su]∧KeyP pf t n su∧nthK Ks 0 [.s (QNe (keyB pf t n su))]
theorem QUW {Ks:KN}{q11 q23:QF}(h:KeyP pf t n su)(hk:Ks 0 [.s (QNe (keyB pf t n su))]) :
  QST gc ga pf t n su Ks q q1 q2 QLF q4 QLN q6 q7 q8 q9 q10 (fun xs Ks=>∃j,QRf j xs Ks) q11 (fun xs Ks=>∃j,QO2 j xs Ks) q23:=by
 refine Eq.mpr (QVh ..) ?_
 have hb:=h.b
 have hn:=h.n0
 have hc:=h.c
 rw[keyB] at hb hk
 refine QV3 h.t0 (QQK hb.l ?_)
 refine⟨_,t,n,su,.nul,0,gc,ga,pf,_,rfl,om,om,nl,hn,h.t0,h.f,by simp[LD.len,LD.es],hb.r.l,fun c' h1 h2 _=>?_⟩
 have h2':strs c'.es=QMJ pf n:=h2
 have hg:c'.es.flatMap (gC pf su)=(QMJ pf n).flatMap (calB pf su):=by rw[←h2',strs,List.flatMap_map];rfl
 have hl:c'.len=(QMJ pf n).length:=by rw[←h2',Ql8];rfl
 refine⟨_,su,c',0,gc,ga,pf,_,rfl,om,nl,om,h.f,h.s,?_,fun _=>?_⟩
 ·show Fit ([]++stB (txN t.es glN)++n.es.flatMap (gK t)) (c'.es.flatMap (gC pf su))
  rw[hg];exact hb.r.r
 ·show Ks 0 [.s (QNe ([]++stB (txN t.es glN)++n.es.flatMap (gK t)++c'.es.flatMap (gC pf su)))]
  rw[hg,List.nil_append,List.append_assoc];exact hk
end Go.Proofs.YtmdppkbekmpopaaGreat
