import Derived.Test.YtmdppkbekmpopaaGreatPs6
set_option linter.unusedVariables false
set_option linter.unusedSimpArgs false
set_option linter.unusedSectionVars false
set_option maxRecDepth 100000
set_option maxHeartbeats 8000000
noncomputable section
namespace Go.Proofs.YtmdppkbekmpopaaGreat
open Go Go.Sh Go.Va
def Qw:QF:=fun xs Ks=>∃ptr most l i en e ac d n v,xs=[.b ptr,.n most,l,.n i,.n en,.n e,.n ac,.n d,.n n,.t v]∧St0 l i d∧v.length≤5000 ∧
 ∀(v':List LD) (i' e' ac':Int),i≤i'→i'≤i+1→i'≤l.len→er e≤er e'→er e'≤1→i+1≤i'+er e'→v'.length≤v.length+1→(er e'=0→(∀x∈v,WV x)→∀x∈v',WV x)→nthK Ks 0 [l,.n i',.n en,.n e',.n ac',.n d,.n n,.t v']
variable {ac d e en i most n:Int}{l:LD}{ptr:Bool}{v:List LD}
theorem QFB {f:TelK [.l 4,.i .i64,.i .i64,.i .i64,.i .i64,.i .i64,.i .i64,.r 9]}(T:Tok l)(i0:0≤i)(i1:i≤l.len)(d0:0≤d)(d1:d≤40)(hv:v.length≤5000)
  (h:∀(v':List LD) (i' e' ac':Int),i≤i'→i'≤i+1→i'≤l.len→er e≤er e'→er e'≤1→i+1≤i'+er e'→v'.length≤v.length+1→(er e'=0→(∀x∈v,WV x)→∀x∈v',WV x)→f l i' en e' ac' d n v') :
  Qw [.b ptr,.n most,l,.n i,.n en,.n e,.n ac,.n d,.n n,.t v] [apK [.l 4,.i .i64,.i .i64,.i .i64,.i .i64,.i .i64,.i .i64,.r 9] f]:=⟨ptr,most,l,i,en,e,ac,d,n,v,rfl,⟨T,i0,i1,d0,d1⟩,hv,fun v' i' e' ac' a1 a2 a3 a4 a5 a6 a7 a8 _=>h v' i' e' ac' a1 a2 a3 a4 a5 a6 a7 a8⟩
variable {q:QF}
theorem QrB {Ks:KN}(S:St0 l i d)(hv:v.length≤5000)
  (hk:∀(v':List LD) (i' e' ac':Int),i≤i'→i'≤i+1→i'≤l.len→er e≤er e'→er e'≤1→i+1≤i'+er e'→v'.length≤v.length+1→(er e'=0→(∀x∈v,WV x)→∀x∈v',WV x)→Ks 0 [l,.n i',.n en,.n e',.n ac',.n d,.n n,.t v']) :
  Qkw ptr most l i en e ac d n v Ks q Qb Qf Qg:=by
 obtain⟨T,i0,i1,d0,d1⟩:=S
 have hl:=T.n
 have he0:=Qan e
 refine Eq.mpr (QsG ..) ?_
 repeat' first
  | refine⟨⟨om,om⟩,?_⟩
  | exact hk _ _ _ _ om om om om om om (by rw[List.length_append,List.length_singleton];omega) (fun h hx=>Qtz hx ⟨_,_,rfl,hs h⟩)
  | with_reducible refine bifT ?_
  | with_reducible refine bifF ?_
  | (simp only[Int.ofNat_eq_natCast])
  | refine⟨decC om om,?_⟩
  | refine⟨⟨trivial,trivial⟩,?_⟩
  | refine⟨trivial,?_⟩
  | refine⟨rfl,?_⟩
  | refine QbJ (fun hc=>?_) (fun hc=>?_)
  | refine bifE (fun hc=>?_) (fun hc=>?_)
  | refine bifN (fun hc=>?_) (fun hc=>?_)
  | refine bifD (fun hc=>?_) (fun hc=>?_)
  | refine QdM T om om om om (by decide) (fun e' ac' he=>?_)
  | refine Qf0 T om om om om (fun he hc hkd=>?_) ?_
  | refine Ql3 T om om om om (fun s i' e' ac' a1 a2 a3 a4 a4' a5 hs hl=>?_)
  | refine bifI (fun _=>?_) (fun _=>?_)
  | intro _
  | exact hk _ _ _ _ om om om om om om om (fun h=>(by omega:False).elim)
  | (simp (disch:=omega) only [QJ,Int.add_sub_cancel])
def Qq:QF:=fun xs Ks=>∃k,Qmb k xs Ks
theorem QIr (T:Tok l)(i0:0≤i)(i1:i≤l.len)(d0:0≤d)(d1:d≤40){f:TelK (.l 8::ksP)}(h:PK WSs l i e fun x i' e' ac' n'=>f x l i' en e' ac' d n'):Qq [l,.n i,.n en,.n e,.n ac,.n d,.n n] [apK (.l 8::ksP) f]:=⟨_,u_Pl T i0 i1 d0 d1 (nl) h⟩
def WVs (m:Int)(v:List LD):Prop:=(v.length:Int)≤m∧∀x∈v,WV x
def qF10 (j:Nat):QF:=fun xs Ks=>∃l i en e ac d n f bo pa lo,xs=[l,.n i,.n en,.n e,.n ac,.n d,.n n,.s f,bo,.t pa,.t lo]∧St0 l i d∧2 * (l.len - i:Int).toNat+1<j+er e∧(pa.length:Int)≤i+er e∧(er e=0→WVs 4097 pa) ∧
 ∀(pa':List LD) (i' e' ac':Int),i≤i'→i'≤l.len→er e≤er e'→er e'≤1→(er e'=0→WVs 4097 pa')→nthK Ks 0 [l,.n i',.n en,.n e',.n ac',.n d,.n n,.s f,bo,.t pa',.t lo]
variable {bo:LD}{lo:List LD}{s:Str}
theorem QK6 (T:Tok l)(i0:0≤i)(i1:i≤l.len)(d0:0≤d)(d1:d≤40){f:TelK [.l 4,.i .i64,.i .i64,.i .i64,.i .i64,.i .i64,.i .i64,.s,.l 8,.r 9,.r 9]}
  (h:∀(pa':List LD) (i' e' ac':Int),i≤i'→i'≤l.len→er e≤er e'→er e'≤1→(er e'=0→WVs 4097 pa')→f l i' en e' ac' d n s bo pa' lo):∃j,qF10 j [l,.n i,.n en,.n e,.n ac,.n d,.n n,.s s,bo,.t [],.t lo] [apK [.l 4,.i .i64,.i .i64,.i .i64,.i .i64,.i .i64,.i .i64,.s,.l 8,.r 9,.r 9] f]:=
 ⟨2 * (l.len - i:Int).toNat+2,l,i,en,e,ac,d,n,s,bo,[],lo,rfl,⟨T,i0,i1,d0,d1⟩,om,by simp only[List.length_nil];omega,fun _=>⟨by simp,by simp⟩,fun a1 a2 a3 a4 a5 a6 a7 a8 a9 _=>h a1 a2 a3 a4 a5 a6 a7 a8 a9⟩
variable {Ks:List LP}{f:Str}{j:Nat}{pa:List LD}{q1 q2 q3 q4 q5 q6:QF}
theorem Qyk (h:qF10 (j+1) [l,.n i,.n en,.n e,.n ac,.n d,.n n,.s f,bo,.t pa,.t lo] Ks) :
  Qpm l i en e ac d n f bo pa lo (fun ys=>qF10 j ys Ks) (nthK Ks) q q1 q2 q3 Qa Qc q4 q5 q6 Qw:=by
 obtain⟨l_,i_,en_,e_,ac_,d_,n_,f_,bo_,pa_,lo_,eq,⟨T,i0,i1,d0,d1⟩,hj,hw,ha,hk⟩:=h
 cases eq
 have hl:=T.n
 have he0:=Qan e
 refine Eq.mpr (Qy2 ..) ?_
 repeat' first
  | exact hk _ _ _ _ om om om om ha
  | exact hk _ _ _ _ om om om om (fun h=>⟨om,hv3 om (ha om).2⟩)
  | exact⟨l,_,en,_,_,d,_,_,_,_,_,rfl,⟨T,om,om,om,om⟩,om,om,fun h=>⟨om,hv3 om (ha om).2⟩,fun pa' i' e' ac' c1 c2 c3 c3' c4=>hk pa' i' e' ac' om c2 om c3' c4⟩
  | with_reducible refine bifT ?_
  | with_reducible refine bifF ?_
  | (simp only[Int.ofNat_eq_natCast])
  | refine⟨decC om om,?_⟩
  | refine⟨⟨trivial,trivial⟩,?_⟩
  | refine⟨trivial,?_⟩
  | refine⟨rfl,?_⟩
  | refine QbJ (fun hc=>?_) (fun hc=>?_)
  | refine bifE (fun hc=>?_) (fun hc=>?_)
  | refine bifN (fun hc=>?_) (fun hc=>?_)
  | refine bifD (fun hc=>?_) (fun hc=>?_)
  | refine QcI T om om om om (fun he hc ht=>?_) ?_
  | refine Qfw T om om om om (fun i' e' ac' b1 b2 b3 b4 b4' b5=>?_)
  | refine QFB T om om om om om (fun v' i' e' ac' c1 c2 c3 c4 c4' c5 hv1 hv3=>?_)
  | intro _
  | exact hk _ _ _ _ om om om om (fun h=>(by omega:False).elim)
  | (simp (disch:=omega) only [QJ,Int.add_sub_cancel])
def qF17 (j:Nat):QF:=fun xs Ks=>∃l i en e ac d n f bo pa lo,xs=[l,.n i,.n en,.n e,.n ac,.n d,.n n,.s f,bo,.t pa,.t lo]∧St0 l i d∧(l.len - i:Int).toNat<j∧(lo.length:Int)≤i∧(er e=0→WVs 4097 lo) ∧
 ∀(lo':List LD) (i' e' ac':Int),i≤i'→i'≤l.len→er e≤er e'→er e'≤1→(er e'=0→WVs 4097 lo')→nthK Ks 0 [l,.n i',.n en,.n e',.n ac',.n d,.n n,.s f,bo,.t pa,.t lo']
theorem QK5 (T:Tok l)(i0:0≤i)(i1:i≤l.len)(d0:0≤d)(d1:d≤40){f:TelK [.l 4,.i .i64,.i .i64,.i .i64,.i .i64,.i .i64,.i .i64,.s,.l 8,.r 9,.r 9]}
  (h:∀(lo':List LD) (i' e' ac':Int),i≤i'→i'≤l.len→er e≤er e'→er e'≤1→(er e'=0→WVs 4097 lo')→f l i' en e' ac' d n s bo pa lo'):∃j,qF17 j [l,.n i,.n en,.n e,.n ac,.n d,.n n,.s s,bo,.t pa,.t []] [apK [.l 4,.i .i64,.i .i64,.i .i64,.i .i64,.i .i64,.i .i64,.s,.l 8,.r 9,.r 9] f]:=
 ⟨_,l,i,en,e,ac,d,n,s,bo,pa,[],rfl,⟨T,i0,i1,d0,d1⟩,nl,by simp only[List.length_nil];omega,fun _=>⟨by simp,by simp⟩,fun a1 a2 a3 a4 a5 a6 a7 a8 a9 _=>h a1 a2 a3 a4 a5 a6 a7 a8 a9⟩
theorem Qyj (h:qF17 (j+1) [l,.n i,.n en,.n e,.n ac,.n d,.n n,.s f,bo,.t pa,.t lo] Ks) :
  Qpl l i en e ac d n f bo pa lo (fun ys=>qF17 j ys Ks) (nthK Ks) q q1 q2 Qd q3 Qc q4 q5 q6 Qw:=by
 obtain⟨l_,i_,en_,e_,ac_,d_,n_,f_,bo_,pa_,lo_,eq,⟨T,i0,i1,d0,d1⟩,hj,hw,ha,hk⟩:=h
 cases eq
 have hl:=T.n
 have he0:=Qan e
 refine Eq.mpr (Qy1 ..) ?_
 repeat' first
  | exact hk _ _ _ _ om om om om ha
  | exact⟨l,_,en,_,_,d,_,_,_,_,_,rfl,⟨T,om,om,om,om⟩,om,om,fun h=>⟨om,hv3 om (ha om).2⟩,fun lo' i' e' ac' c1 c2 c3 c3' c4=>hk lo' i' e' ac' om c2 om c3' c4⟩
  | with_reducible refine bifT ?_
  | with_reducible refine bifF ?_
  | (simp only[Int.ofNat_eq_natCast])
  | refine⟨decC om om,?_⟩
  | refine⟨⟨trivial,trivial⟩,?_⟩
  | refine⟨trivial,?_⟩
  | refine⟨rfl,?_⟩
  | refine QbJ (fun hc=>?_) (fun hc=>?_)
  | refine bifE (fun hc=>?_) (fun hc=>?_)
  | refine bifN (fun hc=>?_) (fun hc=>?_)
  | refine bifD (fun hc=>?_) (fun hc=>?_)
  | refine u_is T om om om om (fun he hc ht _=>?_) ?_
  | refine Qfw T om om om om (fun i' e' ac' b1 b2 b3 b4 b4' b5=>?_)
  | refine QFB T om om om om om (fun v' i' e' ac' c1 c2 c3 c4 c4' c5 hv1 hv3=>?_)
  | intro _
  | (simp (disch:=omega) only [QJ,Int.add_sub_cancel])
structure WF (f:Str)(pa lo bo:LD):Prop where
 f:Nm f
 p:pa.len≤4097∧∀x∈pa.es,WV x
 l:lo.len≤4097∧∀x∈lo.es,WV x
 b:CN WSs 4096 bo
def Qac:QF:=fun xs Ks=>∃s,xs=[.s s]∧s.length≤100000000∧(∀a e:Int,e≠0→nthK Ks 0 [.s [],.nul,.nul,.nul,.n a,.n e])∧∀(f:Str) (pa lo bo:LD),WF f pa lo bo→nthK Ks 0 [.s f,pa,lo,bo,.n 0,.n 0]
theorem QA1 {m:Nat}(a:Addr)(c:Nat)(h:WVs m v):(LD.l a c v).len≤m∧∀x∈(LD.l a c v).es,WV x:=⟨by have:=h.1;show v.length≤m;omega,h.2⟩
theorem Qth (m:Nat):(LD.nul).len≤m∧∀x∈(LD.nul).es,WV x:=⟨zo,fun x h=>by cases h⟩
theorem QDc {Ks:KN}(hs0:s.length≤100000000)(hk1:∀a e:Int,e≠0→Ks 0 [.s [],.nul,.nul,.nul,.n a,.n e])(hk:∀(f:Str) (pa lo bo:LD),WF f pa lo bo→Ks 0 [.s f,pa,lo,bo,.n 0,.n 0]) :
  Qvg s Ks q Qy Qb Qd Qa Qc Qg Qh Qq Qw (fun xs Ks=>∃j,qF10 j xs Ks) (fun xs Ks=>∃j,qF17 j xs Ks):=by
 refine Eq.mpr (QDy ..) ?_
 refine QBq hs0 fun l a e ht hw=>?_
 refine bifN (fun hc=>?_) (fun hc=>?_)
 ·repeat' first
   | exact hk1 _ _ hc
   | refine⟨rfl,?_⟩
 have T:Tok l:=by
  simp only[wtL] at hw
  obtain⟨h1,h2⟩:=ht hc
  exact⟨hw.1,h1,h2⟩
 have e00:er 0=0:=er_0 rfl
 have hl:=T.n
 have he0:=Qan e
 repeat' first
  | exact hk1 _ _ (QxH om)
  | refine⟨fun hnil=>?_,fun aa cc hcc=>?_⟩
  | exact hk _ _ _ _ ⟨hs om,QA1 _ _ (hp om),QA1 _ _ (hlo om),(hr om).up om⟩
  | exact hk _ _ _ _ ⟨hs om,Qth _,QA1 _ _ (hlo om),(hr om).up om⟩
  | exact hk _ _ _ _ ⟨hs om,QA1 _ _ (hp om),Qth _,(hr om).up om⟩
  | exact hk _ _ _ _ ⟨hs om,Qth _,Qth _,(hr om).up om⟩
  | with_reducible refine bifT ?_
  | with_reducible refine bifF ?_
  | (simp only[Int.ofNat_eq_natCast])
  | refine⟨decC om om,?_⟩
  | refine⟨⟨trivial,trivial⟩,?_⟩
  | refine⟨trivial,?_⟩
  | refine⟨rfl,?_⟩
  | refine QbJ (fun hc=>?_) (fun hc=>?_)
  | refine bifE (fun hc=>?_) (fun hc=>?_)
  | refine bifN (fun hc=>?_) (fun hc=>?_)
  | refine bifD (fun hc=>?_) (fun hc=>?_)
  | refine QdM T om om om om (by decide) (fun e' ac' he=>?_)
  | refine u_is T om om om om (fun he hc ht _=>?_) ?_
  | refine QcI T om om om om (fun he hc ht=>?_) ?_
  | refine QwK T om om om om (fun he hd=>?_) (fun e' ac' he=>?_)
  | refine Qfw T om om om om (fun i' e' ac' b1 b2 b3 b4 b4' b5=>?_)
  | refine Ql3 T om om om om (fun s i' e' ac' a1 a2 a3 a4 a4' a5 hs hl=>?_)
  | refine QK6 T om om om om (fun pa' i' e' ac' c1 c2 c3 c3' hp=>?_)
  | refine QK5 T om om om om (fun lo' i' e' ac' c1 c2 c3 c3' hlo=>?_)
  | refine QIr T om om om om (fun r i' e' ac' n' a1 a2 a3 a3' a4 hr=>?_)
  | intro _
  | (simp (disch:=omega) only [QJ,Int.add_sub_cancel])
end Go.Proofs.YtmdppkbekmpopaaGreat
namespace Go.Proofs.YtmdppkbekmpopaaGreat
open Go Go.Sh Go.Va
def WCe (d:LD):Prop:=∃s,d=.t [.s s]∧Nm s
def WAr (d:LD):Prop:=∃s n,d=.t [.s s,.n n]∧Nm s
structure WG (ce ar:LD):Prop where
 c:ce.len≤4097∧∀x∈ce.es,WCe x
 a:ar.len≤4097∧∀x∈ar.es,WAr x
def qG6 (j:Nat):QF:=fun xs Ks=>∃l i en e ac d n ce ar,xs=[l,.n i,.n en,.n e,.n ac,.n d,.n n,.t ce,.t ar]∧St0 l i d∧2 * (l.len - i:Int).toNat+1<j+er e∧(ce.length:Int)+ar.length≤i+er e∧(er e=0→(∀x∈ce,WCe x)∧∀x∈ar,WAr x) ∧
 ∀(ce' ar':List LD) (i' e' ac':Int),ce'.length+ar'.length≤4097→(er e'=0→(∀x∈ce',WCe x)∧∀x∈ar',WAr x)→nthK Ks 0 [l,.n i',.n en,.n e',.n ac',.n d,.n n,.t ce',.t ar']
variable {ac d e en i n:Int}{l:LD}{q q2:QF}
theorem Qvu {ce ar:List LD}{Ks:List LP}{j:Nat}(h:qG6 (j+1) [l,.n i,.n en,.n e,.n ac,.n d,.n n,.t ce,.t ar] Ks) :
  Qm5 l i en e ac d n ce ar (fun ys=>qG6 j ys Ks) (nthK Ks) q QK q2 Qb Qa Qc Qf Qg:=by
 obtain⟨l_,i_,en_,e_,ac_,d_,n_,ce_,ar_,eq,⟨T,i0,i1,d0,d1⟩,hj,hw,ha,hk⟩:=h
 cases eq
 have hl:=T.n
 have he0:=Qan e
 refine Eq.mpr (Qwg ..) ?_
 repeat' first
  | exact hk _ _ _ _ _ om ha
  | refine⟨⟨om,om⟩,?_⟩
  | exact⟨l,_,en,_,_,d,_,_,_,rfl,⟨T,om,om,om,om⟩,om,by rw[List.length_append,List.length_singleton];omega,fun h=>⟨Qtz (ha om).1 ⟨_,rfl,hs om⟩,(ha om).2⟩,hk⟩
  | exact⟨l,_,en,_,_,d,_,_,_,rfl,⟨T,om,om,om,om⟩,om,by rw[List.length_append,List.length_singleton];omega,fun h=>⟨(ha om).1,Qtz (ha om).2 ⟨_,_,rfl,hs om⟩⟩,hk⟩
  | with_reducible refine bifT ?_
  | with_reducible refine bifF ?_
  | (simp only[Int.ofNat_eq_natCast])
  | refine⟨decC om om,?_⟩
  | refine⟨⟨trivial,trivial⟩,?_⟩
  | refine⟨trivial,?_⟩
  | refine⟨rfl,?_⟩
  | refine QbJ (fun hc=>?_) (fun hc=>?_)
  | refine bifE (fun hc=>?_) (fun hc=>?_)
  | refine bifN (fun hc=>?_) (fun hc=>?_)
  | refine bifD (fun hc=>?_) (fun hc=>?_)
  | refine QdM T om om om om (by decide) (fun e' ac' he=>?_)
  | refine QcI T om om om om (fun he hc ht=>?_) ?_
  | refine Qfw T om om om om (fun i' e' ac' b1 b2 b3 b4 b4' b5=>?_)
  | refine Qf0 T om om om om (fun he hc hkd=>?_) ?_
  | refine Ql3 T om om om om (fun s i' e' ac' a1 a2 a3 a4 a4' a5 hs hl=>?_)
  | refine QBo (Nat.le_trans (T.at om om).1 om) (fun _=>?_)
  | intro _
  | (simp (disch:=omega) only [QJ,Int.add_sub_cancel])
theorem u_G6 (T:Tok l)(i0:0≤i)(i1:i≤l.len)(d0:0≤d)(d1:d≤40){f:TelK [.l 4,.i .i64,.i .i64,.i .i64,.i .i64,.i .i64,.i .i64,.r 1,.r 11]}
  (h:∀(ce' ar':List LD) (i' e' ac':Int),ce'.length+ar'.length≤4097→(er e'=0→(∀x∈ce',WCe x)∧∀x∈ar',WAr x)→f l i' en e' ac' d n ce' ar'):∃j,qG6 j [l,.n i,.n en,.n e,.n ac,.n d,.n n,.t [],.t []] [apK [.l 4,.i .i64,.i .i64,.i .i64,.i .i64,.i .i64,.i .i64,.r 1,.r 11] f]:=
 ⟨2 * (l.len - i:Int).toNat+2,l,i,en,e,ac,d,n,[],[],rfl,⟨T,i0,i1,d0,d1⟩,om,by simp only[List.length_nil];omega,fun _=>⟨by simp,by simp⟩,fun a1 a2 a3 a4 a5 a6 a7 _=>h a1 a2 a3 a4 a5 a6 a7⟩
def QW:QF:=fun xs Ks=>∃s,xs=[.s s]∧s.length≤100000000∧(∀a e:Int,e≠0→nthK Ks 0 [.nul,.nul,.n a,.n e])∧∀(ce ar:LD),WG ce ar→nthK Ks 0 [ce,ar,.n 0,.n 0]
theorem Qyi {s:Str}{Ks:KN}{q1 q3 q4 q5 q6:QF}(hs0:s.length≤100000000)(hk1:∀a e:Int,e≠0→Ks 0 [.nul,.nul,.n a,.n e])(hk:∀(ce ar:LD),WG ce ar→Ks 0 [ce,ar,.n 0,.n 0]) :
  Qpk s Ks q q1 Qy q2 q3 q4 q5 q6 (fun xs Ks=>∃j,qG6 j xs Ks):=by
 refine Eq.mpr (Qy0 ..) ?_
 refine QBq hs0 fun l a e ht hw=>?_
 refine bifN (fun hc=>hk1 _ _ hc) (fun hc=>?_)
 have T:Tok l:=by
  simp only[wtL] at hw
  obtain⟨h1,h2⟩:=ht hc
  exact⟨hw.1,h1,h2⟩
 refine u_G6 T om om om om fun ce ar i' e' ac' hn hg=>?_
 refine QbJ (fun h=>⟨rfl,rfl,hk1 _ _ (QxH h)⟩) fun h=>?_
 obtain⟨g1,g2⟩:=hg h
 have c0:(LD.nul).len≤4097:=zo
 have n1:∀(a:Addr) (c:Nat),(LD.l a c ce).len≤4097:=fun _ _=>by show ce.length≤4097;omega
 have n2:∀(a:Addr) (c:Nat),(LD.l a c ar).len≤4097:=fun _ _=>by show ar.length≤4097;omega
 refine⟨fun _=>⟨fun _=>?_,fun a2 c2 _=>?_⟩,fun a1 c1 _=>⟨fun _=>?_,fun a2 c2 _=>?_⟩⟩
 ·exact hk _ _ ⟨⟨c0,fun x h=>by cases h⟩,⟨c0,fun x h=>by cases h⟩⟩
 ·exact hk _ _ ⟨⟨c0,fun x h=>by cases h⟩,⟨n2 _ _,g2⟩⟩
 ·exact hk _ _ ⟨⟨n1 _ _,g1⟩,⟨c0,fun x h=>by cases h⟩⟩
 ·exact hk _ _ ⟨⟨n1 _ _,g1⟩,⟨n2 _ _,g2⟩⟩
end Go.Proofs.YtmdppkbekmpopaaGreat
namespace Go.Proofs.YtmdppkbekmpopaaGreat
open Go Go.Sh Go.Va
def Qeu:Nat:=1040121728
def QgK:List (Nat×RP):=([pq 1 6 [0,3,9,12,8,17]]++nf [0,2,5,6,7,8,4])
def QCW:FC:=cdF tp QgK Qeu Tryz.f165
def Qr7:FFn:=.f 2 Qeu 5 [.t 4] (evC QCW)
def QhZ:Nat:=8388576
def Qmd:List (Nat×RP):=([pq 1 18 [0,3,6,9,12,15,18,21,24,27,30,33,36,39,42,47,48,51]]++nf [0])
def Qx1:FC:=cdF tp Qmd QhZ Tryz.f171
def QnF:FFn:=.f 2 QhZ 5 [.t 4] (evC Qx1)
def Qmo:Nat:=8589932448
def Qqm:List (Nat×RP):=([pq 4 7 [0,3,6,9,12,17,18],pq 5 14 [0,3,6,9,12,17,18,21,24,27,30,33,38,39]]++nf [0,1,2,3])
def QCX:FC:=cdF tp Qqm Qmo Tryz.f172
def Qr8:FFn:=.f 2 Qmo 6 [.t 4] (evC QCX)
def QkJ:Nat:=562949953419168
def Qov:List (Nat×RP):=([pq 4 7 [0,3,6,9,12,17,18],pq 5 30 [0,3,6,9,12,17,18,21,24,27,30,33,38,39,42,45,48,51,54,57,62,63,66,69,72,75,78,81,86,87]]++nf [0,1,2,3])
def QAO:FC:=cdF tp Qov QkJ Tryz.f173
def Qqv:FFn:=.f 2 QkJ 6 [.t 4] (evC QAO)
def Qet:Nat:=25010327224008291656261366293578929587553676728119109613568
def QgJ:List (Nat×RP):=([pq 1 9 [0,3,6,12,15,18,11,23,24],pq 9 11 [0,3,6,9,12,15,18,21,24,27,32],pq 32 11 [0,3,6,9,12,15,18,21,26,27,30],pq 33 6 [0,3,6,9,12,15],pq 35 10 [0,3,6,9,12,15,18,21,26,27]]++nf [0,2,3,5,6,7,10,11,12,13,16,17,18,19,20,21,22,23,24,25,27,28,31,34,30,36,38,4])
def QCV:FC:=cdF tp QgJ Qet Tryz.f139
def Qr6:FFn:=.f 2 Qet 8 [.c 4 10 true,.t 5] (evC QCV)
def QdK:Nat:=18437728077824843776
def Qf3:List (Nat×RP):=([pq 5 11 [0,3,6,9,12,28,17,18,21,24,32],pq 7 6 [0,3,6,9,12,15]]++nf [0,1,2,6,8,9,12,13,14,15,4])
def QAN:FC:=cdF tp Qf3 QdK Tryz.f95
def Qqu:FFn:=.f 2 QdK 7 [.t 4,.t 5] (evC QAN)
def Qa7:Nat:=36316464374294245376
def QcC:List (Nat×RP):=([pq 3 6 [0,3,9,12,8,17],pq 10 10 [0,3,6,9,12,15,18,21,24,27]]++nf [0,1,4,7,11,9,6,13,14,15,16])
def Qx2:FC:=cdF tp QcC Qa7 Tryz.f38
def QnG:FFn:=.f 2 Qa7 7 [.c 4 4 true,.t 5,.t 6] (evC Qx2)
def Qfa:Nat:=17590038429632
def QhS:List (Nat×RP):=([pq 6 11 [0,3,6,9,12,18,21,24,17,29,32]]++nf [0,1,3,4,5])
def QDF:FC:=cdF tp QhS Qfa Tryz.f49
def Qu9:FFn:=.f 2 Qfa 6 [.t 4] (evC QDF)
def QNf:Nat:=130496
def QOq:List (Nat×RP):=(nf [0,1,4,5,3,6])
def QVs:FC:=cdF tp QOq QNf Tryz.f48
def QSP:FFn:=.f 2 QNf 5 [.t 4] (evC QVs)
def QnO:FC:=cdL tp QgK Qeu 3 Tryz.f165
def QmE:FC:=cdL tp QgJ Qet 29 Tryz.f139
def QmD:FC:=cdL tp Qf3 QdK 3 Tryz.f95
def Qkk:FC:=cdL tp QcC Qa7 5 Tryz.f38
def Qkj:FC:=cdL tp QcC Qa7 8 Tryz.f38
def QoZ:FC:=cdL tp QhS Qfa 2 Tryz.f49
def QQ4:FC:=cdL tp QOq QNf 2 Tryz.f48
end Go.Proofs.YtmdppkbekmpopaaGreat
