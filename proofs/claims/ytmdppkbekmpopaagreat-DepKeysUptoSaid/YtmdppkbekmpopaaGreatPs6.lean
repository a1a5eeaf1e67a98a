import Derived.Test.YtmdppkbekmpopaaGreatPs4
set_option linter.unusedVariables false
set_option linter.unusedSimpArgs false
set_option linter.unusedSectionVars false
set_option maxRecDepth 100000
set_option maxHeartbeats 8000000
noncomputable section
namespace Go.Proofs.YtmdppkbekmpopaaGreat
open Go Go.Sh Go.Va
def WSs (r:LD):Prop:=r.len≤4096∧∀x∈r.es,WS x
theorem QJM:WSs .nul:=⟨zo,fun x h=>by cases h⟩
variable {E:LD}{X:Str}{n:Int}
theorem QFu (hX:Nm X)(hE:WE E):WS (.t [.n 0,.s X,.s [],E,.nul,.nul,.nul,.nul,.nul,.n n]):=
 .mk _ _ _ _ _ _ _ _ _ _ ⟨om,⟨fun _=>hX,om,om⟩,⟨om,fun _=>rfl⟩,⟨fun _=>hE,om⟩,⟨om,fun _=>rfl⟩,⟨om,fun _=>rfl⟩,fun _=>rfl,⟨fun _=>rfl,fun _=>rfl⟩,⟨zo,zo,zo⟩⟩ (fun x h=>by cases h) (fun x h=>by cases h) (fun x h=>by cases h)
variable {Y:Str}
theorem QIp (hX:Nm X)(hY:Nm Y):WS (.t [.n 1,.s X,.s Y,.nul,.nul,.nul,.nul,.nul,.nul,.n n]):=
 .mk _ _ _ _ _ _ _ _ _ _ ⟨om,⟨fun _=>hX,om,om⟩,⟨fun _=>hY,om⟩,⟨om,fun _=>rfl⟩,⟨om,fun _=>rfl⟩,⟨om,fun _=>rfl⟩,fun _=>rfl,⟨fun _=>rfl,fun _=>rfl⟩,⟨zo,zo,zo⟩⟩ (fun x h=>by cases h) (fun x h=>by cases h) (fun x h=>by cases h)
theorem QIm (hX:Nm X):WS (.t [.n 3,.s X,.s [],.nul,.nul,.nul,.nul,.nul,.nul,.n n]):=
 .mk _ _ _ _ _ _ _ _ _ _ ⟨om,⟨fun _=>hX,om,om⟩,⟨om,fun _=>rfl⟩,⟨om,fun _=>rfl⟩,⟨om,fun _=>rfl⟩,⟨om,fun _=>rfl⟩,fun _=>rfl,⟨fun _=>rfl,fun _=>rfl⟩,⟨zo,zo,zo⟩⟩ (fun x h=>by cases h) (fun x h=>by cases h) (fun x h=>by cases h)
theorem QIn (hX:Nm X)(hY:Nm Y):WS (.t [.n 4,.s X,.s Y,.nul,.nul,.nul,.nul,.nul,.nul,.n n]):=
 .mk _ _ _ _ _ _ _ _ _ _ ⟨om,⟨fun _=>hX,om,om⟩,⟨fun _=>hY,om⟩,⟨om,fun _=>rfl⟩,⟨om,fun _=>rfl⟩,⟨om,fun _=>rfl⟩,fun _=>rfl,⟨fun _=>rfl,fun _=>rfl⟩,⟨zo,zo,zo⟩⟩ (fun x h=>by cases h) (fun x h=>by cases h) (fun x h=>by cases h)
theorem QG2 (hX:Nm X)(hE:WE E):WS (.t [.n 5,.s X,.s [],E,.nul,.nul,.nul,.nul,.nul,.n n]):=
 .mk _ _ _ _ _ _ _ _ _ _ ⟨om,⟨fun _=>hX,om,om⟩,⟨om,fun _=>rfl⟩,⟨fun _=>hE,om⟩,⟨om,fun _=>rfl⟩,⟨om,fun _=>rfl⟩,fun _=>rfl,⟨fun _=>rfl,fun _=>rfl⟩,⟨zo,zo,zo⟩⟩ (fun x h=>by cases h) (fun x h=>by cases h) (fun x h=>by cases h)
theorem QG3 (hX:Nm X)(hY:Nm Y)(hE:WE E):WS (.t [.n 6,.s X,.s Y,E,.nul,.nul,.nul,.nul,.nul,.n n]):=
 .mk _ _ _ _ _ _ _ _ _ _ ⟨om,⟨fun _=>hX,om,om⟩,⟨fun _=>hY,om⟩,⟨fun _=>hE,om⟩,⟨om,fun _=>rfl⟩,⟨om,fun _=>rfl⟩,fun _=>rfl,⟨fun _=>rfl,fun _=>rfl⟩,⟨zo,zo,zo⟩⟩ (fun x h=>by cases h) (fun x h=>by cases h) (fun x h=>by cases h)
theorem QJQ {F:LD}(hY:Nm Y)(hE:WE E)(hF:WE F):WS (.t [.n 7,.s [],.s Y,E,F,.nul,.nul,.nul,.nul,.n n]):=
 .mk _ _ _ _ _ _ _ _ _ _ ⟨om,⟨om,fun _ _=>rfl,om⟩,⟨fun _=>hY,om⟩,⟨fun _=>hE,om⟩,⟨fun _=>hF,om⟩,⟨om,fun _=>rfl⟩,fun _=>rfl,⟨fun _=>rfl,fun _=>rfl⟩,⟨zo,zo,zo⟩⟩ (fun x h=>by cases h) (fun x h=>by cases h) (fun x h=>by cases h)
theorem QIo {ar:LD}(hX:X=[]∨Nm X)(hY:Nm Y)(ha:WAs ar):WS (.t [.n 8,.s X,.s Y,.nul,.nul,.nul,ar,.nul,.nul,.n n]):=
 .mk _ _ _ _ _ _ _ _ _ _ ⟨om,⟨om,om,fun _=>hX⟩,⟨fun _=>hY,om⟩,⟨om,fun _=>rfl⟩,⟨om,fun _=>rfl⟩,⟨om,fun _=>rfl⟩,fun h=>absurd rfl h,⟨fun _=>rfl,fun _=>rfl⟩,⟨ha.1,zo,zo⟩⟩ ha.2 (fun x h=>by cases h) (fun x h=>by cases h)
theorem QJP (hE:WE E):WS (.t [.n 9,.s [],.s [],E,.nul,.nul,.nul,.nul,.nul,.n n]):=
 .mk _ _ _ _ _ _ _ _ _ _ ⟨om,⟨om,fun _ _=>rfl,om⟩,⟨om,fun _=>rfl⟩,⟨fun _=>hE,om⟩,⟨om,fun _=>rfl⟩,⟨om,fun _=>rfl⟩,fun _=>rfl,⟨fun _=>rfl,fun _=>rfl⟩,⟨zo,zo,zo⟩⟩ (fun x h=>by cases h) (fun x h=>by cases h) (fun x h=>by cases h)
variable {C:LD}
theorem QFv (hC:WC C):WS (.t [.n 12,.s [],.s [],.nul,.nul,C,.nul,.nul,.nul,.n n]):=
 .mk _ _ _ _ _ _ _ _ _ _ ⟨om,⟨om,fun _ _=>rfl,om⟩,⟨om,fun _=>rfl⟩,⟨om,fun _=>rfl⟩,⟨om,fun _=>rfl⟩,⟨fun _=>hC,om⟩,fun _=>rfl,⟨fun _=>rfl,fun _=>rfl⟩,⟨zo,zo,zo⟩⟩ (fun x h=>by cases h) (fun x h=>by cases h) (fun x h=>by cases h)
variable {th:LD}
theorem QK0 {el:LD}(hC:WC C)(ht:WSs th)(he:WSs el):WS (.t [.n 10,.s [],.s [],.nul,.nul,C,.nul,th,el,.n n]):=
 .mk _ _ _ _ _ _ _ _ _ _ ⟨om,⟨om,fun _ _=>rfl,om⟩,⟨om,fun _=>rfl⟩,⟨om,fun _=>rfl⟩,⟨om,fun _=>rfl⟩,⟨fun _=>hC,om⟩,fun _=>rfl,⟨fun h=>absurd rfl h.1,fun h=>absurd rfl h⟩,⟨zo,ht.1,he.1⟩⟩ (fun x h=>by cases h) ht.2 he.2
theorem QG1 (hC:WC C)(ht:WSs th):WS (.t [.n 11,.s [],.s [],.nul,.nul,C,.nul,th,.nul,.n n]):=
 .mk _ _ _ _ _ _ _ _ _ _ ⟨om,⟨om,fun _ _=>rfl,om⟩,⟨om,fun _=>rfl⟩,⟨om,fun _=>rfl⟩,⟨om,fun _=>rfl⟩,⟨fun _=>hC,om⟩,fun _=>rfl,⟨fun h=>absurd rfl h.2,fun _=>rfl⟩,⟨zo,ht.1,zo⟩⟩ (fun x h=>by cases h) ht.2 (fun x h=>by cases h)
variable {m:Int}
theorem QLl {a:Addr}{c:Nat}{w:List LD}(h:CL WS m w)(hl:w.length≤4096):CN WSs m (.l a c w):=⟨⟨hl,h.w⟩,by have:=h.n;simp only[nN];omega⟩
theorem Qy8 (h:0≤m):CN WSs m .nul:=⟨QJM,by simp only[nN];omega⟩
section
variable {m m1 m2 m3:Int}
variable {E:LD}{X:Str}{n:Int}
theorem QGO (hX:Nm X)(hE:CN WE m1 E)(h:m1+1≤m):CN WS m (.t [.n 0,.s X,.s [],E,.nul,.nul,.nul,.nul,.nul,.n n]):=cn_s (QFu hX hE.w) (by have:=hE.n;simp only[nN];omega)
variable {Y:Str}
theorem QJo (hX:Nm X)(hY:Nm Y)(h:1≤m):CN WS m (.t [.n 1,.s X,.s Y,.nul,.nul,.nul,.nul,.nul,.nul,.n n]):=cn_s (QIp hX hY) (by simp only[nN];omega)
theorem QJm (hX:Nm X)(h:1≤m):CN WS m (.t [.n 3,.s X,.s [],.nul,.nul,.nul,.nul,.nul,.nul,.n n]):=cn_s (QIm hX) (by simp only[nN];omega)
theorem QJn (hX:Nm X)(hY:Nm Y)(h:1≤m):CN WS m (.t [.n 4,.s X,.s Y,.nul,.nul,.nul,.nul,.nul,.nul,.n n]):=cn_s (QIn hX hY) (by simp only[nN];omega)
theorem QCP (hX:Nm X)(hE:CN WE m1 E)(h:m1+1≤m):CN WS m (.t [.n 5,.s X,.s [],E,.nul,.nul,.nul,.nul,.nul,.n n]):=cn_s (QG2 hX hE.w) (by have:=hE.n;simp only[nN];omega)
theorem QHH (hX:Nm X)(hY:Nm Y)(hE:CN WE m1 E)(h:m1+1≤m):CN WS m (.t [.n 6,.s X,.s Y,E,.nul,.nul,.nul,.nul,.nul,.n n]):=cn_s (QG3 hX hY hE.w) (by have:=hE.n;simp only[nN];omega)
theorem QGN {F:LD}(hY:Nm Y)(hE:CN WE m1 E)(hF:CN WE m2 F)(h:m1+m2+1≤m):CN WS m (.t [.n 7,.s [],.s Y,E,F,.nul,.nul,.nul,.nul,.n n]):=cn_s (QJQ hY hE.w hF.w) (by have:=hE.n;have:=hF.n;simp only[nN];omega)
theorem Qy7 {ar:LD}(hX:X=[]∨Nm X)(hY:Nm Y)(ha:CN WAs m1 ar)(h:m1+1≤m):CN WS m (.t [.n 8,.s X,.s Y,.nul,.nul,.nul,ar,.nul,.nul,.n n]):=cn_s (QIo hX hY ha.w) (by have:=ha.n;simp only[nN];omega)
theorem QGM (hE:CN WE m1 E)(h:m1+1≤m):CN WS m (.t [.n 9,.s [],.s [],E,.nul,.nul,.nul,.nul,.nul,.n n]):=cn_s (QJP hE.w) (by have:=hE.n;simp only[nN];omega)
variable {C:LD}
theorem QzK (hC:CN WC m1 C)(h:m1+1≤m):CN WS m (.t [.n 12,.s [],.s [],.nul,.nul,C,.nul,.nul,.nul,.n n]):=cn_s (QFv hC.w) (by have:=hC.n;simp only[nN];omega)
variable {th:LD}
theorem QBb {el:LD}(hC:CN WC m1 C)(ht:CN WSs m2 th)(he:CN WSs m3 el)(h:m1+m2+m3+1≤m):CN WS m (.t [.n 10,.s [],.s [],.nul,.nul,C,.nul,th,el,.n n]):=cn_s (QK0 hC.w ht.w he.w) (by have:=hC.n;have:=ht.n;have:=he.n;simp only[nN];omega)
theorem QCO (hC:CN WC m1 C)(ht:CN WSs m2 th)(h:m1+m2+1≤m):CN WS m (.t [.n 11,.s [],.s [],.nul,.nul,C,.nul,th,.nul,.n n]):=cn_s (QG1 hC.w ht.w) (by have:=hC.n;have:=ht.n;simp only[nN];omega)
end
abbrev QvF (k:Nat):QF:=qP WSs 0 k
abbrev Qmb (k:Nat):QF:=qP WSs 7 k
def PKS (z:Int)(l:LD)(i e:Int)(K:Int→Str→Str→LD→LD→LD→LD→LD→LD→Int→Int→Int→Int→Int→Prop):Prop:=∀(kk:Int) (X Y:Str) (E F C ar th el:LD) (nn i' e' ac' n':Int),i≤i'→i'≤l.len→er e≤er e'→er e'≤1→i+1≤i'+er e'→(er e'=0→CN WS (i' - i+z) (.t [.n kk,.s X,.s Y,E,F,C,ar,th,el,.n nn]))→K kk X Y E F C ar th el nn i' e' ac' n'
def qS (k:Nat):QF:=fun xs Ks=>∃l i en e ac d n,xs=PL l i en e ac d n∧St0 l i d∧10 * (40 - d).toNat+6<k∧PKS 0 l i e fun kk X Y E F C ar th el nn i' e' ac' n'=>nthK Ks 0 [.n kk,.s X,.s Y,E,F,C,ar,th,el,.n nn,l,.n i',.n en,.n e',.n ac',.n d,.n n']
def qV (k:Nat):QF:=fun xs Ks=>∃l i en e ac d n X m,xs=[l,.n i,.n en,.n e,.n ac,.n d,.n n,.n 0,.s X,.s [],.nul,.nul,.nul,.nul,.nul,.nul,.n m]∧St0 l i d∧10 * (40 - d).toNat+4<k∧(er e=0→Nm X) ∧
 PKS 1 l i e fun kk X Y E F C ar th el nn i' e' ac' n'=>nthK Ks 0 [l,.n i',.n en,.n e',.n ac',.n d,.n n',.n kk,.s X,.s Y,E,F,C,ar,th,el,.n nn]
section
variable {l:LD}{i en e ac d n:Int} (T:Tok l) (i0:0≤i) (i1:i≤l.len) (d0:0≤d) (d1:d≤40)
include T i0 i1 d0 d1
variable {k:Nat}
theorem u_S {f:TelK (.i .i64::.s::.s::.p 5::.p 5::.p 6::.l 7::.l 8::.l 8::.i .i64::ksP)}(hk:10 * (40 - d).toNat+6<k)(h:PKS 0 l i e fun kk X Y E F C ar th el nn i' e' ac' n'=>f kk X Y E F C ar th el nn l i' en e' ac' d n'):qS k [l,.n i,.n en,.n e,.n ac,.n d,.n n] [apK (.i .i64::.s::.s::.p 5::.p 5::.p 6::.l 7::.l 8::.l 8::.i .i64::ksP) f]:=⟨l,i,en,e,ac,d,n,rfl,⟨T,i0,i1,d0,d1⟩,hk,fun kk X Y E F C ar th el nn i' e' ac' n' a1 a2 a3 a4 a5 a6 _=>h kk X Y E F C ar th el nn i' e' ac' n' a1 a2 a3 a4 a5 a6⟩
theorem u_V {X:Str}{m:Int}{f:TelK [.l 4,.i .i64,.i .i64,.i .i64,.i .i64,.i .i64,.i .i64,.i .i64,.s,.s,.p 5,.p 5,.p 6,.l 7,.l 8,.l 8,.i .i64]}(hk:10 * (40 - d).toNat+4<k)(hX:er e=0→Nm X)(h:PKS 1 l i e fun kk X Y E F C ar th el nn i' e' ac' n'=>f l i' en e' ac' d n' kk X Y E F C ar th el nn):qV k [l,.n i,.n en,.n e,.n ac,.n d,.n n,.n 0,.s X,.s [],.nul,.nul,.nul,.nul,.nul,.nul,.n m] [apK [.l 4,.i .i64,.i .i64,.i .i64,.i .i64,.i .i64,.i .i64,.i .i64,.s,.s,.p 5,.p 5,.p 6,.l 7,.l 8,.l 8,.i .i64] f]:=⟨l,i,en,e,ac,d,n,X,m,rfl,⟨T,i0,i1,d0,d1⟩,hk,hX,fun kk X Y E F C ar th el nn i' e' ac' n' a1 a2 a3 a4 a5 a6 _=>h kk X Y E F C ar th el nn i' e' ac' n' a1 a2 a3 a4 a5 a6⟩
end
def qLS (k j:Nat):QF:=fun xs Ks=>∃l i en e ac d n w o,xs=[l,.n i,.n en,.n e,.n ac,.n d,.n n,.t w]∧St0 l i d∧10 * (40 - d).toNat+6<k∧2 * (l.len - i:Int).toNat+1<j+er e ∧
 (w.length:Int)≤i+er e∧(er e=0→CL WS (i - o) w)∧(∀(w':List LD) (i' e' ac' n':Int),i≤i'→i'≤l.len→er e≤er e'→er e'≤1→i+1≤i'+er e'→(er e'=0→w'.length≤4096∧CL WS (i' - o) w')→nthK Ks 0 [l,.n i',.n en,.n e',.n ac',.n d,.n n',.t w']) ∧
 ∀(r:LD) (i' e' ac' n':Int),i≤i'→i'≤l.len→er e'=1→nthK Ks 1 (r::PL l i' en e' ac' d n')
variable {ac d e en i n:Int}{k:Nat}{l:LD}
theorem u_LS (T:Tok l)(i0:0≤i)(i1:i≤l.len)(d0:0≤d)(d1:d≤40){f:TelK [.l 4,.i .i64,.i .i64,.i .i64,.i .i64,.i .i64,.i .i64,.r 8]}{g:TelK (.l 8::ksP)}(hk:10 * (40 - d).toNat+6<k)(hf:∀(w':List LD) (i' e' ac' n':Int),i≤i'→i'≤l.len→er e≤er e'→er e'≤1→i+1≤i'+er e'→(er e'=0→w'.length≤4096∧CL WS (i' - i) w')→f l i' en e' ac' d n' w')
  (h:∀(r:LD) (i' e' ac' n':Int),i≤i'→i'≤l.len→er e'=1→g r l i' en e' ac' d n'):∃j,qLS k j [l,.n i,.n en,.n e,.n ac,.n d,.n n,.t []] [apK [.l 4,.i .i64,.i .i64,.i .i64,.i .i64,.i .i64,.i .i64,.r 8] f,apK (.l 8::ksP) g]:=
 ⟨2 * (l.len - i:Int).toNat+2,l,i,en,e,ac,d,n,[],i,rfl,⟨T,i0,i1,d0,d1⟩,hk,om,by simp only[List.length_nil];omega,fun _=>CL.nil om,fun w' i' e' ac' n' a1 a2 a3 a4 a5 a6 _=>hf w' i' e' ac' n' a1 a2 a3 a4 a5 a6,fun r i' e' ac' n' a1 a2 a3 _=>h r i' e' ac' n' a1 a2 a3⟩
variable {q:QF}
theorem Qoh {w:List LD}{Ks:List LP}{j:Nat}(h:qLS k (j+1) [l,.n i,.n en,.n e,.n ac,.n d,.n n,.t w] Ks):Qhx l i en e ac d n w (fun ys=>qLS k j ys Ks) (nthK Ks) q Qb Qa (qS k):=by
 obtain⟨l_,i_,en_,e_,ac_,d_,n_,w_,o,eq,⟨T,i0,i1,d0,d1⟩,hr0,hj,hw,ha,hk0,hk⟩:=h
 cases eq
 have hl:=T.n
 have he0:=Qan e
 refine Eq.mpr (Qo1 ..) ?_
 repeat' first
  | exact hk _ _ _ _ _ om om om
  | exact hk0 _ _ _ _ _ om om om om om (fun h=>⟨om,(ha om).up om⟩)
  | exact⟨om,om⟩
  | refine⟨⟨om,om⟩,?_⟩
  | exact⟨l,_,en,_,_,d,_,_,o,rfl,⟨T,om,om,om,om⟩,om,om,by rw[List.length_append,List.length_singleton];omega,fun h=>(ha om).one (hws om) om,fun w' i' e' ac' n' c1 c2 c3 c3' c4 c5=>hk0 w' i' e' ac' n' om c2 om c3' om c5,fun r i' e' ac' n' c1 c2 c3=>hk r i' e' ac' n' om c2 c3⟩
  | with_reducible refine bifT ?_
  | with_reducible refine bifF ?_
  | (simp (disch:=omega) only [cond_true,cond_false,QJ,Int.add_sub_cancel,Int.ofNat_eq_natCast])
  | refine⟨decC om om,?_⟩
  | refine⟨⟨trivial,trivial⟩,?_⟩
  | refine⟨trivial,?_⟩
  | refine⟨rfl,?_⟩
  | refine QbJ (fun hc=>?_) (fun hc=>?_)
  | refine bifE (fun hc=>?_) (fun hc=>?_)
  | refine bifN (fun hc=>?_) (fun hc=>?_)
  | refine bifD (fun hc=>?_) (fun hc=>?_)
  | refine QdM T om om om om (by decide) (fun e' ac' he=>?_)
  | refine QcI T om om om om (fun he hc ht=>?_) ?_
  | refine u_S T om om om om om (fun kk X Y E F C ar th el nn i' e' ac' n' c1 c2 c3 c3' c4 hws=>?_)
  | intro _
variable {Ks:KN}
theorem QqX (S:St0 l i d)(hr0:10 * (40 - d).toNat+7<k+1)(hk:PK WSs l i e fun x i' e' ac' n'=>Ks 0 (x::PL l i' en e' ac' d n')):QiZ l i en e ac d n Ks q Qb Qa (qS k) (fun xs Ks=>∃j,qLS k j xs Ks):=by
 obtain⟨T,i0,i1,d0,d1⟩:=S
 have hl:=T.n
 have he0:=Qan e
 refine Eq.mpr (Qrg ..) ?_
 repeat' first
  | exact hk _ _ _ _ _ om om om om om (fun h=>QLl ((hw om).2.up om) (hw om).1)
  | refine⟨fun hnil=>?_,fun aa cc hcc=>?_⟩
  | exact hk _ _ _ _ _ om om om om om (fun h=>Qy8 om)
  | with_reducible refine bifT ?_
  | with_reducible refine bifF ?_
  | (simp (disch:=omega) only [cond_true,cond_false,QJ,Int.add_sub_cancel,Int.ofNat_eq_natCast])
  | refine⟨decC om om,?_⟩
  | refine⟨⟨trivial,trivial⟩,?_⟩
  | refine⟨trivial,?_⟩
  | refine⟨rfl,?_⟩
  | refine QbJ (fun hc=>?_) (fun hc=>?_)
  | refine bifE (fun hc=>?_) (fun hc=>?_)
  | refine bifN (fun hc=>?_) (fun hc=>?_)
  | refine bifD (fun hc=>?_) (fun hc=>?_)
  | refine QdM T om om om om (by decide) (fun e' ac' he=>?_)
  | refine QcI T om om om om (fun he hc ht=>?_) ?_
  | refine u_LS T om om om om om (fun w' i' e' ac' n' c1 c2 c3 c3' c4 hw=>?_) (fun r' i' e' ac' n' c1 c2 c3=>?_)
  | intro _
  | exact hk _ _ _ _ _ om om om om om (fun h=>(by omega:False).elim)
theorem QqZ (S:St0 l i d)(hr0:10 * (40 - d).toNat+0<k+1)(hk:PK WSs l i e fun x i' e' ac' n'=>Ks 0 (x::PL l i' en e' ac' d n')):Qi1 l i en e ac d n Ks q Qb Qd Qh (Qmb k):=by
 obtain⟨T,i0,i1,d0,d1⟩:=S
 have hl:=T.n
 have he0:=Qan e
 refine Eq.mpr (Qri ..) ?_
 repeat' first
  | exact hk _ _ _ _ _ om om om om om (fun h=>(hr om).up om)
  | with_reducible refine bifT ?_
  | with_reducible refine bifF ?_
  | (simp (disch:=omega) only [cond_true,cond_false,QJ,Int.add_sub_cancel,Int.ofNat_eq_natCast])
  | refine⟨decC om om,?_⟩
  | refine⟨⟨trivial,trivial⟩,?_⟩
  | refine⟨trivial,?_⟩
  | refine⟨rfl,?_⟩
  | refine QbJ (fun hc=>?_) (fun hc=>?_)
  | refine bifE (fun hc=>?_) (fun hc=>?_)
  | refine bifN (fun hc=>?_) (fun hc=>?_)
  | refine bifD (fun hc=>?_) (fun hc=>?_)
  | refine QdM T om om om om (by decide) (fun e' ac' he=>?_)
  | refine u_is T om om om om (fun he hc ht _=>?_) ?_
  | refine QwK T om om om om (fun he hd=>?_) (fun e' ac' he=>?_)
  | refine u_Pl T om om om om om (fun r i' e' ac' n' a1 a2 a3 a3' a4 hr=>?_)
  | intro _
  | exact hk _ _ _ _ _ om om om om om (fun h=>(by omega:False).elim)
theorem QqV {X:Str}{m:Int}(S:St0 l i d)(hr0:10 * (40 - d).toNat+4<k+1)(hX:er e=0→Nm X)(hk:PKS 1 l i e fun kk X Y E F C ar th el nn i' e' ac' n'=>Ks 0 [l,.n i',.n en,.n e',.n ac',.n d,.n n',.n kk,.s X,.s Y,E,F,C,ar,th,el,.n nn]) :
  QiX l i en e ac d n 0 X [] .nul .nul .nul .nul .nul .nul m Ks q Qa Qc Qf Qg (Qeo k) (Qos k):=by
 obtain⟨T,i0,i1,d0,d1⟩:=S
 have hl:=T.n
 have he0:=Qan e
 refine Eq.mpr (Qre ..) ?_
 repeat' first
  | exact hk _ _ _ _ _ _ _ _ _ _ _ _ _ _ om om om om om (fun h=>QJm (hX om) om)
  | exact hk _ _ _ _ _ _ _ _ _ _ _ _ _ _ om om om om om (fun h=>QJo (hX om) (hs h) om)
  | exact hk _ _ _ _ _ _ _ _ _ _ _ _ _ _ om om om om om (fun h=>QJn (hX om) (hs h) om)
  | exact hk _ _ _ _ _ _ _ _ _ _ _ _ _ _ om om om om om (fun h=>QHH (hX om) (hs om) (hr om) om)
  | exact hk _ _ _ _ _ _ _ _ _ _ _ _ _ _ om om om om om (fun h=>Qy7 (.inr (hX om)) (hs om) (hr om) om)
  | exact hk _ _ _ _ _ _ _ _ _ _ _ _ _ _ om om om om om (fun h=>QGO (hX om) (hr om) om)
  | with_reducible refine bifT ?_
  | with_reducible refine bifF ?_
  | (simp (disch:=omega) only [cond_true,cond_false,QJ,Int.add_sub_cancel,Int.ofNat_eq_natCast])
  | refine⟨decC om om,?_⟩
  | refine⟨⟨trivial,trivial⟩,?_⟩
  | refine⟨trivial,?_⟩
  | refine⟨rfl,?_⟩
  | refine QbJ (fun hc=>?_) (fun hc=>?_)
  | refine bifE (fun hc=>?_) (fun hc=>?_)
  | refine bifN (fun hc=>?_) (fun hc=>?_)
  | refine bifD (fun hc=>?_) (fun hc=>?_)
  | refine QcI T om om om om (fun he hc ht=>?_) ?_
  | refine Qfw T om om om om (fun i' e' ac' b1 b2 b3 b4 b4' b5=>?_)
  | refine Qf0 T om om om om (fun he hc hkd=>?_) ?_
  | refine Ql3 T om om om om (fun s i' e' ac' a1 a2 a3 a4 a4' a5 hs hl=>?_)
  | refine u_Pp T om om om om om (fun r i' e' ac' n' a1 a2 a3 a3' a4 hr=>?_)
  | refine u_Pl T om om om om om (fun r i' e' ac' n' a1 a2 a3 a3' a4 hr=>?_)
  | intro _
  | exact hk _ _ _ _ _ _ _ _ _ _ _ _ _ _ om om om om om (fun h=>(by omega:False).elim)
end Go.Proofs.YtmdppkbekmpopaaGreat
namespace Go.Proofs.YtmdppkbekmpopaaGreat
open Go Go.Sh Go.Va
section
variable {l:LD}{i en e ac d n:Int} (T:Tok l) (i0:0≤i) (i1:i≤l.len) (d0:0≤d) (d1:d≤40)
include T i0 i1 d0 d1
variable {C2:LD→Int→Int→Int→Int→Int→Int→Prop}{w0 w1:Str}
theorem QIt {w2 w3 w4:Str}{C1:Int→LD→Int→Int→Int→Int→Int→Prop}(h1:C1 n l i en e ac d)(h2:C2 l i en e ac d n) :
  Qf [l,.n i,.n en,.n e,.n ac,.n d,.n n] [apK [.b,.l 4,.i .i64,.i .i64,.i .i64,.i .i64,.i .i64,.i .i64] fun (x0:Bool) (x1:LD) (x2 x3 x4 x5 x6 x7:Int)=>((bif x0 then C1 x7 x1 x2 x3 x4 x5 x6 else Qd [.s w0,x1,.n x2,.n x3,.n x4,.n x5,.n x6,.n x7] [apK [.b,.l 4,.i .i64,.i .i64,.i .i64,.i .i64,.i .i64,.i .i64] fun (y00:Bool) (y01:LD) (y02 y03 y04 y05 y06 y07:Int)=>((bif y00 then C1 y07 y01 y02 y03 y04 y05 y06 else Qd [.s w1,y01,.n y02,.n y03,.n y04,.n y05,.n y06,.n y07] [apK [.b,.l 4,.i .i64,.i .i64,.i .i64,.i .i64,.i .i64,.i .i64] fun (y10:Bool) (y11:LD) (y12 y13 y14 y15 y16 y17:Int)=>((bif y10 then C1 y17 y11 y12 y13 y14 y15 y16 else Qd [.s w2,y11,.n y12,.n y13,.n y14,.n y15,.n y16,.n y17] [apK [.b,.l 4,.i .i64,.i .i64,.i .i64,.i .i64,.i .i64,.i .i64] fun (y20:Bool) (y21:LD) (y22 y23 y24 y25 y26 y27:Int)=>((bif y20 then C1 y27 y21 y22 y23 y24 y25 y26 else Qd [.s w3,y21,.n y22,.n y23,.n y24,.n y25,.n y26,.n y27] [apK [.b,.l 4,.i .i64,.i .i64,.i .i64,.i .i64,.i .i64,.i .i64] fun (y30:Bool) (y31:LD) (y32 y33 y34 y35 y36 y37:Int)=>((bif y30 then C1 y37 y31 y32 y33 y34 y35 y36 else Qd [.s w4,y31,.n y32,.n y33,.n y34,.n y35,.n y36,.n y37] [apK [.b,.l 4,.i .i64,.i .i64,.i .i64,.i .i64,.i .i64,.i .i64] fun (y40:Bool) (y41:LD) (y42 y43 y44 y45 y46 y47:Int)=>((bif y40 then C1 y47 y41 y42 y43 y44 y45 y46 else C2 y41 y42 y43 y44 y45 y46 y47):Prop)]):Prop)]):Prop)]):Prop)]):Prop)]):Prop)]:=
 Qf0 T i0 i1 d0 d1 (fun _ _ _=>h1) (u_is T i0 i1 d0 d1 (fun _ _ _ _=>h1) (u_is T i0 i1 d0 d1 (fun _ _ _ _=>h1) (u_is T i0 i1 d0 d1 (fun _ _ _ _=>h1) (u_is T i0 i1 d0 d1 (fun _ _ _ _=>h1) (u_is T i0 i1 d0 d1 (fun _ _ _ _=>h1) h2)))))
theorem QHS {C1:LD→Int→Int→Int→Int→Int→Int→Prop}(h1:er e=0→i<l.len→C1 l i en e ac d n)(h2:C2 l i en e ac d n) :
  Qd [.s w0,l,.n i,.n en,.n e,.n ac,.n d,.n n] [apK [.b,.l 4,.i .i64,.i .i64,.i .i64,.i .i64,.i .i64,.i .i64] fun (y00:Bool) (y01:LD) (y02 y03 y04 y05 y06 y07:Int)=>((bif y00 then C1 y01 y02 y03 y04 y05 y06 y07 else Qd [.s w1,y01,.n y02,.n y03,.n y04,.n y05,.n y06,.n y07] [apK [.b,.l 4,.i .i64,.i .i64,.i .i64,.i .i64,.i .i64,.i .i64] fun (y10:Bool) (y11:LD) (y12 y13 y14 y15 y16 y17:Int)=>((bif y10 then C1 y11 y12 y13 y14 y15 y16 y17 else C2 y11 y12 y13 y14 y15 y16 y17):Prop)]):Prop)]:=
 u_is T i0 i1 d0 d1 (fun a b _ _=>h1 a b) (u_is T i0 i1 d0 d1 (fun a b _ _=>h1 a b) h2)
end
variable {ac d e en i n:Int}{l:LD}
theorem QEt {t:Str}{i2:Int}{K:List LP}(e1:i2=i)(h:Qc [.s t,l,.n i,.n en,.n e,.n ac,.n d,.n n] K):Qc [.s t,l,.n i2,.n en,.n e,.n ac,.n d,.n n] K:=by rw[e1];exact h
attribute [local irreducible] Qb Qd Qa Qc Qf Qg Qh Qy qP qS qV
theorem Qrx {Ks:KN}{q:QF}{k:Nat}(S:St0 l i d)(hr0:10 * (40 - d).toNat+6<k+1)(hk:PKS 0 l i e fun kk X Y E F C ar th el nn i' e' ac' n'=>Ks 0 [.n kk,.s X,.s Y,E,F,C,ar,th,el,.n nn,l,.n i',.n en,.n e',.n ac',.n d,.n n']) :
  Qks l i en e ac d n Ks q Qb Qd Qa Qc Qf Qg (Qeo k) (Qor k) (Qos k) (QvF k) (qV k):=by
 obtain⟨T,i0,i1,d0,d1⟩:=S
 have hl:=T.n
 have he0:=Qan e
 refine Eq.mpr (QsC ..) ?_
 refine QB6 fun C1 h1=>?_
 refine QB6 fun C2 h2=>?_
 refine QB6 fun C3 h3=>?_
 have H1:∀n,er e=0→i<l.len→C1 l i en e ac d n:=fun n he hc=>by
  rw[h1]
  repeat' first
   | exact hk _ _ _ _ _ _ _ _ _ _ _ _ _ _ om om om om om (fun h=>QGM (hrA om) om)
   | exact hk _ _ _ _ _ _ _ _ _ _ _ _ _ _ om om om om om (fun h=>QzK (hrA om) om)
   | exact hk _ _ _ _ _ _ _ _ _ _ _ _ _ _ om om om om om (fun h=>QCP (hs om) (hrA om) om)
   | exact hk _ _ _ _ _ _ _ _ _ _ _ _ _ _ om om om om om (fun h=>Qy7 (.inl rfl) (hs om) (hrA om) om)
   | exact hk _ _ _ _ _ _ _ _ _ _ _ _ _ _ om om om om om (fun h=>QGN (hs om) (hrA om) (hrB om) om)
   | exact hk _ _ _ _ _ _ _ _ _ _ _ _ _ _ om om om om om (fun h=>(hws om).up om)
   | exact hk _ _ _ _ _ _ _ _ _ _ _ _ _ _ om om om om om (fun h=>QCO (hrA om) (hrB om) om)
   | exact hk _ _ _ _ _ _ _ _ _ _ _ _ _ _ om om om om om (fun h=>QBb (hrA om) (hrB om) (Qy8 (Int.le_refl 0)) om)
   | exact hk _ _ _ _ _ _ _ _ _ _ _ _ _ _ om om om om om (fun h=>QBb (hrA om) (hrB om) (hrC om) om)
   | with_reducible refine bifT ?_
   | with_reducible refine bifF ?_
   | refine⟨decC om om,?_⟩
   | refine⟨⟨trivial,trivial⟩,?_⟩
   | refine⟨trivial,?_⟩
   | refine⟨rfl,?_⟩
   | refine QbJ (fun hc=>?_) (fun hc=>?_)
   | refine bifE (fun hc=>?_) (fun hc=>?_)
   | refine bifN (fun hc=>?_) (fun hc=>?_)
   | refine bifD (fun hc=>?_) (fun hc=>?_)
   | refine QdM T om om om om (by decide) (fun e' ac' he=>?_)
   | refine QHS T om om om om (fun he hc=>?_) ?_
   | refine u_is T om om om om (fun he hc ht _=>?_) ?_
   | refine QcI T om om om om (fun he hc ht=>?_) ?_
   | refine Qfw T om om om om (fun i' e' ac' b1 b2 b3 b4 b4' b5=>?_)
   | refine Qf0 T om om om om (fun he hc hkd=>?_) ?_
   | refine Ql3 T om om om om (fun s i' e' ac' a1 a2 a3 a4 a4' a5 hs hl=>?_)
   | refine u_V T om om om om om (fun h=>hs om) (fun kk X Y E F C ar th el nn i' e' ac' n' c1 c2 c3 c3' c4 hws=>?_)
   | (have _g:=hrB;refine u_Pp T om om om om om (fun r i' e' ac' n' a1 a2 a3 a3' a4 hrC=>?_))
   | (have _g:=hrA;refine u_Pp T om om om om om (fun r i' e' ac' n' a1 a2 a3 a3' a4 hrB=>?_))
   | refine u_Pp T om om om om om (fun r i' e' ac' n' a1 a2 a3 a3' a4 hrA=>?_)
   | (have _g:=hrB;refine u_Pl T om om om om om (fun r i' e' ac' n' a1 a2 a3 a3' a4 hrC=>?_))
   | (have _g:=hrA;refine u_Pl T om om om om om (fun r i' e' ac' n' a1 a2 a3 a3' a4 hrB=>?_))
   | refine u_Pl T om om om om om (fun r i' e' ac' n' a1 a2 a3 a3' a4 hrA=>?_)
   | intro _
   | exact hk _ _ _ _ _ _ _ _ _ _ _ _ _ _ om om om om om (fun h=>(by omega:False).elim)
   | refine QEt (QJ om om) ?_
 have H2:∀n,C2 l i en e ac d n:=fun n=>by
  rw[h2]
  repeat' first
   | exact H1 _ om om
   | exact hk _ _ _ _ _ _ _ _ _ _ _ _ _ _ om om om om om (fun h=>QGM (hrA om) om)
   | exact hk _ _ _ _ _ _ _ _ _ _ _ _ _ _ om om om om om (fun h=>QzK (hrA om) om)
   | exact hk _ _ _ _ _ _ _ _ _ _ _ _ _ _ om om om om om (fun h=>QCP (hs om) (hrA om) om)
   | exact hk _ _ _ _ _ _ _ _ _ _ _ _ _ _ om om om om om (fun h=>Qy7 (.inl rfl) (hs om) (hrA om) om)
   | exact hk _ _ _ _ _ _ _ _ _ _ _ _ _ _ om om om om om (fun h=>QGN (hs om) (hrA om) (hrB om) om)
   | exact hk _ _ _ _ _ _ _ _ _ _ _ _ _ _ om om om om om (fun h=>(hws om).up om)
   | exact hk _ _ _ _ _ _ _ _ _ _ _ _ _ _ om om om om om (fun h=>QCO (hrA om) (hrB om) om)
   | exact hk _ _ _ _ _ _ _ _ _ _ _ _ _ _ om om om om om (fun h=>QBb (hrA om) (hrB om) (Qy8 (Int.le_refl 0)) om)
   | exact hk _ _ _ _ _ _ _ _ _ _ _ _ _ _ om om om om om (fun h=>QBb (hrA om) (hrB om) (hrC om) om)
   | with_reducible refine bifT ?_
   | with_reducible refine bifF ?_
   | refine⟨decC om om,?_⟩
   | refine⟨⟨trivial,trivial⟩,?_⟩
   | refine⟨trivial,?_⟩
   | refine⟨rfl,?_⟩
   | refine QbJ (fun hc=>?_) (fun hc=>?_)
   | refine bifE (fun hc=>?_) (fun hc=>?_)
   | refine bifN (fun hc=>?_) (fun hc=>?_)
   | refine bifD (fun hc=>?_) (fun hc=>?_)
   | refine QdM T om om om om (by decide) (fun e' ac' he=>?_)
   | refine QHS T om om om om (fun he hc=>?_) ?_
   | refine u_is T om om om om (fun he hc ht _=>?_) ?_
   | refine QcI T om om om om (fun he hc ht=>?_) ?_
   | refine Qfw T om om om om (fun i' e' ac' b1 b2 b3 b4 b4' b5=>?_)
   | refine Qf0 T om om om om (fun he hc hkd=>?_) ?_
   | refine Ql3 T om om om om (fun s i' e' ac' a1 a2 a3 a4 a4' a5 hs hl=>?_)
   | refine u_V T om om om om om (fun h=>hs om) (fun kk X Y E F C ar th el nn i' e' ac' n' c1 c2 c3 c3' c4 hws=>?_)
   | (have _g:=hrB;refine u_Pp T om om om om om (fun r i' e' ac' n' a1 a2 a3 a3' a4 hrC=>?_))
   | (have _g:=hrA;refine u_Pp T om om om om om (fun r i' e' ac' n' a1 a2 a3 a3' a4 hrB=>?_))
   | refine u_Pp T om om om om om (fun r i' e' ac' n' a1 a2 a3 a3' a4 hrA=>?_)
   | (have _g:=hrB;refine u_Pl T om om om om om (fun r i' e' ac' n' a1 a2 a3 a3' a4 hrC=>?_))
   | (have _g:=hrA;refine u_Pl T om om om om om (fun r i' e' ac' n' a1 a2 a3 a3' a4 hrB=>?_))
   | refine u_Pl T om om om om om (fun r i' e' ac' n' a1 a2 a3 a3' a4 hrA=>?_)
   | intro _
   | exact hk _ _ _ _ _ _ _ _ _ _ _ _ _ _ om om om om om (fun h=>(by omega:False).elim)
   | refine QEt (QJ om om) ?_
 have H3:∀n,C3 n l i en e ac d:=fun n=>by
  rw[h3]
  refine bifD (fun hc=>?_) (fun hc=>H2 _)
  refine QdM T om om om om (by decide) (fun e' ac' he=>?_)
  exact hk _ _ _ _ _ _ _ _ _ _ _ _ _ _ om om om om om (fun h=>(by omega:False).elim)
 exact QIt T i0 i1 d0 d1 (H3 n) (H2 n)
end Go.Proofs.YtmdppkbekmpopaaGreat
