import Derived.Test.YtmdppkbekmpopaaGreatPs3
set_option linter.unusedVariables false
set_option linter.unusedSimpArgs false
set_option linter.unusedSectionVars false
set_option maxRecDepth 100000
set_option maxHeartbeats 8000000
noncomputable section
namespace Go.Proofs.YtmdppkbekmpopaaGreat
open Go Go.Sh Go.Va
variable {Ks:List LP}{a l:LD}{ac d e en i n:Int}{j k:Nat}{q:QF}
theorem Qpx (h:qLP WE 2 0 k (j+1) (a::PL l i en e ac d n) Ks):Qil a l i en e ac d n (fun ys=>qLP WE 2 0 k j ys Ks) (nthK Ks) q Qd (Qts k):=by
 obtain⟨a_,l_,i_,en_,e_,ac_,d_,n_,o,eq,⟨T,i0,i1,d0,d1⟩,hr0,hj,ha,hk⟩:=h
 cases eq
 have hl:=T.n
 have he0:=Qan e
 refine Eq.mpr (Qp8 ..) ?_
 repeat' first
  | exact hk 0 _ _ _ _ _ om om om om om (fun h=>(ha om).up om)
  | exact hk 1 _ _ _ _ _ om om om om om (fun h=>(ha om).up om)
  | exact⟨_,l,_,en,_,_,d,_,o,rfl,⟨T,om,om,om,om⟩,om,om,fun h=>QGR om om (ha om) (hr om) om,fun w a' i' e' ac' n' hw b1 b2 b3 b3' b4=>hk w a' i' e' ac' n' hw om b2 om b3' b4⟩
  | with_reducible refine bifT ?_
  | with_reducible refine bifF ?_
  | (simp (disch:=omega) only [cond_true,cond_false,QJ,Int.add_sub_cancel,Int.ofNat_eq_natCast])
  | refine⟨decC om om,?_⟩
  | refine⟨⟨trivial,trivial⟩,?_⟩
  | refine⟨trivial,?_⟩
  | refine⟨rfl,?_⟩
  | refine QbJ (fun hc=>?_) (fun hc=>?_)
  | refine bifE (fun hc=>?_) (fun hc=>?_)
  | refine bifN (fun hc=>?_) (fun hc=>?_)
  | refine bifD (fun hc=>?_) (fun hc=>?_)
  | refine u_is T om om om om (fun he hc ht _=>?_) ?_
  | refine u_Pp T om om om om om (fun r i' e' ac' n' a1 a2 a3 a3' a4 hr=>?_)
  | intro _
theorem Qry {Ks:KN}(S:St0 l i d)(hr0:10 * (40 - d).toNat+1<k+1)(hk:PK WE l i e fun x i' e' ac' n'=>Ks 0 (x::PL l i' en e' ac' d n')):Qkt l i en e ac d n Ks q Qd (Qts k) (fun xs Ks=>∃j,qLP WE 2 0 k j xs Ks):=by
 obtain⟨T,i0,i1,d0,d1⟩:=S
 have hl:=T.n
 have he0:=Qan e
 refine Eq.mpr (QsD ..) ?_
 repeat' first
  | exact hk _ _ _ _ _ om om om om om (fun h=>(hr' om).up om)
  | with_reducible refine bifT ?_
  | with_reducible refine bifF ?_
  | (simp (disch:=omega) only [cond_true,cond_false,QJ,Int.add_sub_cancel,Int.ofNat_eq_natCast])
  | refine⟨decC om om,?_⟩
  | refine⟨⟨trivial,trivial⟩,?_⟩
  | refine⟨trivial,?_⟩
  | refine⟨rfl,?_⟩
  | refine QbJ (fun hc=>?_) (fun hc=>?_)
  | refine bifE (fun hc=>?_) (fun hc=>?_)
  | refine bifN (fun hc=>?_) (fun hc=>?_)
  | refine bifD (fun hc=>?_) (fun hc=>?_)
  | refine u_is T om om om om (fun he hc ht _=>?_) ?_
  | refine QHT T om om om om om (fun h=>hr om) (fun a' i' e' ac' n' c1 c2 c3 c3' hr'=>⟨?_,?_⟩)
  | refine u_Pp T om om om om om (fun r i' e' ac' n' a1 a2 a3 a3' a4 hr=>?_)
  | intro _
  | exact hk _ _ _ _ _ om om om om om (fun h=>(by omega:False).elim)
theorem QqW (h:qLP WE 2 1 k (j+1) (a::PL l i en e ac d n) Ks):QiY a l i en e ac d n (fun ys=>qLP WE 2 1 k j ys Ks) (nthK Ks) q Qd (Qtt k):=by
 obtain⟨a_,l_,i_,en_,e_,ac_,d_,n_,o,eq,⟨T,i0,i1,d0,d1⟩,hr0,hj,ha,hk⟩:=h
 cases eq
 have hl:=T.n
 have he0:=Qan e
 refine Eq.mpr (Qrf ..) ?_
 repeat' first
  | exact hk 0 _ _ _ _ _ om om om om om (fun h=>(ha om).up om)
  | exact hk 1 _ _ _ _ _ om om om om om (fun h=>(ha om).up om)
  | exact⟨_,l,_,en,_,_,d,_,o,rfl,⟨T,om,om,om,om⟩,om,om,fun h=>QGR om om (ha om) (hr om) om,fun w a' i' e' ac' n' hw b1 b2 b3 b3' b4=>hk w a' i' e' ac' n' hw om b2 om b3' b4⟩
  | with_reducible refine bifT ?_
  | with_reducible refine bifF ?_
  | (simp (disch:=omega) only [cond_true,cond_false,QJ,Int.add_sub_cancel,Int.ofNat_eq_natCast])
  | refine⟨decC om om,?_⟩
  | refine⟨⟨trivial,trivial⟩,?_⟩
  | refine⟨trivial,?_⟩
  | refine⟨rfl,?_⟩
  | refine QbJ (fun hc=>?_) (fun hc=>?_)
  | refine bifE (fun hc=>?_) (fun hc=>?_)
  | refine bifN (fun hc=>?_) (fun hc=>?_)
  | refine bifD (fun hc=>?_) (fun hc=>?_)
  | refine u_is T om om om om (fun he hc ht _=>?_) ?_
  | refine u_Pp T om om om om om (fun r i' e' ac' n' a1 a2 a3 a3' a4 hr=>?_)
  | intro _
theorem QtR {Ks:KN}(S:St0 l i d)(hr0:10 * (40 - d).toNat+2<k+1)(hk:PK WE l i e fun x i' e' ac' n'=>Ks 0 (x::PL l i' en e' ac' d n')):QlD l i en e ac d n Ks q Qd (Qtt k) (fun xs Ks=>∃j,qLP WE 2 1 k j xs Ks):=by
 obtain⟨T,i0,i1,d0,d1⟩:=S
 have hl:=T.n
 have he0:=Qan e
 refine Eq.mpr (Qux ..) ?_
 repeat' first
  | exact hk _ _ _ _ _ om om om om om (fun h=>(hr' om).up om)
  | with_reducible refine bifT ?_
  | with_reducible refine bifF ?_
  | (simp (disch:=omega) only [cond_true,cond_false,QJ,Int.add_sub_cancel,Int.ofNat_eq_natCast])
  | refine⟨decC om om,?_⟩
  | refine⟨⟨trivial,trivial⟩,?_⟩
  | refine⟨trivial,?_⟩
  | refine⟨rfl,?_⟩
  | refine QbJ (fun hc=>?_) (fun hc=>?_)
  | refine bifE (fun hc=>?_) (fun hc=>?_)
  | refine bifN (fun hc=>?_) (fun hc=>?_)
  | refine bifD (fun hc=>?_) (fun hc=>?_)
  | refine u_is T om om om om (fun he hc ht _=>?_) ?_
  | refine QHT T om om om om om (fun h=>hr om) (fun a' i' e' ac' n' c1 c2 c3 c3' hr'=>⟨?_,?_⟩)
  | refine u_Pp T om om om om om (fun r i' e' ac' n' a1 a2 a3 a3' a4 hr=>?_)
  | intro _
  | exact hk _ _ _ _ _ om om om om om (fun h=>(by omega:False).elim)
theorem Qq0 (h:qLP WC 1 3 k (j+1) (a::PL l i en e ac d n) Ks):Qi2 a l i en e ac d n (fun ys=>qLP WC 1 3 k j ys Ks) (nthK Ks) q Qa (Qoq k):=by
 obtain⟨a_,l_,i_,en_,e_,ac_,d_,n_,o,eq,⟨T,i0,i1,d0,d1⟩,hr0,hj,ha,hk⟩:=h
 cases eq
 have hl:=T.n
 have he0:=Qan e
 refine Eq.mpr (Qrj ..) ?_
 repeat' first
  | exact hk 0 _ _ _ _ _ om om om om om (fun h=>(ha om).up om)
  | exact⟨_,l,_,en,_,_,d,_,o,rfl,⟨T,om,om,om,om⟩,om,om,fun h=>QGP om om (ha om) (hr om) om,fun w a' i' e' ac' n' hw b1 b2 b3 b3' b4=>hk w a' i' e' ac' n' hw om b2 om b3' b4⟩
  | with_reducible refine bifT ?_
  | with_reducible refine bifF ?_
  | (simp (disch:=omega) only [cond_true,cond_false,QJ,Int.add_sub_cancel,Int.ofNat_eq_natCast])
  | refine⟨decC om om,?_⟩
  | refine⟨⟨trivial,trivial⟩,?_⟩
  | refine⟨trivial,?_⟩
  | refine⟨rfl,?_⟩
  | refine QbJ (fun hc=>?_) (fun hc=>?_)
  | refine bifE (fun hc=>?_) (fun hc=>?_)
  | refine bifN (fun hc=>?_) (fun hc=>?_)
  | refine bifD (fun hc=>?_) (fun hc=>?_)
  | refine QcI T om om om om (fun he hc ht=>?_) ?_
  | refine u_Pp T om om om om om (fun r i' e' ac' n' a1 a2 a3 a3' a4 hr=>?_)
  | intro _
theorem QtT {Ks:KN}(S:St0 l i d)(hr0:10 * (40 - d).toNat+4<k+1)(hk:PK WC l i e fun x i' e' ac' n'=>Ks 0 (x::PL l i' en e' ac' d n')):QlF l i en e ac d n Ks q Qa (Qoq k) (fun xs Ks=>∃j,qLP WC 1 3 k j xs Ks):=by
 obtain⟨T,i0,i1,d0,d1⟩:=S
 have hl:=T.n
 have he0:=Qan e
 refine Eq.mpr (Quz ..) ?_
 repeat' first
  | exact hk _ _ _ _ _ om om om om om (fun h=>(hr' om).up om)
  | with_reducible refine bifT ?_
  | with_reducible refine bifF ?_
  | (simp (disch:=omega) only [cond_true,cond_false,QJ,Int.add_sub_cancel,Int.ofNat_eq_natCast])
  | refine⟨decC om om,?_⟩
  | refine⟨⟨trivial,trivial⟩,?_⟩
  | refine⟨trivial,?_⟩
  | refine⟨rfl,?_⟩
  | refine QbJ (fun hc=>?_) (fun hc=>?_)
  | refine bifE (fun hc=>?_) (fun hc=>?_)
  | refine bifN (fun hc=>?_) (fun hc=>?_)
  | refine bifD (fun hc=>?_) (fun hc=>?_)
  | refine QcI T om om om om (fun he hc ht=>?_) ?_
  | refine QHU T om om om om om (fun h=>hr om) (fun a' i' e' ac' n' c1 c2 c3 c3' hr'=>?_)
  | refine u_Pp T om om om om om (fun r i' e' ac' n' a1 a2 a3 a3' a4 hr=>?_)
  | intro _
  | exact hk _ _ _ _ _ om om om om om (fun h=>(by omega:False).elim)
theorem Qpz (h:qLP WC 1 4 k (j+1) (a::PL l i en e ac d n) Ks):Qin a l i en e ac d n (fun ys=>qLP WC 1 4 k j ys Ks) (nthK Ks) q Qa (Qw2 k):=by
 obtain⟨a_,l_,i_,en_,e_,ac_,d_,n_,o,eq,⟨T,i0,i1,d0,d1⟩,hr0,hj,ha,hk⟩:=h
 cases eq
 have hl:=T.n
 have he0:=Qan e
 refine Eq.mpr (Qqa ..) ?_
 repeat' first
  | exact hk 0 _ _ _ _ _ om om om om om (fun h=>(ha om).up om)
  | exact⟨_,l,_,en,_,_,d,_,o,rfl,⟨T,om,om,om,om⟩,om,om,fun h=>QGP om om (ha om) (hr om) om,fun w a' i' e' ac' n' hw b1 b2 b3 b3' b4=>hk w a' i' e' ac' n' hw om b2 om b3' b4⟩
  | with_reducible refine bifT ?_
  | with_reducible refine bifF ?_
  | (simp (disch:=omega) only [cond_true,cond_false,QJ,Int.add_sub_cancel,Int.ofNat_eq_natCast])
  | refine⟨decC om om,?_⟩
  | refine⟨⟨trivial,trivial⟩,?_⟩
  | refine⟨trivial,?_⟩
  | refine⟨rfl,?_⟩
  | refine QbJ (fun hc=>?_) (fun hc=>?_)
  | refine bifE (fun hc=>?_) (fun hc=>?_)
  | refine bifN (fun hc=>?_) (fun hc=>?_)
  | refine bifD (fun hc=>?_) (fun hc=>?_)
  | refine QcI T om om om om (fun he hc ht=>?_) ?_
  | refine u_Pp T om om om om om (fun r i' e' ac' n' a1 a2 a3 a3' a4 hr=>?_)
  | intro _
theorem QrD {Ks:KN}(S:St0 l i d)(hr0:10 * (40 - d).toNat+5<k+1)(hk:PK WC l i e fun x i' e' ac' n'=>Ks 0 (x::PL l i' en e' ac' d n')):Qky l i en e ac d n Ks q Qa (Qw2 k) (fun xs Ks=>∃j,qLP WC 1 4 k j xs Ks):=by
 obtain⟨T,i0,i1,d0,d1⟩:=S
 have hl:=T.n
 have he0:=Qan e
 refine Eq.mpr (QsI ..) ?_
 repeat' first
  | exact hk _ _ _ _ _ om om om om om (fun h=>(hr' om).up om)
  | with_reducible refine bifT ?_
  | with_reducible refine bifF ?_
  | (simp (disch:=omega) only [cond_true,cond_false,QJ,Int.add_sub_cancel,Int.ofNat_eq_natCast])
  | refine⟨decC om om,?_⟩
  | refine⟨⟨trivial,trivial⟩,?_⟩
  | refine⟨trivial,?_⟩
  | refine⟨rfl,?_⟩
  | refine QbJ (fun hc=>?_) (fun hc=>?_)
  | refine bifE (fun hc=>?_) (fun hc=>?_)
  | refine bifN (fun hc=>?_) (fun hc=>?_)
  | refine bifD (fun hc=>?_) (fun hc=>?_)
  | refine QcI T om om om om (fun he hc ht=>?_) ?_
  | refine QHU T om om om om om (fun h=>hr om) (fun a' i' e' ac' n' c1 c2 c3 c3' hr'=>?_)
  | refine u_Pp T om om om om om (fun r i' e' ac' n' a1 a2 a3 a3' a4 hr=>?_)
  | intro _
  | exact hk _ _ _ _ _ om om om om om (fun h=>(by omega:False).elim)
def qLN (k j:Nat):QF:=fun xs Ks=>∃a o kk l i en e ac d n z,xs=a::o::.n kk::PL l i en e ac d n∧St0 l i d∧10 * (40 - d).toNat+2<k∧o.len=6∧0≤kk∧kk≤6∧(6 - kk).toNat<j∧(er e=0→CN WE (i - z) a) ∧
 nthK Ks 0 (PL l i en e ac d n)∧∀(r:LD) (i' e' ac' n':Int),i≤i'→i'≤l.len→er e≤er e'→er e'≤1→(er e'=0→CN WC (i' - z) r)→nthK Ks 1 (r::PL l i' en e' ac' d n')
variable {f:TelK ksP}{o:LD}
theorem u_LN {z:Int}(T:Tok l)(i0:0≤i)(i1:i≤l.len)(d0:0≤d)(d1:d≤40){g:TelK (.p 6::ksP)}(hk:10 * (40 - d).toNat+2<k)(ho:o.len=6)(ha:er e=0→CN WE (i - z) a)(hf:f l i en e ac d n)
  (h:∀(r:LD) (i' e' ac' n':Int),i≤i'→i'≤l.len→er e≤er e'→er e'≤1→(er e'=0→CN WC (i' - z) r)→g r l i' en e' ac' d n'):∃j,qLN k j [a,o,.n 0,l,.n i,.n en,.n e,.n ac,.n d,.n n] [apK ksP f,apK (.p 6::ksP) g]:=
 ⟨_,a,o,0,l,i,en,e,ac,d,n,z,rfl,⟨T,i0,i1,d0,d1⟩,hk,ho,om,om,nl,ha,fun _=>hf,fun r i' e' ac' n' a1 a2 a3 a4 a5 _=>h r i' e' ac' n' a1 a2 a3 a4 a5⟩
theorem Qpy {kk:Int}{q1 q2 q3 q4 q5 q6 q7:QF}(h:qLN k (j+1) (a::o::.n kk::PL l i en e ac d n) Ks):Qim a o kk l i en e ac d n (fun ys=>qLN k j ys Ks) (nthK Ks) q q1 q2 Qa q3 q4 q5 (Qeo k) q6 q7:=by
 obtain⟨a_,o_,kk_,l_,i_,en_,e_,ac_,d_,n_,z,eq,⟨T,i0,i1,d0,d1⟩,hr0,ho,k0,k1,hj,ha,hk0,hk⟩:=h
 cases eq
 have hl:=T.n
 have he0:=Qan e
 refine Eq.mpr (Qp9 ..) ?_
 repeat' first
  | exact hk0
  | exact hk _ _ _ _ _ om om om om (fun h=>QKK om om (ha om) (hr h) om)
  | exact⟨a,o,_,l,_,en,_,_,d,_,z,rfl,⟨T,om,om,om,om⟩,om,ho,om,om,om,ha,hk0,hk⟩
  | with_reducible refine bifT ?_
  | with_reducible refine bifF ?_
  | (simp (disch:=omega) only [cond_true,cond_false,QJ,Int.add_sub_cancel,Int.ofNat_eq_natCast])
  | refine⟨decC om om,?_⟩
  | refine⟨⟨trivial,trivial⟩,?_⟩
  | refine⟨trivial,?_⟩
  | refine⟨rfl,?_⟩
  | refine QbJ (fun hc=>?_) (fun hc=>?_)
  | refine bifE (fun hc=>?_) (fun hc=>?_)
  | refine bifN (fun hc=>?_) (fun hc=>?_)
  | refine bifD (fun hc=>?_) (fun hc=>?_)
  | refine QcI T om om om om (fun he hc ht=>?_) ?_
  | refine u_Pp T om om om om om (fun r i' e' ac' n' a1 a2 a3 a3' a4 hr=>?_)
  | intro _
theorem QtS {Ks:KN}(S:St0 l i d)(hr0:10 * (40 - d).toNat+3<k+1)(hk:PK WC l i e fun x i' e' ac' n'=>Ks 0 (x::PL l i' en e' ac' d n')):QlE l i en e ac d n Ks q Qb Qd Qa Qc Qf Qh (Qeo k) (Qoq k) (Qor k) (fun xs Ks=>∃j,qLN k j xs Ks):=by
 obtain⟨T,i0,i1,d0,d1⟩:=S
 have hl:=T.n
 have he0:=Qan e
 refine Eq.mpr (Quy ..) ?_
 repeat' first
  | exact hk _ _ _ _ _ om om om om om (fun h=>(hr om).up om)
  | exact hk _ _ _ _ _ om om om om om (fun h=>QGQ (hr h) om)
  | exact hk _ _ _ _ _ om om om om om (fun h=>QEs ⟨(T.at i0 om).2 hkd,(T.at i0 om).1⟩ om)
  | exact hk _ _ _ _ _ om om om om om (fun h=>QGQ (QEs (m:=1) ⟨(T.at i0 om).2 hkd,(T.at i0 om).1⟩ om) om)
  | exact hk _ _ _ _ _ om om om om om (fun h=>(hr' om).up om)
  | with_reducible refine bifT ?_
  | with_reducible refine bifF ?_
  | (simp (disch:=omega) only [cond_true,cond_false,QJ,Int.add_sub_cancel,Int.ofNat_eq_natCast])
  | refine⟨decC om om,?_⟩
  | refine⟨⟨trivial,trivial⟩,?_⟩
  | refine⟨trivial,?_⟩
  | refine⟨rfl,?_⟩
  | refine QbJ (fun hc=>?_) (fun hc=>?_)
  | refine bifE (fun hc=>?_) (fun hc=>?_)
  | refine bifN (fun hc=>?_) (fun hc=>?_)
  | refine bifD (fun hc=>?_) (fun hc=>?_)
  | refine QdM T om om om om (by decide) (fun e' ac' he=>?_)
  | refine u_is T om om om om (fun he hc ht _=>?_) ?_
  | refine QcI T om om om om (fun he hc ht=>?_) ?_
  | refine QwK T om om om om (fun he hd=>?_) (fun e' ac' he=>?_)
  | refine Qfw T om om om om (fun i' e' ac' b1 b2 b3 b4 b4' b5=>?_)
  | refine Qf0 T om om om om (fun he hc hkd=>?_) ?_
  | refine u_LN T om om om om om rfl (fun h=>hr om) ?_ (fun r' i' e' ac' n' c1 c2 c3 c3' hr'=>?_)
  | refine u_Pp T om om om om om (fun r i' e' ac' n' a1 a2 a3 a3' a4 hr=>?_)
  | intro _
  | exact hk _ _ _ _ _ om om om om om (fun h=>(by omega:False).elim)
def qLA (k j:Nat):QF:=fun xs Ks=>∃l i en e ac d n w o,xs=[l,.n i,.n en,.n e,.n ac,.n d,.n n,.t w]∧St0 l i d∧10 * (40 - d).toNat+2<k∧2 * (l.len - i:Int).toNat+1<j+er e ∧
 (w.length:Int)≤i+er e∧(er e=0→CL WA (i - o) w)∧(∀(i' e' ac' n':Int),i≤i'→i'≤l.len→er e'=1→nthK Ks 0 (PL l i' en e' ac' d n')) ∧
 ∀(r:LD) (i' e' ac' n':Int),i≤i'→i'≤l.len→er e≤er e'→er e'≤1→i+1≤i'+er e'→(er e'=0→CN WAs (i' - o) r)→nthK Ks 1 (r::PL l i' en e' ac' d n')
theorem u_LA (T:Tok l)(i0:0≤i)(i1:i≤l.len)(d0:0≤d)(d1:d≤40){g:TelK (.l 7::ksP)}(hk:10 * (40 - d).toNat+2<k)(hf:∀(i' e' ac' n':Int),i≤i'→i'≤l.len→er e'=1→f l i' en e' ac' d n')
  (h:∀(r:LD) (i' e' ac' n':Int),i≤i'→i'≤l.len→er e≤er e'→er e'≤1→i+1≤i'+er e'→(er e'=0→CN WAs (i' - i) r)→g r l i' en e' ac' d n'):∃j,qLA k j [l,.n i,.n en,.n e,.n ac,.n d,.n n,.t []] [apK ksP f,apK (.l 7::ksP) g]:=
 ⟨2 * (l.len - i:Int).toNat+2,l,i,en,e,ac,d,n,[],i,rfl,⟨T,i0,i1,d0,d1⟩,hk,om,by simp only[List.length_nil];omega,fun _=>CL.nil om,fun i' e' ac' n' a1 a2 a3 _=>hf i' e' ac' n' a1 a2 a3,fun r i' e' ac' n' a1 a2 a3 a4 a5 a6 _=>h r i' e' ac' n' a1 a2 a3 a4 a5 a6⟩
theorem QJN:WAs .nul:=⟨zo,fun x h=>by cases h⟩
variable {w:List LD}
theorem QLm {m:Int}{a:Addr}{c:Nat}(h:CL WA m w)(hl:w.length≤4096):CN WAs m (.l a c w):=⟨⟨hl,h.w⟩,by have:=h.n;simp only[nN];omega⟩
theorem Qtz {α:Type}{P:α→Prop}{w:List α}{x:α}(h:∀y∈w,P y)(hx:P x):∀y∈w++[x],P y:=fun y hy=>by
 rcases List.mem_append.1 hy with h1 | h1
 ·exact h y h1
 ·rw[List.mem_singleton.1 h1];exact hx
theorem QpA (h:qLA k (j+1) [l,.n i,.n en,.n e,.n ac,.n d,.n n,.t w] Ks):Qio l i en e ac d n w (fun ys=>qLA k j ys Ks) (nthK Ks) q Qa Qc (Qeo k):=by
 obtain⟨l_,i_,en_,e_,ac_,d_,n_,w_,o,eq,⟨T,i0,i1,d0,d1⟩,hr0,hj,hw,ha,hk0,hk⟩:=h
 cases eq
 have hl:=T.n
 have he0:=Qan e
 refine Eq.mpr (Qqb ..) ?_
 repeat' first
  | exact hk0 _ _ _ _ om om om
  | exact hk _ _ _ _ _ om om om om om (fun h=>QLm ((ha om).one (QGS (hr om) (Int.le_refl _)) om) (by rw[List.length_append,List.length_singleton];omega))
  | exact⟨om,om⟩
  | refine⟨⟨om,om⟩,?_⟩
  | exact⟨l,_,en,_,_,d,_,_,o,rfl,⟨T,om,om,om,om⟩,om,om,by rw[List.length_append,List.length_singleton];omega,fun h=>(ha om).one (QGS (hr om) (Int.le_refl _)) om,fun i' e' ac' n' c1 c2 c3=>hk0 i' e' ac' n' om c2 c3,fun r i' e' ac' n' c1 c2 c3 c3' c4 c5=>hk r i' e' ac' n' om c2 om c3' om c5⟩
  | refine⟨fun hnil=>?_,fun aa cc hcc=>?_⟩
  | (exfalso;simp at hnil;done)
  | with_reducible refine bifT ?_
  | with_reducible refine bifF ?_
  | (simp (disch:=omega) only [cond_true,cond_false,QJ,Int.add_sub_cancel,Int.ofNat_eq_natCast])
  | refine⟨decC om om,?_⟩
  | refine⟨⟨trivial,trivial⟩,?_⟩
  | refine⟨trivial,?_⟩
  | refine⟨rfl,?_⟩
  | refine QbJ (fun hc=>?_) (fun hc=>?_)
  | refine bifE (fun hc=>?_) (fun hc=>?_)
  | refine bifN (fun hc=>?_) (fun hc=>?_)
  | refine bifD (fun hc=>?_) (fun hc=>?_)
  | refine QcI T om om om om (fun he hc ht=>?_) ?_
  | refine Qfw T om om om om (fun i' e' ac' b1 b2 b3 b4 b4' b5=>?_)
  | refine u_Pp T om om om om om (fun r i' e' ac' n' a1 a2 a3 a3' a4 hr=>?_)
  | intro _
theorem QrE {Ks:KN}(S:St0 l i d)(hr0:10 * (40 - d).toNat+3<k+1)(hk:PK WAs l i e fun x i' e' ac' n'=>Ks 0 (x::PL l i' en e' ac' d n')):Qkz l i en e ac d n Ks q Qa Qc (Qeo k) (fun xs Ks=>∃j,qLA k j xs Ks):=by
 obtain⟨T,i0,i1,d0,d1⟩:=S
 have hl:=T.n
 have he0:=Qan e
 refine Eq.mpr (QsJ ..) ?_
 repeat' first
  | exact hk _ _ _ _ _ om om om om om (fun h=>⟨QJN,by simp only[nN];omega⟩)
  | exact hk _ _ _ _ _ om om om om om (fun h=>(hr' om).up om)
  | with_reducible refine bifT ?_
  | with_reducible refine bifF ?_
  | (simp (disch:=omega) only [cond_true,cond_false,QJ,Int.add_sub_cancel,Int.ofNat_eq_natCast])
  | refine⟨decC om om,?_⟩
  | refine⟨⟨trivial,trivial⟩,?_⟩
  | refine⟨trivial,?_⟩
  | refine⟨rfl,?_⟩
  | refine QbJ (fun hc=>?_) (fun hc=>?_)
  | refine bifE (fun hc=>?_) (fun hc=>?_)
  | refine bifN (fun hc=>?_) (fun hc=>?_)
  | refine bifD (fun hc=>?_) (fun hc=>?_)
  | refine QcI T om om om om (fun he hc ht=>?_) ?_
  | refine Qfw T om om om om (fun i' e' ac' b1 b2 b3 b4 b4' b5=>?_)
  | refine u_LA T om om om om om (fun i' e' ac' n' c1 c2 c3=>?_) (fun r' i' e' ac' n' c1 c2 c3 c3' c4 hr'=>?_)
  | refine u_Pp T om om om om om (fun r i' e' ac' n' a1 a2 a3 a3' a4 hr=>?_)
  | intro _
  | exact hk _ _ _ _ _ om om om om om (fun h=>(by omega:False).elim)
end Go.Proofs.YtmdppkbekmpopaaGreat
