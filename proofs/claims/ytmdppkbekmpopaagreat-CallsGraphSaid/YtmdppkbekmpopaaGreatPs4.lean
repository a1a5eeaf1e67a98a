import Derived.Test.YtmdppkbekmpopaaGreatPs2
set_option linter.unusedVariables false
set_option linter.unusedSimpArgs false
set_option maxRecDepth 100000
set_option maxHeartbeats 4000000
noncomputable section
namespace Go.Proofs.YtmdppkbekmpopaaGreat
open Go Go.Sh Go.Va
def PK (W:LD→Prop)(l:LD)(i e:Int)(K:LD→Int→Int→Int→Int→Prop):Prop:=∀(r:LD) (i' e' ac' n':Int),i≤i'→i'≤l.len→er e≤er e'→er e'≤1→i+1≤i'+er e'→(er e'=0→CN W (i' - i) r)→K r i' e' ac' n'
def qP (W:LD→Prop)(r k:Nat):QF:=fun xs Ks=>∃l i en e ac d n,xs=PL l i en e ac d n∧St0 l i d∧10 * (40 - d).toNat+r<k∧PK W l i e fun x i' e' ac' n'=>nthK Ks 0 (x::PL l i' en e' ac' d n')
def qLP (W:LD→Prop)(m r k j:Nat):QF:=fun xs Ks=>∃a l i en e ac d n o,xs=a::PL l i en e ac d n∧St0 l i d∧10 * (40 - d).toNat+r<k∧(l.len - i:Int).toNat<j∧(er e=0→CN W (i - o) a) ∧
 ∀(w:Nat) (a':LD) (i' e' ac' n':Int),w<m→i≤i'→i'≤l.len→er e≤er e'→er e'≤1→(er e'=0→CN W (i' - o) a')→nthK Ks w (a'::PL l i' en e' ac' d n')
section
variable {l:LD}{i en e ac d n:Int} (T:Tok l) (i0:0≤i) (i1:i≤l.len) (d0:0≤d) (d1:d≤40)
include T i0 i1 d0 d1
theorem u_Pp {W:LD→Prop}{r k t:Nat}{f:TelK (.p t::ksP)}(hk:10 * (40 - d).toNat+r<k)(h:PK W l i e fun x i' e' ac' n'=>f x l i' en e' ac' d n'):qP W r k [l,.n i,.n en,.n e,.n ac,.n d,.n n] [apK (.p t::ksP) f]:=⟨l,i,en,e,ac,d,n,rfl,⟨T,i0,i1,d0,d1⟩,hk,fun r i' e' ac' n' a1 a2 a3 a4 a5 a6 _=>h r i' e' ac' n' a1 a2 a3 a4 a5 a6⟩
theorem u_Pl {W:LD→Prop}{r k t:Nat}{f:TelK (.l t::ksP)}(hk:10 * (40 - d).toNat+r<k)(h:PK W l i e fun x i' e' ac' n'=>f x l i' en e' ac' d n'):qP W r k [l,.n i,.n en,.n e,.n ac,.n d,.n n] [apK (.l t::ksP) f]:=⟨l,i,en,e,ac,d,n,rfl,⟨T,i0,i1,d0,d1⟩,hk,fun r i' e' ac' n' a1 a2 a3 a4 a5 a6 _=>h r i' e' ac' n' a1 a2 a3 a4 a5 a6⟩
theorem QHU {W:LD→Prop}{r k t:Nat}{o:Int}{a:LD}{f:TelK (.p t::ksP)}(hk:10 * (40 - d).toNat+r<k)(ha:er e=0→CN W (i - o) a)(h:∀(a':LD)(i' e' ac' n':Int),i≤i'→i'≤l.len→er e≤er e'→er e'≤1→(er e'=0→CN W (i' - o) a')→f a' l i' en e' ac' d n') :
  ∃j,qLP W 1 r k j [a,l,.n i,.n en,.n e,.n ac,.n d,.n n] [apK (.p t::ksP) f]:=⟨_,a,l,i,en,e,ac,d,n,o,rfl,⟨T,i0,i1,d0,d1⟩,hk,Nat.lt_succ_self _,ha,fun w a' i' e' ac' n' hw b1 b2 b3 b3' b4=>by
   match w,hw with
   | 0,_=>exact fun _=>h a' i' e' ac' n' b1 b2 b3 b3' b4⟩
theorem QHT {W:LD→Prop}{r k t:Nat}{o:Int}{a:LD}{f g:TelK (.p t::ksP)}(hk:10 * (40 - d).toNat+r<k)(ha:er e=0→CN W (i - o) a)(h:∀(a':LD)(i' e' ac' n':Int),i≤i'→i'≤l.len→er e≤er e'→er e'≤1→(er e'=0→CN W (i' - o) a')→f a' l i' en e' ac' d n'∧g a' l i' en e' ac' d n') :
  ∃j,qLP W 2 r k j [a,l,.n i,.n en,.n e,.n ac,.n d,.n n] [apK (.p t::ksP) f,apK (.p t::ksP) g]:=⟨_,a,l,i,en,e,ac,d,n,o,rfl,⟨T,i0,i1,d0,d1⟩,hk,Nat.lt_succ_self _,ha,fun w a' i' e' ac' n' hw b1 b2 b3 b3' b4=>by
   match w,hw with
   | 0,_=>exact fun _=>(h a' i' e' ac' n' b1 b2 b3 b3' b4).1
   | 1,_=>exact fun _=>(h a' i' e' ac' n' b1 b2 b3 b3' b4).2⟩
end
abbrev Qts (k:Nat):QF:=qP WE 0 k
abbrev Qtt (k:Nat):QF:=qP WE 1 k
abbrev Qeo (k:Nat):QF:=qP WE 2 k
abbrev Qoq (k:Nat):QF:=qP WC 3 k
abbrev Qw2 (k:Nat):QF:=qP WC 4 k
abbrev Qor (k:Nat):QF:=qP WC 5 k
def WAs (r:LD):Prop:=r.len≤4096∧∀x∈r.es,WA x
abbrev Qos (k:Nat):QF:=qP WAs 3 k
theorem Qvp {l:LD}{i en e ac d n:Int}{Ks:Nat→List LD→Prop}{q:QF}{k:Nat}(S:St0 l i d)(hr:10 * (40 - d).toNat+0<k+1)(hk:PK WE l i e fun x i' e' ac' n'=>Ks 0 (x::PL l i' en e' ac' d n')):Qm0 l i en e ac d n Ks q QK Qb Qd Qc Qf Qg Qh (Qts k) (Qeo k):=by
 obtain⟨T,i0,i1,d0,d1⟩:=S
 have hl:=T.n
 have he0:=Qan e
 refine Eq.mpr (Qwb ..) ?_
 repeat' first
  | exact hk _ _ _ _ _ (by omega) (by omega) (by omega) (by omega) (by omega) (fun h=>QKI (by omega))
  | exact hk _ _ _ _ _ (by omega) (by omega) (by omega) (by omega) (by omega) (fun h=>QKH (hs h) (by omega))
  | exact hk _ _ _ _ _ (by omega) (by omega) (by omega) (by omega) (by omega) (fun h=>QKJ (hr h) (by omega))
  | exact hk _ _ _ _ _ (by omega) (by omega) (by omega) (by omega) (by omega) (fun h=>(hr (by omega)).up (by omega))
  | with_reducible refine bifT ?_
  | with_reducible refine bifF ?_
  | (simp (disch:=omega) only [cond_true,cond_false,QJ,Int.add_sub_cancel,Int.ofNat_eq_natCast])
  | refine⟨decC (by omega) (by omega),?_⟩
  | refine⟨⟨rfl,trivial⟩,?_⟩
  | refine⟨⟨trivial,trivial⟩,?_⟩
  | refine⟨trivial,?_⟩
  | refine⟨rfl,?_⟩
  | refine QbJ (fun _=>?_) (fun _=>?_)
  | refine bifE (fun _=>?_) (fun _=>?_)
  | refine bifN (fun _=>?_) (fun _=>?_)
  | refine bifD (fun hc=>?_) (fun hc=>?_)
  | refine QdM T (by omega) (by omega) (by omega) (by omega) (by decide) (fun e' ac' he=>?_)
  | refine u_is T (by omega) (by omega) (by omega) (by omega) (fun he hc ht _=>?_) ?_
  | refine QwK T (by omega) (by omega) (by omega) (by omega) (fun he hd=>?_) (fun e' ac' he=>?_)
  | refine u_Pp T (by omega) (by omega) (by omega) (by omega) (by omega) (fun r i' e' ac' n' a1 a2 a3 a3' a4 hr=>?_)
  | refine Qfw T (by omega) (by omega) (by omega) (by omega) (fun i' e' ac' b1 b2 b3 b4 b4' b5=>?_)
  | refine QBo (Nat.le_trans (T.at i0 (by omega)).1 (by omega)) (fun _=>?_)
  | refine Qf0 T (by omega) (by omega) (by omega) (by omega) (fun he hc _=>?_) ?_
  | refine Ql3 T (by omega) (by omega) (by omega) (by omega) (fun s i' e' ac' a1 a2 a3 a4 a4' a5 hs hl=>?_)
  | intro _
  | exact hk _ _ _ _ _ (by omega) (by omega) (by omega) (by omega) (by omega) (fun h=>(by omega:False).elim)
end Go.Proofs.YtmdppkbekmpopaaGreat
set_option maxHeartbeats 8000000
namespace Go.Proofs.YtmdppkbekmpopaaGreat
open Go Go.Sh Go.Va
theorem Qpx {a l:LD}{i en e ac d n:Int}{Ks:List (List LD→Prop)}{q:QF}{k j:Nat}(h:qLP WE 2 0 k (j+1) (a::PL l i en e ac d n) Ks):Qil a l i en e ac d n (fun ys=>qLP WE 2 0 k j ys Ks) (nthK Ks) q Qd (Qts k):=by
 obtain⟨a_,l_,i_,en_,e_,ac_,d_,n_,o,eq,⟨T,i0,i1,d0,d1⟩,hr0,hj,ha,hk⟩:=h
 simp only[PL,List.cons.injEq,LD.n.injEq,and_true] at eq
 obtain⟨rfl,rfl,rfl,rfl,rfl,rfl,rfl,rfl⟩:=eq
 have hl:=T.n
 have he0:=Qan e
 refine Eq.mpr (Qp8 ..) ?_
 repeat' first
  | exact hk 0 _ _ _ _ _ (by omega) (by omega) (by omega) (by omega) (by omega) (fun h=>(ha (by omega)).up (by omega))
  | exact hk 1 _ _ _ _ _ (by omega) (by omega) (by omega) (by omega) (by omega) (fun h=>(ha (by omega)).up (by omega))
  | exact⟨_,l,_,en,_,_,d,_,o,rfl,⟨T,by omega,by omega,by omega,by omega⟩,by omega,by omega,fun h=>QGR (by omega) (by omega) (ha (by omega)) (hr (by omega)) (by omega),fun w a' i' e' ac' n' hw b1 b2 b3 b3' b4=>hk w a' i' e' ac' n' hw (by omega) b2 (by omega) b3' b4⟩
  | with_reducible refine bifT ?_
  | with_reducible refine bifF ?_
  | (simp (disch:=omega) only [cond_true,cond_false,QJ,Int.add_sub_cancel,Int.ofNat_eq_natCast])
  | refine⟨decC (by omega) (by omega),?_⟩
  | refine⟨⟨trivial,trivial⟩,?_⟩
  | refine⟨trivial,?_⟩
  | refine⟨rfl,?_⟩
  | refine QbJ (fun hc=>?_) (fun hc=>?_)
  | refine bifE (fun hc=>?_) (fun hc=>?_)
  | refine bifN (fun hc=>?_) (fun hc=>?_)
  | refine bifD (fun hc=>?_) (fun hc=>?_)
  | refine u_is T (by omega) (by omega) (by omega) (by omega) (fun he hc ht _=>?_) ?_
  | refine u_Pp T (by omega) (by omega) (by omega) (by omega) (by omega) (fun r i' e' ac' n' a1 a2 a3 a3' a4 hr=>?_)
  | intro _
theorem Qry {l:LD}{i en e ac d n:Int}{Ks:Nat→List LD→Prop}{q:QF}{k:Nat}(S:St0 l i d)(hr0:10 * (40 - d).toNat+1<k+1)(hk:PK WE l i e fun x i' e' ac' n'=>Ks 0 (x::PL l i' en e' ac' d n')):Qkt l i en e ac d n Ks q Qd (Qts k) (fun xs Ks=>∃j,qLP WE 2 0 k j xs Ks):=by
 obtain⟨T,i0,i1,d0,d1⟩:=S
 have hl:=T.n
 have he0:=Qan e
 refine Eq.mpr (QsD ..) ?_
 repeat' first
  | exact hk _ _ _ _ _ (by omega) (by omega) (by omega) (by omega) (by omega) (fun h=>(hr' (by omega)).up (by omega))
  | with_reducible refine bifT ?_
  | with_reducible refine bifF ?_
  | (simp (disch:=omega) only [cond_true,cond_false,QJ,Int.add_sub_cancel,Int.ofNat_eq_natCast])
  | refine⟨decC (by omega) (by omega),?_⟩
  | refine⟨⟨trivial,trivial⟩,?_⟩
  | refine⟨trivial,?_⟩
  | refine⟨rfl,?_⟩
  | refine QbJ (fun hc=>?_) (fun hc=>?_)
  | refine bifE (fun hc=>?_) (fun hc=>?_)
  | refine bifN (fun hc=>?_) (fun hc=>?_)
  | refine bifD (fun hc=>?_) (fun hc=>?_)
  | refine u_is T (by omega) (by omega) (by omega) (by omega) (fun he hc ht _=>?_) ?_
  | refine QHT T (by omega) (by omega) (by omega) (by omega) (by omega) (fun h=>hr (by omega)) (fun a' i' e' ac' n' c1 c2 c3 c3' hr'=>⟨?_,?_⟩)
  | refine u_Pp T (by omega) (by omega) (by omega) (by omega) (by omega) (fun r i' e' ac' n' a1 a2 a3 a3' a4 hr=>?_)
  | intro _
  | exact hk _ _ _ _ _ (by omega) (by omega) (by omega) (by omega) (by omega) (fun h=>(by omega:False).elim)
theorem QqW {a l:LD}{i en e ac d n:Int}{Ks:List (List LD→Prop)}{q:QF}{k j:Nat}(h:qLP WE 2 1 k (j+1) (a::PL l i en e ac d n) Ks):QiY a l i en e ac d n (fun ys=>qLP WE 2 1 k j ys Ks) (nthK Ks) q Qd (Qtt k):=by
 obtain⟨a_,l_,i_,en_,e_,ac_,d_,n_,o,eq,⟨T,i0,i1,d0,d1⟩,hr0,hj,ha,hk⟩:=h
 simp only[PL,List.cons.injEq,LD.n.injEq,and_true] at eq
 obtain⟨rfl,rfl,rfl,rfl,rfl,rfl,rfl,rfl⟩:=eq
 have hl:=T.n
 have he0:=Qan e
 refine Eq.mpr (Qrf ..) ?_
 repeat' first
  | exact hk 0 _ _ _ _ _ (by omega) (by omega) (by omega) (by omega) (by omega) (fun h=>(ha (by omega)).up (by omega))
  | exact hk 1 _ _ _ _ _ (by omega) (by omega) (by omega) (by omega) (by omega) (fun h=>(ha (by omega)).up (by omega))
  | exact⟨_,l,_,en,_,_,d,_,o,rfl,⟨T,by omega,by omega,by omega,by omega⟩,by omega,by omega,fun h=>QGR (by omega) (by omega) (ha (by omega)) (hr (by omega)) (by omega),fun w a' i' e' ac' n' hw b1 b2 b3 b3' b4=>hk w a' i' e' ac' n' hw (by omega) b2 (by omega) b3' b4⟩
  | with_reducible refine bifT ?_
  | with_reducible refine bifF ?_
  | (simp (disch:=omega) only [cond_true,cond_false,QJ,Int.add_sub_cancel,Int.ofNat_eq_natCast])
  | refine⟨decC (by omega) (by omega),?_⟩
  | refine⟨⟨trivial,trivial⟩,?_⟩
  | refine⟨trivial,?_⟩
  | refine⟨rfl,?_⟩
  | refine QbJ (fun hc=>?_) (fun hc=>?_)
  | refine bifE (fun hc=>?_) (fun hc=>?_)
  | refine bifN (fun hc=>?_) (fun hc=>?_)
  | refine bifD (fun hc=>?_) (fun hc=>?_)
  | refine u_is T (by omega) (by omega) (by omega) (by omega) (fun he hc ht _=>?_) ?_
  | refine u_Pp T (by omega) (by omega) (by omega) (by omega) (by omega) (fun r i' e' ac' n' a1 a2 a3 a3' a4 hr=>?_)
  | intro _
theorem QtR {l:LD}{i en e ac d n:Int}{Ks:Nat→List LD→Prop}{q:QF}{k:Nat}(S:St0 l i d)(hr0:10 * (40 - d).toNat+2<k+1)(hk:PK WE l i e fun x i' e' ac' n'=>Ks 0 (x::PL l i' en e' ac' d n')):QlD l i en e ac d n Ks q Qd (Qtt k) (fun xs Ks=>∃j,qLP WE 2 1 k j xs Ks):=by
 obtain⟨T,i0,i1,d0,d1⟩:=S
 have hl:=T.n
 have he0:=Qan e
 refine Eq.mpr (Qux ..) ?_
 repeat' first
  | exact hk _ _ _ _ _ (by omega) (by omega) (by omega) (by omega) (by omega) (fun h=>(hr' (by omega)).up (by omega))
  | with_reducible refine bifT ?_
  | with_reducible refine bifF ?_
  | (simp (disch:=omega) only [cond_true,cond_false,QJ,Int.add_sub_cancel,Int.ofNat_eq_natCast])
  | refine⟨decC (by omega) (by omega),?_⟩
  | refine⟨⟨trivial,trivial⟩,?_⟩
  | refine⟨trivial,?_⟩
  | refine⟨rfl,?_⟩
  | refine QbJ (fun hc=>?_) (fun hc=>?_)
  | refine bifE (fun hc=>?_) (fun hc=>?_)
  | refine bifN (fun hc=>?_) (fun hc=>?_)
  | refine bifD (fun hc=>?_) (fun hc=>?_)
  | refine u_is T (by omega) (by omega) (by omega) (by omega) (fun he hc ht _=>?_) ?_
  | refine QHT T (by omega) (by omega) (by omega) (by omega) (by omega) (fun h=>hr (by omega)) (fun a' i' e' ac' n' c1 c2 c3 c3' hr'=>⟨?_,?_⟩)
  | refine u_Pp T (by omega) (by omega) (by omega) (by omega) (by omega) (fun r i' e' ac' n' a1 a2 a3 a3' a4 hr=>?_)
  | intro _
  | exact hk _ _ _ _ _ (by omega) (by omega) (by omega) (by omega) (by omega) (fun h=>(by omega:False).elim)
theorem Qq0 {a l:LD}{i en e ac d n:Int}{Ks:List (List LD→Prop)}{q:QF}{k j:Nat}(h:qLP WC 1 3 k (j+1) (a::PL l i en e ac d n) Ks):Qi2 a l i en e ac d n (fun ys=>qLP WC 1 3 k j ys Ks) (nthK Ks) q Qa (Qoq k):=by
 obtain⟨a_,l_,i_,en_,e_,ac_,d_,n_,o,eq,⟨T,i0,i1,d0,d1⟩,hr0,hj,ha,hk⟩:=h
 simp only[PL,List.cons.injEq,LD.n.injEq,and_true] at eq
 obtain⟨rfl,rfl,rfl,rfl,rfl,rfl,rfl,rfl⟩:=eq
 have hl:=T.n
 have he0:=Qan e
 refine Eq.mpr (Qrj ..) ?_
 repeat' first
  | exact hk 0 _ _ _ _ _ (by omega) (by omega) (by omega) (by omega) (by omega) (fun h=>(ha (by omega)).up (by omega))
  | exact⟨_,l,_,en,_,_,d,_,o,rfl,⟨T,by omega,by omega,by omega,by omega⟩,by omega,by omega,fun h=>QGP (by omega) (by omega) (ha (by omega)) (hr (by omega)) (by omega),fun w a' i' e' ac' n' hw b1 b2 b3 b3' b4=>hk w a' i' e' ac' n' hw (by omega) b2 (by omega) b3' b4⟩
  | with_reducible refine bifT ?_
  | with_reducible refine bifF ?_
  | (simp (disch:=omega) only [cond_true,cond_false,QJ,Int.add_sub_cancel,Int.ofNat_eq_natCast])
  | refine⟨decC (by omega) (by omega),?_⟩
  | refine⟨⟨trivial,trivial⟩,?_⟩
  | refine⟨trivial,?_⟩
  | refine⟨rfl,?_⟩
  | refine QbJ (fun hc=>?_) (fun hc=>?_)
  | refine bifE (fun hc=>?_) (fun hc=>?_)
  | refine bifN (fun hc=>?_) (fun hc=>?_)
  | refine bifD (fun hc=>?_) (fun hc=>?_)
  | refine QcI T (by omega) (by omega) (by omega) (by omega) (fun he hc ht=>?_) ?_
  | refine u_Pp T (by omega) (by omega) (by omega) (by omega) (by omega) (fun r i' e' ac' n' a1 a2 a3 a3' a4 hr=>?_)
  | intro _
theorem QtT {l:LD}{i en e ac d n:Int}{Ks:Nat→List LD→Prop}{q:QF}{k:Nat}(S:St0 l i d)(hr0:10 * (40 - d).toNat+4<k+1)(hk:PK WC l i e fun x i' e' ac' n'=>Ks 0 (x::PL l i' en e' ac' d n')):QlF l i en e ac d n Ks q Qa (Qoq k) (fun xs Ks=>∃j,qLP WC 1 3 k j xs Ks):=by
 obtain⟨T,i0,i1,d0,d1⟩:=S
 have hl:=T.n
 have he0:=Qan e
 refine Eq.mpr (Quz ..) ?_
 repeat' first
  | exact hk _ _ _ _ _ (by omega) (by omega) (by omega) (by omega) (by omega) (fun h=>(hr' (by omega)).up (by omega))
  | with_reducible refine bifT ?_
  | with_reducible refine bifF ?_
  | (simp (disch:=omega) only [cond_true,cond_false,QJ,Int.add_sub_cancel,Int.ofNat_eq_natCast])
  | refine⟨decC (by omega) (by omega),?_⟩
  | refine⟨⟨trivial,trivial⟩,?_⟩
  | refine⟨trivial,?_⟩
  | refine⟨rfl,?_⟩
  | refine QbJ (fun hc=>?_) (fun hc=>?_)
  | refine bifE (fun hc=>?_) (fun hc=>?_)
  | refine bifN (fun hc=>?_) (fun hc=>?_)
  | refine bifD (fun hc=>?_) (fun hc=>?_)
  | refine QcI T (by omega) (by omega) (by omega) (by omega) (fun he hc ht=>?_) ?_
  | refine QHU T (by omega) (by omega) (by omega) (by omega) (by omega) (fun h=>hr (by omega)) (fun a' i' e' ac' n' c1 c2 c3 c3' hr'=>?_)
  | refine u_Pp T (by omega) (by omega) (by omega) (by omega) (by omega) (fun r i' e' ac' n' a1 a2 a3 a3' a4 hr=>?_)
  | intro _
  | exact hk _ _ _ _ _ (by omega) (by omega) (by omega) (by omega) (by omega) (fun h=>(by omega:False).elim)
theorem Qpz {a l:LD}{i en e ac d n:Int}{Ks:List (List LD→Prop)}{q:QF}{k j:Nat}(h:qLP WC 1 4 k (j+1) (a::PL l i en e ac d n) Ks):Qin a l i en e ac d n (fun ys=>qLP WC 1 4 k j ys Ks) (nthK Ks) q Qa (Qw2 k):=by
 obtain⟨a_,l_,i_,en_,e_,ac_,d_,n_,o,eq,⟨T,i0,i1,d0,d1⟩,hr0,hj,ha,hk⟩:=h
 simp only[PL,List.cons.injEq,LD.n.injEq,and_true] at eq
 obtain⟨rfl,rfl,rfl,rfl,rfl,rfl,rfl,rfl⟩:=eq
 have hl:=T.n
 have he0:=Qan e
 refine Eq.mpr (Qqa ..) ?_
 repeat' first
  | exact hk 0 _ _ _ _ _ (by omega) (by omega) (by omega) (by omega) (by omega) (fun h=>(ha (by omega)).up (by omega))
  | exact⟨_,l,_,en,_,_,d,_,o,rfl,⟨T,by omega,by omega,by omega,by omega⟩,by omega,by omega,fun h=>QGP (by omega) (by omega) (ha (by omega)) (hr (by omega)) (by omega),fun w a' i' e' ac' n' hw b1 b2 b3 b3' b4=>hk w a' i' e' ac' n' hw (by omega) b2 (by omega) b3' b4⟩
  | with_reducible refine bifT ?_
  | with_reducible refine bifF ?_
  | (simp (disch:=omega) only [cond_true,cond_false,QJ,Int.add_sub_cancel,Int.ofNat_eq_natCast])
  | refine⟨decC (by omega) (by omega),?_⟩
  | refine⟨⟨trivial,trivial⟩,?_⟩
  | refine⟨trivial,?_⟩
  | refine⟨rfl,?_⟩
  | refine QbJ (fun hc=>?_) (fun hc=>?_)
  | refine bifE (fun hc=>?_) (fun hc=>?_)
  | refine bifN (fun hc=>?_) (fun hc=>?_)
  | refine bifD (fun hc=>?_) (fun hc=>?_)
  | refine QcI T (by omega) (by omega) (by omega) (by omega) (fun he hc ht=>?_) ?_
  | refine u_Pp T (by omega) (by omega) (by omega) (by omega) (by omega) (fun r i' e' ac' n' a1 a2 a3 a3' a4 hr=>?_)
  | intro _
theorem QrD {l:LD}{i en e ac d n:Int}{Ks:Nat→List LD→Prop}{q:QF}{k:Nat}(S:St0 l i d)(hr0:10 * (40 - d).toNat+5<k+1)(hk:PK WC l i e fun x i' e' ac' n'=>Ks 0 (x::PL l i' en e' ac' d n')):Qky l i en e ac d n Ks q Qa (Qw2 k) (fun xs Ks=>∃j,qLP WC 1 4 k j xs Ks):=by
 obtain⟨T,i0,i1,d0,d1⟩:=S
 have hl:=T.n
 have he0:=Qan e
 refine Eq.mpr (QsI ..) ?_
 repeat' first
  | exact hk _ _ _ _ _ (by omega) (by omega) (by omega) (by omega) (by omega) (fun h=>(hr' (by omega)).up (by omega))
  | with_reducible refine bifT ?_
  | with_reducible refine bifF ?_
  | (simp (disch:=omega) only [cond_true,cond_false,QJ,Int.add_sub_cancel,Int.ofNat_eq_natCast])
  | refine⟨decC (by omega) (by omega),?_⟩
  | refine⟨⟨trivial,trivial⟩,?_⟩
  | refine⟨trivial,?_⟩
  | refine⟨rfl,?_⟩
  | refine QbJ (fun hc=>?_) (fun hc=>?_)
  | refine bifE (fun hc=>?_) (fun hc=>?_)
  | refine bifN (fun hc=>?_) (fun hc=>?_)
  | refine bifD (fun hc=>?_) (fun hc=>?_)
  | refine QcI T (by omega) (by omega) (by omega) (by omega) (fun he hc ht=>?_) ?_
  | refine QHU T (by omega) (by omega) (by omega) (by omega) (by omega) (fun h=>hr (by omega)) (fun a' i' e' ac' n' c1 c2 c3 c3' hr'=>?_)
  | refine u_Pp T (by omega) (by omega) (by omega) (by omega) (by omega) (fun r i' e' ac' n' a1 a2 a3 a3' a4 hr=>?_)
  | intro _
  | exact hk _ _ _ _ _ (by omega) (by omega) (by omega) (by omega) (by omega) (fun h=>(by omega:False).elim)
def qLN (k j:Nat):QF:=fun xs Ks=>∃a o kk l i en e ac d n z,xs=a::o::.n kk::PL l i en e ac d n∧St0 l i d∧10 * (40 - d).toNat+2<k∧o.len=6∧0≤kk∧kk≤6∧(6 - kk).toNat<j∧(er e=0→CN WE (i - z) a) ∧
 nthK Ks 0 (PL l i en e ac d n)∧∀(r:LD) (i' e' ac' n':Int),i≤i'→i'≤l.len→er e≤er e'→er e'≤1→(er e'=0→CN WC (i' - z) r)→nthK Ks 1 (r::PL l i' en e' ac' d n')
theorem u_LN {l a o:LD}{i en e ac d n z:Int}(T:Tok l)(i0:0≤i)(i1:i≤l.len)(d0:0≤d)(d1:d≤40){k:Nat}{f:TelK ksP}{g:TelK (.p 6::ksP)}(hk:10 * (40 - d).toNat+2<k)(ho:o.len=6)(ha:er e=0→CN WE (i - z) a)(hf:f l i en e ac d n)
  (h:∀(r:LD) (i' e' ac' n':Int),i≤i'→i'≤l.len→er e≤er e'→er e'≤1→(er e'=0→CN WC (i' - z) r)→g r l i' en e' ac' d n'):∃j,qLN k j [a,o,.n 0,l,.n i,.n en,.n e,.n ac,.n d,.n n] [apK ksP f,apK (.p 6::ksP) g]:=
 ⟨_,a,o,0,l,i,en,e,ac,d,n,z,rfl,⟨T,i0,i1,d0,d1⟩,hk,ho,by omega,by omega,Nat.lt_succ_self _,ha,fun _=>hf,fun r i' e' ac' n' a1 a2 a3 a4 a5 _=>h r i' e' ac' n' a1 a2 a3 a4 a5⟩
theorem Qpy {a o l:LD}{kk i en e ac d n:Int}{Ks:List (List LD→Prop)}{q q1 q2 q3 q4 q5 q6 q7:QF}{k j:Nat}(h:qLN k (j+1) (a::o::.n kk::PL l i en e ac d n) Ks):Qim a o kk l i en e ac d n (fun ys=>qLN k j ys Ks) (nthK Ks) q q1 q2 Qa q3 q4 q5 (Qeo k) q6 q7:=by
 obtain⟨a_,o_,kk_,l_,i_,en_,e_,ac_,d_,n_,z,eq,⟨T,i0,i1,d0,d1⟩,hr0,ho,k0,k1,hj,ha,hk0,hk⟩:=h
 simp only[PL,List.cons.injEq,LD.n.injEq,and_true] at eq
 obtain⟨rfl,rfl,rfl,rfl,rfl,rfl,rfl,rfl,rfl,rfl⟩:=eq
 have hl:=T.n
 have he0:=Qan e
 refine Eq.mpr (Qp9 ..) ?_
 repeat' first
  | exact hk0
  | exact hk _ _ _ _ _ (by omega) (by omega) (by omega) (by omega) (fun h=>QKK (by omega) (by omega) (ha (by omega)) (hr h) (by omega))
  | exact⟨a,o,_,l,_,en,_,_,d,_,z,rfl,⟨T,by omega,by omega,by omega,by omega⟩,by omega,ho,by omega,by omega,by omega,ha,hk0,hk⟩
  | with_reducible refine bifT ?_
  | with_reducible refine bifF ?_
  | (simp (disch:=omega) only [cond_true,cond_false,QJ,Int.add_sub_cancel,Int.ofNat_eq_natCast])
  | refine⟨decC (by omega) (by omega),?_⟩
  | refine⟨⟨trivial,trivial⟩,?_⟩
  | refine⟨trivial,?_⟩
  | refine⟨rfl,?_⟩
  | refine QbJ (fun hc=>?_) (fun hc=>?_)
  | refine bifE (fun hc=>?_) (fun hc=>?_)
  | refine bifN (fun hc=>?_) (fun hc=>?_)
  | refine bifD (fun hc=>?_) (fun hc=>?_)
  | refine QcI T (by omega) (by omega) (by omega) (by omega) (fun he hc ht=>?_) ?_
  | refine u_Pp T (by omega) (by omega) (by omega) (by omega) (by omega) (fun r i' e' ac' n' a1 a2 a3 a3' a4 hr=>?_)
  | intro _
theorem QtS {l:LD}{i en e ac d n:Int}{Ks:Nat→List LD→Prop}{q:QF}{k:Nat}(S:St0 l i d)(hr0:10 * (40 - d).toNat+3<k+1)(hk:PK WC l i e fun x i' e' ac' n'=>Ks 0 (x::PL l i' en e' ac' d n')):QlE l i en e ac d n Ks q Qb Qd Qa Qc Qf Qh (Qeo k) (Qoq k) (Qor k) (fun xs Ks=>∃j,qLN k j xs Ks):=by
 obtain⟨T,i0,i1,d0,d1⟩:=S
 have hl:=T.n
 have he0:=Qan e
 refine Eq.mpr (Quy ..) ?_
 repeat' first
  | exact hk _ _ _ _ _ (by omega) (by omega) (by omega) (by omega) (by omega) (fun h=>(hr (by omega)).up (by omega))
  | exact hk _ _ _ _ _ (by omega) (by omega) (by omega) (by omega) (by omega) (fun h=>QGQ (hr h) (by omega))
  | exact hk _ _ _ _ _ (by omega) (by omega) (by omega) (by omega) (by omega) (fun h=>QEs ⟨(T.at i0 (by omega)).2 hkd,(T.at i0 (by omega)).1⟩ (by omega))
  | exact hk _ _ _ _ _ (by omega) (by omega) (by omega) (by omega) (by omega) (fun h=>QGQ (QEs (m:=1) ⟨(T.at i0 (by omega)).2 hkd,(T.at i0 (by omega)).1⟩ (by omega)) (by omega))
  | exact hk _ _ _ _ _ (by omega) (by omega) (by omega) (by omega) (by omega) (fun h=>(hr' (by omega)).up (by omega))
  | with_reducible refine bifT ?_
  | with_reducible refine bifF ?_
  | (simp (disch:=omega) only [cond_true,cond_false,QJ,Int.add_sub_cancel,Int.ofNat_eq_natCast])
  | refine⟨decC (by omega) (by omega),?_⟩
  | refine⟨⟨trivial,trivial⟩,?_⟩
  | refine⟨trivial,?_⟩
  | refine⟨rfl,?_⟩
  | refine QbJ (fun hc=>?_) (fun hc=>?_)
  | refine bifE (fun hc=>?_) (fun hc=>?_)
  | refine bifN (fun hc=>?_) (fun hc=>?_)
  | refine bifD (fun hc=>?_) (fun hc=>?_)
  | refine QdM T (by omega) (by omega) (by omega) (by omega) (by decide) (fun e' ac' he=>?_)
  | refine u_is T (by omega) (by omega) (by omega) (by omega) (fun he hc ht _=>?_) ?_
  | refine QcI T (by omega) (by omega) (by omega) (by omega) (fun he hc ht=>?_) ?_
  | refine QwK T (by omega) (by omega) (by omega) (by omega) (fun he hd=>?_) (fun e' ac' he=>?_)
  | refine Qfw T (by omega) (by omega) (by omega) (by omega) (fun i' e' ac' b1 b2 b3 b4 b4' b5=>?_)
  | refine Qf0 T (by omega) (by omega) (by omega) (by omega) (fun he hc hkd=>?_) ?_
  | refine u_LN T (by omega) (by omega) (by omega) (by omega) (by omega) rfl (fun h=>hr (by omega)) ?_ (fun r' i' e' ac' n' c1 c2 c3 c3' hr'=>?_)
  | refine u_Pp T (by omega) (by omega) (by omega) (by omega) (by omega) (fun r i' e' ac' n' a1 a2 a3 a3' a4 hr=>?_)
  | intro _
  | exact hk _ _ _ _ _ (by omega) (by omega) (by omega) (by omega) (by omega) (fun h=>(by omega:False).elim)
def qLA (k j:Nat):QF:=fun xs Ks=>∃l i en e ac d n w o,xs=[l,.n i,.n en,.n e,.n ac,.n d,.n n,.t w]∧St0 l i d∧10 * (40 - d).toNat+2<k∧2 * (l.len - i:Int).toNat+1<j+er e ∧
 (w.length:Int)≤i+er e∧(er e=0→CL WA (i - o) w)∧(∀(i' e' ac' n':Int),i≤i'→i'≤l.len→er e'=1→nthK Ks 0 (PL l i' en e' ac' d n')) ∧
 ∀(r:LD) (i' e' ac' n':Int),i≤i'→i'≤l.len→er e≤er e'→er e'≤1→i+1≤i'+er e'→(er e'=0→CN WAs (i' - o) r)→nthK Ks 1 (r::PL l i' en e' ac' d n')
theorem u_LA {l:LD}{i en e ac d n:Int}(T:Tok l)(i0:0≤i)(i1:i≤l.len)(d0:0≤d)(d1:d≤40){k:Nat}{f:TelK ksP}{g:TelK (.l 7::ksP)}(hk:10 * (40 - d).toNat+2<k)(hf:∀(i' e' ac' n':Int),i≤i'→i'≤l.len→er e'=1→f l i' en e' ac' d n')
  (h:∀(r:LD) (i' e' ac' n':Int),i≤i'→i'≤l.len→er e≤er e'→er e'≤1→i+1≤i'+er e'→(er e'=0→CN WAs (i' - i) r)→g r l i' en e' ac' d n'):∃j,qLA k j [l,.n i,.n en,.n e,.n ac,.n d,.n n,.t []] [apK ksP f,apK (.l 7::ksP) g]:=
 ⟨2 * (l.len - i:Int).toNat+2,l,i,en,e,ac,d,n,[],i,rfl,⟨T,i0,i1,d0,d1⟩,hk,by omega,by simp only[List.length_nil];omega,fun _=>CL.nil (by omega),fun i' e' ac' n' a1 a2 a3 _=>hf i' e' ac' n' a1 a2 a3,fun r i' e' ac' n' a1 a2 a3 a4 a5 a6 _=>h r i' e' ac' n' a1 a2 a3 a4 a5 a6⟩
theorem QJN:WAs .nul:=⟨Nat.zero_le _,fun x h=>by cases h⟩
theorem QLm {m:Int}{a:Addr}{c:Nat}{w:List LD}(h:CL WA m w)(hl:w.length≤4096):CN WAs m (.l a c w):=⟨⟨hl,h.w⟩,by have:=h.n;simp only[nN];omega⟩
theorem Qtz {α:Type}{P:α→Prop}{w:List α}{x:α}(h:∀y∈w,P y)(hx:P x):∀y∈w++[x],P y:=fun y hy=>by
 rcases List.mem_append.1 hy with h1 | h1
 ·exact h y h1
 ·rw[List.mem_singleton.1 h1];exact hx
theorem QpA {l:LD}{i en e ac d n:Int}{w:List LD}{Ks:List (List LD→Prop)}{q:QF}{k j:Nat}(h:qLA k (j+1) [l,.n i,.n en,.n e,.n ac,.n d,.n n,.t w] Ks):Qio l i en e ac d n w (fun ys=>qLA k j ys Ks) (nthK Ks) q Qa Qc (Qeo k):=by
 obtain⟨l_,i_,en_,e_,ac_,d_,n_,w_,o,eq,⟨T,i0,i1,d0,d1⟩,hr0,hj,hw,ha,hk0,hk⟩:=h
 simp only[List.cons.injEq,LD.n.injEq,LD.t.injEq,and_true] at eq
 obtain⟨rfl,rfl,rfl,rfl,rfl,rfl,rfl,rfl⟩:=eq
 have hl:=T.n
 have he0:=Qan e
 refine Eq.mpr (Qqb ..) ?_
 repeat' first
  | exact hk0 _ _ _ _ (by omega) (by omega) (by omega)
  | exact hk _ _ _ _ _ (by omega) (by omega) (by omega) (by omega) (by omega) (fun h=>QLm ((ha (by omega)).one (QGS (hr (by omega)) (Int.le_refl _)) (by omega)) (by rw[List.length_append,List.length_singleton];omega))
  | exact⟨by omega,by omega⟩
  | refine⟨⟨by omega,by omega⟩,?_⟩
  | exact⟨l,_,en,_,_,d,_,_,o,rfl,⟨T,by omega,by omega,by omega,by omega⟩,by omega,by omega,by rw[List.length_append,List.length_singleton];omega,fun h=>(ha (by omega)).one (QGS (hr (by omega)) (Int.le_refl _)) (by omega),fun i' e' ac' n' c1 c2 c3=>hk0 i' e' ac' n' (by omega) c2 c3,fun r i' e' ac' n' c1 c2 c3 c3' c4 c5=>hk r i' e' ac' n' (by omega) c2 (by omega) c3' (by omega) c5⟩
  | refine⟨fun hnil=>?_,fun aa cc hcc=>?_⟩
  | (exfalso;simp at hnil;done)
  | with_reducible refine bifT ?_
  | with_reducible refine bifF ?_
  | (simp (disch:=omega) only [cond_true,cond_false,QJ,Int.add_sub_cancel,Int.ofNat_eq_natCast])
  | refine⟨decC (by omega) (by omega),?_⟩
  | refine⟨⟨trivial,trivial⟩,?_⟩
  | refine⟨trivial,?_⟩
  | refine⟨rfl,?_⟩
  | refine QbJ (fun hc=>?_) (fun hc=>?_)
  | refine bifE (fun hc=>?_) (fun hc=>?_)
  | refine bifN (fun hc=>?_) (fun hc=>?_)
  | refine bifD (fun hc=>?_) (fun hc=>?_)
  | refine QcI T (by omega) (by omega) (by omega) (by omega) (fun he hc ht=>?_) ?_
  | refine Qfw T (by omega) (by omega) (by omega) (by omega) (fun i' e' ac' b1 b2 b3 b4 b4' b5=>?_)
  | refine u_Pp T (by omega) (by omega) (by omega) (by omega) (by omega) (fun r i' e' ac' n' a1 a2 a3 a3' a4 hr=>?_)
  | intro _
theorem QrE {l:LD}{i en e ac d n:Int}{Ks:Nat→List LD→Prop}{q:QF}{k:Nat}(S:St0 l i d)(hr0:10 * (40 - d).toNat+3<k+1)(hk:PK WAs l i e fun x i' e' ac' n'=>Ks 0 (x::PL l i' en e' ac' d n')):Qkz l i en e ac d n Ks q Qa Qc (Qeo k) (fun xs Ks=>∃j,qLA k j xs Ks):=by
 obtain⟨T,i0,i1,d0,d1⟩:=S
 have hl:=T.n
 have he0:=Qan e
 refine Eq.mpr (QsJ ..) ?_
 repeat' first
  | exact hk _ _ _ _ _ (by omega) (by omega) (by omega) (by omega) (by omega) (fun h=>⟨QJN,by simp only[nN];omega⟩)
  | exact hk _ _ _ _ _ (by omega) (by omega) (by omega) (by omega) (by omega) (fun h=>(hr' (by omega)).up (by omega))
  | with_reducible refine bifT ?_
  | with_reducible refine bifF ?_
  | (simp (disch:=omega) only [cond_true,cond_false,QJ,Int.add_sub_cancel,Int.ofNat_eq_natCast])
  | refine⟨decC (by omega) (by omega),?_⟩
  | refine⟨⟨trivial,trivial⟩,?_⟩
  | refine⟨trivial,?_⟩
  | refine⟨rfl,?_⟩
  | refine QbJ (fun hc=>?_) (fun hc=>?_)
  | refine bifE (fun hc=>?_) (fun hc=>?_)
  | refine bifN (fun hc=>?_) (fun hc=>?_)
  | refine bifD (fun hc=>?_) (fun hc=>?_)
  | refine QcI T (by omega) (by omega) (by omega) (by omega) (fun he hc ht=>?_) ?_
  | refine Qfw T (by omega) (by omega) (by omega) (by omega) (fun i' e' ac' b1 b2 b3 b4 b4' b5=>?_)
  | refine u_LA T (by omega) (by omega) (by omega) (by omega) (by omega) (fun i' e' ac' n' c1 c2 c3=>?_) (fun r' i' e' ac' n' c1 c2 c3 c3' c4 hr'=>?_)
  | refine u_Pp T (by omega) (by omega) (by omega) (by omega) (by omega) (fun r i' e' ac' n' a1 a2 a3 a3' a4 hr=>?_)
  | intro _
  | exact hk _ _ _ _ _ (by omega) (by omega) (by omega) (by omega) (by omega) (fun h=>(by omega:False).elim)
end Go.Proofs.YtmdppkbekmpopaaGreat
