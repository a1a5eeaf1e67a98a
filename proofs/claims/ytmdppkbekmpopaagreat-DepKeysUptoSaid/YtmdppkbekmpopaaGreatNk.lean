import Derived.Test.YtmdppkbekmpopaaGreatBt
set_option linter.unusedVariables false
set_option linter.unusedSimpArgs false
set_option linter.unusedSectionVars false
set_option maxRecDepth 100000
noncomputable section
namespace Go.Proofs.YtmdppkbekmpopaaGreat
open Go Go.Sh Go.Va
def okM (C L:Nat)(b:LD)(i n:Int)(K:LP):Prop:=wt b (.l 0)∧0≤i∧i+C≤1000000∧-1000000≤n - C∧n≤1000∧∀(s:Str) (i' n':Int),s.length≤L→i≤i'→i'≤i+C→n - C≤n'→n'≤n→K [.s s,b,.n i',.n n']
def Qe:QF:=fun xs Ks=>∃n b i m,xs=[.n n,b,.n i,.n m]∧wt b (.l 0)∧0<n∧0≤i∧i≤1000000∧∀r:Int,0≤r→r<n→nthK Ks 0 [.n r,b,.n (i+1),.n m]
def qM0 (C L:Nat):QF:=fun xs Ks=>∃b i n,xs=[b,.n i,.n n]∧okM C L b i n (nthK Ks 0)
def qM1 (C L:Int→Nat)(P:Int→Prop):QF:=fun xs Ks=>∃k b i n,xs=[.n k,b,.n i,.n n]∧P k∧okM (C k) (L k) b i n (nthK Ks 0)
def qM2 (C L:Int→Int→Nat)(P:Int→Int→Prop):QF:=fun xs Ks=>∃k d b i n,xs=[.n k,.n d,b,.n i,.n n]∧P k d∧okM (C k d) (L k d) b i n (nthK Ks 0)
theorem ly0:(Vb.ly:List (List CK))[0]?=some [.i .u8]:=rfl
variable {b:LD}{i:Int}
theorem QHJ (h:wt b (.l 0))(h0:0≤i)(h1:i<b.len):0≤((b.at 1 i).f 0).i:=by
 have:=QHQ (j:=0) (k:=.i .u8) (QHP h ly0 (sz:=1) h0 h1) rfl
 obtain⟨n,e,h2,_⟩:=wt_i this
 rw[e]
 exact h2
variable {m n:Int}
theorem Qe1 {f:TelK [.i .i64,.l 0,.i .i64,.i .i64]}(hb:wt b (.l 0))(hn:0<n)(h0:0≤i)(h1:i≤1000000)(h:∀r:Int,0≤r→r<n→f r b (i+1) m):Qe [.n n,b,.n i,.n m] [apK [.i .i64,.l 0,.i .i64,.i .i64] f]:=⟨n,b,i,m,rfl,hb,hn,h0,h1,fun r a b _=>h r a b⟩
theorem u_M0 {C L:Nat}{f:TelK [.s,.l 0,.i .i64,.i .i64]}(hb:wt b (.l 0))(h0:0≤i)(h1:i+C≤1000000)(h2:-1000000≤m - C)(h3:m≤1000)(h:∀(s:Str) (i' n':Int),s.length≤L→i≤i'→i'≤i+C→m - C≤n'→n'≤m→f s b i' n'):qM0 C L [b,.n i,.n m] [apK [.s,.l 0,.i .i64,.i .i64] f]:=⟨b,i,m,rfl,hb,h0,h1,h2,h3,fun s i' n' a1 a2 a3 a4 a5 _=>h s i' n' a1 a2 a3 a4 a5⟩
variable {k:Int}
theorem u_M1 {C L:Int→Nat}{P:Int→Prop}{f:TelK [.s,.l 0,.i .i64,.i .i64]}(hP:P k)(hb:wt b (.l 0))(h0:0≤i)(h1:i+C k≤1000000)(h2:-1000000≤m - C k)(h3:m≤1000)(h:∀(s:Str) (i' n':Int),s.length≤L k→i≤i'→i'≤i+C k→m - C k≤n'→n'≤m→f s b i' n'):qM1 C L P [.n k,b,.n i,.n m] [apK [.s,.l 0,.i .i64,.i .i64] f]:=⟨k,b,i,m,rfl,hP,hb,h0,h1,h2,h3,fun s i' n' a1 a2 a3 a4 a5 _=>h s i' n' a1 a2 a3 a4 a5⟩
theorem u_M2 {C L:Int→Int→Nat}{P:Int→Int→Prop}{d:Int}{f:TelK [.s,.l 0,.i .i64,.i .i64]}(hP:P k d)(hb:wt b (.l 0))(h0:0≤i)(h1:i+C k d≤1000000)(h2:-1000000≤m - C k d)(h3:m≤1000)(h:∀(s:Str) (i' n':Int),s.length≤L k d→i≤i'→i'≤i+C k d→m - C k d≤n'→n'≤m→f s b i' n'):qM2 C L P [.n k,.n d,b,.n i,.n m] [apK [.s,.l 0,.i .i64,.i .i64] f]:=⟨k,d,b,i,m,rfl,hP,hb,h0,h1,h2,h3,fun s i' n' a1 a2 a3 a4 a5 _=>h s i' n' a1 a2 a3 a4 a5⟩
variable {Ks:KN}{q:QF}
theorem QtN (hb:wt b (.l 0))(hn:0<n)(h0:0≤i)(h1:i≤1000000)(hk:∀r:Int,0≤r→r<n→Ks 0 [.n r,b,.n (i+1),.n m]):Qlz n b i m Ks q:=by
 rw[Qut]
 have ei:IntKind.i64.wrap (i+1)=i+1:=QJ om om
 rw[ei]
 refine bifD (fun hc=>⟨decA (decD h0) (decD hc),decN om,?_⟩) fun hc=>⟨decN om,?_⟩
 ·obtain⟨t1,t2⟩:=Qpv (QHJ hb h0 hc) hn
  exact hk _ t1 t2
 ·obtain⟨t1,t2⟩:=Qpv (Int.le_refl 0) hn
  exact hk _ t1 t2
theorem Qvo (h:okM 1 19 b i m (Ks 0)):QmZ b i m Ks q Qe:=by
 obtain⟨hb,h0,h1,h2,h3,hk⟩:=h
 rw[Qwa]
 repeat' first
  | exact True.intro
  | assumption
  | (refine Qe1 ?_ ?_ ?_ ?_ ?_;rotate_left 4;intro r r0 r1)
  | (refine u_M0 ?_ ?_ ?_ ?_ ?_ ?_;rotate_left 5;intro s i' n' hs hi1 hi2 hn1 hn2)
  | (refine u_M1 ?_ ?_ ?_ ?_ ?_ ?_ ?_;rotate_left 6;intro s i' n' hs hi1 hi2 hn1 hn2)
  | (refine u_M2 ?_ ?_ ?_ ?_ ?_ ?_ ?_;rotate_left 6;intro s i' n' hs hi1 hi2 hn1 hn2)
  | refine bifD (fun _=>?_) (fun _=>?_)
  | refine bifI (fun _=>?_) (fun _=>?_)
  | refine And.intro ?_ ?_
  | refine hk _ _ _ ?_ ?_ ?_ ?_ ?_
  | refine hk _ ?_
  | refine decD ?_
  | omega
  | decide
  | (simp only[List.length_append,List.length_map,List.length_cons,List.length_nil,Int.ofNat_eq_natCast];omega)
def QM:QF:=qM0 1 19
def Qi:QF:=qM0 1 1
def Qn:QF:=qM1 (fun _=>1) (fun _=>1) fun _=>True
theorem QtO (h:okM 1 1 b i m (Ks 0)):QlA b i m Ks q Qe:=by
 obtain⟨hb,h0,h1,h2,h3,hk⟩:=h
 rw[Quu]
 repeat' first
  | exact True.intro
  | assumption
  | (refine Qe1 ?_ ?_ ?_ ?_ ?_;rotate_left 4;intro r r0 r1)
  | (refine u_M0 ?_ ?_ ?_ ?_ ?_ ?_;rotate_left 5;intro s i' n' hs hi1 hi2 hn1 hn2)
  | (refine u_M1 ?_ ?_ ?_ ?_ ?_ ?_ ?_;rotate_left 6;intro s i' n' hs hi1 hi2 hn1 hn2)
  | (refine u_M2 ?_ ?_ ?_ ?_ ?_ ?_ ?_;rotate_left 6;intro s i' n' hs hi1 hi2 hn1 hn2)
  | refine bifD (fun _=>?_) (fun _=>?_)
  | refine bifI (fun _=>?_) (fun _=>?_)
  | refine And.intro ?_ ?_
  | refine hk _ _ _ ?_ ?_ ?_ ?_ ?_
  | refine hk _ ?_
  | refine decD ?_
  | omega
  | decide
  | (simp only[List.length_append,List.length_map,List.length_cons,List.length_nil,Int.ofNat_eq_natCast];omega)
theorem QtM (h:okM 1 1 b i m (Ks 0)):Qly k b i m Ks q Qe:=by
 obtain⟨hb,h0,h1,h2,h3,hk⟩:=h
 rw[Qus]
 repeat' first
  | exact True.intro
  | assumption
  | (refine Qe1 ?_ ?_ ?_ ?_ ?_;rotate_left 4;intro r r0 r1)
  | (refine u_M0 ?_ ?_ ?_ ?_ ?_ ?_;rotate_left 5;intro s i' n' hs hi1 hi2 hn1 hn2)
  | (refine u_M1 ?_ ?_ ?_ ?_ ?_ ?_ ?_;rotate_left 6;intro s i' n' hs hi1 hi2 hn1 hn2)
  | (refine u_M2 ?_ ?_ ?_ ?_ ?_ ?_ ?_;rotate_left 6;intro s i' n' hs hi1 hi2 hn1 hn2)
  | refine bifD (fun _=>?_) (fun _=>?_)
  | refine bifI (fun _=>?_) (fun _=>?_)
  | refine And.intro ?_ ?_
  | refine hk _ _ _ ?_ ?_ ?_ ?_ ?_
  | refine hk _ ?_
  | refine decD ?_
  | omega
  | decide
  | (simp only[List.length_append,List.length_map,List.length_cons,List.length_nil,Int.ofNat_eq_natCast];omega)
end Go.Proofs.YtmdppkbekmpopaaGreat
set_option maxHeartbeats 2000000
namespace Go.Proofs.YtmdppkbekmpopaaGreat
open Go Go.Sh Go.Va
abbrev lS (d:Int):Nat:=20+6 * d.toNat
abbrev cS (d:Int):Nat:=2+3 * d.toNat
abbrev lC (_ d:Int):Nat:=60+80 * d.toNat
abbrev cC (_ d:Int):Nat:=12+20 * d.toNat
def Qej (k:Nat):QF:=qM1 cS lS fun d=>0≤d∧d≤2∧d.toNat<k
def Qj:QF:=qM1 cS lS fun d=>0≤d∧d≤2
def QdT (k:Nat):QF:=qM2 cC lC fun _ d=>0≤d∧d≤1∧d.toNat<k
def QB:QF:=qM2 cC lC fun _ d=>0≤d∧d≤1
def Qaj:QF:=qM2 (fun _ _=>20) (fun _ _=>100) fun _ _=>True
variable {Ks:KN}{b:LD}{d i m:Int}{q:QF}
theorem Qvn {k:Nat}(hd:0≤d∧d≤2∧d.toNat<k+1)(h:okM (cS d) (lS d) b i m (Ks 0)):QmY d b i m Ks q Qe QM Qi (Qej k):=by
 obtain⟨hb,h0,h1,h2,h3,hk⟩:=h
 try dsimp only[lS,cS,lC,cC] at h1 h2 hk
 obtain⟨hd0,hd1,hd2⟩:=hd
 have ew:IntKind.i64.wrap (d - 1)=d - 1:=QJ om om
 refine Eq.mpr (Qv9 ..) ?_
 rw[ew]
 repeat' first
  | with_reducible exact True.intro
  | with_reducible assumption
  | (refine Qe1 ?_ ?_ ?_ ?_ ?_;rotate_left 4;intro r r0 r1)
  | (refine u_M0 ?_ ?_ ?_ ?_ ?_ ?_;rotate_left 5;intro s i' n' hs hi1 hi2 hn1 hn2;try dsimp only[lS,cS,lC,cC] at hs hi1 hi2 hn1 hn2)
  | (refine u_M1 ?_ ?_ ?_ ?_ ?_ ?_ ?_;rotate_left 6;intro s i' n' hs hi1 hi2 hn1 hn2;try dsimp only[lS,cS,lC,cC] at hs hi1 hi2 hn1 hn2)
  | (refine u_M2 ?_ ?_ ?_ ?_ ?_ ?_ ?_;rotate_left 6;intro s i' n' hs hi1 hi2 hn1 hn2;try dsimp only[lS,cS,lC,cC] at hs hi1 hi2 hn1 hn2)
  | with_reducible refine bifT ?_
  | with_reducible refine bifF ?_
  | refine bifD (fun _=>?_) (fun _=>?_)
  | refine bifI (fun _=>?_) (fun _=>?_)
  | refine And.intro ?_ ?_
  | (refine hk _ _ _ ?_ ?_ ?_ ?_ ?_)
  | refine hk _ ?_
  | refine decD ?_
  | omega
  | (dsimp only[lS,cS,lC,cC];omega)
  | decide
  | (refine⟨?_,?_,?_⟩<;>omega)
  | (simp only[List.length_append,List.length_map,List.length_cons,List.length_nil,Int.ofNat_eq_natCast,lS,cS,lC,cC];omega)
variable {k:Int}
theorem QtP {j:Nat}(hd:0≤d∧d≤1∧d.toNat<j+1)(h:okM (cC k d) (lC k d) b i m (Ks 0)):QlB k d b i m Ks q Qe Qi Qn Qj (QdT j):=by
 obtain⟨hb,h0,h1,h2,h3,hk⟩:=h
 try dsimp only[lS,cS,lC,cC] at h1 h2 hk
 obtain⟨hd0,hd1,hd2⟩:=hd
 have ew:IntKind.i64.wrap (d - 1)=d - 1:=QJ om om
 refine Eq.mpr (Quv ..) ?_
 rw[ew]
 repeat' first
  | with_reducible exact True.intro
  | with_reducible assumption
  | (refine Qe1 ?_ ?_ ?_ ?_ ?_;rotate_left 4;intro r r0 r1)
  | (refine u_M0 ?_ ?_ ?_ ?_ ?_ ?_;rotate_left 5;intro s i' n' hs hi1 hi2 hn1 hn2;try dsimp only[lS,cS,lC,cC] at hs hi1 hi2 hn1 hn2)
  | (refine u_M1 ?_ ?_ ?_ ?_ ?_ ?_ ?_;rotate_left 6;intro s i' n' hs hi1 hi2 hn1 hn2;try dsimp only[lS,cS,lC,cC] at hs hi1 hi2 hn1 hn2)
  | (refine u_M2 ?_ ?_ ?_ ?_ ?_ ?_ ?_;rotate_left 6;intro s i' n' hs hi1 hi2 hn1 hn2;try dsimp only[lS,cS,lC,cC] at hs hi1 hi2 hn1 hn2)
  | with_reducible refine bifT ?_
  | with_reducible refine bifF ?_
  | refine bifD (fun _=>?_) (fun _=>?_)
  | refine bifI (fun _=>?_) (fun _=>?_)
  | refine And.intro ?_ ?_
  | (refine hk _ _ _ ?_ ?_ ?_ ?_ ?_)
  | refine hk _ ?_
  | refine decD ?_
  | omega
  | (dsimp only[lS,cS,lC,cC];omega)
  | decide
  | (refine⟨?_,?_,?_⟩<;>omega)
  | (simp only[List.length_append,List.length_map,List.length_cons,List.length_nil,Int.ofNat_eq_natCast,lS,cS,lC,cC];omega)
theorem QtQ {c:Int}(h:okM 20 100 b i m (Ks 0)):QlC c k b i m Ks q Qn Qj:=by
 obtain⟨hb,h0,h1,h2,h3,hk⟩:=h
 try dsimp only[lS,cS,lC,cC] at h1 h2 hk
 refine Eq.mpr (Quw ..) ?_
 repeat' first
  | with_reducible exact True.intro
  | with_reducible assumption
  | (refine Qe1 ?_ ?_ ?_ ?_ ?_;rotate_left 4;intro r r0 r1)
  | (refine u_M0 ?_ ?_ ?_ ?_ ?_ ?_;rotate_left 5;intro s i' n' hs hi1 hi2 hn1 hn2;try dsimp only[lS,cS,lC,cC] at hs hi1 hi2 hn1 hn2)
  | (refine u_M1 ?_ ?_ ?_ ?_ ?_ ?_ ?_;rotate_left 6;intro s i' n' hs hi1 hi2 hn1 hn2;try dsimp only[lS,cS,lC,cC] at hs hi1 hi2 hn1 hn2)
  | (refine u_M2 ?_ ?_ ?_ ?_ ?_ ?_ ?_;rotate_left 6;intro s i' n' hs hi1 hi2 hn1 hn2;try dsimp only[lS,cS,lC,cC] at hs hi1 hi2 hn1 hn2)
  | with_reducible refine bifT ?_
  | with_reducible refine bifF ?_
  | refine bifD (fun _=>?_) (fun _=>?_)
  | refine bifI (fun _=>?_) (fun _=>?_)
  | refine And.intro ?_ ?_
  | (refine hk _ _ _ ?_ ?_ ?_ ?_ ?_)
  | refine hk _ ?_
  | refine decD ?_
  | omega
  | (dsimp only[lS,cS,lC,cC];omega)
  | decide
  | (refine⟨?_,?_,?_⟩<;>omega)
  | (simp only[List.length_append,List.length_map,List.length_cons,List.length_nil,Int.ofNat_eq_natCast,lS,cS,lC,cC];omega)
def QX:QF:=fun xs Ks=>∃k,xs=[.n k]∧0≤k∧∀s:Str,s.length=1→nthK Ks 0 [.s s]
def Qaq:QF:=fun xs Ks=>∃k,xs=[.n k]∧0≤k∧∀s:Str,s.length≤20→nthK Ks 0 [.s s]
def Q7:QF:=fun xs Ks=>∃k,xs=[.n k]∧∀s:Str,s.length≤100→nthK Ks 0 [.s s]
variable {f:TelK [.s]}
theorem Qod (h0:0≤k)(h:∀s:Str,s.length=1→f s):QX [.n k] [apK [.s] f]:=⟨k,rfl,h0,fun s a _=>h s a⟩
theorem QFC (h0:0≤k)(h:∀s:Str,s.length≤20→f s):Qaq [.n k] [apK [.s] f]:=⟨k,rfl,h0,fun s a _=>h s a⟩
theorem Qg8 (h:∀s:Str,s.length≤100→f s):Q7 [.n k] [apK [.s] f]:=⟨k,rfl,fun s a _=>h s a⟩
theorem QDa (h0:0≤k)(hk:∀s:Str,s.length=1→Ks 0 [.s s]):Qve k Ks q:=by
 have tm:=Qpv h0 (n:=4) om
 refine Eq.mpr (QDw ..) ?_
 repeat' first
  | with_reducible exact True.intro
  | with_reducible assumption
  | (refine Qe1 ?_ ?_ ?_ ?_ ?_;rotate_left 4;intro r r0 r1)
  | (refine u_M0 ?_ ?_ ?_ ?_ ?_ ?_;rotate_left 5;intro s i' n' hs hi1 hi2 hn1 hn2;try dsimp only[lS,cS,lC,cC] at hs hi1 hi2 hn1 hn2)
  | (refine u_M1 ?_ ?_ ?_ ?_ ?_ ?_ ?_;rotate_left 6;intro s i' n' hs hi1 hi2 hn1 hn2;try dsimp only[lS,cS,lC,cC] at hs hi1 hi2 hn1 hn2)
  | (refine u_M2 ?_ ?_ ?_ ?_ ?_ ?_ ?_;rotate_left 6;intro s i' n' hs hi1 hi2 hn1 hn2;try dsimp only[lS,cS,lC,cC] at hs hi1 hi2 hn1 hn2)
  | with_reducible refine bifT ?_
  | with_reducible refine bifF ?_
  | refine bifD (fun _=>?_) (fun _=>?_)
  | refine bifI (fun _=>?_) (fun _=>?_)
  | refine And.intro ?_ ?_
  | (refine hk _ _ _ ?_ ?_ ?_ ?_ ?_)
  | refine hk _ ?_
  | refine decD ?_
  | omega
  | (dsimp only[lS,cS,lC,cC];omega)
  | decide
  | (refine⟨?_,?_,?_⟩<;>omega)
  | (simp only[List.length_append,List.length_map,List.length_cons,List.length_nil,Int.ofNat_eq_natCast,lS,cS,lC,cC];omega)
theorem QC8 (h0:0≤k)(hk:∀s:Str,s.length≤20→Ks 0 [.s s]):Qvc k Ks q:=by
 have tm:=Qpv h0 (n:=4) om
 refine Eq.mpr (QDu ..) ?_
 repeat' first
  | with_reducible exact True.intro
  | with_reducible assumption
  | (refine Qe1 ?_ ?_ ?_ ?_ ?_;rotate_left 4;intro r r0 r1)
  | (refine u_M0 ?_ ?_ ?_ ?_ ?_ ?_;rotate_left 5;intro s i' n' hs hi1 hi2 hn1 hn2;try dsimp only[lS,cS,lC,cC] at hs hi1 hi2 hn1 hn2)
  | (refine u_M1 ?_ ?_ ?_ ?_ ?_ ?_ ?_;rotate_left 6;intro s i' n' hs hi1 hi2 hn1 hn2;try dsimp only[lS,cS,lC,cC] at hs hi1 hi2 hn1 hn2)
  | (refine u_M2 ?_ ?_ ?_ ?_ ?_ ?_ ?_;rotate_left 6;intro s i' n' hs hi1 hi2 hn1 hn2;try dsimp only[lS,cS,lC,cC] at hs hi1 hi2 hn1 hn2)
  | with_reducible refine bifT ?_
  | with_reducible refine bifF ?_
  | refine bifD (fun _=>?_) (fun _=>?_)
  | refine bifI (fun _=>?_) (fun _=>?_)
  | refine And.intro ?_ ?_
  | (refine hk _ _ _ ?_ ?_ ?_ ?_ ?_)
  | refine hk _ ?_
  | refine decD ?_
  | omega
  | (dsimp only[lS,cS,lC,cC];omega)
  | decide
  | (refine⟨?_,?_,?_⟩<;>omega)
  | (simp only[List.length_append,List.length_map,List.length_cons,List.length_nil,Int.ofNat_eq_natCast,lS,cS,lC,cC];omega)
theorem Qyh (hk:∀s:Str,s.length≤100→Ks 0 [.s s]):Qpj k Ks q:=by
 refine Eq.mpr (QyZ ..) ?_
 repeat' first
  | with_reducible exact True.intro
  | with_reducible assumption
  | (refine Qe1 ?_ ?_ ?_ ?_ ?_;rotate_left 4;intro r r0 r1)
  | (refine u_M0 ?_ ?_ ?_ ?_ ?_ ?_;rotate_left 5;intro s i' n' hs hi1 hi2 hn1 hn2;try dsimp only[lS,cS,lC,cC] at hs hi1 hi2 hn1 hn2)
  | (refine u_M1 ?_ ?_ ?_ ?_ ?_ ?_ ?_;rotate_left 6;intro s i' n' hs hi1 hi2 hn1 hn2;try dsimp only[lS,cS,lC,cC] at hs hi1 hi2 hn1 hn2)
  | (refine u_M2 ?_ ?_ ?_ ?_ ?_ ?_ ?_;rotate_left 6;intro s i' n' hs hi1 hi2 hn1 hn2;try dsimp only[lS,cS,lC,cC] at hs hi1 hi2 hn1 hn2)
  | with_reducible refine bifT ?_
  | with_reducible refine bifF ?_
  | refine bifD (fun _=>?_) (fun _=>?_)
  | refine bifI (fun _=>?_) (fun _=>?_)
  | refine And.intro ?_ ?_
  | (refine hk _ _ _ ?_ ?_ ?_ ?_ ?_)
  | refine hk _ ?_
  | refine decD ?_
  | omega
  | (dsimp only[lS,cS,lC,cC];omega)
  | decide
  | (refine⟨?_,?_,?_⟩<;>omega)
  | (simp only[List.length_append,List.length_map,List.length_cons,List.length_nil,Int.ofNat_eq_natCast,lS,cS,lC,cC];omega)
end Go.Proofs.YtmdppkbekmpopaaGreat
set_option maxHeartbeats 4000000
namespace Go.Proofs.YtmdppkbekmpopaaGreat
open Go Go.Sh Go.Va
def LT (d:Int):Nat:=if d≤0 then 400 else if d≤1 then 3200 else 25600
def CT (d:Int):Nat:=if d≤0 then 80 else if d≤1 then 640 else 5120
def LB (d:Int):Nat:=if d≤1 then 1204 else 9604
def CB (d:Int):Nat:=if d≤1 then 241 else 1921
theorem LT0:LT 0=400:=rfl
theorem LT1:LT 1=3200:=rfl
theorem LT2:LT 2=25600:=rfl
theorem CT0:CT 0=80:=rfl
theorem CT1:CT 1=640:=rfl
theorem CT2:CT 2=5120:=rfl
theorem LB1:LB 1=1204:=rfl
theorem LB2:LB 2=9604:=rfl
theorem CB1:CB 1=241:=rfl
theorem CB2:CB 2=1921:=rfl
def QcJ (k:Nat):QF:=qM2 (fun _=>CT) (fun _=>LT) fun _ d=>(d=0∨d=1∨d=2)∧2 * d.toNat+1<k
def Qfh (k:Nat):QF:=qM2 (fun _=>CB) (fun _=>LB) fun _ d=>(d=1∨d=2)∧2 * d.toNat<k
def Qv:QF:=qM2 (fun _=>CT) (fun _=>LT) fun _ d=>d=0∨d=1∨d=2
def QaD:QF:=qM2 (fun _=>CB) (fun _=>LB) fun _ d=>d=1∨d=2
def okL (L C:Nat)(s:Str)(n:Int)(b:LD)(i m:Int)(K:Str→Int→Int→Prop):Prop:=wt b (.l 0)∧0≤n∧n≤6∧s.length+n.toNat * L≤10000000∧0≤i∧i+n * C≤1000000∧-1000000≤m - n * C∧m≤1000 ∧
 ∀(s':Str) (i' m':Int),s'.length≤s.length+n.toNat * L→i≤i'→i'≤i+n * C→m - n * C≤m'→m'≤m→K s' i' m'
def QbT (kk j:Nat):QF:=fun xs Ks=>∃k d s n b i m,xs=[.n k,.n d,.s s,.n n,b,.n i,.n m]∧(d=1∨d=2)∧2 * d.toNat<kk+1∧n.toNat<j∧okL (LT (d - 1)) (CT (d - 1)) s n b i m fun s' i' m'=>nthK Ks 0 [.s s',b,.n i',.n m']
def Qdb (j:Nat):QF:=fun xs Ks=>∃k s n b i m,xs=[.n k,.s s,.n n,b,.n i,.n m]∧n.toNat<j∧okL (LT 2) (CT 2) s n b i m fun s' i' m'=>nthK Ks 0 [.n k,.s s',b,.n i',.n m']
variable {b:LD}{d i k m n:Int}{j kk:Nat}{q:QF}{s:Str}
theorem Qpw {Ks:List LP}(hd:d=1∨d=2)(hr:2 * d.toNat<kk+1)(hj:n.toNat<j+1)(h:okL (LT (d - 1)) (CT (d - 1)) s n b i m fun s' i' m'=>nthK Ks 0 [.s s',b,.n i',.n m']) :
  Qik k d s n b i m (fun ys=>QbT kk j ys Ks) (nthK Ks) q Qe (QcJ kk):=by
 obtain⟨hb,hn0,hn1,hs0,h0,h1,h2,h3,hk⟩:=h
 refine Eq.mpr (Qp7 ..) ?_
 have ew:IntKind.i64.wrap (d - 1)=d - 1:=QJ om om
 have en:IntKind.i64.wrap (n - 1)=n - 1:=QJ om om
 rw[ew,en]
 refine bifD (fun hc=>?_) fun hc=>?_
 ·have hm:n * (CT (d - 1):Int)=(n - 1) * (CT (d - 1):Int)+CT (d - 1):=by rw[Int.sub_mul];omega
  have hl:n.toNat * LT (d - 1)=(n - 1).toNat * LT (d - 1)+LT (d - 1):=by
   rw[show n.toNat=(n - 1).toNat+1 by omega,Nat.succ_mul]
  have hp:0≤(n - 1) * (CT (d - 1):Int):=Int.mul_nonneg om (Int.natCast_nonneg _)
  have hL:LT (d - 1)≤3200:=by rcases hd with rfl | rfl<;>decide
  have hL2:(n - 1).toNat * LT (d - 1)≤6 * 3200:=Nat.mul_le_mul om hL
  refine u_M2 ⟨om,om⟩ hb h0 om om h3 fun s' i' m' a1 a2 a3 a4 a5=>?_
  refine⟨decD (by simp only[Int.ofNat_eq_natCast];omega),k,d,_,_,b,_,_,rfl,hd,hr,om,hb,om,om,?_,om,om,om,om,fun s2 i2 m2 b1 b2 b3 b4 b5=>hk _ _ _ ?_ om om om om⟩
  ·rw[List.length_append];omega
  ·rw[List.length_append] at b1;omega
 ·have:n=0:=om
  subst this
  exact hk _ _ _ om om om om om
theorem QzO {Ks:List LP}(hj:n.toNat<j+1)(h:okL (LT 2) (CT 2) s n b i m fun s' i' m'=>nthK Ks 0 [.n k,.s s',b,.n i',.n m']) :
  QqH k s n b i m (fun ys=>Qdb j ys Ks) (nthK Ks) q Qe Qi Qaq Qv:=by
 obtain⟨hb,hn0,hn1,hs0,h0,h1,h2,h3,hk⟩:=h
 rw[LT2] at hs0 hk
 rw[CT2] at h1 h2 hk
 refine Eq.mpr (QAv ..) ?_
 have en:IntKind.i64.wrap (n - 1)=n - 1:=QJ om om
 rw[en]
 refine bifD (fun hc=>?_) fun hc=>?_
 ·refine u_M2 om hb h0 (by rw[CT2];omega) (by rw[CT2];omega) h3 fun s' i' m' a1 a2 a3 a4 a5=>?_
  rw[LT2] at a1
  rw[CT2] at a3 a4
  refine⟨decD (by simp only[Int.ofNat_eq_natCast];omega),k,_,_,b,_,_,rfl,om,hb,om,om,?_,om,?_,?_,om,fun s2 i2 m2 b1 b2 b3 b4 b5=>hk _ _ _ ?_ om ?_ ?_ om⟩
  ·rw[LT2,List.length_append];omega
  ·rw[CT2];omega
  ·rw[CT2];omega
  ·rw[LT2,List.length_append] at b1;omega
  ·rw[CT2] at b3;omega
  ·rw[CT2] at b4;omega
 ·have:n=0:=om
  subst this
  exact hk _ _ _ om om om om om
variable {Ks:KN}
theorem Qru {k d b i m}(hd:d=1∨d=2)(hr:2 * d.toNat<kk+1)(h:okM (CB d) (LB d) b i m (Ks 0)) :
  Qkp k d b i m Ks q Qe (QcJ kk) (fun xs Ks=>∃j,QbT kk j xs Ks):=by
 obtain⟨hb,h0,h1,h2,h3,hk⟩:=h
 refine Eq.mpr (Qsz ..) ?_
 have hC:CB d=1+3 * CT (d - 1)∧LB d=4+3 * LT (d - 1)∧LT (d - 1)≤3200:=by rcases hd with rfl | rfl<;>exact⟨rfl,rfl,by decide⟩
 obtain⟨hC,hL,hL2⟩:=hC
 refine Qe1 hb om h0 om fun r r0 r1=>?_
 have hm:r * (CT (d - 1):Int)≤3 * CT (d - 1):=Int.mul_le_mul_of_nonneg_right om (Int.natCast_nonneg _)
 have hl:r.toNat * LT (d - 1)≤3 * LT (d - 1):=Nat.mul_le_mul_right _ om
 refine⟨_,k,d,_,_,b,_,_,rfl,hd,hr,nl,hb,r0,om,?_,om,om,om,om,fun s' i' m' b1 b2 b3 b4 b5 hw=>?_⟩
 ·simp only[List.length_map,List.length_cons,List.length_nil];omega
 ·simp only[List.length_map,List.length_cons,List.length_nil] at b1
  dsimp only[pj,LD.i,LD.st]
  refine⟨decD (by simp only[Int.ofNat_eq_natCast];omega),hk _ _ _ ?_ om om om om⟩
  simp only[List.length_append,List.length_map,List.length_cons,List.length_nil];omega
theorem QtL (hd:d=0∨d=1∨d=2)(hr:2 * d.toNat+1<j+1)(h:okM (CT d) (LT d) b i m (Ks 0)):Qlx k d b i m Ks q Qe QM Qi Qn Qj QB Qaj QX (Qfh j):=by
 obtain⟨hb,h0,h1,h2,h3,hk⟩:=h
 have em:IntKind.i64.wrap (m - 1)=m - 1:=QJ om om
 try dsimp only[lS,cS,lC,cC] at h1 h2 hk
 refine Eq.mpr (Qur ..) ?_
 rw[em]
 rcases hd with rfl | rfl | rfl
 all_goals simp only[CT0,CT1,CT2,LT0,LT1,LT2] at h1 h2 hk
 repeat' first
  | with_reducible exact True.intro
  | with_reducible assumption
  | (refine Qe1 ?_ ?_ ?_ ?_ ?_;rotate_left 4;intro r r0 r1)
  | (refine u_M0 ?_ ?_ ?_ ?_ ?_ ?_;rotate_left 5;intro s i' n' hs hi1 hi2 hn1 hn2;try simp only[lS,cS,lC,cC,CT0,CT1,CT2,LT0,LT1,LT2,CB1,CB2,LB1,LB2] at hs hi1 hi2 hn1 hn2)
  | (refine u_M1 ?_ ?_ ?_ ?_ ?_ ?_ ?_;rotate_left 6;intro s i' n' hs hi1 hi2 hn1 hn2;try simp only[lS,cS,lC,cC,CT0,CT1,CT2,LT0,LT1,LT2,CB1,CB2,LB1,LB2] at hs hi1 hi2 hn1 hn2)
  | (refine u_M2 ?_ ?_ ?_ ?_ ?_ ?_ ?_;rotate_left 6;intro s i' n' hs hi1 hi2 hn1 hn2;try simp only[lS,cS,lC,cC,CT0,CT1,CT2,LT0,LT1,LT2,CB1,CB2,LB1,LB2] at hs hi1 hi2 hn1 hn2)
  | with_reducible refine bifT ?_
  | with_reducible refine bifF ?_
  | (refine Qod ?_ ?_;rotate_left 1;intro s hs)
  | (refine QFC ?_ ?_;rotate_left 1;intro s hs)
  | refine bifD (fun _=>?_) (fun _=>?_)
  | refine bifI (fun _=>?_) (fun _=>?_)
  | refine And.intro ?_ ?_
  | (refine hk _ _ _ ?_ ?_ ?_ ?_ ?_)
  | refine hk _ ?_
  | refine decD ?_
  | omega
  | (simp only[lS,cS,lC,cC,CT0,CT1,CT2,LT0,LT1,LT2,CB1,CB2,LB1,LB2];omega)
  | decide
  | (refine⟨?_,?_,?_⟩<;>omega)
  | (simp only[List.length_append,List.length_map,List.length_cons,List.length_nil,Int.ofNat_eq_natCast,lS,cS,lC,cC,CT0,CT1,CT2,LT0,LT1,LT2,CB1,CB2,LB1,LB2];omega)
theorem QJ0 {f:TelK [.i .i64,.s,.l 0,.i .i64,.i .i64]}(hb:wt b (.l 0))(hn0:0≤n)(hn1:n≤5)(hs:s.length≤1000)(h0:0≤i)(h1:i≤100)(h2:0≤m∧m≤25)(h:∀(s':Str) (i' m':Int),s'.length≤160000→i≤i'→i'≤i+40000→m - 40000≤m'→m'≤m→f k s' b i' m') :
  ∃j,Qdb j [.n k,.s s,.n (IntKind.i64.wrap (1+n)),b,.n i,.n m] [apK [.i .i64,.s,.l 0,.i .i64,.i .i64] f]:=by
 rw[QJ (x:=1+n) om om]
 refine⟨_,k,_,_,b,_,_,rfl,nl,hb,om,om,?_,om,?_,?_,om,fun s' i' m' b1 b2 b3 b4 b5 _=>h s' i' m' ?_ b2 ?_ ?_ b5⟩
 ·rw[LT2];omega
 ·rw[CT2];omega
 ·rw[CT2];omega
 ·rw[LT2] at b1;omega
 ·rw[CT2] at b3;omega
 ·rw[CT2] at b4;omega
theorem QC9 (hb:wt b (.l 0))(h0:0≤k)(hk:∀s:Str,s.length≤200000→Ks 0 [.s s]):Qvd k b Ks q Qe Qi Qaq Qv (fun xs Ks=>∃j,Qdb j xs Ks):=by
 refine Eq.mpr (QDv ..) ?_
 repeat' first
  | with_reducible exact True.intro
  | with_reducible assumption
  | (refine Qe1 ?_ ?_ ?_ ?_ ?_;rotate_left 4;intro r r0 r1)
  | (refine u_M0 ?_ ?_ ?_ ?_ ?_ ?_;rotate_left 5;intro s i' n' hs hi1 hi2 hn1 hn2;try simp only[lS,cS,lC,cC,CT0,CT1,CT2,LT0,LT1,LT2,CB1,CB2,LB1,LB2] at hs hi1 hi2 hn1 hn2)
  | (refine u_M1 ?_ ?_ ?_ ?_ ?_ ?_ ?_;rotate_left 6;intro s i' n' hs hi1 hi2 hn1 hn2;try simp only[lS,cS,lC,cC,CT0,CT1,CT2,LT0,LT1,LT2,CB1,CB2,LB1,LB2] at hs hi1 hi2 hn1 hn2)
  | (refine u_M2 ?_ ?_ ?_ ?_ ?_ ?_ ?_;rotate_left 6;intro s i' n' hs hi1 hi2 hn1 hn2;try simp only[lS,cS,lC,cC,CT0,CT1,CT2,LT0,LT1,LT2,CB1,CB2,LB1,LB2] at hs hi1 hi2 hn1 hn2)
  | with_reducible refine bifT ?_
  | with_reducible refine bifF ?_
  | (refine Qod ?_ ?_;rotate_left 1;intro s hs)
  | (refine QFC ?_ ?_;rotate_left 1;intro s hs)
  | (refine QJ0 ?_ ?_ ?_ ?_ ?_ ?_ ?_ ?_;rotate_left 7;intro s' i' m' b1 b2 b3 b4 b5)
  | refine bifD (fun _=>?_) (fun _=>?_)
  | refine bifI (fun _=>?_) (fun _=>?_)
  | refine And.intro ?_ ?_
  | (refine hk _ _ _ ?_ ?_ ?_ ?_ ?_)
  | refine hk _ ?_
  | refine decD ?_
  | omega
  | (simp only[lS,cS,lC,cC,CT0,CT1,CT2,LT0,LT1,LT2,CB1,CB2,LB1,LB2];omega)
  | decide
  | (refine⟨?_,?_,?_⟩<;>omega)
  | (simp only[List.length_append,List.length_map,List.length_cons,List.length_nil,Int.ofNat_eq_natCast,lS,cS,lC,cC,CT0,CT1,CT2,LT0,LT1,LT2,CB1,CB2,LB1,LB2];omega)
end Go.Proofs.YtmdppkbekmpopaaGreat
namespace Go.Proofs.YtmdppkbekmpopaaGreat
open Go Go.Sh Go.Va
def QgY:Nat:=504
def Qk1:List (Nat×RP):=(nf [0,1])
def Qwu:FC:=cdF tp Qk1 QgY Tryz.f163
def Qmw:FFn:=.f 1 QgY 4 [.t 2] (evC Qwu)
def QhY:Nat:=68215103488
def Qmc:List (Nat×RP):=(nf [0,1,2,4,5,6,7,8,9,12,13,14,15])
def QxZ:FC:=cdF tp Qmc QhY Tryz.f203
def QnD:FFn:=.f 1 QhY 6 [.t 2] (evC QxZ)
def QkH:Nat:=134152096
def Qot:List (Nat×RP):=(nf [0,1,2,3,4,5])
def QAJ:FC:=cdF tp Qot QkH Tryz.f232
def Qqq:FFn:=.f 2 QkH 5 [.t 4] (evC QAJ)
def Qcq:Nat:=134144448
def QdY:List (Nat×RP):=(nf [0,1,4,5,6,7,8,9])
def QuV:FC:=cdF tp QdY Qcq Tryz.f121
def Qll:FFn:=.f 1 Qcq 5 [.c 2 1 true] (evC QuV)
def Qfl:Nat:=120
def QhT:List (Nat×RP):=(nf [0,1])
def Qrq:FC:=cdF tp QhT Qfl Tryz.f74
def QiT:FFn:=.f 1 Qfl 3 [.c 2 2 true] (evC Qrq)
def Qba:Nat:=51539599360
def QcF:List (Nat×RP):=(nf [0,1,3,4,5,6,7])
def Qpa:FC:=cdF tp QcF Qba Tryz.f75
def Qhi:FFn:=.f 3 Qba 6 [.t 6] (evC Qpa)
def Qh0:Nat:=1968
def Qme:List (Nat×RP):=(nf [0,1,2,3])
def Qx3:FC:=cdF tp Qme Qh0 Tryz.f76
def QnH:FFn:=.f 2 Qh0 4 [.t 3] (evC Qx3)
def Qev:Nat:=240
def Qgv:List (Nat×RP):=(nf [0,1])
def Qpb:FC:=cdF tp Qgv Qev Tryz.f123
def Qhj:FFn:=.f 2 Qev 4 [] (evC Qpb)
def QcK:Nat:=1904
def Qeq:List (Nat×RP):=(nf [0,1,2])
def Qkn:FC:=cdF tp Qeq QcK Tryz.f77
def QeL:FFn:=.f 2 QcK 4 [] (evC Qkn)
def Qec:Nat:=992
def Qgc:List (Nat×RP):=(nf [0,1])
def Qn9:FC:=cdF tp Qgc Qec Tryz.f122
def QgA:FFn:=.f 2 Qec 4 [.t 4] (evC Qn9)
def Qdi:Nat:=120
def Qft:List (Nat×RP):=(nf [0,1])
def QmW:FC:=cdF tp Qft Qdi Tryz.f78
def QfS:FFn:=.f 1 Qdi 3 [.t 2] (evC QmW)
def QkL:Nat:=16368
def Qox:List (Nat×RP):=(nf [0,1,2,3])
def QAS:FC:=cdF tp Qox QkL Tryz.f31
def Qqz:FFn:=.f 1 QkL 4 [.t 2] (evC QAS)
def QaM:Nat:=36857327366053154816
def QbW:List (Nat×RP):=(nf [0,1,2,4,5,6,7,8,10,11,14,15,16,17,18,19])
def QAX:FC:=cdF tp QbW QaM Tryz.f11
def QqE:FFn:=.f 1 QaM 7 [.t 2] (evC QAX)
def Qic:FC:=cdL tp QdY Qcq 3 Tryz.f121
def QfU:FC:=cdL tp QcF Qba 2 Tryz.f75
end Go.Proofs.YtmdppkbekmpopaaGreat
