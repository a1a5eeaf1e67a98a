import Derived.Test.YtemffgbncjnmkaaGreatOb
set_option linter.unusedVariables false
set_option linter.unusedSimpArgs false
set_option maxRecDepth 100000
noncomputable section
namespace Go.Proofs.YtemffgbncjnmkaaGreat
open Go Go.Sh Go.Va
abbrev kII:List CK:=[.i .i64,.i .i64]
section
variable {x y a b:Int}{Ks:Nat→List LD→Prop}{q:QF}
def nB2:QF:=fun _ _=>False
def QNB:QF:=nB2
def QNC:QF:=nB2
def QMN:QF:=nB2
def QL9:QF:=nB2
def QNR:QF:=nB2
def QM1:QF:=nB2
def QMf:QF:=nB2
def QMC:QF:=nB2
def QMr:QF:=nB2
def QMg:QF:=nB2
def QMD:QF:=nB2
def QMs:QF:=nB2
def QL6:QF:=nB2
def QL5:QF:=nB2
def QLH:QF:=fun xs Ks=>∃a b,xs=[.n a,.n b]∧(b<a→nthK Ks 0 [.b false,.n 0,.n 0])∧(a≤b→nthK Ks 0 [.b true,.n a,.n b])
theorem Qabg (h0:b<a→Ks 0 [.b false,.n 0,.n 0])(h1:a≤b→Ks 0 [.b true,.n a,.n b]):Q7W a b Ks q:=by
 refine Eq.mpr (Qabn ..) ?_
 exact bifD (fun h=>h0 h) fun h=>h1 (by omega)
theorem QYF {f:TelK (.b::kII)}(h:a≤b)(hk:f true a b):QLH [.n a,.n b] [apK (.b::kII) f]:=⟨a,b,rfl,fun h'=>absurd h' (by omega),fun _ _=>hk⟩
theorem Qacm {f:TelK (.b::kII)}(h:b<a)(hk:f false (0:Int) (0:Int)):QLH [.n a,.n b] [apK (.b::kII) f]:=⟨a,b,rfl,fun _ _=>hk,fun h'=>absurd h' (by omega)⟩
def QNq:QF:=fun xs Ks=>∃x n,xs=[.b true,.n x,.n x,.n n]∧x≠n∧nthK Ks 0 []
theorem QaaS {n:Int}(hn:x≠n)(hk:Ks 0 []):Q4h x n Ks q:=by
 refine Eq.mpr (Q9n ..) ?_
 exact bifD (fun h=>absurd h (by omega)) fun _=>bifD (fun h=>bifD (fun h'=>absurd hn (by omega)) fun _=>hk) fun _=>hk
theorem QabJ {n:Int}{f:TelK []}(hn:x≠n)(hk:f):QNq [.b true,.n x,.n x,.n n] [apK [] f]:=⟨x,n,rfl,hn,fun _=>hk⟩
def QLC:QF:=fun xs Ks=>∃la lc x,(xs=[.l la lc [.t [.b true,.n x,.n x]]]∨xs=[.l la lc [.t [.b false,.n 0,.n 0],.t [.b true,.n x,.n x]]])∧nthK Ks 0 [.n x,.n x]
theorem Q7X {la:Addr}{lc:Nat}{q1:QF}(hk:Ks 0 [.n x,.n x]):Q2n la lc x Ks q:=by
 refine Eq.mpr (Q8l ..) ?_
 exact⟨rfl,bifD (fun h=>absurd h (by omega)) fun _=>bifD (fun h=>absurd h (by omega)) fun _=>hk⟩
theorem Q7Y {la:Addr}{lc:Nat}{q1:QF}(hk:Ks 0 [.n x,.n x]):Q2o la lc x Ks q:=by
 refine Eq.mpr (Q8m ..) ?_
 exact⟨rfl,rfl,bifD (fun h=>absurd h (by omega)) fun _=>bifD (fun h=>absurd h (by omega)) fun _=>hk⟩
theorem QTK {la:Addr}{lc:Nat}{f:TelK kII}(hk:f x x):QLC [.l la lc [.t [.b true,.n x,.n x]]] [apK kII f]:=⟨la,lc,x,.inl rfl,fun _=>hk⟩
theorem QabQ {la:Addr}{lc:Nat}{f:TelK kII}(hk:f x x):QLC [.l la lc [.t [.b false,.n 0,.n 0],.t [.b true,.n x,.n x]]] [apK kII f]:=⟨la,lc,x,.inr rfl,fun _=>hk⟩
def QLM:QF:=fun xs Ks=>∃x y,xs=[.b true,.n x,.n x,.b true,.n y,.n y]∧nthK Ks 0 [.n x,.n x,.n y,.n y]
theorem Q9N (hk:Ks 0 [.n x,.n x,.n y,.n y]):Q2q x y Ks q QLC:=by
 refine Eq.mpr (Q8o ..) ?_
 exact fun a c _=>QTK ⟨⟨rfl,rfl,rfl,trivial⟩,⟨rfl,rfl,rfl,trivial⟩,fun a c _=>QTK ⟨⟨rfl,rfl,rfl,trivial⟩,⟨rfl,rfl,rfl,trivial⟩,⟨rfl,rfl,rfl,trivial⟩,⟨trivial,rfl,rfl,trivial⟩,hk⟩⟩
theorem QaaN {f:TelK (kII++kII)}(hk:f x x y y):QLM [.b true,.n x,.n x,.b true,.n y,.n y] [apK (kII++kII) f]:=⟨x,y,rfl,fun _=>hk⟩
def sm (x:Int):Prop:=-1000000≤x∧x≤1000000
def QMS:QF:=fun xs Ks=>∃a b,xs=[.n a,.n b]∧sm a∧sm b∧nthK Ks 0 [.n (a+b),.b true]
theorem Q80 (ha:sm a)(hb:sm b)(hk:Ks 0 [.n (a+b),.b true]):Q4k a b Ks q:=by
 refine Eq.mpr (Q9q ..) ?_
 unfold sm at ha hb
 rw[QJ (x:=a+b) (by omega) (by omega)]
 exact bifD (fun h=>bifD (fun h2=>hk) fun h2=>absurd h (by omega)) fun h=>bifD (fun h2=>absurd h (by omega)) fun h2=>hk
theorem Qabd {f:TelK [.i .i64,.b]}(ha:sm a)(hb:sm b)(hk:f (a+b:Int) true):QMS [.n a,.n b] [apK [.i .i64,.b] f]:=⟨a,b,rfl,ha,hb,fun _=>hk⟩
def QMJ:QF:=fun xs Ks=>∃a b,xs=[.n a,.n b]∧sm a∧sm b∧nthK Ks 0 [.n (a - b),.b true]
theorem Q70 (ha:sm a)(hb:sm b)(hk:Ks 0 [.n (a - b),.b true]):Q2r a b Ks q:=by
 refine Eq.mpr (Q8p ..) ?_
 unfold sm at ha hb
 rw[QJ (x:=a - b) (by omega) (by omega)]
 exact bifD (fun h=>bifD (fun h2=>hk) fun h2=>absurd h (by omega)) fun h=>bifD (fun h2=>absurd h (by omega)) fun h2=>hk
theorem QaaA {f:TelK [.i .i64,.b]}(ha:sm a)(hb:sm b)(hk:f (a - b:Int) true):QMJ [.n a,.n b] [apK [.i .i64,.b] f]:=⟨a,b,rfl,ha,hb,fun _=>hk⟩
def qBin (g:Int→Int→Int)(P:Int→Int→Prop):QF:=fun xs Ks=>∃x y,xs=[.b true,.n x,.n x,.b true,.n y,.n y]∧sm x∧sm y∧P x y∧nthK Ks 0 [.n (g x y),.n (g x y)]
def QNE:QF:=qBin (fun x y=>x+y) fun _ _=>True
def QMj:QF:=qBin (fun x y=>x - y) fun _ _=>True
def QND:QF:=qBin (fun x y=>x.tdiv y) fun _ y=>0<y
theorem Q8U {g:Int→Int→Int}{P:Int→Int→Prop}{f:TelK kII}(hx:sm x)(hy:sm y)(hp:P x y)(hk:f (g x y) (g x y)):qBin g P [.b true,.n x,.n x,.b true,.n y,.n y] [apK kII f]:=⟨x,y,rfl,hx,hy,hp,fun _=>hk⟩
theorem Q9R (hx:sm x)(hy:sm y)(hk:Ks 0 [.n (x+y),.n (x+y)]):Q2v x y Ks q QLM QMS:=by
 refine Eq.mpr (Q8t ..) ?_
 exact QaaN (Qabd hx hy (bifT (Qabd hx hy (bifT (bifD (fun h=>absurd h (by omega)) fun _=>hk)))))
theorem Q9O (hx:sm x)(hy:sm y)(hk:Ks 0 [.n (x - y),.n (x - y)]):Q2s x y Ks q QLM QMJ:=by
 refine Eq.mpr (Q8q ..) ?_
 exact QaaN (QaaA hx hy (bifT (QaaA hx hy (bifT (bifD (fun h=>absurd h (by omega)) fun _=>hk)))))
def QNo:QF:=fun xs Ks=>∃x,xs=[.b true,.n x,.n x]∧sm x∧nthK Ks 0 [.n (0 - x),.n (0 - x)]
theorem Q9P (hx:sm x)(hk:Ks 0 [.n (0 - x),.n (0 - x)]):Q2t x Ks q QMj:=by
 refine Eq.mpr (Q8r ..) ?_
 exact⟨⟨rfl,rfl,rfl,trivial⟩,Q8U (by unfold sm;omega) hx trivial hk⟩
theorem Qacn {f:TelK kII}(hx:sm x)(hk:f (0 - x:Int) (0 - x:Int)):QNo [.b true,.n x,.n x] [apK kII f]:=⟨x,rfl,hx,fun _=>hk⟩
def QL7:QF:=fun xs Ks=>∃x,(xs=[.b true,.n x,.n x,.b false,.n 0,.n 0]∧nthK Ks 0 [.b false,.n 0,.n 0])∨∃y,xs=[.b true,.n x,.n x,.b true,.n y,.n y]∧sm x∧0<y∧nthK Ks 0 [.b true,.n (x.tdiv y),.n (x.tdiv y)]
theorem QabR {x y:Int}(hx:sm x)(hy:0<y):sm (x.tdiv y):=by
 unfold sm at *
 have h1:=Int.natAbs_tdiv_le_natAbs x y
 omega
theorem Q2C (hk:Ks 0 [.b false,.n 0,.n 0]):QVn x Ks q QLH:=by
 refine Eq.mpr (Q21 ..) ?_
 exact hk
theorem Q2B (hx:sm x)(hy:0<y)(hk:Ks 0 [.b true,.n (x.tdiv y),.n (x.tdiv y)]):QVm x y Ks q QLH:=by
 refine Eq.mpr (Q20 ..) ?_
 have h1:=QabR hx hy
 have h0:¬y=0:=by omega
 have hd:(!(decide (y=0)))=true:=by rw[decide_eq_false h0];rfl
 have ew:IntKind.i64.wrap (x.tdiv y)=x.tdiv y:=by unfold sm at h1;exact QJ (by omega) (by omega)
 rw[ew]
 rw[Int.min_self,Int.min_self,Int.min_self,Int.max_self,Int.max_self,Int.max_self]
 exact⟨hd,hd,hd,hd,rfl,rfl,rfl,rfl,rfl,rfl,rfl,rfl,QYF (Int.le_refl _) ⟨rfl,rfl,rfl,rfl,rfl,rfl,rfl,rfl,hk⟩⟩
theorem Qacb {f:TelK (.b::kII)}(hk:f false (0:Int) (0:Int)):QL7 [.b true,.n x,.n x,.b false,.n 0,.n 0] [apK (.b::kII) f]:=⟨x,.inl ⟨rfl,fun _=>hk⟩⟩
theorem Qaca {f:TelK (.b::kII)}(hx:sm x)(hy:0<y)(hk:f true (x.tdiv y) (x.tdiv y)):QL7 [.b true,.n x,.n x,.b true,.n y,.n y] [apK (.b::kII) f]:=⟨x,.inr ⟨y,rfl,hx,hy,fun _=>hk⟩⟩
theorem Q9Q (hx:sm x)(hy:sm y)(h0:0<y)(hk:Ks 0 [.n (x.tdiv y),.n (x.tdiv y)]):Q2u x y Ks q QLH QNq QLC QLM QL7:=by
 refine Eq.mpr (Q8s ..) ?_
 have hx':=hx;have hy':=hy
 unfold sm at hx' hy'
 have e1:max y 1=y:=by omega
 refine QaaN (QabJ (by omega) (Qacm (by omega) ?_))
 rw[e1]
 exact QYF (Int.le_refl _) (QabJ (by omega) (Qacb ⟨⟨rfl,rfl,rfl,trivial⟩,⟨trivial,rfl,rfl,trivial⟩,Qaca hx h0 fun a c _=>QabQ hk⟩))
end
end Go.Proofs.YtemffgbncjnmkaaGreat
namespace Go.Proofs.YtemffgbncjnmkaaGreat
open Go Go.Sh Go.Va
abbrev M3L (x y z:Int):List LD:=[.t [.s wA,.b true,.n x,.n x],.t [.s wB,.b true,.n y,.n y],.t [.s wR,.b true,.n z,.n z]]
def isP (mp:LD):Prop:=mp=.nul∨∃a c,mp=.l a c []
def isM (x y z:Int)(mi mp:LD):Prop:=(∃a c,mi=.l a c (M3L x y z))∧isP mp
abbrev kLL:List CK:=[.l 12,.l 13]
section
variable {x y z v:Int}{mi mp:LD}{Ks:Nat→List LD→Prop}{q:QF}
def nmI (n:Str)(x y z v:Int):Prop:=n=wA∧v=x∨n=wB∧v=y∨n=wR∧v=z
def QLR:QF:=fun xs Ks=>∃mi mp n x y z v,xs=[.b true,mi,mp,.s n]∧isM x y z mi mp∧nmI n x y z v∧nthK Ks 0 [.b true,.n v,.n v]
theorem Qabz {xs:List LD}{Ks:List (List LD→Prop)}(h:QLR xs Ks):QG QSZ [] QTW (QPA q) xs (nthK Ks):=by
 obtain⟨mi,mp,n,x,y,z,v,rfl,⟨⟨a,c,rfl⟩,_⟩,hn,hk⟩:=h
 rcases hn with⟨rfl,rfl⟩ | ⟨rfl,rfl⟩ | ⟨rfl,rfl⟩
 ·exact Eq.mpr (Qaaa ..) ⟨by decide,by decide,by decide,by decide,hk⟩
 ·exact Eq.mpr (Q99 ..) ⟨by decide,by decide,by decide,by decide,hk⟩
 ·exact Eq.mpr (Q98 ..) ⟨by decide,by decide,by decide,by decide,hk⟩
theorem QaaQ {n:Str}{f:TelK (.b::kII)}(hm:isM x y z mi mp)(hn:nmI n x y z v)(hk:f true v v):QLR [.b true,mi,mp,.s n] [apK (.b::kII) f]:=⟨mi,mp,n,x,y,z,v,rfl,hm,hn,fun _=>hk⟩
def upI (n:Str)(x y z v x' y' z':Int):Prop:=n=wA∧x'=v∧y'=y∧z'=z∨n=wB∧x'=x∧y'=v∧z'=z∨n=wR∧x'=x∧y'=y∧z'=v
def QLO:QF:=fun xs Ks=>∃mi mp n x y z v x' y' z',xs=[.b true,mi,mp,.s n,.b true,.n v,.n v]∧isM x y z mi mp∧upI n x y z v x' y' z'∧∀mi mp,isM x' y' z' mi mp→nthK Ks 0 [mi,mp]
theorem Q9M {xs:List LD}{Ks:List (List LD→Prop)}(h:QLO xs Ks):QG (QNr QLC) [] QNQ (QNf q) xs (nthK Ks):=by
 obtain⟨mi,mp,n,x,y,z,v,x',y',z',rfl,⟨⟨a,c,rfl⟩,hp⟩,hn,hk⟩:=h
 rcases hp with rfl | ⟨pa,pc,rfl⟩
 ·rcases hn with⟨rfl,rfl,rfl,rfl⟩ | ⟨rfl,rfl,rfl,rfl⟩ | ⟨rfl,rfl,rfl,rfl⟩
  ·refine Eq.mpr (Q6D ..) fun a c _=>QTK ?_
   repeat' first
    | decide
    | refine⟨?_,?_⟩
    | (intro h;cases h;done)
    | intro _
    | exact hk _ _ ⟨⟨_,_,rfl⟩,.inl rfl⟩
    | exact hk _ _ ⟨⟨_,_,rfl⟩,.inr ⟨_,_,rfl⟩⟩
  ·refine Eq.mpr (Q6B ..) fun a c _=>QTK ?_
   repeat' first
    | decide
    | refine⟨?_,?_⟩
    | (intro h;cases h;done)
    | intro _
    | exact hk _ _ ⟨⟨_,_,rfl⟩,.inl rfl⟩
    | exact hk _ _ ⟨⟨_,_,rfl⟩,.inr ⟨_,_,rfl⟩⟩
  ·refine Eq.mpr (Q6z ..) fun a c _=>QTK ?_
   repeat' first
    | decide
    | refine⟨?_,?_⟩
    | (intro h;cases h;done)
    | intro _
    | exact hk _ _ ⟨⟨_,_,rfl⟩,.inl rfl⟩
    | exact hk _ _ ⟨⟨_,_,rfl⟩,.inr ⟨_,_,rfl⟩⟩
 ·rcases hn with⟨rfl,rfl,rfl,rfl⟩ | ⟨rfl,rfl,rfl,rfl⟩ | ⟨rfl,rfl,rfl,rfl⟩
  ·refine Eq.mpr (Q6E ..) fun a c _=>QTK ?_
   repeat' first
    | decide
    | refine⟨?_,?_⟩
    | (intro h;cases h;done)
    | intro _
    | exact hk _ _ ⟨⟨_,_,rfl⟩,.inl rfl⟩
    | exact hk _ _ ⟨⟨_,_,rfl⟩,.inr ⟨_,_,rfl⟩⟩
  ·refine Eq.mpr (Q6C ..) fun a c _=>QTK ?_
   repeat' first
    | decide
    | refine⟨?_,?_⟩
    | (intro h;cases h;done)
    | intro _
    | exact hk _ _ ⟨⟨_,_,rfl⟩,.inl rfl⟩
    | exact hk _ _ ⟨⟨_,_,rfl⟩,.inr ⟨_,_,rfl⟩⟩
  ·refine Eq.mpr (Q6A ..) fun a c _=>QTK ?_
   repeat' first
    | decide
    | refine⟨?_,?_⟩
    | (intro h;cases h;done)
    | intro _
    | exact hk _ _ ⟨⟨_,_,rfl⟩,.inl rfl⟩
    | exact hk _ _ ⟨⟨_,_,rfl⟩,.inr ⟨_,_,rfl⟩⟩
theorem Q8X {n:Str}{x' y' z':Int}{f:TelK kLL}(hm:isM x y z mi mp)(hn:upI n x y z v x' y' z')(hk:∀mi mp,isM x' y' z' mi mp→f mi mp):QLO [.b true,mi,mp,.s n,.b true,.n v,.n v] [apK kLL f]:=⟨mi,mp,n,x,y,z,v,x',y',z',rfl,hm,hn,fun mi mp h _=>hk mi mp h⟩
def QLF:QF:=fun xs Ks=>∃la lc mi mp x y z,(xs=[.l la lc [.t [.b false,.nul,.nul],.t [.b true,mi,mp]]]∨xs=[.l la lc [.t [.b true,mi,mp]]])∧isM x y z mi mp∧∀mi mp,isM x y z mi mp→nthK Ks 0 [mi,mp]
theorem Qabc {xs:List LD}{Ks:List (List LD→Prop)}(h:QLF xs Ks):QG (QQj QLC) [] QPw (QN9 q) xs (nthK Ks):=by
 obtain⟨la,lc,mi,mp,x,y,z,hx,⟨⟨a,c,rfl⟩,hp⟩,hk⟩:=h
 rcases hp with rfl | ⟨pa,pc,rfl⟩
 ·rcases hx with rfl | rfl
  ·refine Eq.mpr (Q8h ..) ?_
   repeat' first
    | decide
    | refine⟨?_,?_⟩
    | (intro h;cases h;done)
    | intro _
    | exact hk _ _ ⟨⟨_,_,rfl⟩,.inl rfl⟩
    | exact hk _ _ ⟨⟨_,_,rfl⟩,.inr ⟨_,_,rfl⟩⟩
  ·refine Eq.mpr (Q8f ..) ?_
   repeat' first
    | decide
    | refine⟨?_,?_⟩
    | (intro h;cases h;done)
    | intro _
    | exact hk _ _ ⟨⟨_,_,rfl⟩,.inl rfl⟩
    | exact hk _ _ ⟨⟨_,_,rfl⟩,.inr ⟨_,_,rfl⟩⟩
 ·rcases hx with rfl | rfl
  ·refine Eq.mpr (Q8i ..) ?_
   repeat' first
    | decide
    | refine⟨?_,?_⟩
    | (intro h;cases h;done)
    | intro _
    | exact hk _ _ ⟨⟨_,_,rfl⟩,.inl rfl⟩
    | exact hk _ _ ⟨⟨_,_,rfl⟩,.inr ⟨_,_,rfl⟩⟩
  ·refine Eq.mpr (Q8g ..) ?_
   repeat' first
    | decide
    | refine⟨?_,?_⟩
    | (intro h;cases h;done)
    | intro _
    | exact hk _ _ ⟨⟨_,_,rfl⟩,.inl rfl⟩
    | exact hk _ _ ⟨⟨_,_,rfl⟩,.inr ⟨_,_,rfl⟩⟩
theorem Qaco {la:Addr}{lc:Nat}{f:TelK kLL}(hm:isM x y z mi mp)(hk:∀mi mp,isM x y z mi mp→f mi mp):QLF [.l la lc [.t [.b false,.nul,.nul],.t [.b true,mi,mp]]] [apK kLL f]:=⟨la,lc,mi,mp,x,y,z,.inl rfl,hm,fun mi mp h _=>hk mi mp h⟩
theorem QaaP {la:Addr}{lc:Nat}{f:TelK kLL}(hm:isM x y z mi mp)(hk:∀mi mp,isM x y z mi mp→f mi mp):QLF [.l la lc [.t [.b true,mi,mp]]] [apK kLL f]:=⟨la,lc,mi,mp,x,y,z,.inr rfl,hm,fun mi mp h _=>hk mi mp h⟩
def QML:QF:=fun xs Ks=>∃ai ap bi bp,xs=[.b true,ai,ap,.b false,bi,bp]∧nthK Ks 0 [.b false]
theorem Qaby {xs:List LD}{Ks:List (List LD→Prop)}(h:QML xs Ks):QG (QZh) [] QYZ (QXn q) xs (nthK Ks):=by
 obtain⟨ai,ap,bi,bp,rfl,hk⟩:=h
 exact Eq.mpr (Q97 ..) hk
theorem Qacp {ai ap bi bp:LD}{f:TelK [.b]}(hk:f false):QML [.b true,ai,ap,.b false,bi,bp] [apK [.b] f]:=⟨ai,ap,bi,bp,rfl,fun _=>hk⟩
def evE:Ex→Int→Int→Int→Int→Prop
 | .num s,x,y,z,v=>v=numS s∧sm v
 | .var n,x,y,z,v=>nmI n x y z v∧sm v
 | .neg e,x,y,z,v=>∃a,evE e x y z a∧v=0 - a∧sm v
 | .bin k e f,x,y,z,v=>∃a b,evE e x y z a∧evE f x y z b∧(k=2∧v=a+b∨k=3∧v=a - b∨k=5∧0<b∧v=a.tdiv b)∧sm v
theorem Q9m:∀ {e:Ex}{x y z v:Int},evE e x y z v→sm v
 | .num _,_,_,_,_,h=>h.2
 | .var _,_,_,_,_,h=>h.2
 | .neg _,_,_,_,_,⟨_,_,_,h⟩=>h
 | .bin _ _ _,_,_,_,_,⟨_,_,_,_,_,h⟩=>h
def exD:Ex→Nat
 | .num _=>1
 | .var _=>1
 | .neg e=>exD e+1
 | .bin _ e f=>exD e+exD f+1
def QNt (g:Nat):QF:=fun xs Ks=>∃mi mp e E x y z v,xs=[.b true,mi,mp,e]∧isM x y z mi mp∧isE E e∧exD E<g∧evE E x y z v∧nthK Ks 0 [.b true,.n v,.n v]
def QLK:QF:=fun xs Ks=>∃g,QNt g xs Ks
def QLZ:QF:=fun xs Ks=>∃k a b v,xs=[.n k,.b true,.n a,.n a,.b true,.n b,.n b]∧sm a∧sm b∧(k=2∧v=a+b∨k=3∧v=a - b∨k=5∧0<b∧v=a.tdiv b)∧nthK Ks 0 [.n v,.n v]
theorem Q54 {k a b v:Int}{q1 q2:QF}(ha:sm a)(hb:sm b)(h:k=2∧v=a+b∨k=3∧v=a - b∨k=5∧0<b∧v=a.tdiv b)(hk:Ks 0 [.n v,.n v]):QZa k true a a true b b Ks q QNE QMj QND q1 q2:=by
 refine Eq.mpr (Q6F ..) ?_
 rcases h with⟨rfl,rfl⟩ | ⟨rfl,rfl⟩ | ⟨rfl,h0,rfl⟩
 ·exact bifT (Q8U ha hb trivial hk)
 ·exact bifF (bifT (Q8U ha hb trivial hk))
 ·exact bifF (bifF (bifF (bifT (Q8U ha hb h0 hk))))
theorem Qabe {k a b v:Int}{f:TelK kII}(ha:sm a)(hb:sm b)(h:k=2∧v=a+b∨k=3∧v=a - b∨k=5∧0<b∧v=a.tdiv b)(hk:f v v):QLZ [.n k,.b true,.n a,.n a,.b true,.n b,.n b] [apK kII f]:=⟨k,a,b,v,rfl,ha,hb,h,fun _=>hk⟩
theorem Q4l {g:Nat}{e:LD}{E:Ex}{f:TelK (.b::kII)}(hm:isM x y z mi mp)(he:isE E e)(hg:exD E<g)(hv:evE E x y z v)(hk:f true v v):QNt g [.b true,mi,mp,e] [apK (.b::kII) f]:=⟨mi,mp,e,E,x,y,z,v,rfl,hm,he,hg,hv,fun _=>hk⟩
theorem Q7Z {g:Nat}{e:LD}{E:Ex}(hm:isM x y z mi mp)(he:isE E e)(hg:exD E<g+1)(hv:evE E x y z v)(hk:Ks 0 [.b true,.n v,.n v]):Q2p true mi mp e Ks q QNo QLR (QNt g) QLZ:=by
 refine Eq.mpr (Q8n ..) (bifT ?_)
 cases E with
 | num s=>
  obtain⟨a,rfl⟩:=he
  obtain⟨rfl,_⟩:=hv
  exact bifF ⟨rfl,bifT ⟨rfl,bifD (fun h=>absurd h (by show ¬numS s<numS s;omega)) fun _=>hk⟩⟩
 | var s=>
  obtain⟨a,rfl⟩:=he
  exact bifF ⟨rfl,bifF (bifT ⟨rfl,QaaQ hm hv.1 hk⟩)⟩
 | neg E=>
  obtain⟨a,w,rfl,hw⟩:=he
  obtain⟨b,hb,rfl,_⟩:=hv
  simp only[exD] at hg
  exact bifF ⟨rfl,bifF (bifF (bifT ⟨rfl,Q4l hm hw (by omega) hb (Qacn (Q9m hb) hk)⟩))⟩
 | bin k E F=>
  obtain⟨a,u,w,rfl,hu,hw⟩:=he
  obtain⟨b,c,hb,hc,hop,_⟩:=hv
  simp only[exD] at hg
  have key:QNt g [.b true,mi,mp,u] [apK (.b::kII) fun (b1:Bool) (l1 h1:Int)=>bif b1 then ((LD.p a [.n k,.n 0,.s [],u,w]).is=true∧((LD.p a [.n k,.n 0,.s [],u,w]).is=true∧QNt g [.b true,mi,mp,w] [apK (.b::kII) fun (b2:Bool) (l2 h2:Int)=>(b1=b1∧(l1=l1∧(h1=h1∧True)))∧QLZ [.n k,.b b1,.n l1,.n h1,.b b2,.n l2,.n h2] [apK kII fun (l3 h3:Int)=>Ks 0 [.b true,.n l3,.n h3]]])) else Ks 0 [.b false,.n 0,.n 0]]:=
   Q4l hm hu (by omega) hb (bifT ⟨rfl,rfl,Q4l hm hw (by omega) hc ⟨⟨rfl,rfl,rfl,trivial⟩,Qabe (Q9m hb) (Q9m hc) hop hk⟩⟩)
  rcases hop with⟨rfl,_⟩ | ⟨rfl,_⟩ | ⟨rfl,_⟩
  ·exact bifF ⟨rfl,bifF (bifF (bifF (bifT ⟨rfl,key⟩)))⟩
  ·exact bifF ⟨rfl,bifF (bifF (bifF (bifF (bifT ⟨rfl,key⟩))))⟩
  ·exact bifF ⟨rfl,bifF (bifF (bifF (bifF (bifF (bifF (bifT ⟨rfl,key⟩))))))⟩
def QNm:QF:=fun xs Ks=>∃mi mp e E x y z v,xs=[.b true,mi,mp,e]∧isM x y z mi mp∧isE E e∧evE E x y z v∧nthK Ks 0 [.b true,.n v,.n v]
theorem Q8Y {e:LD}{E:Ex}(hm:isM x y z mi mp)(he:isE E e)(hv:evE E x y z v)(hk:Ks 0 [.b true,.n v,.n v]):Q4i true mi mp e Ks q QLK:=by
 refine Eq.mpr (Q9o ..) ⟨_,Q4l hm he (Nat.lt_succ_self _) hv ⟨⟨rfl,rfl,rfl,trivial⟩,hk⟩⟩
def QLX:QF:=fun xs Ks=>∃e mi mp E x y z v,xs=[e,.b true,mi,mp]∧isM x y z mi mp∧isE E e∧evE E x y z v∧nthK Ks 0 [.b true,.n v,.n v,.b true,mi,mp]
theorem Q5E {e:LD}{E:Ex}(hm:isM x y z mi mp)(he:isE E e)(hv:evE E x y z v)(hk:Ks 0 [.b true,.n v,.n v,.b true,mi,mp]):QYv e true mi mp Ks q QNm:=by
 refine Eq.mpr (Q5R ..) ?_
 exact⟨mi,mp,e,E,x,y,z,v,rfl,hm,he,hv,fun _=>bifT hk⟩
def QLY:QF:=fun xs Ks=>∃mi mp n x y z v x' y' z',xs=[.s n,.b true,.n v,.n v,.b true,mi,mp]∧isM x y z mi mp∧upI n x y z v x' y' z'∧∀mi mp,isM x' y' z' mi mp→nthK Ks 0 [.b true,mi,mp]
theorem Q4s {n:Str}{x' y' z':Int}(hm:isM x y z mi mp)(hn:upI n x y z v x' y' z')(hk:∀mi mp,isM x' y' z' mi mp→Ks 0 [.b true,mi,mp]):QXf n true v v true mi mp Ks q QLR QLO:=by
 refine Eq.mpr (Q4P ..) ?_
 have hn2:∃w,nmI n x y z w:=by
  rcases hn with⟨h,_⟩ | ⟨h,_⟩ | ⟨h,_⟩
  ·exact⟨x,.inl ⟨h,rfl⟩⟩
  ·exact⟨y,.inr (.inl ⟨h,rfl⟩)⟩
  ·exact⟨z,.inr (.inr ⟨h,rfl⟩)⟩
 obtain⟨w,hw⟩:=hn2
 exact QaaQ hm hw (Q8X hm hn fun mi mp h=>hk mi mp h)
end
end Go.Proofs.YtemffgbncjnmkaaGreat
namespace Go.Proofs.YtemffgbncjnmkaaGreat
open Go Go.Sh Go.Va
abbrev TR:=Int×Int×Int
def isMt (t:TR)(mi mp:LD):Prop:=isM t.1 t.2.1 t.2.2 mi mp
def stS:St1→TR→TR→Prop
 | .asg n E,t,u=>∃v,evE E t.1 t.2.1 t.2.2 v∧upI n t.1 t.2.1 t.2.2 v u.1 u.2.1 u.2.2
 | .ret E,t,u=>∃v,evE E t.1 t.2.1 t.2.2 v∧u=(t.1,t.2.1,v)
abbrev kAct:List CK:=[.b,.l 12,.l 13]
section
variable {mi mp:LD}{Ks:Nat→List LD→Prop}{q:QF}{t u:TR}
def QLD:QF:=fun xs Ks=>∃S n fs mi mp t u,xs=fs++[.b true,mi,mp]∧isS S n fs∧isMt t mi mp∧stS S t u∧∀mi mp,isMt u mi mp→nthK Ks 0 [.b true,mi,mp]
theorem Q1R {xs:List LD}{Ks:List (List LD→Prop)}{q0 q1 q2 q3 q4 q5 q6 q7 q8 q9:QF}(h:QLD xs Ks):QG (QN7 q0 QLO QLX QLY q1 q2 q3 q4 q5 q6 q7 q8 q9) [] QNP (QM8 q) xs (nthK Ks):=by
 obtain⟨S,n,fs,mi,mp,t,u,rfl,hS,hm,hst,hk⟩:=h
 cases S with
 | asg x E=>
  obtain⟨y,hy,rfl⟩:=hS
  obtain⟨v,hv,hu⟩:=hst
  refine Eq.mpr (QZP ..) ?_
  exact⟨_,_,_,_,_,_,_,_,rfl,hm,hy,hv,fun _=>bifT ⟨_,_,_,_,_,_,_,_,_,_,rfl,hm,hu,fun mi mp h _=>hk mi mp h⟩⟩
 | ret E=>
  obtain⟨y,hy,rfl⟩:=hS
  obtain⟨v,hv,rfl⟩:=hst
  refine Eq.mpr (QZO ..) ?_
  exact⟨_,_,_,_,_,_,_,_,rfl,hm,hy,hv,fun _=>bifT (Q8X hm (.inr (.inr ⟨rfl,rfl,rfl,rfl⟩)) fun mi mp h=>hk mi mp h)⟩
theorem Q48 {S:St1}{n s0 s9:Int}{s1 s2:Str}{s3 s4 s5 s6 s7 s8:LD}{f:TelK kAct}(hS:isS S n [.n s0,.s s1,.s s2,s3,s4,s5,s6,s7,s8,.n s9])(hm:isMt t mi mp)(hst:stS S t u)(hk:∀mi mp,isMt u mi mp→f true mi mp) :
  QLD [.n s0,.s s1,.s s2,s3,s4,s5,s6,s7,s8,.n s9,.b true,mi,mp] [apK kAct f]:=⟨S,n,_,mi,mp,t,u,rfl,hS,hm,hst,fun mi mp h _=>hk mi mp h⟩
inductive Nd where
 | ent
 | st (S:St1)
 | ext
def isN:Nd→Nat→List LD→Prop
 | .ent,to,F=>∃a c,F=[.n 0,.n 0,.s [],.s [],.nul,.nul,.nul,.nul,.nul,.nul,.n 0,.l a c [.t [.n (to:Int)]],.b false]
 | .st S,to,F=>∃n s0 s1 s2 s3 s4 s5 s6 s7 s8 s9 a c,isS S n [.n s0,.s s1,.s s2,s3,s4,s5,s6,s7,s8,.n s9]∧F=[.n 1,.n s0,.s s1,.s s2,s3,s4,s5,s6,s7,s8,.n s9,.l a c [.t [.n (to:Int)]],.b false]
 | .ext,_,F=>F=[.n 3,.n 0,.s [],.s [],.nul,.nul,.nul,.nul,.nul,.nul,.n 0,.nul,.b false]
def ndS:Nd→TR→TR→Prop
 | .ent,t,u=>u=t
 | .st S,t,u=>stS S t u
 | .ext,t,u=>True
def outO:Nd→TR→LD→Prop
 | .ext,_,o=>o.es=[]
 | _,u,o=>∃a c mi mp,o=.l a c [.t [.b true,mi,mp]]∧isMt u mi mp
def QLE:QF:=fun xs Ks=>∃N to F mi mp t u,xs=.b true::mi::mp::F∧isN N to F∧isMt t mi mp∧ndS N t u∧∀o,outO N u o→nthK Ks 0 [o]
theorem Qaat {xs:List LD}{Ks:List (List LD→Prop)}{q1 q2:QF}(h:QLE xs Ks):QG (QQ1 QLF q1 q2 QLD) [] QRb (QOm q) xs (nthK Ks):=by
 obtain⟨N,to,F,mi,mp,t,u,rfl,hN,hm,hst,hk⟩:=h
 cases N with
 | ent=>
  obtain⟨a,c,rfl⟩:=hN
  have hst':u=t:=hst
  subst hst'
  refine Eq.mpr (Q8e ..) ⟨⟨rfl,by decide,by decide,by decide⟩,fun a c _=>QaaP hm fun mi mp h=>⟨by decide,(fun h=>nomatch h),fun a c _=>hk _ ⟨a,c,mi,mp,rfl,h⟩⟩⟩
 | st S=>
  obtain⟨n,s0,s1,s2,s3,s4,s5,s6,s7,s8,s9,a,c,hS,rfl⟩:=hN
  refine Eq.mpr (Q8d ..) ⟨⟨rfl,by decide,by decide,by decide⟩,Q48 hS hm hst fun mi mp h=>fun a c _=>QaaP h fun mi mp h=>⟨by decide,(fun h=>nomatch h),fun a c _=>hk _ ⟨a,c,mi,mp,rfl,h⟩⟩⟩
 | ext=>
  have hN':F=_:=hN
  subst hN'
  refine Eq.mpr (Q8c ..) ⟨⟨rfl,by decide,by decide,by decide⟩,fun _=>hk _ rfl,fun a c _=>hk _ rfl⟩
def QMh:QF:=fun xs Ks=>∃N to F mi mp t u,xs=.b true::mi::mp::F∧isN N to F∧isMt t mi mp∧ndS N t u∧nthK Ks 0 []
theorem Q8K {xs:List LD}{Ks:List (List LD→Prop)}(h:QMh xs Ks):QG (QPr QLD) [] QPo (QOH q) xs (nthK Ks):=by
 obtain⟨N,to,F,mi,mp,t,u,rfl,hN,hm,hst,hk⟩:=h
 cases N with
 | ent=>
  obtain⟨a,c,rfl⟩:=hN
  exact Eq.mpr (Q6y ..) hk
 | st S=>
  obtain⟨n,s0,s1,s2,s3,s4,s5,s6,s7,s8,s9,a,c,hS,rfl⟩:=hN
  exact Eq.mpr (Q6x ..) (Q48 hS hm hst fun mi mp h=>hk)
 | ext=>
  have hN':F=_:=hN
  subst hN'
  exact Eq.mpr (Q6w ..) hk
end
end Go.Proofs.YtemffgbncjnmkaaGreat
