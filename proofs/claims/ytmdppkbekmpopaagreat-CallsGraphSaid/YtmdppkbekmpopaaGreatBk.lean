import Derived.Test.YtmdppkbekmpopaaGreatVu
import Derived.Test.YtmdppkbekmpopaaGreatRows
set_option linter.unusedVariables false
set_option linter.unusedSectionVars false
set_option linter.unusedSimpArgs false
namespace Go.Va
open Go Go.Sh
variable [Vb]
variable {P:Program}
def QtE:List OP→Nat→Prs
 | [],_=>[]
 | o::r,j=>match o with
  | .r _=>QtE r j.succ
  | _=>(j,j)::QtE r j.succ
theorem QzE:∀ {I:List OP}{j n:Nat},QeV I j=true→(n+j,n+j)∈QtE I n
 | [],_,_,h=>by simp only[QeV] at h;cases h
 | o::r,0,n,h=>by
  cases o<;>first
   | exact .head _
   | (simp only[QeV] at h;cases h)
 | o::r,j+1,n,h=>by
  have:=QzE (I:=r) (n:=n.succ) h
  rw[show n.succ+j=n+(j+1) by omega] at this
  cases o<;>first
   | exact .tail _ this
   | exact this
theorem QFg {I:List OP}{j:Nat}(h:QeV I j=true):(j,j)∈QtE I 0:=by
 have:=QzE (n:=0) h
 rwa [Nat.zero_add] at this
def Qpu:FV→Option (List FV)
 | .tup l=>match l with
  | [_]=>none
  | l=>some l
 | x=>some [x]
theorem QG5 {E:Env}{x:FV}{l:List FV}{v:Value}(h:Qpu x=some l)(hd:den E x=some v):∃us,denL E l=some us∧v=oneV us:=by
 have one:Qpu x=some [x]→∃us,denL E l=some us∧v=oneV us:=fun e=>by
  rw[h] at e;simp only[Option.some.injEq] at e;subst e
  exact⟨[v],Qau hd rfl,rfl⟩
 cases x<;>try (exact one rfl)
 rename_i l'
 simp only[den] at hd
 cases hl:denL E l' with
 | none=>rw[hl] at hd;cases hd
 | some us=>
  rw[hl] at hd;simp only[Option.some.injEq] at hd;subst hd
  match l',h with
  | [],h=>simp only[Qpu,Option.some.injEq] at h;subst h;exact⟨us,hl,by
    simp only[denL,Option.some.injEq] at hl;subst hl;rfl⟩
  | [_],h=>simp[Qpu] at h
  | a::b::r,h=>
   simp only[Qpu,Option.some.injEq] at h;subst h
   refine⟨us,hl,?_⟩
   have:=QS hl
   match us,this with
   | _::_::_,_=>rfl
def outQ (c:Ctr)(Ks:Nat→List LD→Prop)(e:Nat)(l:List FV)(th:TH):Prop:=match c.o[e]? with
 | some s=>mtS s (QtE c.i.os 0) l th fun ys _ _=>Ks e ys
 | none=>False
def retQ (c:Ctr)(sel:FV→TH→Nat)(Ks:Nat→List LD→Prop):FV→TH→Prop:=fun r th=>match Qpu r with
 | some l=>outQ c Ks (sel r th) l th
 | none=>False
theorem Rep.rest {E:Env}{th:TH}{h0 h:Heap}{L:List HP}:∀ {A:List HP},Rep E th h0 h (A++L)→Rep E th h0 h L
 | [],r=>r
 | a::A,r=>Rep.rest (A:=A) ⟨(r.st.perm ((List.Perm.append_left _ (.swap _ _ _)).trans List.perm_middle)).drop,r.fr,r.eh⟩
theorem Qyz [Gd]{c:Ctr}(hc:okC c=true){Ks:Nat→List LD→Prop}{e:Nat}{l:List FV}{th:TH}{xs:List LD}(hx:outQ c Ks e l th){F E:Env}{h0 h hh:Heap}{L L':List HP}{us:List Value}(r:Rep E th h0 h L)(hd:denL E l=some us)(rF:Rep F (thS c.i xs) h0 hh L')(hle:F.Le0 E) :
  ∃s ys G,c.o[e]?=some s∧wtL ys s.ks∧Ks e ys∧Env.LeK c.i.os F G∧Rep G (thS s ys) h0 h L∧denL G (fvPL id (nthD ys) s.ps 0)=some us:=by
 unfold outQ at hx
 cases hs:c.o[e]? with
 | none=>rw[hs] at hx;exact hx.elim
 | some s=>
  rw[hs] at hx
  simp only at hx
  obtain⟨k1,k2⟩:=QEY hc hs
  obtain⟨F1,ys,prs,th',Ps,g1,g3,g4,g5,g6,g7,g8,g9,g10⟩:=QB1 hx r hd
  have hle:=hle.trans g1.p
  refine⟨s,ys,locE F1 prs s.os.length,rfl,g4,g3,⟨fun j a hk hp=>?_,hle.h,hle.z⟩,Rep.rest g9,g10⟩
  obtain⟨_,h2⟩:=Qxf g5 _ (g6 _ (QFg hk))
  obtain⟨e1,e2⟩:=hle.a j a hp
  have e3:=hle.s j a hp
  have hj2:j<s.os.length:=Nat.lt_of_lt_of_le (Qxv hk) k2
  exact⟨by simp[locE,hj2,h2,e1],by simp[locE,idsA,h2,e2],by simp[locE,idsA,h2,e3]⟩
theorem QFQ [Gd]{c:Ctr}(hc:okC c=true){cl:Cl}(hcl:ClOk P cl){lf:LF}{i:Nat}{fn:Func}{pls:List (Nat×RP)}{np m:Nat}{k:FFn}(hfn:P.funcs[i]?=some fn)(hcall:∀args w,(callFunc i args).run P w=.ok (.enter i args) w)(hk:(match cF P pls np m fn with | some s=>some s.fn | none=>none)=some k)
  (hlp:∀c,fn.body=some c→∀y∈QaT c,∀S∈lf.ls,fidN y=S.l→LcOk P fn.ntmps y S) (sel:FV→TH→Nat) (hb:∀xs (Ks:List (List LD→Prop)),wtL xs c.i.ks→c.q xs Ks→runF lf cl k (fvPL id (nthD xs) c.i.ps 0) (thS c.i xs) (retQ c sel (nthK Ks))):QOk P i c:=by
 intro xs Ks hw hq F h0 h L us r hd w hw'
 refine QzB (QFk hcl hfn hcall hk hlp (hb xs Ks hw hq) r hd w hw') fun v h'=>?_
 rintro⟨F1,x,th',hle,hv,rF1,hx⟩
 unfold retQ at hx
 cases hu:Qpu x with
 | none=>rw[hu] at hx;exact hx.elim
 | some l=>
  rw[hu] at hx
  simp only at hx
  obtain⟨us',g1,rfl⟩:=QG5 hu hv
  obtain⟨s,ys,G,h1,h2,h3,h4,h5,h6⟩:=Qyz hc hx rF1 g1 r hle.p
  exact⟨_,s,ys,G,us',h1,h2,h3,h4,h5,h6,rfl⟩
def QFi (S:LCt)(q:List LD→Prop):KF:=fun fr th=>match getL fr S.i0 with
 | some l=>mtS S.c.i (QtE S.c.i.os 0) l th fun ys _ _=>q ys
 | none=>False
def wayL (x:Option Nat):List (Option Nat×List Nat)→Nat→Option (Nat×List Nat)
 | [],_=>none
 | q::r,n=>bif (match x with
  | some i=>(match q.1 with
   | some j=>Nat.beq i j
   | none=>false)
  | none=>(match q.1 with
   | some _=>false
   | none=>true)) then some (n,q.2) else wayL x r n.succ
def QtG (S:LCt)(Ks:Nat→List LD→Prop)(x:Option Nat):KF:=fun fr th=>match wayL x S.es 0 with
 | some q=>match getL fr q.2 with
  | some l=>outQ S.c Ks q.1 l th
  | none=>False
 | none=>False
theorem QDM {x:Option Nat}{p:Nat×List Nat}:∀ {es:List (Option Nat×List Nat)}{n:Nat},wayL x es n=some p→n≤p.1∧es[p.1 - n]?=some (x,p.2)
 | q::r,n,h=>by
  simp only[wayL] at h
  cases hb:(match x with
  | some i=>(match q.1 with
   | some j=>Nat.beq i j
   | none=>false)
  | none=>(match q.1 with
   | some _=>false
   | none=>true)) with
  | true=>
   rw[hb] at h;simp only[cond_true,Option.some.injEq] at h;subst h
   refine⟨Nat.le_refl _,?_⟩
   obtain⟨q1,q2⟩:=q
   have:x=q1:=by
    cases x<;>cases q1<;>simp only at hb<;>first | rfl | (cases hb;done) | rw[Qm hb]
   subst this
   simp
  | false=>
   rw[hb] at h
   obtain⟨h1,h2⟩:=QDM (es:=r) h
   refine⟨by omega,?_⟩
   have:p.1 - n=(p.1 - n.succ)+1:=by omega
   rw[this,List.getElem?_cons_succ];exact h2
def QFj (m:Nat)(S:LCt)(xs:List LD):Option Fr:=putL m (.base m .nil) S.i0 (fvPL id (nthD xs) S.c.i.ps 0)
def LCt.at (S:LCt)(q:QF):LCt:=⟨S.l,S.i0,S.es,⟨S.c.i,S.c.o,q⟩⟩
theorem QGr [Gd]{S:LCt}(hc:okC S.c=true){q:Nat→QF}(h0:∀xs Ks,¬q 0 xs Ks){cl:Cl}(hcl:ClOk P cl){n m:Nat}{pls:List (Nat×RP)}{x:Code}{fc:FC}(hx:cC P n m pls x=some fc){lf:LF}(hlp:∀y∈QaT x,∀T∈lf.ls,fidN y=T.l→LcOk P n y T)
  (hb:∀k xs (Ks:List (List LD→Prop)),wtL xs S.c.i.ks→q (k+1) xs Ks→match QFj m S xs with
   | some fr=>evC fc cl lf fr (thS S.c.i xs) (QFi S fun ys=>q k ys Ks) (fun i=>QtG S (nthK Ks) (some i)) (QtG S (nthK Ks) none)
   | none=>False):∀k,LcOk P n x (S.at (q k))
 | 0=>⟨hc,fun xs Ks _ hq=>absurd hq (h0 xs Ks)⟩
 | k+1=>⟨hc,fun xs Ks hw hq E h0' L vs w0 w f Q ds r hd hs hg hp hpk hout=>by
  have hbody:=hb k xs Ks hw hq
  cases hf:QFj m S xs with
  | none=>rw[hf] at hbody;exact hbody.elim
  | some fr=>
   rw[hf] at hbody
   simp only at hbody
   obtain⟨p1,p2⟩:=Qys (E:=E) (n:=n) (f:=f) hf (fun t y hy=>by rw[Fr.get_nil] at hy;cases hy) (fun k hk=>Fr.get_nil k m) hd hg
   haveI:=hp
   have out:∀(y:Option Nat) (F:Env) (fr':Fr) (th':TH) (f':Nat→Value) (w':World),E.Le F→AgF F n fr' f'→Rep F th' h0' w'.heap L→Qx w0 w'→QtG S (nthK Ks) y fr' th'→Q (match y with
     | some i=>.exit i
     | none=>.ret) (mkD ds n f') w':=fun y F fr' th' f' w' a1 a2 a3 a4 a5=>by
    unfold QtG at a5
    cases hy:wayL y S.es 0 with
    | none=>rw[hy] at a5;exact a5.elim
    | some p=>
     rw[hy] at a5
     simp only at a5
     cases hl:getL fr' p.2 with
     | none=>rw[hl] at a5;exact a5.elim
     | some l=>
      rw[hl] at a5
      simp only at a5
      obtain⟨us,g1,g2⟩:=Qp3 a2 hl
      obtain⟨s,ys,G,e1,e2,e3,e4,e5,e6⟩:=Qyz hc a5 a3 g1 r a1.p
      obtain⟨_,hes⟩:=QDM hy
      exact hout p.1 s (y,p.2) ys G us f' w' e1 (by simpa [LCt.at] using hes) e2 e3 e4 e5 e6 a4 g2
   refine Qzl ?_
   refine QeD hcl x fc hx lf fr _ _ _ _ E f w (Exit.then (Tn P x Q) Q) hbody p1 p2 r hs Qhg (QfB hpk) hlp (fun F fr' th' f' w' a1 a2 a2' a3 a4 a5=>?_) (fun i F fr' th' f' w' a1 a2 _ a3 a4 a5=>?_) (fun F fr' th' f' w' a1 a2 _ a3 a4 a5=>?_)
   ·show Tn P x Q (mkD ds n f') w'
    unfold QFi at a5
    cases hl:getL fr' S.i0 with
    | none=>rw[hl] at a5;exact a5.elim
    | some l=>
     rw[hl] at a5
     simp only at a5
     obtain⟨us,g1,g2⟩:=Qp3 a2 hl
     have hmt:outQ ⟨S.c.i,[S.c.i],S.c.q⟩ (fun _ ys=>q k ys Ks) 0 l th':=a5
     have hc2:okC ⟨S.c.i,[S.c.i],S.c.q⟩=true:=by
      simp only[okC,Bool.and_eq_true] at hc
      simp[okC,hc.1,Nat.ble_eq,QCe]
     obtain⟨s,ys,G,e1,e2,e3,e4,e5,e6⟩:=Qyz hc2 hmt a3 g1 r a1.p
     simp only[List.getElem?_cons_zero,Option.some.injEq] at e1
     subst e1
     exact (QGr hc h0 hcl hx hlp hb k).2 ys Ks e2 e3 G h0' L us w0 w' f' Q ds e5 e6 a4 g2 hp hpk fun e s q' ys' G' us' f'' w'' b1 b2 b3 b4 b5 b6 b7 b8 b9=>hout e s q' ys' G' us' f'' w'' b1 b2 b3 b4 (e4.trans b5) b6 b7 b8 b9
   ·exact out (some i) F fr' th' f' w' a1 a2 a3 a4 a5
   ·exact out none F fr' th' f' w' a1 a2 a3 a4 a5⟩
theorem QKm [Gd]{n:Nat}{x:Code}{S:LCt}{q:Nat→QF}(h:∀k,LcOk P n x (S.at (q k))):LcOk P n x (S.at fun xs Ks=>∃k,q k xs Ks):=
 ⟨(h 0).1,fun xs Ks hw ⟨k,hq⟩=>(h k).2 xs Ks hw hq⟩
theorem Qnr [Gd]{i:Nat}{I:SPt}{O:List SPt}{q:Nat→QF}(h:∀k,QOk P i ⟨I,O,q k⟩):QOk P i ⟨I,O,fun xs Ks=>∃k,q k xs Ks⟩:=fun xs Ks hw ⟨k,hq⟩=>h k xs Ks hw hq
end Go.Va
namespace Go.Va
open Go Go.Sh
variable [Vb]
instance gdW:Gd:=⟨False,fun _ _=>False⟩
variable {P:Program}
def QC (P:Program):Tr FFn→Prop
 | .nil=>True
 | .leaf k v=>KOk P k v
 | .node _ l r=>QC P l∧QC P r
theorem QC.get {i:Nat}{f:FFn}:∀ {t:Tr FFn},QC P t→t.get i=some f→KOk P i f
 | .nil,_,h=>by rw[Tr.get_nil] at h;cases h
 | .leaf k v,o,h=>by
  rw[Tr.get_leaf] at h
  cases hb:Nat.beq k i with
  | false=>rw[hb] at h;cases h
  | true=>rw[hb] at h;simp only[cond_true,Option.some.injEq] at h;subst h;rw[←Qm hb];exact o
 | .node m l r,o,h=>by
  rw[Tr.get_node] at h
  cases hb:Nat.blt i m with
  | true=>rw[hb] at h;exact QC.get o.1 h
  | false=>rw[hb] at h;exact QC.get o.2 h
theorem QC.put {k:Nat}{v:FFn}(hv:KOk P k v):∀ {t:Tr FFn},QC P t→QC P (t.put k v)
 | .nil,_=>hv
 | .leaf j u,o=>by
  rw[Tr.put_leaf]
  cases Nat.beq j k with
  | true=>exact hv
  | false=>
   cases Nat.blt j k with
   | true=>exact⟨o,hv⟩
   | false=>exact⟨hv,o⟩
 | .node m l r,o=>by
  rw[Tr.put_node]
  cases Nat.blt k m with
  | true=>exact⟨QC.put hv o.1,o.2⟩
  | false=>exact⟨o.1,QC.put hv o.2⟩
def env0 (h:Heap):Env:=⟨fun _=>none,fun _=>0,fun _=>false,h,[],fun _=>.pointer none⟩
theorem rep0 (h:Heap)(b:Nat)(s:Scr):Rep (env0 h) ⟨skel b 0,0,s⟩ h h []:=⟨by
 show St h h ((skel b 0:Tr TO).all.map (part (env0 h))++[FzP []])
 rw[QvC]
 exact⟨Ext.refl h,fun _=>False,fun q hq=>(by cases hq),fun _ h=>h.elim,trivial⟩,fun _ _=>⟨rfl,rfl⟩,rfl⟩
def nf (l:List Nat):List (Nat×RP):=l.map fun i=>(i,⟨0,[]⟩)
def dd (l:List Nat):List (Nat×RP):=l.map fun i=>(i,⟨999,[]⟩)
end Go.Va
noncomputable section
namespace Go.Va
open Go Go.Sh
variable [Vb]
variable {P:Program}
def CTy:CK→Type
 | .i _=>Int
 | .b=>Bool
 | .s=>Str
 | .p _=>LD
 | .l _=>LD
 | .r _=>List LD
def pj:(k:CK)→LD→CTy k
 | .i _,d=>d.i
 | .b,d=>d.bo
 | .s,d=>d.st
 | .p _,d=>d
 | .l _,d=>d
 | .r _,d=>d.cs
def TelK:List CK→Type
 | []=>Prop
 | k::ks=>CTy k→TelK ks
def cuK (ks0:List CK):(ks:List CK)→TelK ks→(List LD→List LD)→Tel ks.length
 | [],f,g=>wtL (g []) ks0→f
 | k::ks,f,g=>fun y=>cuK ks0 ks (f (pj k y)) fun r=>g (y::r)
def apK (ks:List CK)(f:TelK ks):List LD→Prop:=apT ks.length (cuK ks ks f fun r=>r)
def QG (tab:Tr FFn)(ls:List LCt)(k:FFn)(c:Ctr)(xs:List LD)(Ks:Nat→List LD→Prop):Prop:=runF ⟨100,ls⟩ (QBd (eng tab 100 100)) k (fvPL id (nthD xs) c.i.ps 0) (thS c.i xs) (retQ c (fun _ _=>0) Ks)
def Qaa (tab:Tr FFn)(ls:List LCt)(m:Nat)(fc:FC)(S:LCt)(xs:List LD)(R:List LD→Prop)(Ks:Nat→List LD→Prop):Prop:=match QFj m S xs with
 | some fr=>evC fc (QBd (eng tab 100 100)) ⟨100,ls⟩ fr (thS S.c.i xs) (QFi S R) (fun i=>QtG S Ks (some i)) (QtG S Ks none)
 | none=>False
theorem QI3 {i np m b:Nat}{rs:List RV}{code:CF}(h:KOk P i (.f np m b rs code)):∃fn pls np' m',P.funcs[i]?=some fn∧(∀args w,(callFunc i args).run P w=.ok (.enter i args) w)∧(match cF P pls np' m' fn with | some s=>some s.fn | none=>none)=some (.f np m b rs code):=by
 cases h with
 | f fn pls np' m' k h1 h2 h3=>exact⟨fn,pls,np',m',h1,h2,h3⟩
def LsI (P:Program)(i:Nat)(S:LCt):Prop:=∀fn,P.funcs[i]?=some fn→∀c,fn.body=some c→∀y∈QaT c,fidN y=S.l→∀G:Gd,G.Q→@LcOk _ G P fn.ntmps y S
theorem q_of {tab:Tr FFn}(ht:∀i f,tab.get i=some f→KOk P i f){ls:List LCt}{i np m b:Nat}{rs:List RV}{code:CF}(h:KOk P i (.f np m b rs code))(hl:∀S∈ls,LsI P i S){c:Ctr}(hc:okC c=true)
  (hb:∀xs (Ks:List (List LD→Prop)),wtL xs c.i.ks→c.q xs Ks→QG tab ls (.f np m b rs code) c xs (nthK Ks)):∀G:Gd,G.Q→@QOk _ G P i c:=fun G hg=>by
 obtain⟨fn,pls,np',m',h1,h2,h3⟩:=QI3 h
 exact QFQ hc (QmV (Qsy hg ht 100)) h1 h2 h3 (fun c hc y hy S hS hf=>hl S hS fn h1 c hc y hy hf G hg) (fun _ _=>0) hb
theorem kq {i:Nat}{c:Ctr}(hc:okC c=true)(h:∀G:Gd,G.Q→@QOk _ G P i c):KOk P i (.q c):=.q c hc h
structure LpOk (P:Program)(i n m l:Nat)(a:FC):Prop where
 h:∃fn:Func,P.funcs[i]?=some fn∧fn.ntmps=n∧∀c,fn.body=some c→∀y∈QaT c,fidN y=l→∃pls,cC P n m pls y=some a
theorem Qad {fn:Func}{i n m l:Nat}{pls:List (Nat×RP)}{a:FC}(hf:P.funcs[i]?=some fn)(hn:fn.ntmps=n)
  (h:(match fn.body with | some c=>((QaT c).filter (fun y=>Nat.beq (fidN y) l)).map (fun y=>cC P n m pls y) | none=>[])=[some a]):LpOk P i n m l a:=⟨fn,hf,hn,fun c hc y hy hl=>by
 rw[hc] at h
 simp only at h
 have hy':y∈(QaT c).filter (fun y=>Nat.beq (fidN y) l):=List.mem_filter.2 ⟨hy,by simp[hl]⟩
 have h1:=List.mem_map_of_mem (f:=fun y=>cC P n m pls y) hy'
 rw[h] at h1
 exact⟨pls,List.mem_singleton.1 h1⟩⟩
theorem Qae {tab:Tr FFn}(ht:∀i f,tab.get i=some f→KOk P i f){ls:List LCt}{i n m:Nat}{fc:FC}{S:LCt}(hp:LpOk P i n m S.l fc)(hl:∀T∈ls,LsI P i T)(hc:okC S.c=true){q:Nat→QF}(h0:∀xs Ks,¬q 0 xs Ks)
  (hb:∀k xs (Ks:List (List LD→Prop)),wtL xs S.c.i.ks→q (k+1) xs Ks→Qaa tab ls m fc S xs (fun ys=>q k ys Ks) (nthK Ks)):LsI P i (S.at fun xs Ks=>∃k,q k xs Ks):=by
 intro fn hf c hcb y hy hfy G hg
 obtain⟨fn',hf',hn,hh⟩:=hp.h
 rw[hf] at hf';simp only[Option.some.injEq] at hf';subst hf'
 obtain⟨pls,hcc⟩:=hh c hcb y hy hfy
 refine QKm fun k=>?_
 rw[hn]
 exact QGr hc h0 (QmV (Qsy hg ht 100)) hcc (lf:=⟨100,ls⟩) (fun z hz T hT hzT=>by
  have:=hl T hT fn hf c hcb z (QfQ hy hz) hzT G hg
  rw[hn] at this;exact this) (fun k xs Ks hw hq=>hb k xs Ks hw hq) k
end Go.Va
namespace Go.Va
open Go Go.Sh
def pq (i n:Nat)(l:List Nat):Nat×RP:=(i,⟨n,l.map fun x=>(x % 3,x / 3)⟩)
def cdF (P:Program)(pls:List (Nat×RP))(m:Nat)(fn:Func):FC:=match fn.body with
 | some c=>match cC P fn.ntmps m pls c with
  | some x=>x
  | none=>.bad
 | none=>.bad
def cdL (P:Program)(pls:List (Nat×RP))(m l:Nat)(fn:Func):FC:=match fn.body with
 | some c=>match (QaT c).filter (fun y=>Nat.beq (fidN y) l) with
  | y::_=>match cC P fn.ntmps m pls y with
   | some a=>a
   | none=>.bad
  | []=>.bad
 | none=>.bad
variable [Vb]
theorem QG0 {xs:List LD}{k:CK}{ks:List CK}(h:wtL xs (k::ks)):∃x r,xs=x::r∧wt x k∧wtL r ks:=by
 cases xs with
 | nil=>simp only[wtL] at h
 | cons x r=>simp only[wtL] at h;exact⟨x,r,rfl,h⟩
theorem wt_i {d:LD}{k:IntKind}(h:wt d (.i k)):∃n,d=.n n∧loK k≤n∧n≤hiK k:=by
 cases d<;>simp only[wt] at h
 exact⟨_,rfl,h⟩
theorem wt_s {d:LD}(h:wt d .s):∃s,d=.s s∧s.length≤maxL:=by
 cases d<;>simp only[wt] at h
 exact⟨_,rfl,h⟩
theorem QDL {ks:List CK}:∀ {es:List LD}{j:Nat},wtE es ks→j<es.length→wtL (es.getD j .nul).cs ks
 | e::es,0,h,_=>by
  simp only[wtE] at h
  have h1:=h.1
  cases e<;>simp only[wtT] at h1
  exact h1
 | e::es,j+1,h,hj=>by
  simp only[wtE] at h
  have:=QDL (j:=j) h.2 (by simpa using hj)
  simpa using this
theorem QHP {d:LD}{t:Nat}{ks:List CK}(h:wt d (.l t))(ly:Vb.ly[t]?=some ks){sz:Nat}{j:Int}(h0:0≤j)(h1:j<d.len):wtL (d.at sz j).cs ks:=by
 cases d<;>simp only[wt,LD.len,LD.es,List.length_nil] at h h1
 ·omega
 ·rename_i a c es
  rw[ly] at h
  have:j.toNat<es.length:=by omega
  exact QDL h.2.2.2 this
theorem QHQ {d:LD}{ks:List CK}{j:Nat}{k:CK}(h:wtL d.cs ks)(hk:ks[j]?=some k):wt (d.f j) k:=by
 have:∀ {cs:List LD}{ks:List CK}{j:Nat},wtL cs ks→ks[j]?=some k→wt (cs.getD j .nul) k:=by
  intro cs
  induction cs with
  | nil=>intro ks j h hk;cases ks<;>simp[wtL] at h hk
  | cons c cs ih=>
   intro ks j h hk
   cases ks with
   | nil=>simp at hk
   | cons k' ks=>
    simp only[wtL] at h
    cases j with
    | zero=>simp at hk;subst hk;exact h.1
    | succ j=>simpa using ih h.2 (by simpa using hk)
 exact this h hk
theorem QJ {x:Int}(h1:-9223372036854775808≤x)(h2:x<9223372036854775808):IntKind.i64.wrap x=x:=IntWalk.i64_in _ (by omega)
theorem Qpv {a n:Int}(h0:0≤a)(hn:0<n):0≤a.tmod n∧a.tmod n<n:=⟨Int.tmod_nonneg _ h0,Int.tmod_lt_of_pos _ hn⟩
theorem QIZ:maxL=9223372036854775807:=by unfold maxL;rfl
end Go.Va
namespace Go.Va
open Go Go.Sh
variable [Vb]
theorem decC {i:Int}{n:Nat}(h0:0≤i)(h1:i<(n:Int)):((decide (0≤i))&&(decide (i<(n:Int))))=true:=by rw[decide_eq_true h0,decide_eq_true h1];rfl
theorem bifD {p:Prop} [Decidable p]{A B:Prop}(h1:p→A)(h2:¬p→B):bif decide p then A else B:=by
 by_cases h:p
 ·rw[decide_eq_true h];exact h1 h
 ·rw[decide_eq_false h];exact h2 h
theorem bifN {p:Prop} [Decidable p]{A B:Prop}(h1:¬p→A)(h2:p→B):bif (!(decide p)) then A else B:=by
 by_cases h:p
 ·rw[decide_eq_true h];exact h2 h
 ·rw[decide_eq_false h];exact h1 h
theorem bifT {A B:Prop}(h:A):bif true then A else B:=h
theorem bifF {A B:Prop}(h:B):bif false then A else B:=h
theorem bifI {b:Bool}{A B:Prop}(h1:b=true→A)(h2:b=false→B):bif b then A else B:=by
 cases b
 ·exact h2 rfl
 ·exact h1 rfl
theorem decD {p:Prop} [Decidable p] (h:p):decide p=true:=decide_eq_true h
theorem decN {p:Prop} [Decidable p] (h:¬p):(!(decide p))=true:=by rw[decide_eq_false h];rfl
theorem decA {a b:Bool}(h1:a=true)(h2:b=true):(a&&b)=true:=by rw[h1,h2];rfl
end Go.Va
set_option maxRecDepth 100000
namespace Go.Proofs.YtmdppkbekmpopaaGreat
open Go Go.Sh Go.Va
instance vb:Vb:=⟨[[.i .u8],[.s],[.i .i64],[.b],[.i .i64,.s,.i .i64],[.i .i64,.i .i64,.s,.p 5,.p 5],[.i .i64,.p 5,.p 5,.p 6,.p 6,.s],[.b,.s,.p 5],[.i .i64,.s,.s,.p 5,.p 5,.p 6,.l 7,.l 8,.l 8,.i .i64],[.s,.b],[.s,.l 9,.l 9,.l 8],[.s,.i .i64],[.s,.b,.i .i64,.i .i64],[.s,.b,.l 1],[.i .i64,.i .i64],[.l 14,.b,.b,.i .i64,.i .i64,.l 12],[.s,.l 14,.b,.b,.i .i64,.i .i64,.l 12],[.s,.l 3],[.b,.l 12,.l 13],[.i .i64,.i .i64,.s,.s,.p 5,.p 5,.p 6,.l 7,.l 8,.l 8,.i .i64,.l 2,.b],[.s,.s],[.l 1,.s,.l 15],[.l 0],[.l 1],[.l 2],[.s,.i .i64],[.s],[.s,.l 1]],.pending #[] 0⟩
def Qgk:Nat:=137438920640
def QjJ:List (Nat×RP):=([pq 2 9 [0,3,6,9,12,15,18,21,24],pq 3 11 [0,3,6,9,12,15,18,21,24,27,30]]++nf [0,1,4,5])
def QuL:FC:=cdF Tryz.prog QjJ Qgk Tryz.f81
def Qlb:FFn:=.f 2 Qgk 6 [.t 4] (evC QuL)
def QgV:Nat:=248
def QkY:List (Nat×RP):=(nf [0,1])
def Qwr:FC:=cdF Tryz.prog QkY QgV Tryz.f128
def Qmt:FFn:=.f 1 QgV 4 [.t 2] (evC Qwr)
def Qgl:Nat:=248
def QjK:List (Nat×RP):=(nf [0,1])
def QuM:FC:=cdF Tryz.prog QjK Qgl Tryz.f83
def Qlc:FFn:=.f 1 Qgl 4 [.t 2] (evC QuM)
def Qgj:Nat:=4064
def QjI:List (Nat×RP):=(nf [0,1,2,3])
def QuK:FC:=cdF Tryz.prog QjI Qgj Tryz.f130
def Qla:FFn:=.f 2 Qgj 4 [.t 4] (evC QuK)
def QgU:Nat:=9221084983941136320
def QkX:List (Nat×RP):=([pq 2 15 [0,3,6,16,18,36,11,12,23,24,27,30,33,41,42]]++nf [0,1,3,4,5,6,7,10])
def Qwq:FC:=cdF Tryz.prog QkX QgU Tryz.f129
def Qms:FFn:=.f 2 QgU 6 [.t 4] (evC Qwq)
def Qgm:Nat:=19342812537371115451841280
def QjL:List (Nat×RP):=([pq 10 13 [0,10,12,30,5,6,17,18,21,24,27,35,36]]++nf [0,1,2,3,4,5,6,9])
def QuN:FC:=cdF Tryz.prog QjL Qgm Tryz.f132
def Qld:FFn:=.f 3 Qgm 7 [.t 6] (evC QuN)
def Qgn:Nat:=8587828352
def QjM:List (Nat×RP):=(nf [0,1,2,3,4,5,6])
def QuO:FC:=cdF Tryz.prog QjM Qgn Tryz.f131
def Qle:FFn:=.f 3 Qgn 6 [.t 6] (evC QuO)
def Qn5:Nat:=248
def QrO:List (Nat×RP):=(nf [0,1])
def QDC:FC:=cdF Tryz.prog QrO Qn5 Tryz.f17
def Qu6:FFn:=.f 1 Qn5 4 [.t 2] (evC QDC)
def Qn4:Nat:=248
def QrN:List (Nat×RP):=(nf [0,1])
def QDA:FC:=cdF Tryz.prog QrN Qn4 Tryz.f80
def Qu4:FFn:=.f 1 Qn4 4 [.t 2] (evC QDA)
def Qjd:Nat:=5448
def Qnt:List (Nat×RP):=(nf [0,1,2,3,4,5,6,9])
def Qzc:FC:=cdF Tryz.prog Qnt Qjd Tryz.f34
def QoN:FFn:=.f 1 Qjd 4 [.t 2] (evC Qzc)
def QbZ:Nat:=16772608
def Qdv:List (Nat×RP):=(nf [0,1,2,5,4,6])
def QsO:FC:=cdF Tryz.prog Qdv QbZ Tryz.f133
def QjX:FFn:=.f 3 QbZ 5 [.t 6] (evC QsO)
def Qgi:Nat:=3291002836773677669682367398982456081363991551933390963620182016
def QjH:List (Nat×RP):=([pq 19 14 [0,10,12,30,5,6,17,18,21,24,27,35,36,39],pq 21 14 [1,3,18,30,8,9,12,15,23,24,27,35,36,39]]++nf [0,1,2,3,4,5,7,8,9,10,11,12,13,14,17,18,20,22,23,24,26,28,30,31,32,34,35,36,37,38,40])
def QuJ:FC:=cdF Tryz.prog QjH Qgi Tryz.f82
def Qk9:FFn:=.f 3 Qgi 8 [.t 6] (evC QuJ)
def Qe8:Nat:=8778896310016
def QhN:List (Nat×RP):=(nf [0,1,2,3,4,8,7,9,10,11])
def QDB:FC:=cdF Tryz.prog QhN Qe8 Tryz.f33
def Qu5:FFn:=.f 2 Qe8 6 [.t 4] (evC QDB)
def Qho:FC:=cdL Tryz.prog Qdv QbZ 3 Tryz.f133
def QoX:FC:=cdL Tryz.prog QhN Qe8 6 Tryz.f33
end Go.Proofs.YtmdppkbekmpopaaGreat
