import Derived.Test.YtemffgbncjnmkaaGreatVu
import Derived.ChangeArms
import Derived.Test.YtemffgbncjnmkaaGreatRows
set_option linter.unusedVariables false
set_option linter.unusedSectionVars false
set_option linter.unusedSimpArgs false
namespace Go.Va
open Go Go.Sh
variable [Vb]
variable {P:Program}
def QtE:List OP→Nat→Prs
 | [],_=>[]
 | o::r,j=>match o with
  | .r _=>QtE r j.succ
  | _=>(j,j)::QtE r j.succ
theorem QzE:∀ {I:List OP}{j n:Nat},QeV I j=true→(n+j,n+j)∈QtE I n
 | [],_,_,h=>by simp only[QeV] at h;cases h
 | o::r,0,n,h=>by
  cases o<;>first
   | exact .head _
   | (simp only[QeV] at h;cases h)
 | o::r,j+1,n,h=>by
  have:=QzE (I:=r) (n:=n.succ) h
  rw[show n.succ+j=n+(j+1) by omega] at this
  cases o<;>first
   | exact .tail _ this
   | exact this
theorem QFg {I:List OP}{j:Nat}(h:QeV I j=true):(j,j)∈QtE I 0:=by
 have:=QzE (n:=0) h
 rwa [Nat.zero_add] at this
def Qpu:FV→Option (List FV)
 | .tup l=>match l with
  | [_]=>none
  | l=>some l
 | x=>some [x]
theorem QG5 {E:Env}{x:FV}{l:List FV}{v:Value}(h:Qpu x=some l)(hd:den E x=some v):∃us,denL E l=some us∧v=oneV us:=by
 have one:Qpu x=some [x]→∃us,denL E l=some us∧v=oneV us:=fun e=>by
  rw[h] at e;simp only[Option.some.injEq] at e;subst e
  exact⟨[v],Qau hd rfl,rfl⟩
 cases x<;>try (exact one rfl)
 rename_i l'
 simp only[den] at hd
 cases hl:denL E l' with
 | none=>rw[hl] at hd;cases hd
 | some us=>
  rw[hl] at hd;simp only[Option.some.injEq] at hd;subst hd
  match l',h with
  | [],h=>simp only[Qpu,Option.some.injEq] at h;subst h;exact⟨us,hl,by
    simp only[denL,Option.some.injEq] at hl;subst hl;rfl⟩
  | [_],h=>simp[Qpu] at h
  | a::b::r,h=>
   simp only[Qpu,Option.some.injEq] at h;subst h
   refine⟨us,hl,?_⟩
   have:=QS hl
   match us,this with
   | _::_::_,_=>rfl
def outQ (c:Ctr)(Ks:Nat→List LD→Prop)(e:Nat)(l:List FV)(th:TH):Prop:=match c.o[e]? with
 | some s=>mtS s (QtE c.i.os 0) l th fun ys _ _=>Ks e ys
 | none=>False
def retQ (c:Ctr)(sel:FV→TH→Nat)(Ks:Nat→List LD→Prop):FV→TH→Prop:=fun r th=>match Qpu r with
 | some l=>outQ c Ks (sel r th) l th
 | none=>False
theorem Rep.rest {E:Env}{th:TH}{h0 h:Heap}{L:List HP}:∀ {A:List HP},Rep E th h0 h (A++L)→Rep E th h0 h L
 | [],r=>r
 | a::A,r=>Rep.rest (A:=A) ⟨(r.st.perm ((List.Perm.append_left _ (.swap _ _ _)).trans List.perm_middle)).drop,r.fr,r.eh⟩
theorem Qyz [Gd]{c:Ctr}(hc:okC c=true){Ks:Nat→List LD→Prop}{e:Nat}{l:List FV}{th:TH}{xs:List LD}(hx:outQ c Ks e l th){F E:Env}{h0 h hh:Heap}{L L':List HP}{us:List Value}(r:Rep E th h0 h L)(hd:denL E l=some us)(rF:Rep F (thS c.i xs) h0 hh L')(hle:F.Le0 E) :
  ∃s ys G,c.o[e]?=some s∧wtL ys s.ks∧Ks e ys∧Env.LeK c.i.os F G∧Rep G (thS s ys) h0 h L∧denL G (fvPL id (nthD ys) s.ps 0)=some us:=by
 unfold outQ at hx
 cases hs:c.o[e]? with
 | none=>rw[hs] at hx;exact hx.elim
 | some s=>
  rw[hs] at hx
  simp only at hx
  obtain⟨k1,k2⟩:=QEY hc hs
  obtain⟨F1,ys,prs,th',Ps,g1,g3,g4,g5,g6,g7,g8,g9,g10⟩:=QB1 hx r hd
  have hle:=hle.trans g1.p
  refine⟨s,ys,locE F1 prs s.os.length,rfl,g4,g3,⟨fun j a hk hp=>?_,hle.h,hle.z⟩,Rep.rest g9,g10⟩
  obtain⟨_,h2⟩:=Qxf g5 _ (g6 _ (QFg hk))
  obtain⟨e1,e2⟩:=hle.a j a hp
  have e3:=hle.s j a hp
  have hj2:j<s.os.length:=Nat.lt_of_lt_of_le (Qxv hk) k2
  exact⟨by simp[locE,hj2,h2,e1],by simp[locE,idsA,h2,e2],by simp[locE,idsA,h2,e3]⟩
theorem QFQ [Gd]{c:Ctr}(hc:okC c=true){cl:Cl}(hcl:ClOk P cl){lf:LF}{i:Nat}{fn:Func}{pls:List (Nat×RP)}{np m:Nat}{k:FFn}(hfn:P.funcs[i]?=some fn)(hcall:∀args w,(callFunc i args).run P w=.ok (.enter i args) w)(hk:(match cF P pls np m fn with | some s=>some s.fn | none=>none)=some k)
  (hlp:∀c,fn.body=some c→∀y∈QaT c,∀S∈lf.ls,fidN y=S.l→LcOk P fn.ntmps y S) (sel:FV→TH→Nat) (hb:∀xs (Ks:List (List LD→Prop)),wtL xs c.i.ks→c.q xs Ks→runF lf cl k (fvPL id (nthD xs) c.i.ps 0) (thS c.i xs) (retQ c sel (nthK Ks))):QOk P i c:=by
 intro xs Ks hw hq F h0 h L us r hd w hw'
 refine QzB (QFk hcl hfn hcall hk hlp (hb xs Ks hw hq) r hd w hw') fun v h'=>?_
 rintro⟨F1,x,th',hle,hv,rF1,hx⟩
 unfold retQ at hx
 cases hu:Qpu x with
 | none=>rw[hu] at hx;exact hx.elim
 | some l=>
  rw[hu] at hx
  simp only at hx
  obtain⟨us',g1,rfl⟩:=QG5 hu hv
  obtain⟨s,ys,G,h1,h2,h3,h4,h5,h6⟩:=Qyz hc hx rF1 g1 r hle.p
  exact⟨_,s,ys,G,us',h1,h2,h3,h4,h5,h6,rfl⟩
def QFi (S:LCt)(q:List LD→Prop):KF:=fun fr th=>match getL fr S.i0 with
 | some l=>mtS S.c.i (QtE S.c.i.os 0) l th fun ys _ _=>q ys
 | none=>False
def wayL (x:Option Nat):List (Option Nat×List Nat)→Nat→Option (Nat×List Nat)
 | [],_=>none
 | q::r,n=>bif (match x with
  | some i=>(match q.1 with
   | some j=>Nat.beq i j
   | none=>false)
  | none=>(match q.1 with
   | some _=>false
   | none=>true)) then some (n,q.2) else wayL x r n.succ
def QtG (S:LCt)(Ks:Nat→List LD→Prop)(x:Option Nat):KF:=fun fr th=>match wayL x S.es 0 with
 | some q=>match getL fr q.2 with
  | some l=>outQ S.c Ks q.1 l th
  | none=>False
 | none=>False
theorem QDM {x:Option Nat}{p:Nat×List Nat}:∀ {es:List (Option Nat×List Nat)}{n:Nat},wayL x es n=some p→n≤p.1∧es[p.1 - n]?=some (x,p.2)
 | q::r,n,h=>by
  simp only[wayL] at h
  cases hb:(match x with
  | some i=>(match q.1 with
   | some j=>Nat.beq i j
   | none=>false)
  | none=>(match q.1 with
   | some _=>false
   | none=>true)) with
  | true=>
   rw[hb] at h;simp only[cond_true,Option.some.injEq] at h;subst h
   refine⟨Nat.le_refl _,?_⟩
   obtain⟨q1,q2⟩:=q
   have:x=q1:=by
    cases x<;>cases q1<;>simp only at hb<;>first | rfl | (cases hb;done) | rw[Qm hb]
   subst this
   simp
  | false=>
   rw[hb] at h
   obtain⟨h1,h2⟩:=QDM (es:=r) h
   refine⟨by omega,?_⟩
   have:p.1 - n=(p.1 - n.succ)+1:=by omega
   rw[this,List.getElem?_cons_succ];exact h2
def QFj (m:Nat)(S:LCt)(xs:List LD):Option Fr:=putL m (.base m .nil) S.i0 (fvPL id (nthD xs) S.c.i.ps 0)
def LCt.at (S:LCt)(q:QF):LCt:=⟨S.l,S.i0,S.es,⟨S.c.i,S.c.o,q⟩⟩
theorem QGr [Gd]{S:LCt}(hc:okC S.c=true){q:Nat→QF}(h0:∀xs Ks,¬q 0 xs Ks){cl:Cl}(hcl:ClOk P cl){n m:Nat}{pls:List (Nat×RP)}{x:Code}{fc:FC}(hx:cC P n m pls x=some fc){lf:LF}(hlp:∀y∈QaT x,∀T∈lf.ls,fidN y=T.l→LcOk P n y T)
  (hb:∀k xs (Ks:List (List LD→Prop)),wtL xs S.c.i.ks→q (k+1) xs Ks→match QFj m S xs with
   | some fr=>evC fc cl lf fr (thS S.c.i xs) (QFi S fun ys=>q k ys Ks) (fun i=>QtG S (nthK Ks) (some i)) (QtG S (nthK Ks) none)
   | none=>False):∀k,LcOk P n x (S.at (q k))
 | 0=>⟨hc,fun xs Ks _ hq=>absurd hq (h0 xs Ks)⟩
 | k+1=>⟨hc,fun xs Ks hw hq E h0' L vs w0 w f Q ds r hd hs hg hp hpk hout=>by
  have hbody:=hb k xs Ks hw hq
  cases hf:QFj m S xs with
  | none=>rw[hf] at hbody;exact hbody.elim
  | some fr=>
   rw[hf] at hbody
   simp only at hbody
   obtain⟨p1,p2⟩:=Qys (E:=E) (n:=n) (f:=f) hf (fun t y hy=>by rw[Fr.get_nil] at hy;cases hy) (fun k hk=>Fr.get_nil k m) hd hg
   haveI:=hp
   have out:∀(y:Option Nat) (F:Env) (fr':Fr) (th':TH) (f':Nat→Value) (w':World),E.Le F→AgF F n fr' f'→Rep F th' h0' w'.heap L→Qx w0 w'→QtG S (nthK Ks) y fr' th'→Q (match y with
     | some i=>.exit i
     | none=>.ret) (mkD ds n f') w':=fun y F fr' th' f' w' a1 a2 a3 a4 a5=>by
    unfold QtG at a5
    cases hy:wayL y S.es 0 with
    | none=>rw[hy] at a5;exact a5.elim
    | some p=>
     rw[hy] at a5
     simp only at a5
     cases hl:getL fr' p.2 with
     | none=>rw[hl] at a5;exact a5.elim
     | some l=>
      rw[hl] at a5
      simp only at a5
      obtain⟨us,g1,g2⟩:=Qp3 a2 hl
      obtain⟨s,ys,G,e1,e2,e3,e4,e5,e6⟩:=Qyz hc a5 a3 g1 r a1.p
      obtain⟨_,hes⟩:=QDM hy
      exact hout p.1 s (y,p.2) ys G us f' w' e1 (by simpa [LCt.at] using hes) e2 e3 e4 e5 e6 a4 g2
   refine Qzl ?_
   refine QeD hcl x fc hx lf fr _ _ _ _ E f w (Exit.then (Tn P x Q) Q) hbody p1 p2 r hs Qhg (QfB hpk) hlp (fun F fr' th' f' w' a1 a2 a2' a3 a4 a5=>?_) (fun i F fr' th' f' w' a1 a2 _ a3 a4 a5=>?_) (fun F fr' th' f' w' a1 a2 _ a3 a4 a5=>?_)
   ·show Tn P x Q (mkD ds n f') w'
    unfold QFi at a5
    cases hl:getL fr' S.i0 with
    | none=>rw[hl] at a5;exact a5.elim
    | some l=>
     rw[hl] at a5
     simp only at a5
     obtain⟨us,g1,g2⟩:=Qp3 a2 hl
     have hmt:outQ ⟨S.c.i,[S.c.i],S.c.q⟩ (fun _ ys=>q k ys Ks) 0 l th':=a5
     have hc2:okC ⟨S.c.i,[S.c.i],S.c.q⟩=true:=by
      simp only[okC,Bool.and_eq_true] at hc
      simp[okC,hc.1,Nat.ble_eq,QCe]
     obtain⟨s,ys,G,e1,e2,e3,e4,e5,e6⟩:=Qyz hc2 hmt a3 g1 r a1.p
     simp only[List.getElem?_cons_zero,Option.some.injEq] at e1
     subst e1
     exact (QGr hc h0 hcl hx hlp hb k).2 ys Ks e2 e3 G h0' L us w0 w' f' Q ds e5 e6 a4 g2 hp hpk fun e s q' ys' G' us' f'' w'' b1 b2 b3 b4 b5 b6 b7 b8 b9=>hout e s q' ys' G' us' f'' w'' b1 b2 b3 b4 (e4.trans b5) b6 b7 b8 b9
   ·exact out (some i) F fr' th' f' w' a1 a2 a3 a4 a5
   ·exact out none F fr' th' f' w' a1 a2 a3 a4 a5⟩
theorem QKm [Gd]{n:Nat}{x:Code}{S:LCt}{q:Nat→QF}(h:∀k,LcOk P n x (S.at (q k))):LcOk P n x (S.at fun xs Ks=>∃k,q k xs Ks):=
 ⟨(h 0).1,fun xs Ks hw ⟨k,hq⟩=>(h k).2 xs Ks hw hq⟩
theorem Qnr [Gd]{i:Nat}{I:SPt}{O:List SPt}{q:Nat→QF}(h:∀k,QOk P i ⟨I,O,q k⟩):QOk P i ⟨I,O,fun xs Ks=>∃k,q k xs Ks⟩:=fun xs Ks hw ⟨k,hq⟩=>h k xs Ks hw hq
end Go.Va
namespace Go.Va
open Go Go.Sh
variable [Vb]
instance gdW:Gd:=⟨False,fun _ _=>False⟩
variable {P:Program}
def QC (P:Program):Tr FFn→Prop
 | .nil=>True
 | .leaf k v=>KOk P k v
 | .node _ l r=>QC P l∧QC P r
theorem QC.get {i:Nat}{f:FFn}:∀ {t:Tr FFn},QC P t→t.get i=some f→KOk P i f
 | .nil,_,h=>by rw[Tr.get_nil] at h;cases h
 | .leaf k v,o,h=>by
  rw[Tr.get_leaf] at h
  cases hb:Nat.beq k i with
  | false=>rw[hb] at h;cases h
  | true=>rw[hb] at h;simp only[cond_true,Option.some.injEq] at h;subst h;rw[←Qm hb];exact o
 | .node m l r,o,h=>by
  rw[Tr.get_node] at h
  cases hb:Nat.blt i m with
  | true=>rw[hb] at h;exact QC.get o.1 h
  | false=>rw[hb] at h;exact QC.get o.2 h
theorem QC.put {k:Nat}{v:FFn}(hv:KOk P k v):∀ {t:Tr FFn},QC P t→QC P (t.put k v)
 | .nil,_=>hv
 | .leaf j u,o=>by
  rw[Tr.put_leaf]
  cases Nat.beq j k with
  | true=>exact hv
  | false=>
   cases Nat.blt j k with
   | true=>exact⟨o,hv⟩
   | false=>exact⟨hv,o⟩
 | .node m l r,o=>by
  rw[Tr.put_node]
  cases Nat.blt k m with
  | true=>exact⟨QC.put hv o.1,o.2⟩
  | false=>exact⟨o.1,QC.put hv o.2⟩
def env0 (h:Heap):Env:=⟨fun _=>none,fun _=>0,fun _=>false,h,[],fun _=>.pointer none⟩
theorem rep0 (h:Heap)(b:Nat)(s:Scr):Rep (env0 h) ⟨skel b 0,0,s⟩ h h []:=⟨by
 show St h h ((skel b 0:Tr TO).all.map (part (env0 h))++[FzP []])
 rw[QvC]
 exact⟨Ext.refl h,fun _=>False,fun q hq=>(by cases hq),fun _ h=>h.elim,trivial⟩,fun _ _=>⟨rfl,rfl⟩,rfl⟩
def runs (tab:Tr FFn)(b lf n i:Nat)(l:List FV)(s:Scr):Prop:=eng tab lf n i l ⟨skel b 0,0,s⟩ fun x _=>x=.bool true
structure Runs (tab:Tr FFn)(b lf n i:Nat)(l:List FV):Prop where
 run:∃s,runs tab b lf n i l s
theorem QabV {tab:Tr FFn}(ht:∀i f,tab.get i=some f→KOk P i f){b lf n i:Nat}{l:List FV}{vs:List Value}(hx:Runs tab b lf n i l)(w:World)(hd:denL (env0 w.heap) l=some vs)
  (hc:∀args w,(callFunc i args).run P w=.ok (.enter i args) w):Calls P i vs.toArray w fun e w'=>e=.returned (.bool true)∧Qx w w'∧Ext w.heap w'.heap:=by
 obtain⟨s,hx⟩:=hx.run
 unfold runs at hx
 have h:=Qsy (P:=P) ⟨id,fun _ _ h=>h⟩ ht n i l _ _ hx (env0 w.heap) w.heap w.heap [] vs (rep0 w.heap b s) hd w rfl
 rw[hc] at h
 refine (HC.calls (fun _ _ h=>h) h.2 w rfl).mono ?_
 rintro e w' ⟨v,rfl,hs,F,x,th',hle,hv,r,rfl⟩
 simp only[den,Option.some.injEq] at hv
 subst hv
 exact⟨rfl,hs,r.st.ext⟩
def nf (l:List Nat):List (Nat×RP):=l.map fun i=>(i,⟨0,[]⟩)
def dd (l:List Nat):List (Nat×RP):=l.map fun i=>(i,⟨999,[]⟩)
theorem Qacu {tab:Tr FFn}(ht:∀i f,tab.get i=some f→KOk P i f){b lf n i:Nat}(hx:Runs tab b lf n i [])(hc:∀args w,(callFunc i args).run P w=.ok (.enter i args) w):KOk P i .t:=
 .t hc fun w=>QabV ht hx (vs:=[]) w rfl hc
end Go.Va
noncomputable section
namespace Go.Va
open Go Go.Sh
variable [Vb]
variable {P:Program}
def CTy:CK→Type
 | .i _=>Int
 | .b=>Bool
 | .s=>Str
 | .p _=>LD
 | .l _=>LD
 | .r _=>List LD
def pj:(k:CK)→LD→CTy k
 | .i _,d=>d.i
 | .b,d=>d.bo
 | .s,d=>d.st
 | .p _,d=>d
 | .l _,d=>d
 | .r _,d=>d.cs
def TelK:List CK→Type
 | []=>Prop
 | k::ks=>CTy k→TelK ks
def cuK (ks0:List CK):(ks:List CK)→TelK ks→(List LD→List LD)→Tel ks.length
 | [],f,g=>wtL (g []) ks0→f
 | k::ks,f,g=>fun y=>cuK ks0 ks (f (pj k y)) fun r=>g (y::r)
def apK (ks:List CK)(f:TelK ks):List LD→Prop:=apT ks.length (cuK ks ks f fun r=>r)
def QG (tab:Tr FFn)(ls:List LCt)(k:FFn)(c:Ctr)(xs:List LD)(Ks:Nat→List LD→Prop):Prop:=runF ⟨100,ls⟩ (QBd (eng tab 100 100)) k (fvPL id (nthD xs) c.i.ps 0) (thS c.i xs) (retQ c (fun _ _=>0) Ks)
def Qaa (tab:Tr FFn)(ls:List LCt)(m:Nat)(fc:FC)(S:LCt)(xs:List LD)(R:List LD→Prop)(Ks:Nat→List LD→Prop):Prop:=match QFj m S xs with
 | some fr=>evC fc (QBd (eng tab 100 100)) ⟨100,ls⟩ fr (thS S.c.i xs) (QFi S R) (fun i=>QtG S Ks (some i)) (QtG S Ks none)
 | none=>False
theorem QI3 {i np m b:Nat}{rs:List RV}{code:CF}(h:KOk P i (.f np m b rs code)):∃fn pls np' m',P.funcs[i]?=some fn∧(∀args w,(callFunc i args).run P w=.ok (.enter i args) w)∧(match cF P pls np' m' fn with | some s=>some s.fn | none=>none)=some (.f np m b rs code):=by
 cases h with
 | f fn pls np' m' k h1 h2 h3=>exact⟨fn,pls,np',m',h1,h2,h3⟩
def LsI (P:Program)(i:Nat)(S:LCt):Prop:=∀fn,P.funcs[i]?=some fn→∀c,fn.body=some c→∀y∈QaT c,fidN y=S.l→∀G:Gd,G.Q→@LcOk _ G P fn.ntmps y S
theorem q_of {tab:Tr FFn}(ht:∀i f,tab.get i=some f→KOk P i f){ls:List LCt}{i np m b:Nat}{rs:List RV}{code:CF}(h:KOk P i (.f np m b rs code))(hl:∀S∈ls,LsI P i S){c:Ctr}(hc:okC c=true)
  (hb:∀xs (Ks:List (List LD→Prop)),wtL xs c.i.ks→c.q xs Ks→QG tab ls (.f np m b rs code) c xs (nthK Ks)):∀G:Gd,G.Q→@QOk _ G P i c:=fun G hg=>by
 obtain⟨fn,pls,np',m',h1,h2,h3⟩:=QI3 h
 exact QFQ hc (QmV (Qsy hg ht 100)) h1 h2 h3 (fun c hc y hy S hS hf=>hl S hS fn h1 c hc y hy hf G hg) (fun _ _=>0) hb
theorem kq {i:Nat}{c:Ctr}(hc:okC c=true)(h:∀G:Gd,G.Q→@QOk _ G P i c):KOk P i (.q c):=.q c hc h
structure LpOk (P:Program)(i n m l:Nat)(a:FC):Prop where
 h:∃fn:Func,P.funcs[i]?=some fn∧fn.ntmps=n∧∀c,fn.body=some c→∀y∈QaT c,fidN y=l→∃pls,cC P n m pls y=some a
theorem Qad {fn:Func}{i n m l:Nat}{pls:List (Nat×RP)}{a:FC}(hf:P.funcs[i]?=some fn)(hn:fn.ntmps=n)
  (h:(match fn.body with | some c=>((QaT c).filter (fun y=>Nat.beq (fidN y) l)).map (fun y=>cC P n m pls y) | none=>[])=[some a]):LpOk P i n m l a:=⟨fn,hf,hn,fun c hc y hy hl=>by
 rw[hc] at h
 simp only at h
 have hy':y∈(QaT c).filter (fun y=>Nat.beq (fidN y) l):=List.mem_filter.2 ⟨hy,by simp[hl]⟩
 have h1:=List.mem_map_of_mem (f:=fun y=>cC P n m pls y) hy'
 rw[h] at h1
 exact⟨pls,List.mem_singleton.1 h1⟩⟩
theorem Qae {tab:Tr FFn}(ht:∀i f,tab.get i=some f→KOk P i f){ls:List LCt}{i n m:Nat}{fc:FC}{S:LCt}(hp:LpOk P i n m S.l fc)(hl:∀T∈ls,LsI P i T)(hc:okC S.c=true){q:Nat→QF}(h0:∀xs Ks,¬q 0 xs Ks)
  (hb:∀k xs (Ks:List (List LD→Prop)),wtL xs S.c.i.ks→q (k+1) xs Ks→Qaa tab ls m fc S xs (fun ys=>q k ys Ks) (nthK Ks)):LsI P i (S.at fun xs Ks=>∃k,q k xs Ks):=by
 intro fn hf c hcb y hy hfy G hg
 obtain⟨fn',hf',hn,hh⟩:=hp.h
 rw[hf] at hf';simp only[Option.some.injEq] at hf';subst hf'
 obtain⟨pls,hcc⟩:=hh c hcb y hy hfy
 refine QKm fun k=>?_
 rw[hn]
 exact QGr hc h0 (QmV (Qsy hg ht 100)) hcc (lf:=⟨100,ls⟩) (fun z hz T hT hzT=>by
  have:=hl T hT fn hf c hcb z (QfQ hy hz) hzT G hg
  rw[hn] at this;exact this) (fun k xs Ks hw hq=>hb k xs Ks hw hq) k
end Go.Va
namespace Go.Va
open Go Go.Sh
variable [Vb]
theorem wt_i {d:LD}{k:IntKind}(h:wt d (.i k)):∃n,d=.n n∧loK k≤n∧n≤hiK k:=by
 cases d<;>simp only[wt] at h
 exact⟨_,rfl,h⟩
theorem QDL {ks:List CK}:∀ {es:List LD}{j:Nat},wtE es ks→j<es.length→wtL (es.getD j .nul).cs ks
 | e::es,0,h,_=>by
  simp only[wtE] at h
  have h1:=h.1
  cases e<;>simp only[wtT] at h1
  exact h1
 | e::es,j+1,h,hj=>by
  simp only[wtE] at h
  have:=QDL (j:=j) h.2 (by simpa using hj)
  simpa using this
theorem QHP {d:LD}{t:Nat}{ks:List CK}(h:wt d (.l t))(ly:Vb.ly[t]?=some ks){sz:Nat}{j:Int}(h0:0≤j)(h1:j<d.len):wtL (d.at sz j).cs ks:=by
 cases d<;>simp only[wt,LD.len,LD.es,List.length_nil] at h h1
 ·omega
 ·rename_i a c es
  rw[ly] at h
  have:j.toNat<es.length:=by omega
  exact QDL h.2.2.2 this
theorem QHQ {d:LD}{ks:List CK}{j:Nat}{k:CK}(h:wtL d.cs ks)(hk:ks[j]?=some k):wt (d.f j) k:=by
 have:∀ {cs:List LD}{ks:List CK}{j:Nat},wtL cs ks→ks[j]?=some k→wt (cs.getD j .nul) k:=by
  intro cs
  induction cs with
  | nil=>intro ks j h hk;cases ks<;>simp[wtL] at h hk
  | cons c cs ih=>
   intro ks j h hk
   cases ks with
   | nil=>simp at hk
   | cons k' ks=>
    simp only[wtL] at h
    cases j with
    | zero=>simp at hk;subst hk;exact h.1
    | succ j=>simpa using ih h.2 (by simpa using hk)
 exact this h hk
theorem QJ {x:Int}(h1:-9223372036854775808≤x)(h2:x<9223372036854775808):IntKind.i64.wrap x=x:=IntWalk.i64_in _ (by omega)
end Go.Va
namespace Go.Va
open Go Go.Sh
variable [Vb]
theorem bifD {p:Prop} [Decidable p]{A B:Prop}(h1:p→A)(h2:¬p→B):bif decide p then A else B:=by
 by_cases h:p
 ·rw[decide_eq_true h];exact h1 h
 ·rw[decide_eq_false h];exact h2 h
theorem bifN {p:Prop} [Decidable p]{A B:Prop}(h1:¬p→A)(h2:p→B):bif (!(decide p)) then A else B:=by
 by_cases h:p
 ·rw[decide_eq_true h];exact h2 h
 ·rw[decide_eq_false h];exact h1 h
theorem bifT {A B:Prop}(h:A):bif true then A else B:=h
theorem bifF {A B:Prop}(h:B):bif false then A else B:=h
theorem bifI {b:Bool}{A B:Prop}(h1:b=true→A)(h2:b=false→B):bif b then A else B:=by
 cases b
 ·exact h2 rfl
 ·exact h1 rfl
theorem decD {p:Prop} [Decidable p] (h:p):decide p=true:=decide_eq_true h
theorem decN {p:Prop} [Decidable p] (h:¬p):(!(decide p))=true:=by rw[decide_eq_false h];rfl
theorem decA {a b:Bool}(h1:a=true)(h2:b=true):(a&&b)=true:=by rw[h1,h2];rfl
end Go.Va
set_option maxRecDepth 100000
namespace Go.Proofs.YtemffgbncjnmkaaGreat
open Go Go.Sh Go.Va
instance vb:Vb:=⟨[[.i .u8],[.s],[.i .i64],[.b],[.i .i64,.s,.i .i64],[.i .i64,.i .i64,.s,.p 5,.p 5],[.i .i64,.p 5,.p 5,.p 6,.p 6,.s],[.b,.s,.p 5],[.i .i64,.s,.s,.p 5,.p 5,.p 6,.l 7,.l 8,.l 8,.i .i64],[.s,.b],[.s,.l 9,.l 9,.l 8],[.s,.i .i64],[.s,.b,.i .i64,.i .i64],[.s,.b,.l 1],[.i .i64,.i .i64],[.l 14,.b,.b,.i .i64,.i .i64,.l 12],[.s,.l 14,.b,.b,.i .i64,.i .i64,.l 12],[.s,.l 3],[.b,.l 12,.l 13],[.i .i64,.i .i64,.s,.s,.p 5,.p 5,.p 6,.l 7,.l 8,.l 8,.i .i64,.l 2,.b],[.l 2],[.b,.i .i64,.i .i64],[.i .i16]],.pending #[] 0⟩
end Go.Proofs.YtemffgbncjnmkaaGreat
namespace Go.Va
open Go Go.Sh Go.ChangeShapes Go.WideShapes Go.ChangeAt Go.RowKit
variable [Vb]
section
variable {α:Type}{enc:α→List Value}{k:Nat}
theorem QGD (hk:∀x,(enc x).length=k):∀l:List α,(l.flatMap enc).length=l.length * k
 | []=>by simp
 | x::l=>by rw[List.flatMap_cons,List.length_append,QGD hk l,hk,List.length_cons,Nat.add_mul];omega
theorem QEg (hk:∀x,(enc x).length=k):∀(l:List α)(i:Nat),(l.flatMap enc).drop (i * k)=(l.drop i).flatMap enc
 | l,0=>by simp
 | [],i+1=>by simp
 | x::l,i+1=>by
  rw[List.flatMap_cons,List.drop_succ_cons,←QEg hk l i,Nat.add_mul,Nat.one_mul,Nat.add_comm,←List.drop_drop,List.drop_left' (hk x)]
theorem QI8 (hk:∀x,(enc x).length=k){l:List α}{i:Nat}{a:α}(hi:l[i]?=some a):((l.flatMap enc).drop (i * k)).take k=enc a:=by
 obtain⟨hlt,rfl⟩:=List.getElem?_eq_some_iff.1 hi
 rw[QEg hk,List.drop_eq_getElem_cons hlt,List.flatMap_cons,List.take_left' (hk _)]
theorem QKw (hk:∀x,(enc x).length=k){l:List α}{i off:Nat}{a:α}{x:Value}(hi:l[i]?=some a)(hx:(enc a)[off]?=some x):(l.flatMap enc)[i * k+off]?=some x:=by
 have hoff:off<k:=by rw[←hk a];exact (List.getElem?_eq_some_iff.1 hx).1
 rw[←List.getElem?_drop,←hx,←QI8 hk hi,List.getElem?_take,if_pos hoff]
end
mutual
def bk:LD→Nat
 | .s s=>s.length
 | .p _ cs=>bkL cs
 | .l _ _ es=>bkL es
 | .t cs=>bkL cs
 | .n _=>0
 | .b _=>0
 | .nul=>0
def bkL:List LD→Nat
 | []=>0
 | d::r=>bk d+bkL r
end
mutual
def wd {H:Type}:DataW H→Nat
 | .lit l=>(match l with
  | .string b=>b.length
  | _=>0)
 | .slice es _=>wdL es
 | .agg ps=>wdL ps
 | .nil=>0
 | .ptr _=>0
 | .iface _ _=>0
 | .map _=>0
 | .held _=>0
def wdL {H:Type}:List (DataW H)→Nat
 | []=>0
 | d::r=>wd d+wdL r
end
theorem Qabx {H:Type}:∀ {ds:List LD}{xs:List (DataW H×List MemPlace)},ds.length=xs.length→(∀(i:Nat)(d:LD)(x:DataW H×List MemPlace),ds[i]?=some d→xs[i]?=some x→bk d≤wd x.1)→bkL ds≤wdL (xs.map (·.1))
 | [],[],_,_=>Nat.le_refl _
 | d::ds,x::xs,hl,h=>by
  have h1:=h 0 d x rfl rfl
  have h2:=Qabx (ds:=ds) (xs:=xs) (by simpa using hl) fun i d' x' hd hx=>h (i+1) d' x' (by simpa using hd) (by simpa using hx)
  simp only[bkL,List.map_cons,wdL];omega
 | [],_::_,hl,_=>by simp at hl
 | _::_,[],hl,_=>by simp at hl
structure Opk (P:Program)(t:TypeId)(ks:List CK):Prop where
 len:P.cellsOf t=ks.length
 run:∀ {H:Type}{enc:TypeId×Value→H}{w:World}{base:Nat}{sp:Nat→Bool}{held:Bool}{fuel:Nat}{cs:List Value}{x:DataW H×List MemPlace},
  DataW.trod enc P w base sp held fuel t cs=some x→∃ds:List LD,cs=LD.vs ks ds∧wtL ds ks∧Q5 (env0 w.heap).rd ds ks∧bkL ds≤wd x.1
variable {P:Program}{t:TypeId}
theorem QJT {k:IntKind}{n:Int}(h:(Lit.int k n).wf=true):loK k≤n∧n≤hiK k:=by
 cases k<;>simp[Lit.wf,IntKind.min,IntKind.max,IntKind.signed,IntKind.bits] at h<;>exact⟨h.1,h.2⟩
theorem QIS {k:IntKind}(ht:P.underlying t=some (.int k))(hl:P.cellsOf t=1):Opk P t [.i k]:=⟨hl,fun h=>by
 obtain⟨n,rfl,rfl,hw⟩:=DataW.trod_int ht h
 exact⟨[.n n],rfl,by simp only[wtL,wt];exact⟨QJT hw,trivial⟩,by simp only[Q5,lies];exact⟨trivial,trivial⟩,Nat.zero_le _⟩⟩
theorem QDK {ι:Type}{ks:List CK}{f:ι→List LD}(h:∀i,wtL (f i) ks):∀l:List ι,wtE (l.map fun i=>.t (f i)) ks
 | []=>by simp[wtE]
 | i::l=>by simp only[List.map_cons,wtE,wtT];exact⟨h i,QDK h l⟩
theorem QzD {ι:Type}{R:Addr→List Value→Prop}{ks:List CK}{f:ι→List LD}(h:∀i,Q5 R (f i) ks):∀l:List ι,QI R (l.map fun i=>.t (f i)) ks
 | []=>by simp[QI]
 | i::l=>by simp only[List.map_cons,QI,Qbz];exact⟨h i,QzD h l⟩
theorem Qzy {e n:TypeId}{ks:List CK}(ht:P.underlying t=some (.slice e))(hl:P.cellsOf t=1)(hk:ks≠[])(ly:Vb.ly[n]?=some ks)(o:Opk P e ks):Opk P t [.l n]:=⟨hl,fun {H enc w base sp held fuel cs x} h=>by
 rcases DataW.trod_slice ht h with⟨rfl,rfl⟩ | ⟨a,len,cap,elems,rest,m,_,rfl,rfl,hb,hl,hm,hlen,hel,_⟩
 ·exact⟨[.nul],rfl,by simp only[wtL,wt];exact⟨trivial,trivial⟩,by simp only[Q5,lies];exact⟨trivial,trivial⟩,Nat.zero_le _⟩
 have each:∀i:Fin len,∃ds:List LD,wtL ds ks∧Q5 (env0 w.heap).rd ds ks∧(∀x,elems[i.val]?=some x→bkL ds≤wd x.1)∧∀j,j<ks.length→w.cell? ((a.add (i.val * ks.length)).add j)=(LD.vs ks ds)[j]?:=by
  intro i
  have hi:=hel i.val i.isLt
  rw[o.len,List.getElem?_eq_getElem (by rw[hlen];exact i.isLt),Option.bind_eq_some_iff] at hi
  obtain⟨ci,h1,h2⟩:=hi
  obtain⟨_,h3,h4⟩:=World.cells?_some h1
  obtain⟨ds,rfl,h6,h7,h8⟩:=o.run h2
  refine⟨ds,h6,h7,fun x hx=>?_,h4⟩
  rw[List.getElem?_eq_getElem (by rw[hlen];exact i.isLt),Option.some.injEq] at hx
  rw[←hx];exact h8
 obtain⟨f,hf⟩:=Classical.axiomOfChoice each
 have hpos:0<ks.length:=by cases ks<;>simp_all
 have hvl:∀i:Fin len,(LD.vs ks (f i)).length=ks.length:=fun i=>(QaW (hf i).1).1
 have e:maxL=maxLen:=by unfold maxL;decide
 have hes:((List.finRange len).map fun i=>LD.t (f i)).length=len:=by rw[List.length_map,List.length_finRange]
 refine⟨[.l a cap ((List.finRange len).map fun i=>.t (f i))],?_,?_,?_,?_⟩
 ·simp only[LD.vs,LD.v,hes]
 ·simp only[wtL,wt]
  rw[ly]
  exact⟨⟨by rw[hes];exact hl,by rw[hes,e];omega,hk,QDK (fun i=>(hf i).1) _⟩,trivial⟩
 ·simp only[Q5,lies]
  rw[ly]
  refine⟨⟨?_,QzD (fun i=>(hf i).2.1) _⟩,trivial⟩
  intro g hg
  have hvs:LD.vsE ks ((List.finRange len).map fun i=>LD.t (f i))=(List.finRange len).flatMap fun i=>LD.vs ks (f i):=by
   simp[LD.vsE,List.flatMap_map,LD.cs]
  rw[hvs]
  rcases Nat.eq_zero_or_pos len with h0 | h0
  ·subst h0;exact .inl (by simp[List.finRange])
  have hsp:a.spot=none:=by
   have h1:=(hf ⟨0,h0⟩).2.2.2 0 hpos
   have h2:(LD.vs ks (f ⟨0,h0⟩))[0]?=some ((LD.vs ks (f ⟨0,h0⟩))[0]'(by rw[hvl];exact hpos)):=List.getElem?_eq_getElem _
   rw[h2] at h1
   simp only[Nat.zero_mul,Addr.add] at h1
   simpa using World.cell?_spot h1
  obtain⟨b,off,spot⟩:=a
  simp only at hsp
  subst hsp
  refine .inr ⟨b,off,rfl,fun j x hx=>?_⟩
  have hjl:=(List.getElem?_eq_some_iff.1 hx).1
  rw[QGD (enc:=fun i:Fin len=>LD.vs ks (f i)) hvl,List.length_finRange] at hjl
  have hq:j / ks.length<len:=(Nat.div_lt_iff_lt_mul hpos).2 hjl
  have hr:j % ks.length<ks.length:=Nat.mod_lt _ hpos
  have hcell:=(hf ⟨j / ks.length,hq⟩).2.2.2 (j % ks.length) hr
  have hsome:(LD.vs ks (f ⟨j / ks.length,hq⟩))[j % ks.length]?=some ((LD.vs ks (f ⟨j / ks.length,hq⟩))[j % ks.length]'(by rw[hvl];exact hr)):=List.getElem?_eq_getElem _
  have hget:=QKw (enc:=fun i:Fin len=>LD.vs ks (f i)) hvl (l:=List.finRange len) (i:=j / ks.length) (a:=⟨j / ks.length,hq⟩) (by simp[List.finRange,hq]) hsome
  rw[Nat.div_add_mod' j ks.length] at hget
  rw[hget] at hx
  rw[hsome,hx] at hcell
  rw[WideShapes.add_plain,WideShapes.add_plain] at hcell
  rw[show off+j / ks.length * ks.length+j % ks.length=off+j by rw[Nat.add_assoc,Nat.div_add_mod']] at hcell
  rw[Qee] at hcell
  have hg1:∀(b:Nat) (o:Obj),w.heap[b]?=some o→g[b]?=some o:=hg.1
  unfold cellAt at hcell ⊢
  cases hb:w.heap[b]? with
  | none=>simp[hb] at hcell
  | some o=>simp only[hb,hg1 b o hb] at hcell ⊢;exact hcell
 ·have hb:bkL ((List.finRange len).map fun i=>LD.t (f i))≤wdL (elems.map (·.1)):=Qabx (by rw[hes,hlen]) fun i d x hd hx=>by
   rw[List.getElem?_map,Option.map_eq_some_iff] at hd
   obtain⟨k,hk,rfl⟩:=hd
   have:k.val=i:=by
    have h1:=(List.getElem?_eq_some_iff.1 hk).2
    rw[←h1];simp
   exact (hf k).2.2.1 x (by rw[this];exact hx)
  show bkL _+0≤wdL _
  exact hb⟩
end Go.Va
namespace Go.Va
open Go Go.Sh Go.ChangeShapes Go.WideShapes Go.ChangeAt Go.RowKit
variable [Vb]
section
variable {P:Program}{t:TypeId}{ks:List CK}{H:Type}{enc:TypeId×Value→H}{W:World}{base:Nat}{sp:Nat→Bool}{held:Bool}{v:Value}{d:DataW H}{ps:List MemPlace}{r:Reach}{b0:Nat}
theorem QabB {k:CK}(o:Opk P t [k])(hv:v.cells=#[v])(hd:DataW.Trod enc P W base sp held t v d ps):∃x:LD,wt x k∧lies (env0 W.heap).rd x k∧den (env0 W.heap) (leaf k x)=some v∧bk x≤wd d:=by
 obtain⟨fuel,hf⟩:=hd
 obtain⟨ds,e,h1,h2,h3⟩:=o.run hf
 rw[hv] at e
 match ds,h1,h2,e with
 | [x],h1,h2,e=>
  simp only[wtL] at h1
  simp only[Q5] at h2
  refine⟨x,h1.1,h2.1,?_,by simpa [bkL] using h3⟩
  rw[Qg2 ⟨h1.1,h2.1⟩]
  have:[v]=[LD.v k x]:=e
  rw[(List.cons.inj this).1]
theorem QIR {k:CK}(o:Opk P t [k])(hv:v.cells=#[v])(hd:DataW.Trod enc P W base sp held t v d ps):∃x:LD,wt x k∧lies (env0 W.heap).rd x k∧den (env0 W.heap) (leaf k x)=some v:=by
 obtain⟨x,h1,h2,h3,_⟩:=QabB o hv hd
 exact⟨x,h1,h2,h3⟩
end
variable {P:Program}
end Go.Va
namespace Go.Va
open Go Go.Sh
def pq (i n:Nat)(l:List Nat):Nat×RP:=(i,⟨n,l.map fun x=>(x % 3,x / 3)⟩)
def cCu (P:Program)(n m:Nat)(pls:List (Nat×RP)):Code→Option FC
 | .skip=>some .skip
 | .label _=>some .skip
 | .region id ops draw=>bif QIj pls id then some .bad else match draw with
  | false=>match cOL P n ops ops.toList with
   | some l=>some (.seqr (match lkP pls id with | some _=>false | none=>true) m l)
   | none=>none
  | true=>match lkP pls id with
   | some p=>match cREL P n ops p.ord with
     | some l=>match cOL P n ops (ops.toList.drop p.hd) with
      | some r=>some (.com m l r)
      | none=>none
     | none=>none
   | none=>some .bad
 | .seq a b=>match cCu P n m pls a with
  | some x=>bif isBad x then some .bad else match cCu P n m pls b with
   | some y=>some (.seq x y)
   | none=>none
  | none=>none
 | .cond c a b=>match c1 c with
  | some z=>match cCu P n m pls a with
   | some x=>match cCu P n m pls b with
    | some y=>some (.cond z x y)
    | none=>none
   | none=>none
  | none=>some .bad
 | .block i a=>match cCu P n m pls a with
  | some x=>bif isBad x then some .bad else some (.block i x)
  | none=>none
 | .loop a=>match cCu P n m pls a with
  | some x=>bif isBad x then some .bad else some (match invP pls (1000000+fidN a) with
   | some q=>.loopv m q.1 (.ofNat q.2.1) q.2.2 x
   | none=>.loop m (fidN a) x)
  | none=>none
 | .exit i=>some (.exit i)
 | .ret=>some .ret
 | _=>some .bad
@[irreducible] def cdF (P:Program)(pls:List (Nat×RP))(m:Nat)(fn:Func):FC:=match fn.body with
 | some c=>match cCu P fn.ntmps m pls c with
  | some x=>x
  | none=>.bad
 | none=>.bad
@[irreducible] def cdL (P:Program)(pls:List (Nat×RP))(m l:Nat)(fn:Func):FC:=match fn.body with
 | some c=>match (QaT c).filter (fun y=>Nat.beq (fidN y) l) with
  | y::_=>match cCu P fn.ntmps m pls y with
   | some a=>a
   | none=>.bad
  | []=>.bad
 | none=>.bad
end Go.Va
