import Derived.Test.YtmdppkbekmpopaaGreatVdf
set_option linter.unusedVariables false
set_option linter.unusedSimpArgs false
set_option linter.unusedSectionVars false
namespace Go.Va
open Go Go.Sh
variable [Vb]
variable {P:Program}
def oneV:List Value→Value
 | [v]=>v
 | vs=>.tuple vs.toArray
def QLt (c:Ctr)(Ks:KN)(F:Env)(h0:Heap)(L:List HP)(v:Value)(h':Heap):Prop:=
 ∃e s ys G us,c.o[e]?=some s∧wtL ys s.ks∧Ks e ys∧Env.LeK c.i.os F G∧Rep G (thS s ys) h0 h' L∧denL G (fvPL id (nthD ys) s.ps 0)=some us∧v=oneV us
def QOk [Gd] (P:Program)(i:Nat)(c:Ctr):Prop:=∀xs (Ks:List LP),wtL xs c.i.ks→c.q xs Ks→∀F h0 h L us,Rep F (thS c.i xs) h0 h L→denL F (fvPL id (nthD xs) c.i.ps 0)=some us→∀w:World,w.heap=h→Qd9 P (QLt c (nthK Ks) F h0 L) w ((callFunc i us.toArray).run P w)
inductive KOk (P:Program)(i:Nat):FFn→Prop
 | f (fn:Func) (pls:List (Nat×RP)) (np m:Nat) (k:FFn):P.funcs[i]?=some fn→(∀args w,(callFunc i args).run P w=.ok (.enter i args) w)→(match cF P pls np m fn with | some s=>some s.fn | none=>none)=some k→KOk P i k
 | cmp:(∀args w,(callFunc i args).run P w=((Extern.BytealgCompare.compare args).run P w).andThen fun v w'=>.ok (.value v) w')→KOk P i (.x .cmp)
 | l (fn:Func) (pls:List (Nat×RP)) (np m:Nat) (k:FFn) (ls:List LCt):P.funcs[i]?=some fn→(∀args w,(callFunc i args).run P w=.ok (.enter i args) w)→(match cF P pls np m fn with | some s=>some s.fn | none=>none)=some k→(∀c,fn.body=some c→∀y∈QaT c,∀S∈ls,fidN y=S.l→∀G:Gd,G.Q→@LcOk _ G P fn.ntmps y S)→KOk P i (.l ls k)
 | q (c:Ctr):okC c=true→(∀G:Gd,G.Q→@QOk _ G P i c)→KOk P i (.q c)
variable {E:Env}{L:List HP}{h h0:Heap}{th:TH}
theorem Rep.ext {h':Heap}(r:Rep E th h0 h L)(hx:Ext h h'):Rep E th h0 h' L:=⟨(r.st.call (L':=[]) ⟨hx,trivial⟩),r.fr,r.eh⟩
variable {fn:Func}{i:Nat}
theorem QI4 (hf:P.funcs[i]?=some fn)(h1:(fn.name == "runtime.NumGoroutine")=false) (h2:fn.body.isNone=true) (h3:Extern.findNext fn=none) (h4:Extern.find fn=some Extern.BytealgCompare.compare):KOk P i (.x .cmp):=
 .cmp fun args w=>run_callFunc_extern hf h1 h2 h3 h4 args w
def FOk [Gd] (P:Program)(fn:Fn1):Prop:=∀i l th K,fn i l th K→∀E h0 h L vs,Rep E th h0 h L→denL E l=some vs→∀w:World,w.heap=h→Qd9 P (Post E h0 L K) w ((callFunc i vs.toArray).run P w)
theorem QmV [Gd]{fn:Fn1}(hf:FOk P fn):ClOk P (QBd fn):=fun f l th K hx E h0 h L fv vs r hfv hl=>by
 cases f<;>try (exact hx.elim)
 rename_i g a b
 cases g<;>try (exact hx.elim)
 rename_i i
 obtain⟨x,y,h1,h2,rfl⟩:=Qo7 hfv
 intro w hw
 have hd:denL E (a++(l++b))=some (x++(vs++y)):=Qc7 h1 (Qc7 hl h2)
 have:=hf i _ th K hx E h0 h L _ r hd w hw
 have e:(Qf9 (.func (.func i) x.toArray y.toArray) vs.toArray).run P w=(callFunc i (x++(vs++y)).toArray).run P w:=by
  simp[Qf9,Deferred.ofValue,invoke]
 rw[e];exact this
theorem QzF {k:Nat}:∀(l:List FV) (i:Nat) (t:Fr),(∀j,i≤j→j<i+l.length→k≠j)→(frame i l t).get k=t.get k
 | [],i,t,_=>rfl
 | x::l,i,t,h=>by
  show (frame i.succ l (t.put i x)).get k=_
  rw[QzF l i.succ (t.put i x) fun j h1 h2=>h j om (by simp only[List.length_cons];omega),Fr.get_ne _ _ (h i (nr) (by simp))]
variable {l:List FV}{m np:Nat}
theorem Qva {b:Nat}(h:(List.range np).all (fun i=>(bitN m i).not)=true)(hl:l.length=np):Clean m (frame 0 l (.base m (skel b 0))):=fun k hk=>by
 rw[QzF l 0 _ fun j _ hj e=>?_]
 ·rw[Fr.get_base,hk];rfl
 ·subst e
  have:=List.all_eq_true.1 h k (List.mem_range.2 om)
  rw[hk] at this;cases this
theorem Qv7 {E:Env}{n:Nat}:∀(l:List FV) (vs:List Value) (i:Nat) (t:Fr) (f:Nat→Value),denL E l=some vs→(∀j x,t.get j=some x→j<n∧den E x=some (f j))→i+l.length≤n→(∀j v,vs[j]?=some v→f (i+j)=v)→AgF E n (frame i l t) f
 | [],vs,i,t,f,h,ht,_,_=>ht
 | x::l,vs,i,t,f,h,ht,hn,hf=>by
  obtain⟨v,vs',h1,h2,rfl⟩:=QR h
  simp only[List.length_cons] at hn
  refine Qv7 l vs' (i+1) (t.put i x) f h2 (fun j y hy=>?_) om (fun j u hu=>by
   have:=hf (j+1) u (by simpa using hu)
   rw[←this];congr 1;omega)
  by_cases hj:j=i
  ·subst hj
   rw[Fr.get_eq] at hy;cases sJ hy
   exact⟨om,by rw[h1,←hf 0 v rfl];rfl⟩
  ·rw[Fr.get_ne _ _ hj] at hy;exact ht j y hy
theorem QA6 {E:Env}{th:TH}{h0:Heap}{L:List HP}{n:Nat}{fr:Fr}{f:Nat→Value}{w:World}(ha:AgF E n fr f)(r:Rep E th h0 w.heap L):∀ {rs:List ResultVar}{rv:List RV}{l:List FV},cRV P n rs=some rv→evRV fr th.t rv=some l →
  ∃vs,denL E l=some vs∧(rs.mapM (rone (mk n f).tmps)).run P w=.ok vs w
 | [],rv,l,hc,hx=>by
  simp only[cRV,sj] at hc;subst hc
  simp only[evRV,sj] at hx;subst hx
  exact⟨[],rfl,rfl⟩
 | .tmp t::rs,rv,l,hc,hx=>by
  simp only[cRV] at hc
  cases h1:cRV P n rs with
  | none=>rw[h1] at hc;cases hc
  | some rv'=>
   rw[h1] at hc
   simp only at hc
   cases hb:Nat.blt t n with
   | false=>rw[hb] at hc;cases hc
   | true=>
    rw[hb] at hc;simp only[cond_true,sj] at hc;subst hc
    simp only[evRV] at hx
    cases h2:fr.get t with
    | none=>rw[h2] at hx;cases hx
    | some x=>
     cases h3:evRV fr th.t rv' with
     | none=>rw[h2,h3] at hx;cases hx
     | some l'=>
      rw[h2,h3] at hx;cases sJ hx
      obtain⟨vs,g1,g2⟩:=QA6 ha r h1 h3
      refine⟨f t::vs,Qau (ha t x h2).2 g1,?_⟩
      rw[List.mapM_cons,Sem.run_bind]
      have:(rone (mk n f).tmps (.tmp t)).run P w=.ok (f t) w:=by simp only[rone,QD8 n f t hb];rfl
      rw[this,Result.andThen_ok,Sem.run_bind,g2];rfl
 | .cell a t::rs,rv,l,hc,hx=>by
  simp only[cRV] at hc
  cases hb:agO P t with
  | none=>rw[hb] at hc;cases hc
  | some b=>
   cases hk:szO P t with
   | none=>rw[hb,hk] at hc;cases hc
   | some k=>
    cases h1:cRV P n rs with
    | none=>rw[hb,hk,h1] at hc;cases hc
    | some rv'=>
     rw[hb,hk,h1] at hc
     simp only at hc
     cases hcc:Nat.blt a n&&Nat.blt 0 k with
     | false=>rw[hcc] at hc;cases hc
     | true=>
      rw[hcc] at hc;simp only[cond_true,sj] at hc;subst hc
      simp only[Bool.and_eq_true] at hcc
      simp only[evRV] at hx
      cases h2:fr.get a with
      | none=>rw[h2] at hx;cases hx
      | some x=>
       rw[h2] at hx
       simp only at hx
       cases h4:ldF th.t k b x with
       | none=>rw[h4] at hx;cases hx
       | some y=>
        cases h3:evRV fr th.t rv' with
        | none=>rw[h4,h3] at hx;cases hx
        | some l'=>
         rw[h4,h3] at hx;cases sJ hx
         obtain⟨vs,g1,g2⟩:=QA6 ha r h1 h3
         have hd:=(ha a x h2).2
         obtain⟨v,hv1,hv2⟩:=QH9 r hk hb (QaQ hcc.2) hd h4
         refine⟨v::vs,Qau hv2 g1,?_⟩
         rw[List.mapM_cons,Sem.run_bind]
         have hrone:(rone (mk n f).tmps (.cell a t)).run P w=.ok v w:=by
          have h5:=hv1 w rfl
          cases x<;>try (simp[ldF] at h4;done)
          obtain⟨ad,_,hfa⟩:=Qca hd
          rw[hfa] at h5
          simp only[rone,QD8 n f a hcc.1,hfa,asAddr,pure_bind]
          unfold nv at h5
          rw[Sem.run_bind] at h5
          simp only[Instr.loadAt,Instr.sureAddr,pure_bind] at h5
          generalize (loadVar t _).run P w=q at h5 ⊢
          cases q with
          | ok z w'=>simp only[Result.andThen,pure,Sem.run] at h5;injection h5 with h6 h7;injection h6 with h8;rw[h8,h7]
          | halt z w'=>simp[Result.andThen] at h5
         rw[hrone,Result.andThen_ok,Sem.run_bind,g2];rfl
variable {vs:List Value}{w:World}
theorem QBL {s:Sem (List Value)}(h:s.run P w=.ok vs w):(do let vs ←s;pure (match vs with | [v]=>v | vs=>Value.tuple vs.toArray):Sem Value).run P w=.ok (oneV vs) w:=by
 rw[Sem.run_bind,h]
 match vs with
 | []=>rfl
 | [_]=>rfl
 | _::_::_=>rfl
theorem QyB:∀ {l:List FV}{vs:List Value},denL E l=some vs→den E (one1 l)=some (oneV vs)
 | [],vs,h1=>by simp only[denL,sj] at h1;subst h1;rfl
 | [x],vs,h1=>by
  obtain⟨v,vs',g1,g2,rfl⟩:=QR h1
  simp only[denL,sj] at g2;subst g2
  exact g1
 | x::y::r,vs,h1=>by
  obtain⟨v,vs',g1,g2,rfl⟩:=QR h1
  obtain⟨v2,vs2,g3,g4,rfl⟩:=QR g2
  simp only[one1,den,h1,oneV]
variable {K:FV→TH→Prop}
theorem QFP [Gd]{n:Nat}{fr:Fr}{f:Nat→Value}{w0:World}{rv:List RV}{E0:Env}(hle:E0.Le E)(ha:AgF E n fr f)(r:Rep E th h0 w.heap L)(hs:Qx w0 w)(hc:cRV P n fn.results.toList=some rv)(hx:retK rv K fr th) :
  bodyPost P fn (QgN w0 (Post E0 h0 L K)) .ret (mk n f) w∧bodyPost P fn (QgN w0 (Post E0 h0 L K)) .normal (mk n f) w:=by
 unfold retK at hx
 cases hl:evRV fr th.t rv with
 | none=>rw[hl] at hx;exact hx.elim
 | some l=>
  rw[hl] at hx
  obtain⟨vs,h1,h2⟩:=QA6 ha r hc hl
  have hres:(results fn (mk n f).tmps).run P w=.ok (oneV vs) w:=by
   rw[QrL (rs:=fn.results.toList) (by simp)]
   exact QBL h2
  have hden:den E (one1 l)=some (oneV vs):=QyB h1
  have fin:QgN w0 (Post E0 h0 L K) (.returned (oneV vs)) w:=.inl ⟨_,rfl,hs,E,one1 l,th,hle,hden,r,hx⟩
  exact⟨QHj hres fin,QHk hres fin⟩
theorem Qvb:∀a b:List UInt8,-1≤Lib.compareBytes a b∧Lib.compareBytes a b≤1
 | [],[]=>by simp[Lib.compareBytes]
 | [],_::_=>by simp[Lib.compareBytes]
 | _::_,[]=>by simp[Lib.compareBytes]
 | a::x,b::y=>by
  have ih:=Qvb x y
  simp only[Lib.compareBytes]
  split
  ·omega
  ·split
   ·omega
   ·exact ih
variable {x:FV}
theorem QJv {a b:FV}{u v:Value}(h:cmpN a b=some x)(h1:den E a=some u)(h3:den E b=some v)(w:World):∃r,den E x=some r∧(Extern.BytealgCompare.compare #[u,v]).run P w=.ok r w:=by
 unfold cmpN at h
 cases hs:strV a with
 | none=>rw[hs] at h;cases h
 | some s=>
  cases ht:strV b with
  | none=>rw[hs,ht] at h;cases h
  | some t=>
   rw[hs,ht] at h
   cases sJ h
   have e1:=(QgQ hs h1).1
   have e2:=(QgQ ht h3).1
   subst e1 e2
   refine⟨.int .i64 (Lib.compareBytes s t),?_,?_⟩
   ·simp only[den,SE.ev]
    have:=Qvb s t
    exact if_pos ⟨this.1,this.2⟩
   ·have:=Lib.run_compareString (P:=P) ⟨s.toArray⟩ ⟨t.toArray⟩ w
    simp only[str]
    rw[this]
theorem QKL (h:evE .cmp l=some x)(hd:denL E l=some vs)(w:World):∃v,den E x=some v∧(Extern.BytealgCompare.compare vs.toArray).run P w=.ok v w:=by
 match l,h with
 | [a,b],h=>
  simp only[evE] at h
  have opn:cmpN a b=some x→∃v,den E x=some v∧(Extern.BytealgCompare.compare vs.toArray).run P w=.ok v w:=fun h=>by
   obtain⟨u,vs1,h1,h2,rfl⟩:=QR hd
   obtain⟨v,vs2,h3,h4,rfl⟩:=QR h2
   simp only[denL,sj] at h4;subst h4
   exact QJv h h1 h3 w
  cases a<;>try (exact opn h)
  cases b<;>try (exact opn h)
  rename_i a b
  cases sJ h
  obtain⟨u,vs1,h1,h2,rfl⟩:=QR hd
  obtain⟨v,vs2,h3,h4,rfl⟩:=QR h2
  simp only[denL,sj] at h4;subst h4
  obtain⟨ha,rfl⟩:=Qcr h1
  obtain⟨hb,rfl⟩:=Qcr h3
  refine⟨_,rfl,?_⟩
  have:=Lib.run_compareString (P:=P) ⟨(a.map UInt8.ofNat).toArray⟩ ⟨(b.map UInt8.ofNat).toArray⟩ w
  simp only[str]
  rw[this]
  congr 2
  have key:∀a b:List Nat,Q0 a=true→Q0 b=true→Lib.compareBytes (a.map UInt8.ofNat) (b.map UInt8.ofNat)=bif llt a b then .negSucc 0 else bif leq a b then .ofNat 0 else .ofNat 1:=by
   intro a
   induction a with
   | nil=>
    intro b _ _
    cases b with
    | nil=>simp[Lib.compareBytes,QFa,QGn]
    | cons c r=>simp[Lib.compareBytes,QGi]
   | cons c r ih=>
    intro b ha hb
    cases b with
    | nil=>simp[Lib.compareBytes,QFa,QB9]
    | cons d s=>
     obtain⟨h1,h2⟩:=QeI ha
     obtain⟨h3,h4⟩:=QeI hb
     have hlt:∀ {m n:Nat},m<256→n<256→((UInt8.ofNat m<UInt8.ofNat n)↔m<n):=fun {m n} hm hn=>by
      rw[UInt8.lt_iff_toNat_lt];simp[Nat.mod_eq_of_lt hm,Nat.mod_eq_of_lt hn]
     simp only[List.map_cons,Lib.compareBytes,QGk,QCa,bl,bq,hlt h1 h3,hlt h3 h1]
     by_cases hcd:c<d
     ·simp[hcd]
     ·by_cases hdc:d<c
      ·simp[hcd,hdc,show ¬c=d by omega]
      ·have:c=d:=om
       subst this
       simp[ih s h2 h4]
  have e:=key a b ha hb
  simpa using e
 | [],h=>cases h
 | [_],h=>cases h
 | _::_::_::_,h=>cases h
theorem QFk [Gd]{cl:Cl}(hcl:ClOk P cl){lf:LF}{pls:List (Nat×RP)}{k:FFn}(hfn:P.funcs[i]?=some fn)(hcall:∀args w,(callFunc i args).run P w=.ok (.enter i args) w)(hk:(match cF P pls np m fn with | some s=>some s.fn | none=>none)=some k)
  (hlp:∀c,fn.body=some c→∀y∈QaT c,∀S∈lf.ls,fidN y=S.l→LcOk P fn.ntmps y S) (hx:runF lf cl k l th K) (r:Rep E th h0 h L) (hd:denL E l=some vs) (w:World) (hw:w.heap=h) :
  Qd9 P (Post E h0 L K) w ((callFunc i vs.toArray).run P w):=by
 rw[hcall]
 refine⟨Qx.refl w,?_⟩
 cases hs:cF P pls np m fn with
 | none=>rw[hs] at hk;cases hk
 | some s=>
  rw[hs] at hk;cases sJ hk
  unfold cF at hs
  cases hb:fn.body with
  | none=>rw[hb] at hs;cases hs
  | some c=>
   rw[hb] at hs
   simp only at hs
   cases hrv:cRV P fn.ntmps fn.results.toList with
   | none=>rw[hrv] at hs;cases hs
   | some rv=>
    cases hcc:cC P fn.ntmps m pls c with
    | none=>rw[hrv,hcc] at hs;cases hs
    | some fc=>
     rw[hrv,hcc] at hs
     simp only at hs
     cases hnp:Nat.ble np fn.ntmps&&(List.range np).all (fun i=>(bitN m i).not) with
     | false=>rw[hnp] at hs;cases hs
     | true=>
      rw[hnp] at hs;simp only[cond_true,sj] at hs;subst hs
      simp only[FSn.fn,runF] at hx
      obtain⟨hlen,hx⟩:=Q1 hx
      have hlen:=Qm hlen
      simp only[Bool.and_eq_true] at hnp
      have hmk:=hnp.2
      have hnp:=Qag hnp.1
      have hvl:=QS hd
      have hargs:vs.toArray++Array.replicate (fn.ntmps - vs.toArray.size) undef=(mk fn.ntmps fun i=>vs.getD i undef).tmps:=by
       simp only[mkD]
       apply Array.ext
       ·simp;omega
       ·intro j g1 g2
        simp only[List.getElem_toArray,List.getElem_map,List.getElem_range]
        rw[Array.getElem_append]
        split
        ·rename_i hj
         simp only[List.size_toArray] at hj
         simp[List.getD,hj]
        ·rename_i hj
         simp only[List.size_toArray] at hj
         simp[List.getD,List.getElem?_eq_none (Nat.le_of_not_lt hj)]
      refine QHA (n:=fn.ntmps) hfn hb rfl hargs fun w1 hw1=>?_
      have ha:AgF E fn.ntmps (frame 0 l (.base m (skel (Nat.succ (Nat.log2 fn.ntmps)) 0))) fun i=>vs.getD i undef:=Qv7 l vs 0 (.base m (skel (Nat.succ (Nat.log2 fn.ntmps)) 0)) _ hd (fun j x hj=>by rw[Fr.get_skel] at hj;cases hj) om (fun j v hj=>by simp[List.getD,hj])
      refine QeD hcl c fc hcc lf _ th _ _ _ E _ w1 _ hx ha (Qva hmk hlen) (by rw[hw1,hw];exact r) (Qx.refl w1) QFU QBI (hlp c hb) (fun F fr' th' f' w' a1 a2 _ a3 a4 a5=>(QFP a1 a2 a3 a4 hrv a5).2) (fun j F fr' th' f' w' a1 a2 _ a3 a4 a5=>a5.elim) (fun F fr' th' f' w' a1 a2 _ a3 a4 a5=>(QFP a1 a2 a3 a4 hrv a5).1)
theorem QzB [Gd]{K K':Value→Heap→Prop}:∀ {r:Result Next},Qd9 P K w r→(∀v h',K v h'→K' v h')→Qd9 P K' w r
 | .ok (.value v) w',⟨a,b⟩,hk=>⟨a,hk _ _ b⟩
 | .ok .skip w',⟨a,b⟩,hk=>⟨a,hk _ _ b⟩
 | .ok (.enter f args) w',⟨a,b⟩,hk=>⟨a,b.mono hk⟩
 | .halt (.panic x) w',h,_=>h
theorem QIL [Gd]{c:Ctr}(hc:okC c=true)(hq:QOk P i c)(hx:runQ c l th fun _ vs th=>rsl0 (one1 vs) th K)(r:Rep E th h0 h L)(hd:denL E l=some vs)(w:World)(hw:w.heap=h) :
  Qd9 P (Post E h0 L K) w ((callFunc i vs.toArray).run P w):=by
 simp only[runQ] at hx
 obtain⟨F1,xs,prs,th',Ps,g1,g3,g4,g5,_,g6,g7,g8,g9⟩:=QB1 hx r hd
 refine QzB (hq xs _ g4 g3 _ h0 h _ vs g8 g9 w hw) fun v h'=>?_
 rintro⟨e,s,ys,G,us,h1,h3,h4,h5,h6,h7,rfl⟩
 have h4:=Qzw h1 h4 h3
 simp only[outK] at h4
 obtain⟨k1,k2⟩:=QEY hc h1
 obtain⟨F,f1,f2,f3⟩:=QIf (E:=F1) (th:=th') k1 k2 g5 g6 g7 h5 h6
 have f3:=QyB (f3 us h7)
 obtain⟨y,sc,y1,y2⟩:=QvD h4
 exact⟨F,y,_,g1.trans f1,y1 F _ f3,f2.scrp sc,y2⟩
theorem Qsy [Gd] (hgd:Gd.Q ‹Gd›){tab:Tr FFn}{lf:Nat}(ht:∀i f,tab.get i=some f→KOk P i f):∀n,FOk P (eng tab lf n)
 | 0=>fun i l th K hx=>hx.elim
 | n+1=>fun i l th K hx E h0 h L vs r hd w hw=>by
  simp only[eng] at hx
  cases hg:tab.get i with
  | none=>rw[hg] at hx;exact hx.elim
  | some f=>
   rw[hg] at hx
   simp only at hx
   have hk0:=ht i f hg
   clear hg
   induction hk0 with
   | q c hc hq=>exact QIL hc (hq _ hgd) hx r hd w hw
   | cmp hrun=>
    simp only[runF] at hx
    cases he:evE .cmp l with
    | none=>rw[he] at hx;exact hx.elim
    | some x=>
     rw[he] at hx
     obtain⟨v,g1,g2⟩:=QKL (P:=P) he hd w
     rw[hrun,g2]
     exact⟨Qx.refl w,by rw[hw];exact Post.same g1 r hx⟩
   | f fn pls np m k hfn hcall hk=>exact QFk (QmV (Qsy hgd ht n)) hfn hcall hk (fun _ _ _ _ S hS _=>by cases hS) hx r hd w hw
   | l fn pls np m k ls hfn hcall hk hls=>exact QFk (lf:=⟨lf,ls⟩) (QmV (Qsy hgd ht n)) hfn hcall hk (fun c hc y hy S hS hl=>hls c hc y hy S hS hl _ hgd) hx r hd w hw
end Go.Va
namespace Go.Va
open Go Go.Sh
variable [Vb]
variable {P:Program}
def QtE:List OP→Nat→Prs
 | [],_=>[]
 | o::r,j=>match o with
  | .r _=>QtE r j.succ
  | _=>(j,j)::QtE r j.succ
theorem QzE:∀ {I:List OP}{j n:Nat},QeV I j=true→(n+j,n+j)∈QtE I n
 | [],_,_,h=>by simp only[QeV] at h;cases h
 | o::r,0,n,h=>by
  cases o<;>first
   | exact .head _
   | (simp only[QeV] at h;cases h)
 | o::r,j+1,n,h=>by
  have:=QzE (I:=r) (n:=n.succ) h
  rw[show n.succ+j=n+(j+1) by omega] at this
  cases o<;>first
   | exact .tail _ this
   | exact this
theorem QFg {I:List OP}{j:Nat}(h:QeV I j=true):(j,j)∈QtE I 0:=by
 have:=QzE (n:=0) h
 rwa [Nat.zero_add] at this
def Qpu:FV→Option (List FV)
 | .tup l=>match l with
  | [_]=>none
  | l=>some l
 | x=>some [x]
variable {E:Env}{l:List FV}
theorem QG5 {x:FV}{v:Value}(h:Qpu x=some l)(hd:den E x=some v):∃us,denL E l=some us∧v=oneV us:=by
 have one:Qpu x=some [x]→∃us,denL E l=some us∧v=oneV us:=fun e=>by
  rw[h] at e;cases sJ e
  exact⟨[v],Qau hd rfl,rfl⟩
 cases x<;>try (exact one rfl)
 rename_i l'
 simp only[den] at hd
 cases hl:denL E l' with
 | none=>rw[hl] at hd;cases hd
 | some us=>
  rw[hl] at hd;cases sJ hd
  match l',h with
  | [],h=>simp only[Qpu,sj] at h;subst h;exact⟨us,hl,by
    simp only[denL,sj] at hl;subst hl;rfl⟩
  | [_],h=>simp[Qpu] at h
  | a::b::r,h=>
   simp only[Qpu,sj] at h;subst h
   refine⟨us,hl,?_⟩
   have:=QS hl
   match us,this with
   | _::_::_,_=>rfl
def outQ (c:Ctr)(Ks:KN)(e:Nat)(l:List FV)(th:TH):Prop:=match c.o[e]? with
 | some s=>mtS s (QtE c.i.os 0) l th fun ys _ _=>Ks e ys
 | none=>False
def retQ (c:Ctr)(sel:FV→TH→Nat)(Ks:KN):FV→TH→Prop:=fun r th=>match Qpu r with
 | some l=>outQ c Ks (sel r th) l th
 | none=>False
theorem Rep.rest {E:Env}{th:TH}{h0 h:Heap}{L:List HP}:∀ {A:List HP},Rep E th h0 h (A++L)→Rep E th h0 h L
 | [],r=>r
 | a::A,r=>Rep.rest (A:=A) ⟨(r.st.perm ((List.Perm.append_left _ (.swap _ _ _)).trans List.perm_middle)).drop,r.fr,r.eh⟩
variable {c:Ctr}
theorem Qyz [Gd](hc:okC c=true){Ks:KN}{e:Nat}{th:TH}{xs:List LD}(hx:outQ c Ks e l th){F:Env}{h0 h hh:Heap}{L L':List HP}{us:List Value}(r:Rep E th h0 h L)(hd:denL E l=some us)(rF:Rep F (thS c.i xs) h0 hh L')(hle:F.Le0 E) :
  ∃s ys G,c.o[e]?=some s∧wtL ys s.ks∧Ks e ys∧Env.LeK c.i.os F G∧Rep G (thS s ys) h0 h L∧denL G (fvPL id (nthD ys) s.ps 0)=some us:=by
 unfold outQ at hx
 cases hs:c.o[e]? with
 | none=>rw[hs] at hx;exact hx.elim
 | some s=>
  rw[hs] at hx
  simp only at hx
  obtain⟨k1,k2⟩:=QEY hc hs
  obtain⟨F1,ys,prs,th',Ps,g1,g3,g4,g5,g6,g7,g8,g9,g10⟩:=QB1 hx r hd
  have hle:=hle.trans g1.p
  refine⟨s,ys,locE F1 prs s.os.length,rfl,g4,g3,⟨fun j a hk hp=>?_,hle.h,hle.z⟩,Rep.rest g9,g10⟩
  obtain⟨_,h2⟩:=Qxf g5 _ (g6 _ (QFg hk))
  obtain⟨e1,e2⟩:=hle.a j a hp
  have e3:=hle.s j a hp
  have hj2:j<s.os.length:=Nat.lt_of_lt_of_le (Qxv hk) k2
  exact⟨by simp[locE,hj2,h2,e1],by simp[locE,idsA,h2,e2],by simp[locE,idsA,h2,e3]⟩
variable {i:Nat}
theorem QFQ [Gd](hc:okC c=true){cl:Cl}(hcl:ClOk P cl){lf:LF}{fn:Func}{pls:List (Nat×RP)}{np m:Nat}{k:FFn}(hfn:P.funcs[i]?=some fn)(hcall:∀args w,(callFunc i args).run P w=.ok (.enter i args) w)(hk:(match cF P pls np m fn with | some s=>some s.fn | none=>none)=some k)
  (hlp:∀c,fn.body=some c→∀y∈QaT c,∀S∈lf.ls,fidN y=S.l→LcOk P fn.ntmps y S) (sel:FV→TH→Nat) (hb:∀xs (Ks:List LP),wtL xs c.i.ks→c.q xs Ks→runF lf cl k (fvPL id (nthD xs) c.i.ps 0) (thS c.i xs) (retQ c sel (nthK Ks))):QOk P i c:=by
 intro xs Ks hw hq F h0 h L us r hd w hw'
 refine QzB (QFk hcl hfn hcall hk hlp (hb xs Ks hw hq) r hd w hw') fun v h'=>?_
 rintro⟨F1,x,th',hle,hv,rF1,hx⟩
 unfold retQ at hx
 cases hu:Qpu x with
 | none=>rw[hu] at hx;exact hx.elim
 | some l=>
  rw[hu] at hx
  simp only at hx
  obtain⟨us',g1,rfl⟩:=QG5 hu hv
  obtain⟨s,ys,G,h1,h2,h3,h4,h5,h6⟩:=Qyz hc hx rF1 g1 r hle.p
  exact⟨_,s,ys,G,us',h1,h2,h3,h4,h5,h6,rfl⟩
def QFi (S:LCt)(q:LP):KF:=fun fr th=>match getL fr S.i0 with
 | some l=>mtS S.c.i (QtE S.c.i.os 0) l th fun ys _ _=>q ys
 | none=>False
def wayL (x:Option Nat):List (Option Nat×List Nat)→Nat→Option (Nat×List Nat)
 | [],_=>none
 | q::r,n=>bif (match x with
  | some i=>(match q.1 with
   | some j=>Nat.beq i j
   | none=>false)
  | none=>(match q.1 with
   | some _=>false
   | none=>true)) then some (n,q.2) else wayL x r n.succ
def QtG (S:LCt)(Ks:KN)(x:Option Nat):KF:=fun fr th=>match wayL x S.es 0 with
 | some q=>match getL fr q.2 with
  | some l=>outQ S.c Ks q.1 l th
  | none=>False
 | none=>False
theorem QDM {x:Option Nat}{p:Nat×List Nat}:∀ {es:List (Option Nat×List Nat)}{n:Nat},wayL x es n=some p→n≤p.1∧es[p.1 - n]?=some (x,p.2)
 | q::r,n,h=>by
  simp only[wayL] at h
  cases hb:(match x with
  | some i=>(match q.1 with
   | some j=>Nat.beq i j
   | none=>false)
  | none=>(match q.1 with
   | some _=>false
   | none=>true)) with
  | true=>
   rw[hb] at h;simp only[cond_true,sj] at h;subst h
   refine⟨nr,?_⟩
   obtain⟨q1,q2⟩:=q
   have:x=q1:=by
    cases x<;>cases q1<;>simp only at hb<;>first | rfl | (cases hb;done) | rw[Qm hb]
   subst this
   simp
  | false=>
   rw[hb] at h
   obtain⟨h1,h2⟩:=QDM (es:=r) h
   refine⟨om,?_⟩
   have:p.1 - n=(p.1 - n.succ)+1:=om
   rw[this,List.getElem?_cons_succ];exact h2
def QFj (m:Nat)(S:LCt)(xs:List LD):Option Fr:=putL m (.base m .nil) S.i0 (fvPL id (nthD xs) S.c.i.ps 0)
def LCt.at (S:LCt)(q:QF):LCt:=⟨S.l,S.i0,S.es,⟨S.c.i,S.c.o,q⟩⟩
theorem QGr [Gd]{S:LCt}(hc:okC S.c=true){q:Nat→QF}(h0:∀xs Ks,¬q 0 xs Ks){cl:Cl}(hcl:ClOk P cl){n m:Nat}{pls:List (Nat×RP)}{x:Code}{fc:FC}(hx:cC P n m pls x=some fc){lf:LF}(hlp:∀y∈QaT x,∀T∈lf.ls,fidN y=T.l→LcOk P n y T)
  (hb:∀k xs (Ks:List LP),wtL xs S.c.i.ks→q (k+1) xs Ks→match QFj m S xs with
   | some fr=>evC fc cl lf fr (thS S.c.i xs) (QFi S fun ys=>q k ys Ks) (fun i=>QtG S (nthK Ks) (some i)) (QtG S (nthK Ks) none)
   | none=>False):∀k,LcOk P n x (S.at (q k))
 | 0=>⟨hc,fun xs Ks _ hq=>absurd hq (h0 xs Ks)⟩
 | k+1=>⟨hc,fun xs Ks hw hq E h0' L vs w0 w f Q ds r hd hs hg hp hpk hout=>by
  have hbody:=hb k xs Ks hw hq
  cases hf:QFj m S xs with
  | none=>rw[hf] at hbody;exact hbody.elim
  | some fr=>
   rw[hf] at hbody
   simp only at hbody
   obtain⟨p1,p2⟩:=Qys (E:=E) (n:=n) (f:=f) hf (fun t y hy=>by rw[Fr.get_nil] at hy;cases hy) (fun k hk=>Fr.get_nil k m) hd hg
   haveI:=hp
   have out:∀(y:Option Nat) (F:Env) (fr':Fr) (th':TH) (f':Nat→Value) (w':World),E.Le F→AgF F n fr' f'→Rep F th' h0' w'.heap L→Qx w0 w'→QtG S (nthK Ks) y fr' th'→Q (match y with
     | some i=>.exit i
     | none=>.ret) (mkD ds n f') w':=fun y F fr' th' f' w' a1 a2 a3 a4 a5=>by
    unfold QtG at a5
    cases hy:wayL y S.es 0 with
    | none=>rw[hy] at a5;exact a5.elim
    | some p=>
     rw[hy] at a5
     simp only at a5
     cases hl:getL fr' p.2 with
     | none=>rw[hl] at a5;exact a5.elim
     | some l=>
      rw[hl] at a5
      simp only at a5
      obtain⟨us,g1,g2⟩:=Qp3 a2 hl
      obtain⟨s,ys,G,e1,e2,e3,e4,e5,e6⟩:=Qyz hc a5 a3 g1 r a1.p
      obtain⟨_,hes⟩:=QDM hy
      exact hout p.1 s (y,p.2) ys G us f' w' e1 (by simpa [LCt.at] using hes) e2 e3 e4 e5 e6 a4 g2
   refine Qzl ?_
   refine QeD hcl x fc hx lf fr _ _ _ _ E f w (Exit.then (Tn P x Q) Q) hbody p1 p2 r hs Qhg (QfB hpk) hlp (fun F fr' th' f' w' a1 a2 a2' a3 a4 a5=>?_) (fun i F fr' th' f' w' a1 a2 _ a3 a4 a5=>?_) (fun F fr' th' f' w' a1 a2 _ a3 a4 a5=>?_)
   ·show Tn P x Q (mkD ds n f') w'
    unfold QFi at a5
    cases hl:getL fr' S.i0 with
    | none=>rw[hl] at a5;exact a5.elim
    | some l=>
     rw[hl] at a5
     simp only at a5
     obtain⟨us,g1,g2⟩:=Qp3 a2 hl
     have hmt:outQ ⟨S.c.i,[S.c.i],S.c.q⟩ (fun _ ys=>q k ys Ks) 0 l th':=a5
     have hc2:okC ⟨S.c.i,[S.c.i],S.c.q⟩=true:=by
      simp only[okC,Bool.and_eq_true] at hc
      simp[okC,hc.1,Nat.ble_eq,QCe]
     obtain⟨s,ys,G,e1,e2,e3,e4,e5,e6⟩:=Qyz hc2 hmt a3 g1 r a1.p
     simp only[List.getElem?_cons_zero,sj] at e1
     subst e1
     exact (QGr hc h0 hcl hx hlp hb k).2 ys Ks e2 e3 G h0' L us w0 w' f' Q ds e5 e6 a4 g2 hp hpk fun e s q' ys' G' us' f'' w'' b1 b2 b3 b4 b5 b6 b7 b8 b9=>hout e s q' ys' G' us' f'' w'' b1 b2 b3 b4 (e4.trans b5) b6 b7 b8 b9
   ·exact out (some i) F fr' th' f' w' a1 a2 a3 a4 a5
   ·exact out none F fr' th' f' w' a1 a2 a3 a4 a5⟩
variable {q:Nat→QF}
theorem QKm [Gd]{n:Nat}{x:Code}{S:LCt}(h:∀k,LcOk P n x (S.at (q k))):LcOk P n x (S.at fun xs Ks=>∃k,q k xs Ks):=
 ⟨(h 0).1,fun xs Ks hw ⟨k,hq⟩=>(h k).2 xs Ks hw hq⟩
theorem Qnr [Gd]{I:SPt}{O:List SPt}(h:∀k,QOk P i ⟨I,O,q k⟩):QOk P i ⟨I,O,fun xs Ks=>∃k,q k xs Ks⟩:=fun xs Ks hw ⟨k,hq⟩=>h k xs Ks hw hq
end Go.Va
namespace Go.Va
open Go Go.Sh
variable [Vb]
instance gdW:Gd:=⟨False,fun _ _=>False⟩
variable {P:Program}
def QC (P:Program):Tr FFn→Prop
 | .nil=>True
 | .leaf k v=>KOk P k v
 | .node _ l r=>QC P l∧QC P r
theorem QC.get {i:Nat}{f:FFn}:∀ {t:Tr FFn},QC P t→t.get i=some f→KOk P i f
 | .nil,_,h=>by rw[Tr.get_nil] at h;cases h
 | .leaf k v,o,h=>by
  rw[Tr.get_leaf] at h
  cases hb:Nat.beq k i with
  | false=>rw[hb] at h;cases h
  | true=>rw[hb] at h;simp only[cond_true,sj] at h;subst h;rw[←Qm hb];exact o
 | .node m l r,o,h=>by
  rw[Tr.get_node] at h
  cases hb:Nat.blt i m with
  | true=>rw[hb] at h;exact QC.get o.1 h
  | false=>rw[hb] at h;exact QC.get o.2 h
theorem QC.put {k:Nat}{v:FFn}(hv:KOk P k v):∀ {t:Tr FFn},QC P t→QC P (t.put k v)
 | .nil,_=>hv
 | .leaf j u,o=>by
  rw[Tr.put_leaf]
  cases Nat.beq j k with
  | true=>exact hv
  | false=>
   cases Nat.blt j k with
   | true=>exact⟨o,hv⟩
   | false=>exact⟨hv,o⟩
 | .node m l r,o=>by
  rw[Tr.put_node]
  cases Nat.blt k m with
  | true=>exact⟨QC.put hv o.1,o.2⟩
  | false=>exact⟨o.1,QC.put hv o.2⟩
def env0 (h:Heap):Env:=⟨fun _=>none,fun _=>0,fun _=>false,h,[],fun _=>.pointer none⟩
theorem rep0 (h:Heap)(b:Nat)(s:Scr):Rep (env0 h) ⟨skel b 0,0,s⟩ h h []:=⟨by
 show St h h ((skel b 0:Tr TO).all.map (part (env0 h))++[FzP []])
 rw[QvC]
 exact⟨Ext.refl h,fun _=>False,fun q hq=>(by cases hq),fun _ h=>h.elim,trivial⟩,fun _ _=>⟨rfl,rfl⟩,rfl⟩
def nf (l:List Nat):List (Nat×RP):=l.map fun i=>(i,⟨0,[]⟩)
def dd (l:List Nat):List (Nat×RP):=l.map fun i=>(i,⟨999,[]⟩)
end Go.Va
noncomputable section
namespace Go.Va
open Go Go.Sh
variable [Vb]
variable {P:Program}
def CTy:CK→Type
 | .i _=>Int
 | .b=>Bool
 | .s=>Str
 | .p _=>LD
 | .l _=>LD
 | .r _=>List LD
def pj:(k:CK)→LD→CTy k
 | .i _,d=>d.i
 | .b,d=>d.bo
 | .s,d=>d.st
 | .p _,d=>d
 | .l _,d=>d
 | .r _,d=>d.cs
def TelK:List CK→Type
 | []=>Prop
 | k::ks=>CTy k→TelK ks
def cuK (ks0:List CK):(ks:List CK)→TelK ks→(List LD→List LD)→Tel ks.length
 | [],f,g=>wtL (g []) ks0→f
 | k::ks,f,g=>fun y=>cuK ks0 ks (f (pj k y)) fun r=>g (y::r)
def apK (ks:List CK)(f:TelK ks):LP:=apT ks.length (cuK ks ks f fun r=>r)
def QG (tab:Tr FFn)(ls:List LCt)(k:FFn)(c:Ctr)(xs:List LD)(Ks:KN):Prop:=runF ⟨100,ls⟩ (QBd (eng tab 100 100)) k (fvPL id (nthD xs) c.i.ps 0) (thS c.i xs) (retQ c (fun _ _=>0) Ks)
def Qaa (tab:Tr FFn)(ls:List LCt)(m:Nat)(fc:FC)(S:LCt)(xs:List LD)(R:LP)(Ks:KN):Prop:=match QFj m S xs with
 | some fr=>evC fc (QBd (eng tab 100 100)) ⟨100,ls⟩ fr (thS S.c.i xs) (QFi S R) (fun i=>QtG S Ks (some i)) (QtG S Ks none)
 | none=>False
variable {b i m np:Nat}{code:CF}{rs:List RV}
theorem QI3 (h:KOk P i (.f np m b rs code)):∃fn pls np' m',P.funcs[i]?=some fn∧(∀args w,(callFunc i args).run P w=.ok (.enter i args) w)∧(match cF P pls np' m' fn with | some s=>some s.fn | none=>none)=some (.f np m b rs code):=by
 cases h with
 | f fn pls np' m' k h1 h2 h3=>exact⟨fn,pls,np',m',h1,h2,h3⟩
def LsI (P:Program)(i:Nat)(S:LCt):Prop:=∀fn,P.funcs[i]?=some fn→∀c,fn.body=some c→∀y∈QaT c,fidN y=S.l→∀G:Gd,G.Q→@LcOk _ G P fn.ntmps y S
variable {ls:List LCt}
theorem QWD (h:KOk P i (.f np m b rs code))(hl:∀S∈ls,LsI P i S):KOk P i (.l ls (.f np m b rs code)):=by
 obtain⟨fn,pls,np',m',h1,h2,h3⟩:=QI3 h
 exact .l fn pls np' m' _ ls h1 h2 h3 fun c hc y hy S hS hf=>hl S hS fn h1 c hc y hy hf
variable {c:Ctr}{tab:Tr FFn}
theorem q_of (ht:∀i f,tab.get i=some f→KOk P i f)(h:KOk P i (.f np m b rs code))(hl:∀S∈ls,LsI P i S)(hc:okC c=true)
  (hb:∀xs (Ks:List LP),wtL xs c.i.ks→c.q xs Ks→QG tab ls (.f np m b rs code) c xs (nthK Ks)):∀G:Gd,G.Q→@QOk _ G P i c:=fun G hg=>by
 obtain⟨fn,pls,np',m',h1,h2,h3⟩:=QI3 h
 exact QFQ hc (QmV (Qsy hg ht 100)) h1 h2 h3 (fun c hc y hy S hS hf=>hl S hS fn h1 c hc y hy hf G hg) (fun _ _=>0) hb
theorem kq (hc:okC c=true)(h:∀G:Gd,G.Q→@QOk _ G P i c):KOk P i (.q c):=.q c hc h
structure LpOk (P:Program)(i n m l:Nat)(a:FC):Prop where
 h:∃fn:Func,P.funcs[i]?=some fn∧fn.ntmps=n∧∀c,fn.body=some c→∀y∈QaT c,fidN y=l→∃pls,cC P n m pls y=some a
variable {n:Nat}
theorem Qad {fn:Func}{l:Nat}{pls:List (Nat×RP)}{a:FC}(hf:P.funcs[i]?=some fn)(hn:fn.ntmps=n)
  (h:(match fn.body with | some c=>((QaT c).filter (fun y=>Nat.beq (fidN y) l)).map (fun y=>cC P n m pls y) | none=>[])=[some a]):LpOk P i n m l a:=⟨fn,hf,hn,fun c hc y hy hl=>by
 rw[hc] at h
 simp only at h
 have hy':y∈(QaT c).filter (fun y=>Nat.beq (fidN y) l):=List.mem_filter.2 ⟨hy,by simp[hl]⟩
 have h1:=List.mem_map_of_mem (f:=fun y=>cC P n m pls y) hy'
 rw[h] at h1
 exact⟨pls,List.mem_singleton.1 h1⟩⟩
theorem Qae (ht:∀i f,tab.get i=some f→KOk P i f){fc:FC}{S:LCt}(hp:LpOk P i n m S.l fc)(hl:∀T∈ls,LsI P i T)(hc:okC S.c=true){q:Nat→QF}(h0:∀xs Ks,¬q 0 xs Ks)
  (hb:∀k xs (Ks:List LP),wtL xs S.c.i.ks→q (k+1) xs Ks→Qaa tab ls m fc S xs (fun ys=>q k ys Ks) (nthK Ks)):LsI P i (S.at fun xs Ks=>∃k,q k xs Ks):=by
 intro fn hf c hcb y hy hfy G hg
 obtain⟨fn',hf',hn,hh⟩:=hp.h
 rw[hf] at hf';simp only[sj] at hf';subst hf'
 obtain⟨pls,hcc⟩:=hh c hcb y hy hfy
 refine QKm fun k=>?_
 rw[hn]
 exact QGr hc h0 (QmV (Qsy hg ht 100)) hcc (lf:=⟨100,ls⟩) (fun z hz T hT hzT=>by
  have:=hl T hT fn hf c hcb z (QfQ hy hz) hzT G hg
  rw[hn] at this;exact this) (fun k xs Ks hw hq=>hb k xs Ks hw hq) k
end Go.Va
namespace Go.Va
open Go Go.Sh
def pq (i n:Nat)(l:List Nat):Nat×RP:=(i,⟨n,l.map fun x=>(x % 3,x / 3)⟩)
def cdF (P:Program)(pls:List (Nat×RP))(m:Nat)(fn:Func):FC:=match fn.body with
 | some c=>match cC P fn.ntmps m pls c with
  | some x=>x
  | none=>.bad
 | none=>.bad
def cdL (P:Program)(pls:List (Nat×RP))(m l:Nat)(fn:Func):FC:=match fn.body with
 | some c=>match (QaT c).filter (fun y=>Nat.beq (fidN y) l) with
  | y::_=>match cC P fn.ntmps m pls y with
   | some a=>a
   | none=>.bad
  | []=>.bad
 | none=>.bad
variable [Vb]
variable {P:Program}
theorem QKn {i:Nat}{c:Ctr}(h:KOk P i (.q c)):∀G:Gd,G.Q→@QOk _ G P i c:=by
 cases h with
 | q c h1 h2=>exact h2
 | f fn pls np m k h1 h2 h3=>
  exfalso
  cases hs:cF P pls np m fn with
  | none=>rw[hs] at h3;cases h3
  | some s=>rw[hs] at h3;cases s;cases h3
theorem QWu [Gd]{n:Nat}{y:Code}{S:LCt}{q q':QF}(h:∀xs Ks,q xs Ks→q' xs Ks)(hl:LcOk P n y (S.at q')):LcOk P n y (S.at q):=⟨hl.1,fun xs Ks hw hx=>hl.2 xs Ks hw (h xs Ks hx)⟩
end Go.Va
