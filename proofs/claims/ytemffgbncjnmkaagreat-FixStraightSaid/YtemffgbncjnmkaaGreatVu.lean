import Derived.Test.YtemffgbncjnmkaaGreatVdf
set_option linter.unusedVariables false
set_option linter.unusedSectionVars false
set_option linter.unusedSimpArgs false
namespace Go.Va
open Go Go.Sh
variable [Vb]
variable {P:Program}
def oneV:List Value→Value
 | [v]=>v
 | vs=>.tuple vs.toArray
def QLt (c:Ctr)(Ks:Nat→List LD→Prop)(F:Env)(h0:Heap)(L:List HP)(v:Value)(h':Heap):Prop:=
 ∃e s ys G us,c.o[e]?=some s∧wtL ys s.ks∧Ks e ys∧Env.LeK c.i.os F G∧Rep G (thS s ys) h0 h' L∧denL G (fvPL id (nthD ys) s.ps 0)=some us∧v=oneV us
def QOk [Gd] (P:Program)(i:Nat)(c:Ctr):Prop:=∀xs (Ks:List (List LD→Prop)),wtL xs c.i.ks→c.q xs Ks→∀F h0 h L us,Rep F (thS c.i xs) h0 h L→denL F (fvPL id (nthD xs) c.i.ps 0)=some us→∀w:World,w.heap=h→Qd9 P (QLt c (nthK Ks) F h0 L) w ((callFunc i us.toArray).run P w)
def ColE (P:Program)(i k:Nat):Prop:=∀(G:Gd),G.Q→∀(h:Heap) (b r c:Nat),cellAt h ⟨b,0,none⟩=some (.map (some r))→h[r]?=some (.map #[] c)→@HC G P i #[.func (.func k) #[] #[.pointer (some ⟨b,0,none⟩)]] h fun u h'=>u=.slice none 0 0∧Ext h h'
inductive KOk (P:Program)(i:Nat):FFn→Prop
 | f (fn:Func) (pls:List (Nat×RP)) (np m:Nat) (k:FFn):P.funcs[i]?=some fn→(∀args w,(callFunc i args).run P w=.ok (.enter i args) w)→(match cF P pls np m fn with | some s=>some s.fn | none=>none)=some k→KOk P i k
 | cmp:(∀args w,(callFunc i args).run P w=((Extern.BytealgCompare.compare args).run P w).andThen fun v w'=>.ok (.value v) w')→KOk P i (.x .cmp)
 | ixb:(∀args w,(callFunc i args).run P w=((Extern.BytealgIndexByte.indexByte args).run P w).andThen fun v w'=>.ok (.value v) w')→KOk P i (.x .ixb)
 | ce (k:Nat):(∀args w,(callFunc i args).run P w=.ok (.enter i args) w)→ColE P i k→KOk P i (.ce k)
 | t:(∀args w,(callFunc i args).run P w=.ok (.enter i args) w)→(∀w:World,Calls P i #[] w fun e w'=>e=.returned (.bool true)∧Qpp False w w'∧Ext w.heap w'.heap)→KOk P i .t
 | l (fn:Func) (pls:List (Nat×RP)) (np m:Nat) (k:FFn) (ls:List LCt):P.funcs[i]?=some fn→(∀args w,(callFunc i args).run P w=.ok (.enter i args) w)→(match cF P pls np m fn with | some s=>some s.fn | none=>none)=some k→(∀c,fn.body=some c→∀y∈QaT c,∀S∈ls,fidN y=S.l→∀G:Gd,G.Q→@LcOk _ G P fn.ntmps y S)→KOk P i (.l ls k)
 | d (fn:Func) (pls:List (Nat×RP)) (np m g kk:Nat) (k:FFn):P.funcs[i]?=some fn→(∀args w,(callFunc i args).run P w=.ok (.enter i args) w)→(match cFd P pls np m g kk fn with | some s=>some s.fn | none=>none)=some k→(∀cap:Array Value,cap.size=kk→∀w:World,(invoke (.fn (.func g) cap) #[]).run P w=.ok (.enter g cap) w)→QGY P g kk→KOk P i (.l [] k)
 | q (c:Ctr):okC c=true→(∀G:Gd,G.Q→@QOk _ G P i c)→KOk P i (.q c)
theorem Rep.ext {E:Env}{th:TH}{h0 h h':Heap}{L:List HP}(r:Rep E th h0 h L)(hx:Ext h h'):Rep E th h0 h' L:=⟨(r.st.call (L':=[]) ⟨hx,trivial⟩),r.fr,r.eh⟩
theorem QI4 {i:Nat}{fn:Func}(hf:P.funcs[i]?=some fn)(h1:(fn.name == "runtime.NumGoroutine")=false) (h2:fn.body.isNone=true) (h3:Extern.findNext fn=none) (h4:Extern.find fn=some Extern.BytealgCompare.compare):KOk P i (.x .cmp):=
 .cmp fun args w=>run_callFunc_extern hf h1 h2 h3 h4 args w
def FOk [Gd] (P:Program)(fn:Fn1):Prop:=∀i l th K,fn i l th K→∀E h0 h L vs,Rep E th h0 h L→denL E l=some vs→∀w:World,w.heap=h→Qd9 P (Post E h0 L K) w ((callFunc i vs.toArray).run P w)
theorem QmV [Gd]{fn:Fn1}(hf:FOk P fn):ClOk P (QBd fn):=fun f l th K hx E h0 h L fv vs r hfv hl=>by
 cases f<;>try (exact hx.elim)
 rename_i g a b
 cases g<;>try (exact hx.elim)
 rename_i i
 obtain⟨x,y,h1,h2,rfl⟩:=Qo7 hfv
 intro w hw
 have hd:denL E (a++(l++b))=some (x++(vs++y)):=Qc7 h1 (Qc7 hl h2)
 have:=hf i _ th K hx E h0 h L _ r hd w hw
 have e:(Qf9 (.func (.func i) x.toArray y.toArray) vs.toArray).run P w=(callFunc i (x++(vs++y)).toArray).run P w:=by
  simp[Qf9,Deferred.ofValue,invoke]
 rw[e];exact this
theorem QzF {k:Nat}:∀(l:List FV)(i:Nat)(t:Fr),(∀j,i≤j→j<i+l.length→k≠j)→(frame i l t).get k=t.get k
 | [],i,t,_=>rfl
 | x::l,i,t,h=>by
  show (frame i.succ l (t.put i x)).get k=_
  rw[QzF l i.succ (t.put i x) fun j h1 h2=>h j (by omega) (by simp only[List.length_cons];omega),Fr.get_ne _ _ (h i (Nat.le_refl _) (by simp))]
theorem Qva {m b np:Nat}{l:List FV}(h:(List.range np).all (fun i=>(bitN m i).not)=true)(hl:l.length=np):Clean m (frame 0 l (.base m (skel b 0))):=fun k hk=>by
 rw[QzF l 0 _ fun j _ hj e=>?_]
 ·rw[Fr.get_base,hk];rfl
 ·subst e
  have:=List.all_eq_true.1 h k (List.mem_range.2 (by omega))
  rw[hk] at this;cases this
theorem Qv7 {E:Env}{n:Nat}:∀(l:List FV)(vs:List Value)(i:Nat)(t:Fr)(f:Nat→Value),denL E l=some vs→(∀j x,t.get j=some x→j<n∧den E x=some (f j))→i+l.length≤n→(∀j v,vs[j]?=some v→f (i+j)=v)→AgF E n (frame i l t) f
 | [],vs,i,t,f,h,ht,_,_=>ht
 | x::l,vs,i,t,f,h,ht,hn,hf=>by
  obtain⟨v,vs',h1,h2,rfl⟩:=QR h
  simp only[List.length_cons] at hn
  refine Qv7 l vs' (i+1) (t.put i x) f h2 (fun j y hy=>?_) (by omega) (fun j u hu=>by
   have:=hf (j+1) u (by simpa using hu)
   rw[←this];congr 1;omega)
  by_cases hj:j=i
  ·subst hj
   rw[Fr.get_eq] at hy;simp only[Option.some.injEq] at hy;subst hy
   exact⟨by omega,by rw[h1,←hf 0 v rfl];rfl⟩
  ·rw[Fr.get_ne _ _ hj] at hy;exact ht j y hy
theorem QA6 {E:Env}{th:TH}{h0:Heap}{L:List HP}{n:Nat}{fr:Fr}{f:Nat→Value}{w:World}(ha:AgF E n fr f)(r:Rep E th h0 w.heap L):∀ {rs:List ResultVar}{rv:List RV}{l:List FV},cRV P n rs=some rv→evRV fr th.t rv=some l →
  ∃vs,denL E l=some vs∧(rs.mapM (rone (mk n f).tmps)).run P w=.ok vs w
 | [],rv,l,hc,hx=>by
  simp only[cRV,Option.some.injEq] at hc;subst hc
  simp only[evRV,Option.some.injEq] at hx;subst hx
  exact⟨[],rfl,rfl⟩
 | .tmp t::rs,rv,l,hc,hx=>by
  simp only[cRV] at hc
  cases h1:cRV P n rs with
  | none=>rw[h1] at hc;cases hc
  | some rv'=>
   rw[h1] at hc
   simp only at hc
   cases hb:Nat.blt t n with
   | false=>rw[hb] at hc;cases hc
   | true=>
    rw[hb] at hc;simp only[cond_true,Option.some.injEq] at hc;subst hc
    simp only[evRV] at hx
    cases h2:fr.get t with
    | none=>rw[h2] at hx;cases hx
    | some x=>
     cases h3:evRV fr th.t rv' with
     | none=>rw[h2,h3] at hx;cases hx
     | some l'=>
      rw[h2,h3] at hx;simp only[Option.some.injEq] at hx;subst hx
      obtain⟨vs,g1,g2⟩:=QA6 ha r h1 h3
      refine⟨f t::vs,Qau (ha t x h2).2 g1,?_⟩
      rw[List.mapM_cons,Sem.run_bind]
      have:(rone (mk n f).tmps (.tmp t)).run P w=.ok (f t) w:=by simp only[rone,QD8 n f t hb];rfl
      rw[this,Result.andThen_ok,Sem.run_bind,g2];rfl
 | .cell a t::rs,rv,l,hc,hx=>by
  simp only[cRV] at hc
  cases hb:agO P t with
  | none=>rw[hb] at hc;cases hc
  | some b=>
   cases hk:szO P t with
   | none=>rw[hb,hk] at hc;cases hc
   | some k=>
    cases h1:cRV P n rs with
    | none=>rw[hb,hk,h1] at hc;cases hc
    | some rv'=>
     rw[hb,hk,h1] at hc
     simp only at hc
     cases hcc:Nat.blt a n&&Nat.blt 0 k with
     | false=>rw[hcc] at hc;cases hc
     | true=>
      rw[hcc] at hc;simp only[cond_true,Option.some.injEq] at hc;subst hc
      simp only[Bool.and_eq_true] at hcc
      simp only[evRV] at hx
      cases h2:fr.get a with
      | none=>rw[h2] at hx;cases hx
      | some x=>
       rw[h2] at hx
       simp only at hx
       cases h4:ldF th.t k b x with
       | none=>rw[h4] at hx;cases hx
       | some y=>
        cases h3:evRV fr th.t rv' with
        | none=>rw[h4,h3] at hx;cases hx
        | some l'=>
         rw[h4,h3] at hx;simp only[Option.some.injEq] at hx;subst hx
         obtain⟨vs,g1,g2⟩:=QA6 ha r h1 h3
         have hd:=(ha a x h2).2
         obtain⟨v,hv1,hv2⟩:=QH9 r hk hb (QaQ hcc.2) hd h4
         refine⟨v::vs,Qau hv2 g1,?_⟩
         rw[List.mapM_cons,Sem.run_bind]
         have hrone:(rone (mk n f).tmps (.cell a t)).run P w=.ok v w:=by
          have h5:=hv1 w rfl
          cases x<;>try (simp[ldF] at h4;done)
          obtain⟨ad,_,hfa⟩:=Qca hd
          rw[hfa] at h5
          simp only[rone,QD8 n f a hcc.1,hfa,asAddr,pure_bind]
          unfold nv at h5
          rw[Sem.run_bind] at h5
          simp only[Instr.loadAt,Instr.sureAddr,pure_bind] at h5
          generalize (loadVar t _).run P w=q at h5 ⊢
          cases q with
          | ok z w'=>simp only[Result.andThen,pure,Sem.run] at h5;injection h5 with h6 h7;injection h6 with h8;rw[h8,h7]
          | halt z w'=>simp[Result.andThen] at h5
         rw[hrone,Result.andThen_ok,Sem.run_bind,g2];rfl
theorem QBL {s:Sem (List Value)}{vs:List Value}{w:World}(h:s.run P w=.ok vs w):(do let vs ←s;pure (match vs with | [v]=>v | vs=>Value.tuple vs.toArray):Sem Value).run P w=.ok (oneV vs) w:=by
 rw[Sem.run_bind,h]
 match vs with
 | []=>rfl
 | [_]=>rfl
 | _::_::_=>rfl
theorem QyB {E:Env}:∀ {l:List FV}{vs:List Value},denL E l=some vs→den E (one1 l)=some (oneV vs)
 | [],vs,h1=>by simp only[denL,Option.some.injEq] at h1;subst h1;rfl
 | [x],vs,h1=>by
  obtain⟨v,vs',g1,g2,rfl⟩:=QR h1
  simp only[denL,Option.some.injEq] at g2;subst g2
  exact g1
 | x::y::r,vs,h1=>by
  obtain⟨v,vs',g1,g2,rfl⟩:=QR h1
  obtain⟨v2,vs2,g3,g4,rfl⟩:=QR g2
  simp only[one1,den,h1,oneV]
theorem QFP [Gd]{E:Env}{th:TH}{h0:Heap}{L:List HP}{n:Nat}{fr:Fr}{f:Nat→Value}{w w0:World}{fn:Func}{rv:List RV}{K:FV→TH→Prop}{E0:Env}(hle:E0.Le E)(ha:AgF E n fr f)(r:Rep E th h0 w.heap L)(hs:Qx w0 w)(hc:cRV P n fn.results.toList=some rv)(hx:retK rv K fr th) :
  bodyPost P fn (QgN w0 (Post E0 h0 L K)) .ret (mk n f) w∧bodyPost P fn (QgN w0 (Post E0 h0 L K)) .normal (mk n f) w:=by
 unfold retK at hx
 cases hl:evRV fr th.t rv with
 | none=>rw[hl] at hx;exact hx.elim
 | some l=>
  rw[hl] at hx
  obtain⟨vs,h1,h2⟩:=QA6 ha r hc hl
  have hres:(results fn (mk n f).tmps).run P w=.ok (oneV vs) w:=by
   rw[QrL (rs:=fn.results.toList) (by simp)]
   exact QBL h2
  have hden:den E (one1 l)=some (oneV vs):=QyB h1
  have fin:QgN w0 (Post E0 h0 L K) (.returned (oneV vs)) w:=.inl ⟨_,rfl,hs,E,one1 l,th,hle,hden,r,hx⟩
  exact⟨QHj hres fin,QHk hres fin⟩
theorem Qvb:∀a b:List UInt8,-1≤Lib.compareBytes a b∧Lib.compareBytes a b≤1
 | [],[]=>by simp[Lib.compareBytes]
 | [],_::_=>by simp[Lib.compareBytes]
 | _::_,[]=>by simp[Lib.compareBytes]
 | a::x,b::y=>by
  have ih:=Qvb x y
  simp only[Lib.compareBytes]
  split
  ·omega
  ·split
   ·omega
   ·exact ih
theorem QJv {E:Env}{a b x:FV}{u v:Value}(h:cmpN a b=some x)(h1:den E a=some u)(h3:den E b=some v)(w:World):∃r,den E x=some r∧(Extern.BytealgCompare.compare #[u,v]).run P w=.ok r w:=by
 unfold cmpN at h
 cases hs:strV a with
 | none=>rw[hs] at h;cases h
 | some s=>
  cases ht:strV b with
  | none=>rw[hs,ht] at h;cases h
  | some t=>
   rw[hs,ht] at h
   simp only[Option.some.injEq] at h;subst h
   have e1:=(QgQ hs h1).1
   have e2:=(QgQ ht h3).1
   subst e1 e2
   refine⟨.int .i64 (Lib.compareBytes s t),?_,?_⟩
   ·simp only[den,SE.ev]
    have:=Qvb s t
    exact if_pos ⟨this.1,this.2⟩
   ·have:=Lib.run_compareString (P:=P) ⟨s.toArray⟩ ⟨t.toArray⟩ w
    simp only[str]
    rw[this]
theorem QKL {E:Env}{l:List FV}{vs:List Value}{x:FV}(h:evE .cmp l=some x)(hd:denL E l=some vs)(w:World):∃v,den E x=some v∧(Extern.BytealgCompare.compare vs.toArray).run P w=.ok v w:=by
 match l,h with
 | [a,b],h=>
  simp only[evE] at h
  have opn:cmpN a b=some x→∃v,den E x=some v∧(Extern.BytealgCompare.compare vs.toArray).run P w=.ok v w:=fun h=>by
   obtain⟨u,vs1,h1,h2,rfl⟩:=QR hd
   obtain⟨v,vs2,h3,h4,rfl⟩:=QR h2
   simp only[denL,Option.some.injEq] at h4;subst h4
   exact QJv h h1 h3 w
  cases a<;>try (exact opn h)
  cases b<;>try (exact opn h)
  rename_i a b
  simp only[Option.some.injEq] at h;subst h
  obtain⟨u,vs1,h1,h2,rfl⟩:=QR hd
  obtain⟨v,vs2,h3,h4,rfl⟩:=QR h2
  simp only[denL,Option.some.injEq] at h4;subst h4
  obtain⟨ha,rfl⟩:=Qcr h1
  obtain⟨hb,rfl⟩:=Qcr h3
  refine⟨_,rfl,?_⟩
  have:=Lib.run_compareString (P:=P) ⟨(a.map UInt8.ofNat).toArray⟩ ⟨(b.map UInt8.ofNat).toArray⟩ w
  simp only[str]
  rw[this]
  congr 2
  have key:∀a b:List Nat,Q0 a=true→Q0 b=true→Lib.compareBytes (a.map UInt8.ofNat) (b.map UInt8.ofNat)=bif llt a b then .negSucc 0 else bif leq a b then .ofNat 0 else .ofNat 1:=by
   intro a
   induction a with
   | nil=>
    intro b _ _
    cases b with
    | nil=>simp[Lib.compareBytes,QFa,QGn]
    | cons c r=>simp[Lib.compareBytes,QGi]
   | cons c r ih=>
    intro b ha hb
    cases b with
    | nil=>simp[Lib.compareBytes,QFa,QB9]
    | cons d s=>
     obtain⟨h1,h2⟩:=QeI ha
     obtain⟨h3,h4⟩:=QeI hb
     have hlt:∀ {m n:Nat},m<256→n<256→((UInt8.ofNat m<UInt8.ofNat n)↔m<n):=fun {m n} hm hn=>by
      rw[UInt8.lt_iff_toNat_lt];simp[Nat.mod_eq_of_lt hm,Nat.mod_eq_of_lt hn]
     simp only[List.map_cons,Lib.compareBytes,QGk,QCa,bl,bq,hlt h1 h3,hlt h3 h1]
     by_cases hcd:c<d
     ·simp[hcd]
     ·by_cases hdc:d<c
      ·simp[hcd,hdc,show ¬c=d by omega]
      ·have:c=d:=by omega
       subst this
       simp[ih s h2 h4]
  have e:=key a b ha hb
  simpa using e
 | [],h=>cases h
 | [_],h=>cases h
 | _::_::_::_,h=>cases h
theorem QGx {c:Nat}(hc:c<256):∀ {l:List Nat}(i:Nat),Q0 l=true→∀f:Nat→Bool,(∀j,j<l.length→f (i+j)=decide (l[j]?=some c))→(List.range' i l.length).find? f=ixN c l i
 | [],i,_,f,_=>rfl
 | a::r,i,h,f,hf=>by
  have h0:=hf 0 (by simp)
  simp only[Nat.add_zero,List.getElem?_cons_zero,Option.some.injEq] at h0
  simp only[List.length_cons,List.range'_succ,List.find?_cons,ixN]
  by_cases e:a=c
  ·subst e;rw[h0,Nat.beq_refl];simp
  ·rw[h0,Qct e,decide_eq_false e]
   simp only[cond_false]
   refine QGx hc (i+1) ?_ f fun j hj=>?_
   ·simp only[Q0,List.all_cons,Bool.and_eq_true] at h;exact h.2
   ·have:=hf (j+1) (by simpa using hj)
    rw[show i+1+j=i+(j+1) by omega,this]
    simp
theorem QKo {E:Env}{l:List FV}{vs:List Value}{x:FV}(h:evE .ixb l=some x)(hd:denL E l=some vs)(w:World):∃v,den E x=some v∧(Extern.BytealgIndexByte.indexByte vs.toArray).run P w=.ok v w:=by
 match l,h with
 | [a,b],h=>
  simp only[evE] at h
  cases a<;>try (cases h;done)
  rename_i a
  cases b<;>try (cases h;done)
  rename_i k n
  cases n<;>try (cases h;done)
  rename_i c
  simp only at h
  cases hk:keq k .u8&&Nat.blt c 256 with
  | false=>rw[hk] at h;cases h
  | true=>
   rw[hk] at h
   simp only[cond_true,Option.some.injEq] at h;subst h
   simp only[Bool.and_eq_true] at hk
   have hc:=QaQ hk.2
   have:=QdB hk.1;subst this
   obtain⟨u,vs1,h1,h2,rfl⟩:=QR hd
   obtain⟨v,vs2,h3,h4,rfl⟩:=QR h2
   simp only[denL,Option.some.injEq] at h4;subst h4
   obtain⟨ha,rfl⟩:=Qcr h1
   simp only[den,Option.some.injEq] at h3;subst h3
   refine⟨_,rfl,?_⟩
   have hf:=QGx hc 0 ha (fun i=>(⟨(a.map UInt8.ofNat).toArray⟩:ByteArray)[i]! == UInt8.ofNat c) fun j hj=>by
    have hja:a[j]?=some a[j]:=List.getElem?_eq_getElem hj
    have hlt:=QaQ (List.all_eq_true.1 ha _ (List.getElem_mem hj))
    have hb:(⟨(a.map UInt8.ofNat).toArray⟩:ByteArray)[j]! = UInt8.ofNat a[j]:=by
     have hj2:j<(⟨(a.map UInt8.ofNat).toArray⟩:ByteArray).size:=by show j<(a.map UInt8.ofNat).toArray.size;simpa using hj
     have hj3:j<(a.map UInt8.ofNat).toArray.size:=by simpa using hj
     rw[getElem!_pos (⟨(a.map UInt8.ofNat).toArray⟩:ByteArray) j hj2]
     show (a.map UInt8.ofNat).toArray[j]'hj3=_
     simp
    rw[Nat.zero_add,hb,hja]
    rw[Bool.eq_iff_iff]
    simp only[beq_iff_eq,decide_eq_true_eq,Option.some.injEq]
    constructor
    ·intro e
     have:=congrArg UInt8.toNat e
     simpa [Nat.mod_eq_of_lt hlt,Nat.mod_eq_of_lt hc] using this
    ·intro e;rw[e]
   rw[←List.range_eq_range'] at hf
   have hcb:(Int.ofNat c).toNat.toUInt8=UInt8.ofNat c:=rfl
   have hsz:(⟨(a.map UInt8.ofNat).toArray⟩:ByteArray).size=a.length:=by show (a.map UInt8.ofNat).toArray.size=_;simp
   have e:Extern.BytealgIndexByte.indexByte [str (a.map UInt8.ofNat),.int .u8 (Int.ofNat c)].toArray=(match (List.range (⟨(a.map UInt8.ofNat).toArray⟩:ByteArray).size).find? fun i=>(⟨(a.map UInt8.ofNat).toArray⟩:ByteArray)[i]! == UInt8.ofNat c with
    | some i=>pure (goInt i)
    | none=>pure (goInt (-1)):Sem Value):=rfl
   rw[e,hsz,hf]
   cases ixN c a 0<;>rfl
 | [],h=>cases h
 | [_],h=>cases h
 | _::_::_::_,h=>cases h
theorem QKG [Gd] (hg:Gd.Q ‹Gd›){i k':Nat}(hcall:∀args w,(callFunc i args).run P w=.ok (.enter i args) w)(hcol:ColE P i k'){l:List FV}{th:TH}{K:FV→TH→Prop}(hx:colF k' l th K)
  {E:Env}{h0 h:Heap}{L:List HP}{vs:List Value} (r:Rep E th h0 h L) (hd:denL E l=some vs) (w:World) (hw:w.heap=h):Qd9 P (Post E h0 L K) w ((callFunc i vs.toArray).run P w):=by
 rcases l with _ | ⟨x,_ | ⟨_,_⟩⟩<;>try (exact hx.elim)
 cases x<;>try (exact hx.elim)
 rename_i g a b
 cases g<;>try (exact hx.elim)
 rename_i k
 cases a<;>try (exact hx.elim)
 simp only[colF,colB] at hx
 replace hx:=Q1 hx
 obtain⟨hk1,hx⟩:=hx
 have hk:=Qm hk1
 subst hk
 rcases b with _ | ⟨y,_ | ⟨_,_⟩⟩<;>try (exact hx.elim)
 cases y<;>try (exact hx.elim)
 rename_i j o
 cases o<;>try (exact hx.elim)
 simp only at hx
 cases hgj:th.t.get j with
 | none=>rw[hgj] at hx;exact hx.elim
 | some ob=>
  rw[hgj] at hx
  rcases ob with⟨cs,kk⟩ | ⟨dd,mm⟩ | ⟨ii,cc,bb⟩ | ⟨rr⟩<;>try (exact hx.elim)
  cases kk<;>try (exact hx.elim)
  cases cs<;>try (exact hx.elim)
  rename_i y cs
  cases y<;>try (exact hx.elim)
  rename_i i'
  simp only at hx
  cases hgi:th.t.get i' with
  | none=>rw[hgi] at hx;exact hx.elim
  | some ob=>
   rw[hgi] at hx
   rcases ob with⟨_,_⟩ | ⟨d,m⟩ | ⟨ii,cc,bb⟩ | ⟨rr⟩<;>try (exact hx.elim)
   cases m<;>try (exact hx.elim)
   simp only at hx
   obtain⟨a,us,post,hc,s⟩:=r.told hgj
   have ho:=(hc.2.2.2.1 rfl).2
   obtain⟨b0,us',q1,q2,rfl⟩:=QR hc.2.1
   obtain⟨ad,hp,rfl⟩:=QeF q1
   obtain⟨S0,⟨bk,off,T,pre,po,ea,_,hb,hoff⟩,_⟩:=s.get
   simp only[Value.pointer.injEq,Option.some.injEq] at ea
   subst ea
   have ho:off=0:=ho
   subst ho
   have hpre:pre=[]:=List.length_eq_zero_iff.1 hoff.symm
   subst hpre
   have hcell:cellAt h ⟨bk,0,none⟩=some (.map (some ad.block)):=by
    simp[cellAt,hb]
   obtain⟨ad',l,g1,g2,hok,q,e,hbm⟩:=r.readM hgi
   rw[hp] at g1;simp only[Option.some.injEq] at g1;subst g1
   simp only[Value.map.injEq,Option.some.injEq] at e
   rw[←e] at hbm
   have hvs:vs=[.func (.func k') #[] #[.pointer (some ⟨bk,0,none⟩)]]:=by
    simp only[denL,den,hc.1,Option.some.injEq] at hd
    rw[←hd];rfl
   subst hvs
   rw[hcall]
   refine⟨Qx.refl w,?_⟩
   rw[hw]
   simp only[denM,Option.some.injEq] at g2;subst g2
   refine HC.mono (hcol _ hg h bk ad.block _ hcell hbm) fun u h'=>?_
   rintro⟨rfl,st⟩
   exact Post.same (x:=.nsl) rfl (r.ext st) hx
theorem QFk [Gd]{cl:Cl}(hcl:ClOk P cl){lf:LF}{i:Nat}{fn:Func}{pls:List (Nat×RP)}{np m:Nat}{k:FFn}(hfn:P.funcs[i]?=some fn)(hcall:∀args w,(callFunc i args).run P w=.ok (.enter i args) w)(hk:(match cF P pls np m fn with | some s=>some s.fn | none=>none)=some k)
  (hlp:∀c,fn.body=some c→∀y∈QaT c,∀S∈lf.ls,fidN y=S.l→LcOk P fn.ntmps y S) {l:List FV}{th:TH}{K:FV→TH→Prop} (hx:runF lf cl k l th K) {E:Env}{h0 h:Heap}{L:List HP}{vs:List Value} (r:Rep E th h0 h L) (hd:denL E l=some vs) (w:World) (hw:w.heap=h) :
  Qd9 P (Post E h0 L K) w ((callFunc i vs.toArray).run P w):=by
 rw[hcall]
 refine⟨Qx.refl w,?_⟩
 cases hs:cF P pls np m fn with
 | none=>rw[hs] at hk;cases hk
 | some s=>
  rw[hs] at hk;simp only[Option.some.injEq] at hk;subst hk
  unfold cF at hs
  cases hb:fn.body with
  | none=>rw[hb] at hs;cases hs
  | some c=>
   rw[hb] at hs
   simp only at hs
   cases hrv:cRV P fn.ntmps fn.results.toList with
   | none=>rw[hrv] at hs;cases hs
   | some rv=>
    cases hcc:cC P fn.ntmps m pls c with
    | none=>rw[hrv,hcc] at hs;cases hs
    | some fc=>
     rw[hrv,hcc] at hs
     simp only at hs
     cases hnp:Nat.ble np fn.ntmps&&(List.range np).all (fun i=>(bitN m i).not) with
     | false=>rw[hnp] at hs;cases hs
     | true=>
      rw[hnp] at hs;simp only[cond_true,Option.some.injEq] at hs;subst hs
      simp only[FSn.fn,runF] at hx
      obtain⟨hlen,hx⟩:=Q1 hx
      have hlen:=Qm hlen
      simp only[Bool.and_eq_true] at hnp
      have hmk:=hnp.2
      have hnp:=Qag hnp.1
      have hvl:=QS hd
      have hargs:vs.toArray++Array.replicate (fn.ntmps - vs.toArray.size) undef=(mk fn.ntmps fun i=>vs.getD i undef).tmps:=by
       simp only[mkD]
       apply Array.ext
       ·simp;omega
       ·intro j g1 g2
        simp only[List.getElem_toArray,List.getElem_map,List.getElem_range]
        rw[Array.getElem_append]
        split
        ·rename_i hj
         simp only[List.size_toArray] at hj
         simp[List.getD,hj]
        ·rename_i hj
         simp only[List.size_toArray] at hj
         simp[List.getD,List.getElem?_eq_none (Nat.le_of_not_lt hj)]
      refine QHA (n:=fn.ntmps) hfn hb rfl hargs fun w1 hw1=>?_
      have ha:AgF E fn.ntmps (frame 0 l (.base m (skel (Nat.succ (Nat.log2 fn.ntmps)) 0))) fun i=>vs.getD i undef:=Qv7 l vs 0 (.base m (skel (Nat.succ (Nat.log2 fn.ntmps)) 0)) _ hd (fun j x hj=>by rw[Fr.get_skel] at hj;cases hj) (by omega) (fun j v hj=>by simp[List.getD,hj])
      refine QeD hcl c fc hcc lf _ th _ _ _ E _ w1 _ hx ha (Qva hmk hlen) (by rw[hw1,hw];exact r) (Qx.refl w1) QFU QBI (hlp c hb) (fun F fr' th' f' w' a1 a2 _ a3 a4 a5=>(QFP a1 a2 a3 a4 hrv a5).2) (fun j F fr' th' f' w' a1 a2 _ a3 a4 a5=>a5.elim) (fun F fr' th' f' w' a1 a2 _ a3 a4 a5=>(QFP a1 a2 a3 a4 hrv a5).1)
theorem QKb [Gd]{E:Env}{th:TH}{h0:Heap}{L:List HP}{n:Nat}{fr:Fr}{f:Nat→Value}{w w0:World}{fn:Func}{rv:List RV}{K:FV→TH→Prop}{E0:Env}(hle:E0.Le E)(ha:AgF E n fr f)(r:Rep E th h0 w.heap L)(hs:Qx w0 w)(hc:cRV P n fn.results.toList=some rv)(hx:retK rv K fr th) :
  ∃v,(results fn (mk n f).tmps).run P w=.ok v w∧QgN w0 (Post E0 h0 L K) (.returned v) w:=by
 unfold retK at hx
 cases hl:evRV fr th.t rv with
 | none=>rw[hl] at hx;exact hx.elim
 | some l=>
  rw[hl] at hx
  obtain⟨vs,h1,h2⟩:=QA6 ha r hc hl
  have hres:(results fn (mk n f).tmps).run P w=.ok (oneV vs) w:=by
   rw[QrL (rs:=fn.results.toList) (by simp)]
   exact QBL h2
  exact⟨_,hres,.inl ⟨_,rfl,hs,E,one1 l,th,hle,QyB h1,r,hx⟩⟩
theorem QKt [G:Gd] (hpn:∀x h,¬Gd.pn x h){cl:Cl}(hcl:ClOk P cl){lf:LF}{i:Nat}{fn:Func}{pls:List (Nat×RP)}{np m g kk:Nat}{k:FFn}(hfn:P.funcs[i]?=some fn)(hcall:∀args w,(callFunc i args).run P w=.ok (.enter i args) w)(hk:(match cFd P pls np m g kk fn with | some s=>some s.fn | none=>none)=some k)
  (hi:∀cap:Array Value,cap.size=kk→∀w:World,(invoke (.fn (.func g) cap) #[]).run P w=.ok (.enter g cap) w) (hidle:QGY P g kk)
  (hlp:∀c,fn.body=some c→∀y∈QaT c,∀S∈lf.ls,fidN y=S.l→LcOk P fn.ntmps y S) {l:List FV}{th:TH}{K:FV→TH→Prop} (hx:runF lf cl k l th K) {E:Env}{h0 h:Heap}{L:List HP}{vs:List Value} (r:Rep E th h0 h L) (hd:denL E l=some vs) (w:World) (hw:w.heap=h) :
  Qd9 P (Post E h0 L K) w ((callFunc i vs.toArray).run P w):=by
 rw[hcall]
 refine⟨Qx.refl w,?_⟩
 cases hs:cFd P pls np m g kk fn with
 | none=>rw[hs] at hk;cases hk
 | some s=>
  rw[hs] at hk;simp only[Option.some.injEq] at hk;subst hk
  unfold cFd at hs
  cases hb:fn.body with
  | none=>rw[hb] at hs;cases hs
  | some c=>
   rw[hb] at hs
   simp only at hs
   cases hrv:cRV P fn.ntmps fn.results.toList with
   | none=>rw[hrv] at hs;cases hs
   | some rv=>
    cases hcc:cD P fn.ntmps m pls g kk c with
    | none=>rw[hrv,hcc] at hs;cases hs
    | some fc=>
     rw[hrv,hcc] at hs
     simp only at hs
     cases hnp:Nat.ble np fn.ntmps&&(List.range np).all (fun i=>(bitN m i).not) with
     | false=>rw[hnp] at hs;cases hs
     | true=>
      rw[hnp] at hs;simp only[cond_true,Option.some.injEq] at hs;subst hs
      simp only[FSn.fn,runF] at hx
      obtain⟨hlen,hx⟩:=Q1 hx
      have hlen:=Qm hlen
      simp only[Bool.and_eq_true] at hnp
      have hmk:=hnp.2
      have hnp:=Qag hnp.1
      have hvl:=QS hd
      have hargs:vs.toArray++Array.replicate (fn.ntmps - vs.toArray.size) undef=(mk fn.ntmps fun i=>vs.getD i undef).tmps:=by
       simp only[mkD]
       apply Array.ext
       ·simp;omega
       ·intro j g1 g2
        simp only[List.getElem_toArray,List.getElem_map,List.getElem_range]
        rw[Array.getElem_append]
        split
        ·rename_i hj
         simp only[List.size_toArray] at hj
         simp[List.getD,hj]
        ·rename_i hj
         simp only[List.size_toArray] at hj
         simp[List.getD,List.getElem?_eq_none (Nat.le_of_not_lt hj)]
      intro w1 hw1
      refine calls_of_wp_defers hfn hb ?_
      rw[hargs]
      have ha:AgF E fn.ntmps (frame 0 l (.base m (skel (Nat.succ (Nat.log2 fn.ntmps)) 0))) fun i=>vs.getD i undef:=Qv7 l vs 0 (.base m (skel (Nat.succ (Nat.log2 fn.ntmps)) 0)) _ hd (fun j x hj=>by rw[Fr.get_skel] at hj;cases hj) (by omega) (fun j v hj=>by simp[List.getD,hj])
      refine Code.wp_mono (Q:=fun e a w=>match e with
       | .panic _=>False
       | e=>bodyPostD P fn (QgN w1 (Post E h0 L K)) e a w) (fun e a w h=>by cases e<;>first | exact h | exact h.elim) ?_
      have hb0:∀ {F fr' th'}{f':Nat→Value}{w':World},E.Le F→AgF F fn.ntmps fr' f'→Rep F th' h0 w'.heap L→Qx w1 w'→retK rv K fr' th'→Leaves P fn (mk fn.ntmps f').tmps (QgN w1 (Post E h0 L K)) [] .returning w':=fun a1 a2 a3 a4 a5=>by
       obtain⟨v,q1,q2⟩:=QKb a1 a2 a3 a4 hrv a5
       exact⟨v,q1,q2⟩
      have hb1:∀ {cap:Array Value},cap.size=kk→∀ {F fr' th'}{f':Nat→Value}{w':World},E.Le F→AgF F fn.ntmps fr' f'→Rep F th' h0 w'.heap L→Qx w1 w'→retK rv K fr' th'→Leaves P fn (mk fn.ntmps f').tmps (QgN w1 (Post E h0 L K)) (clD g cap) .returning w':=fun hcap F fr' th' f' w' a1 a2 a3 a4 a5=>by
       refine leaves_cons (by simp) (hi _ hcap w') ((hidle G _ w'.heap hcap w' rfl).mono ?_)
       rintro e u' w'' ⟨⟨v,rfl⟩,rfl,hs1,hh⟩
       exact hb0 a1 a2 (by rw[hh];exact a3) (a4.trans hs1) a5
      refine QGG hpn hcl c fc hcc lf _ th _ _ _ E _ w1 _ hx ha (Qva hmk hlen) (by rw[hw1,hw];exact r) (Qx.refl w1) ⟨fun _ _ _ _ _ h=>h⟩ (hlp c hb) (fun j F fr' th' f' w' a1 a2 _ a3 a4 a5=>a5.elim) (fun F fr' th' f' w' a1 a2 _ a3 a4 a5=>hb0 a1 a2 a3 a4 a5) fun cap hcap=>⟨fun F fr' th' f' w' a1 a2 _ a3 a4 a5=>hb1 hcap a1 a2 a3 a4 a5,fun j F fr' th' f' w' a1 a2 _ a3 a4 a5=>a5.elim,fun F fr' th' f' w' a1 a2 _ a3 a4 a5=>hb1 hcap a1 a2 a3 a4 a5⟩
theorem QzB [Gd]{K K':Value→Heap→Prop}{w:World}:∀ {r:Result Next},Qd9 P K w r→(∀v h',K v h'→K' v h')→Qd9 P K' w r
 | .ok (.value v) w',⟨a,b⟩,hk=>⟨a,hk _ _ b⟩
 | .ok .skip w',⟨a,b⟩,hk=>⟨a,hk _ _ b⟩
 | .ok (.enter f args) w',⟨a,b⟩,hk=>⟨a,b.mono hk⟩
 | .halt (.panic x) w',h,_=>h
theorem QIL [Gd]{i:Nat}{c:Ctr}(hc:okC c=true)(hq:QOk P i c){l:List FV}{th:TH}{K:FV→TH→Prop}(hx:runQ c l th fun _ vs th=>rsl0 (one1 vs) th K){E:Env}{h0 h:Heap}{L:List HP}{vs:List Value}(r:Rep E th h0 h L)(hd:denL E l=some vs)(w:World)(hw:w.heap=h) :
  Qd9 P (Post E h0 L K) w ((callFunc i vs.toArray).run P w):=by
 simp only[runQ] at hx
 obtain⟨F1,xs,prs,th',Ps,g1,g3,g4,g5,_,g6,g7,g8,g9⟩:=QB1 hx r hd
 refine QzB (hq xs _ g4 g3 _ h0 h _ vs g8 g9 w hw) fun v h'=>?_
 rintro⟨e,s,ys,G,us,h1,h3,h4,h5,h6,h7,rfl⟩
 have h4:=Qzw h1 h4 h3
 simp only[outK] at h4
 obtain⟨k1,k2⟩:=QEY hc h1
 obtain⟨F,f1,f2,f3⟩:=QIf (E:=F1) (th:=th') k1 k2 g5 g6 g7 h5 h6
 have f3:=QyB (f3 us h7)
 obtain⟨y,sc,y1,y2⟩:=QvD h4
 exact⟨F,y,_,g1.trans f1,y1 F _ f3,f2.scrp sc,y2⟩
theorem Qsy [Gd] (hgd:Gd.Q ‹Gd›){tab:Tr FFn}{lf:Nat}(ht:∀i f,tab.get i=some f→KOk P i f):∀n,FOk P (eng tab lf n)
 | 0=>fun i l th K hx=>hx.elim
 | n+1=>fun i l th K hx E h0 h L vs r hd w hw=>by
  simp only[eng] at hx
  cases hg:tab.get i with
  | none=>rw[hg] at hx;exact hx.elim
  | some f=>
   rw[hg] at hx
   simp only at hx
   have hk0:=ht i f hg
   clear hg
   induction hk0 with
   | q c hc hq=>exact QIL hc (hq _ hgd) hx r hd w hw
   | cmp hrun=>
    simp only[runF] at hx
    cases he:evE .cmp l with
    | none=>rw[he] at hx;exact hx.elim
    | some x=>
     rw[he] at hx
     obtain⟨v,g1,g2⟩:=QKL (P:=P) he hd w
     rw[hrun,g2]
     exact⟨Qx.refl w,by rw[hw];exact Post.same g1 r hx⟩
   | ixb hrun=>
    simp only[runF] at hx
    cases he:evE .ixb l with
    | none=>rw[he] at hx;exact hx.elim
    | some x=>
     rw[he] at hx
     obtain⟨v,g1,g2⟩:=QKo (P:=P) he hd w
     rw[hrun,g2]
     exact⟨Qx.refl w,by rw[hw];exact Post.same g1 r hx⟩
   | ce k hcall hcol=>exact QKG hgd hcall hcol hx r hd w hw
   | t hcall hrun=>
    cases l with
    | cons _ _=>exact hx.elim
    | nil=>
     simp only[runF] at hx
     simp only[denL,Option.some.injEq] at hd
     subst hd
     rw[hcall]
     refine⟨Qx.refl w,fun w1 hw1=>(hrun w1).mono ?_⟩
     rintro e w' ⟨rfl,hs,hxt⟩
     rw[hw1,hw] at hxt
     exact .inl ⟨_,rfl,⟨hs.os,hs.tape,hs.output,fun q=>absurd q hgd.1⟩,Post.same rfl (r.ext hxt) hx⟩
   | f fn pls np m k hfn hcall hk=>exact QFk (QmV (Qsy hgd ht n)) hfn hcall hk (fun _ _ _ _ S hS _=>by cases hS) hx r hd w hw
   | d fn pls np m g kk k hfn hcall hk hi hidle=>exact QKt hgd.2 (QmV (Qsy hgd ht n)) hfn hcall hk hi hidle (fun _ _ _ _ S hS _=>by cases hS) hx r hd w hw
   | l fn pls np m k ls hfn hcall hk hls=>exact QFk (lf:=⟨lf,ls⟩) (QmV (Qsy hgd ht n)) hfn hcall hk (fun c hc y hy S hS hl=>hls c hc y hy S hS hl _ hgd) hx r hd w hw
end Go.Va
