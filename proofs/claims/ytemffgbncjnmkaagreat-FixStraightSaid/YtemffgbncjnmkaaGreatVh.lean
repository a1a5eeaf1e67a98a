import Derived.Test.YtemffgbncjnmkaaGreatVf
import Derived.Laws.StructEq
set_option linter.unusedVariables false
set_option linter.unusedSectionVars false
set_option linter.unusedSimpArgs false
namespace Go.Va
open Go Go.Sh
variable [Vb]
variable {P:Program}
theorem bind_some {α β:Type}{x:Option α}{f:α→Option β}{r:β}(h:x.bind f=some r):∃a,x=some a∧f a=some r:=by
 cases x with
 | none=>cases h
 | some a=>exact⟨a,rfl,h⟩
theorem add_add (a:Addr)(m n:Nat):(a.add m).add n=a.add (m+n):=by
 have:=QFW (.pointer (some a)) m n
 simpa [padd] using this
theorem Rep.read {E:Env}{th:TH}{h0 h:Heap}{L:List HP}(r:Rep E th h0 h L){i:Nat}{cs:List FV}{k:Nat}(hg:th.t.get i=some (.cells cs k)) :
  ∃a vs,E.p i=some a∧denL E cs=some vs∧cs.all oneF=true∧Rd h (.pointer (some a)) vs:=by
 obtain⟨a,vs,post,hc,s⟩:=r.told hg
 refine⟨a,vs,hc.1,hc.2.1,hc.2.2.1,?_⟩
 have:=s.rd.take vs.length
 rwa [List.take_left] at this
theorem Rep.readR {E:Env}{th:TH}{h0 h:Heap}{L:List HP}(r:Rep E th h0 h L){i:Nat}{cs:List FV}(hg:th.t.get i=some (.ro cs)) :
  ∃a vs,E.p i=some a∧denL E cs=some vs∧cs.all oneF=true∧Rd h (.pointer (some a)) vs:=by
 obtain⟨a,vs,hc,s⟩:=r.toldR hg
 exact⟨a,vs,hc.1,hc.2.1,hc.2.2.1,hc.2.2.2 h r.fz⟩
theorem QmX {cs:List FV}(h:cs.all oneF=true)(n m:Nat):((cs.drop n).take m).all oneF=true:=by
 rw[List.all_eq_true] at *
 intro x hx
 exact h x (List.mem_of_mem_drop (List.mem_of_mem_take hx))
theorem QH9 {E:Env}{th:TH}{h0 h:Heap}{L:List HP}(r:Rep E th h0 h L){t:TypeId}{k:Nat}{b:Bool}(hk:szO P t=some k)(hb:agO P t=some b)(hk0:0<k){x y:FV}{v:Value}(hv:den E x=some v)
  (hx:ldF th.t k b x=some y):Qnx P t v (Eq h) fun v=>den E y=some v:=by
 cases x<;>try (simp[ldF] at hx;done)
 rename_i i o
 simp only[ldF] at hx
 obtain⟨a',ha',rfl⟩:=Qca hv
 have key:∀cs:List FV,(∃a vs,E.p i=some a∧denL E cs=some vs∧cs.all oneF=true∧Rd h (.pointer (some a)) vs)→ldG k b o cs=some y→Qnx P t (.pointer (some (a'.add o))) (Eq h) fun v=>den E y=some v:=by
  intro cs hr hx
  unfold ldG at hx
  obtain⟨a,vs,h1,h2,h3,h4⟩:=hr
  rw[h1] at ha'
  simp only[Option.some.injEq] at ha'
  subst ha'
  have hp:Value.pointer (some (a.add o))=padd (.pointer (some a)) o:=rfl
  rw[hp]
  cases b with
  | true=>
   simp only at hx
   cases ht:Qbb k (Qaz o cs) with
   | none=>rw[ht] at hx;cases hx
   | some l=>
    rw[ht] at hx
    simp only[Option.some.injEq] at hx
    subst hx
    obtain⟨h5,h6⟩:=Qcd ht
    rw[Qbo] at h5 h6
    haveI:=Qjr hb
    haveI:=QbA hk
    have hl:=QS h2
    refine QF1 (fun h' e=>e ▸ h4) ⟨a,rfl⟩ (by rw[List.length_drop] at h6;omega) ?_
    have h7:=QfV k (QeM o h2)
    rw[←h5] at h7
    simp only[den,h7]
    rw[if_pos (by rw[h5];exact QmX h3 o k)]
  | false=>
   simp only at hx
   haveI:=Qjr hb
   obtain⟨u,h5,h6⟩:=Qji h2 (QeW hx)
   exact QF2 (fun h' e=>e ▸ h4) h5 h6
 cases hg:th.t.get i with
 | none=>rw[hg] at hx;cases hx
 | some ob=>
  rw[hg] at hx
  rcases ob with⟨cs,kk⟩ | ⟨dd,mm⟩ | ⟨ii,cc,bb⟩ | ⟨rr⟩
  ·exact key cs (r.read hg) hx
  ·cases hx
  ·cases hx
  ·exact key rr (r.readR hg) hx
  ·cases hx
  ·cases hx
  ·cases hx
  ·cases hx
def OI (r:Option Nat)(w:Option Value):Prop:=match r with
 | none=>w=none
 | some n=>∃k,w=some (.int k (n:Int))
theorem QgF {E:Env}{fr:Fr}{ρ:Operand→Value}(hρ:AgO E fr ρ){x:Option Operand}{z:Option Opd}{r:Option Nat}(hc:c1O x=some z)(hx:evI fr z=some r):OI r (x.map ρ):=by
 cases x with
 | none=>
  simp only[c1O,Option.some.injEq] at hc;subst hc
  simp only[evI,Option.some.injEq] at hx;subst hx
  rfl
 | some x=>
  simp only[c1O] at hc
  cases ha:c1 x with
  | none=>rw[ha] at hc;cases hc
  | some a=>
   rw[ha] at hc;simp only[Option.some.injEq] at hc;subst hc
   simp only[evI] at hx
   cases hv:evO fr a with
   | none=>rw[hv] at hx;cases hx
   | some v=>
    rw[hv] at hx
    simp only at hx
    cases v<;>try (cases hx;done)
    rename_i k n
    cases n with
    | negSucc m=>cases hx
    | ofNat m=>
     simp only[Option.some.injEq] at hx;subst hx
     have:=hρ x a _ ha hv
     simp only[den,Option.some.injEq] at this
     exact⟨k,by simp only[Option.map_some];rw[←this];rfl⟩
theorem Qko {b:Bool}{len cap:Nat}{lo hi mx:Option Nat}{lo' hi' mx':Option Value}(h1:OI lo lo')(h2:OI hi hi')(h3:OI mx mx')(hm:mx=none∨hi≠none)
  (c1:gD mx cap≤cap) (c2:hi=none∨gD hi len≤gD mx cap) (c3:lo=none∨gD lo 0≤gD hi len) (w:World) :
  (Instr.sliceBounds b len cap lo' hi' mx').run P w=.ok (gD lo 0,gD hi len,gD mx cap) w:=by
 cases mx with
 | none=>
  cases h3
  cases hi with
  | none=>
   cases h2
   cases lo with
   | none=>cases h1;simp[Instr.sliceBounds,gD]
   | some l=>
    obtain⟨k,rfl⟩:=h1
    simp only[gD,reduceCtorEq,false_or] at c3
    simp[Instr.sliceBounds,gD,run_sliceBound,c3]
  | some h=>
   obtain⟨k,rfl⟩:=h2
   simp only[gD,reduceCtorEq,false_or] at c2
   cases lo with
   | none=>cases h1;simp[Instr.sliceBounds,gD,run_sliceBound,c2]
   | some l=>
    obtain⟨k',rfl⟩:=h1
    simp only[gD,reduceCtorEq,false_or] at c3
    simp[Instr.sliceBounds,gD,run_sliceBound,c2,c3]
 | some m=>
  obtain⟨k,rfl⟩:=h3
  cases hi with
  | none=>rcases hm with h | h<;>simp at h
  | some h=>
   obtain⟨k',rfl⟩:=h2
   simp only[gD,reduceCtorEq,false_or] at c1 c2
   cases lo with
   | none=>cases h1;simp[Instr.sliceBounds,gD,run_sliceBound,c1,c2]
   | some l=>
    obtain⟨k'',rfl⟩:=h1
    simp only[gD,reduceCtorEq,false_or] at c3
    simp[Instr.sliceBounds,gD,run_sliceBound,c1,c2,c3]
theorem QDY {E:Env}{k:Nat}{x r:FV}{lo hi mx:Option Nat}{v:Value}(hv:den E x=some v)(h:slcF k x lo hi mx=some r) :
  ∃a len cap,v=.slice a len cap∧(mx=none∨hi≠none)∧gD mx cap≤cap∧gD hi len≤gD mx cap∧gD lo 0≤gD hi len∧den E r=some (sliced a (gD lo 0) (gD hi len) (gD mx cap) k):=by
 cases x<;>try (simp[slcF] at h;done)
 case nsl=>
  simp only[den,Option.some.injEq] at hv;subst hv
  simp only[slcF] at h
  cases hb:(mxok mx hi&&(Nat.beq (gD lo 0) 0&&Nat.beq (gD hi 0) 0&&Nat.beq (gD mx 0) 0)) with
  | false=>rw[hb] at h;cases h
  | true=>
   rw[hb] at h;simp only[cond_true,Option.some.injEq] at h;subst h
   simp only[Bool.and_eq_true] at hb
   obtain⟨h0,⟨h1,h2⟩,h3⟩:=hb
   have h1:=Qm h1;have h2:=Qm h2;have h3:=Qm h3
   refine⟨none,0,0,rfl,?_,by omega,by omega,by omega,?_⟩
   ·cases mx with
    | none=>exact .inl rfl
    | some m=>cases hi with
     | none=>cases h0
     | some x=>exact .inr (by simp)
   ·rw[h1,h2,h3];simp[sliced,den]
 case sl i off offz len cap=>
  obtain⟨a,c,hp,rfl,hc⟩:=QeE hv
  cases cap with
  | lit c'=>
   simp only at hc
   subst hc
   simp only[slcF] at h
   refine⟨_,len,c,rfl,?_⟩
   cases mx with
   | none=>
    simp only at h
    cases hb:(Nat.ble (gD hi len) c&&Nat.ble (gD lo 0) (gD hi len)) with
    | false=>rw[hb] at h;cases h
    | true=>
     rw[hb] at h;simp only[cond_true,Option.some.injEq] at h;subst h
     simp only[Bool.and_eq_true] at hb
     refine⟨.inl rfl,Nat.le_refl _,Qag hb.1,Qag hb.2,?_⟩
     simp only[den,hp,sliced,QeC,bq]
     generalize gD lo 0=l
     by_cases he:c=l
     ·simp[he]
     ·simp[he,add_add]
   | some m=>
    cases hi with
    | none=>simp at h
    | some x=>
     simp only at h
     cases hb:(Nat.ble m c&&Nat.ble x m&&Nat.ble (gD lo 0) x) with
     | false=>rw[hb] at h;cases h
     | true=>
      rw[hb] at h;simp only[cond_true,Option.some.injEq] at h;subst h
      simp only[Bool.and_eq_true] at hb
      refine⟨.inr (by simp),Qag hb.1.1,Qag hb.1.2,Qag hb.2,?_⟩
      simp only[den,hp,sliced,Qdg,bq]
      generalize gD lo 0=l
      by_cases he:m=l
      ·simp[he]
      ·simp[he,add_add]
  | hid j=>
   simp only at hc
   obtain⟨hle,rfl⟩:=hc
   simp only[slcF] at h
   refine⟨_,len,_,rfl,?_⟩
   cases mx with
   | none=>
    simp only at h
    cases hb:(Nat.ble (gD hi len) len&&Nat.ble (gD lo 0) (gD hi len)) with
    | false=>rw[hb] at h;cases h
    | true=>
     rw[hb] at h;simp only[cond_true,Option.some.injEq] at h;subst h
     simp only[Bool.and_eq_true] at hb
     have h1:=Qag hb.1
     have h2:=Qag hb.2
     refine⟨.inl rfl,Nat.le_refl _,by simp only[QeC];omega,h2,?_⟩
     simp only[den,hp,sliced,QeC]
     generalize gD lo 0=l at *
     generalize gD hi len=x at *
     rw[if_pos (by omega)]
     simp only[bq]
     by_cases he:E.c i - j=l
     ·have e1:E.c i=j+l:=by omega
      by_cases h0:l=0
      ·subst h0
       have e2:E.c i=j:=by omega
       simp[e2]
      ·have e2:¬E.c i=j:=by omega
       simp[h0,e2,he,e1]
       try omega
     ·have e1:¬E.c i=j+l:=by omega
      have e2:¬E.c i=j:=by omega
      simp[he,e1,e2,add_add]
      try omega
   | some m=>
    cases hi with
    | none=>simp at h
    | some x=>
     simp only at h
     cases hb:(Nat.ble m len&&Nat.ble x m&&Nat.ble (gD lo 0) x&&Nat.blt 0 len) with
     | false=>rw[hb] at h;cases h
     | true=>
      rw[hb] at h;simp only[cond_true,Option.some.injEq] at h;subst h
      simp only[Bool.and_eq_true] at hb
      have h1:=Qag hb.1.1.1
      have h2:=QaQ hb.2
      refine⟨.inr (by simp),by simp only[gD];omega,Qag hb.1.1.2,Qag hb.1.2,?_⟩
      simp only[den,hp,sliced,Qdg,bq]
      generalize gD lo 0=l at *
      have hne:¬E.c i=j:=by omega
      by_cases he:m=l
      ·simp[he,hne]
      ·simp[he,hne,add_add]
end Go.Va
namespace Go.Va
open Go Go.Sh
variable [Vb]
variable {P:Program}
theorem QI7 {place:Nat→Option (Nat×Nat)}{i off sz:Nat}{v:Value}{c:Array Value}{rest:List (Nat×Value)}(hp:place i=some (off,sz))(hv:v.cells.size=sz)(hle:off+sz≤c.size) :
  Instr.fill place c ((i,v)::rest)=Instr.fill place (setAt c.toList off v.cells.toList).toArray rest:=by
 rw[Instr.fill]
 have h1:¬(off+sz > c.size):=by omega
 simp only[hp,hv,ne_eq,not_true_eq_false,decide_false,h1,Bool.or_false,Bool.false_eq_true,if_false]
 have h2:(v.cells.zipIdx.foldl (fun cs (p:Value×Nat)=>cs.setIfInBounds (off+p.2) p.1) c)=(setAt c.toList off v.cells.toList).toArray:=by
  have key2:∀(l:List Value) (j:Nat) (c:Array Value),(l.zipIdx j).foldl (fun cs (p:Value×Nat)=>cs.setIfInBounds (off+p.2) p.1) c=(setAt c.toList (off+j) l).toArray:=by
   intro l
   induction l with
   | nil=>intro j c;simp[setAt]
   | cons y l ih=>
    intro j c
    simp only[List.zipIdx_cons,List.foldl_cons,setAt]
    rw[ih]
    simp[Nat.add_assoc]
  rw[←Array.foldl_toList,Array.toList_zipIdx]
  exact key2 _ 0 c
 rw[h2]
theorem Qv8 {E:Env}{place:Nat→Option (Nat×Nat)}:∀ {ps:List (Nat×FV)}{pl:List (Nat×Nat)}{cs r:List FV}{vs us:List Value}{ks:List (Nat×Value)},
  Qc4 cs pl ps=some r→denL E cs=some vs→cs.all oneF=true→denL E (ps.map (·.2))=some us→ks=(ps.map (·.1)).zip us→(∀(j:Nat) (p:Nat×FV) (q:Nat×Nat),ps[j]?=some p→pl[j]?=some q→place p.1=some q) →
  ∃ws,Instr.fill place vs.toArray ks=some ws.toArray∧denL E r=some ws∧r.all oneF=true
 | [],[],cs,r,vs,us,ks,h,hd,ho,hu,hk,hp=>by
  simp only[Qc4,Option.some.injEq] at h;subst h
  simp only[List.map_nil,List.zip_nil_left] at hk;subst hk
  exact⟨vs,by simp[Instr.fill],hd,ho⟩
 | [],_::_,cs,r,vs,us,ks,h,_,_,_,_,_=>by simp[Qc4] at h
 | _::_,[],cs,r,vs,us,ks,h,_,_,_,_,_=>by simp[Qc4] at h
 | (i,v)::ps,(off,sz)::pl,cs,r,vs,us,ks,h,hd,ho,hu,hk,hp=>by
  simp only[Qc4] at h
  cases hb:(Nat.beq (QbI v).length sz&&QfE v) with
  | false=>rw[hb] at h;cases h
  | true=>
   rw[hb] at h
   simp only[cond_true] at h
   simp only[Bool.and_eq_true] at hb
   obtain⟨hb,hnt⟩:=hb
   have hsz:=Qm hb
   obtain⟨u,us',h1,h2,rfl⟩:=QR hu
   have hc:=QcN h1
   have hl:=QS hc
   cases hs:splO (QbI v) off cs with
   | none=>rw[hs] at h;cases h
   | some cs'=>
    rw[hs] at h
    simp only at h
    obtain⟨h3,h4⟩:=Qhd hs
    have h5:denL E cs'=some (setAt vs off u.cells.toList):=by rw[h3];exact Qhw off hd hc
    have h6:(QbI v).all oneF=true:=Qij h1 (QjT hnt)
    obtain⟨ws,h7,h8,h9⟩:=Qv8 (place:=place) h h5 (by rw[h3];exact Ql9 ho h6) h2 rfl (fun j p q hj hq=>hp (j+1) p q (by simpa using hj) (by simpa using hq))
    refine⟨ws,?_,h8,h9⟩
    subst hk
    simp only[List.map_cons,List.zip_cons_cons]
    have hvl:=QS hd
    rw[QI7 (hp 0 (i,v) (off,sz) rfl rfl) (by rw[←hsz,←hl];simp) (by rw[List.size_toArray,hvl,←hsz];omega)]
    simpa using h7
theorem Qrs {α:Type}:∀ {v:List (Nat×FV)}{l:List (Nat×Operand)}{f:Nat×Operand→α},v.map (·.1)=l.map (·.1)→(v.map (·.1)).zip (l.map f)=l.map fun p=>(p.1,f p)
 | [],[],_,_=>rfl
 | [],_::_,_,h=>by simp at h
 | _::_,[],_,h=>by simp at h
 | p::v,q::l,f,h=>by
  simp only[List.map_cons,List.cons.injEq] at h
  simp only[List.map_cons,List.zip_cons_cons,h.1,Qrs h.2]
theorem QDZ {l:List (Nat×Nat)}:∀ {ps:List (Nat×Operand)}{pl:List (Nat×Nat)},plsL l ps=some pl→∀(j:Nat)(i:Nat)(q:Nat×Nat),(ps.map (·.1))[j]?=some i→pl[j]?=some q→l[i]?=some q
 | [],pl,h,j,i,q,hj,_=>by simp at hj
 | (a,b)::ps,pl,h,j,i,q,hj,hq=>by
  simp only[plsL] at h
  cases h1:l[a]? with
  | none=>rw[h1] at h;cases h
  | some p=>
   cases h2:plsL l ps with
   | none=>rw[h1,h2] at h;cases h
   | some r=>
    rw[h1,h2] at h;simp only[Option.some.injEq] at h;subst h
    cases j with
    | zero=>simp only[List.map_cons,List.getElem?_cons_zero,Option.some.injEq] at hj hq;subst hj hq;exact h1
    | succ j=>exact QDZ h2 j i q (by simpa using hj) (by simpa using hq)
theorem Qyt {k:Nat}:∀ {ps:List (Nat×Operand)}(j:Nat)(i:Nat)(q:Nat×Nat),(ps.map (·.1))[j]?=some i→(plsK k ps)[j]?=some q→(i * k,k)=q
 | [],j,i,q,hj,_=>by simp at hj
 | (a,b)::ps,j,i,q,hj,hq=>by
  cases j with
  | zero=>simp only[List.map_cons,List.getElem?_cons_zero,Option.some.injEq,plsK] at hj hq;subst hj;exact hq
  | succ j=>exact Qyt (ps:=ps) j i q (by simpa using hj) (by simpa [plsK] using hq)
theorem Qzu {ps:List (Nat×Operand)}{l:List (Nat×FV)}{pl:List (Nat×Nat)}{place:Nat→Option (Nat×Nat)}(h1:l.map (·.1)=ps.map (·.1))(h:∀(j:Nat)(i:Nat)(q:Nat×Nat),(ps.map (·.1))[j]?=some i→pl[j]?=some q→place i=some q) :
  ∀(j:Nat) (p:Nat×FV) (q:Nat×Nat),l[j]?=some p→pl[j]?=some q→place p.1=some q:=fun j p q hj hq=>h j p.1 q (by rw[←h1,List.getElem?_map,hj];rfl) hq
theorem QFV:∀ {fs:List Field}{l:List (Nat×Nat)},plT P fs=some l→fs.mapM (fun f=>(P.info? f.type).map fun i=>(f.offset,i.size))=some l
 | [],l,h=>by simp only[plT,Option.some.injEq] at h;subst h;rfl
 | f::r,l,h=>by
  simp only[plT] at h
  cases hi:P.info? f.type with
  | none=>rw[hi] at h;cases h
  | some i=>
   cases hr:plT P r with
   | none=>rw[hi,hr] at h;cases h
   | some l'=>rw[hi,hr] at h;simp only[Option.some.injEq] at h;subst h;simp[List.mapM_cons,hi,QFV hr]
theorem QGH {E:Env}{neg:Bool}{t:TypeId}{d:TypeDesc}{kd:EqK}{x y:Operand}{a b:FV}{u v:Value}{r:Bool}(hd:P.underlying t=some d)(he:eqT d=some kd)(hu:den E a=some u)(hv:den E b=some v)(h:eqbF kd a b=some r) :
  oBin P (match neg with | true=>.neq | false=>.eql) t x y u v fun w=>w=.bool (match neg with | true=>r.not | false=>r):=by
 have key:(∀(m:Nat) w,(Op.equalIn (m+1) t u v).run P w=.ok r w)→(∀k n,u≠.int k n)→(∀k n,u≠.float k n)→(∀k m n,u≠.complex k m n)→(∀s,u≠.string s)→u≠.nilIface→(∀l,u≠.agg l) →
   oBin P (match neg with | true=>.neq | false=>.eql) t x y u v fun w=>w=.bool (match neg with | true=>r.not | false=>r):=fun hr h1 h2 h3 h4 h5 h6=>by
  refine Sp.of (v:=.bool (match neg with | true=>r.not | false=>r)) (fun w=>QA ?_) rfl
  have hg:∀op:BinOp,(eqGuard op t x y u v).run P w=.ok () w:=fun op=>by
   cases u<;>first | exact absurd rfl h5 | exact absurd rfl (h6 _) | (cases op<;>simp[eqGuard])
  have hb:∀nn:Bool,(binOp (match nn with | true=>.neq | false=>.eql) t u v).run P w=.ok (.bool (match nn with | true=>r.not | false=>r)) w:=fun nn=>by
   have h9:=hr 9999 w
   cases u<;>first | exact absurd rfl (h1 _ _) | exact absurd rfl (h2 _ _) | exact absurd rfl (h3 _ _ _) | exact absurd rfl (h4 _) | (cases nn<;>simp only[binOp,Op.equal,Op.maxDepth]<;>simp[h9])
  rw[Sem.run_bind,hg,Result.andThen_ok]
  exact hb neg
 cases kd with
 | b=>
  have hd':d=.bool:=by cases d<;>simp[eqT] at he;rfl
  subst hd'
  cases a<;>try (simp[eqbF] at h;done)
  cases b<;>try (simp[eqbF] at h;done)
  rename_i a b
  simp only[den,Option.some.injEq] at hu hv;subst hu hv
  simp only[eqbF,Option.some.injEq] at h
  refine key (fun m w=>?_) (by simp) (by simp) (by simp) (by simp) (by simp) (by simp)
  have:=run_underlying hd w
  subst h
  simp only[Op.equalIn]
  rw[Sem.run_bind,this,Result.andThen_ok]
  cases a<;>cases b<;>rfl
 | p=>
  obtain⟨e,rfl⟩:∃e,d=.pointer e:=by cases d<;>simp[eqT] at he;exact⟨_,rfl⟩
  have run:=run_underlying hd
  cases a<;>try (simp[eqbF] at h;done)
  ·simp only[den,Option.some.injEq] at hu;subst hu
   refine key (fun m w=>?_) (by simp) (by simp) (by simp) (by simp) (by simp) (by simp)
   cases b<;>try (simp[eqbF] at h;done)
   ·simp only[den,Option.some.injEq] at hv;subst hv
    simp only[eqbF,Option.some.injEq] at h;subst h
    simp only[Op.equalIn];rw[Sem.run_bind,run w,Result.andThen_ok];rfl
   ·obtain⟨a,_,rfl⟩:=Qca hv
    simp only[eqbF,Option.some.injEq] at h;subst h
    simp only[Op.equalIn];rw[Sem.run_bind,run w,Result.andThen_ok];rfl
  ·obtain⟨a,_,rfl⟩:=Qca hu
   refine key (fun m w=>?_) (by simp) (by simp) (by simp) (by simp) (by simp) (by simp)
   cases b<;>try (simp[eqbF] at h;done)
   simp only[den,Option.some.injEq] at hv;subst hv
   simp only[eqbF,Option.some.injEq] at h;subst h
   simp only[Op.equalIn];rw[Sem.run_bind,run w,Result.andThen_ok];rfl
 | s=>
  obtain⟨e,rfl⟩:∃e,d=.slice e:=by cases d<;>simp[eqT] at he;exact⟨_,rfl⟩
  have run:=run_underlying hd
  cases a<;>try (simp[eqbF] at h;done)
  ·simp only[den,Option.some.injEq] at hu;subst hu
   refine key (fun m w=>?_) (by simp) (by simp) (by simp) (by simp) (by simp) (by simp)
   cases b<;>try (simp[eqbF] at h;done)
   ·simp only[den,Option.some.injEq] at hv;subst hv
    simp only[eqbF,Option.some.injEq] at h;subst h
    simp only[Op.equalIn];rw[Sem.run_bind,run w,Result.andThen_ok];rfl
   ·obtain⟨a,c,_,rfl,_⟩:=QeE hv
    simp only[eqbF,Option.some.injEq] at h;subst h
    simp only[Op.equalIn];rw[Sem.run_bind,run w,Result.andThen_ok];rfl
  ·obtain⟨a,c,_,rfl,_⟩:=QeE hu
   refine key (fun m w=>?_) (by simp) (by simp) (by simp) (by simp) (by simp) (by simp)
   cases b<;>try (simp[eqbF] at h;done)
   simp only[den,Option.some.injEq] at hv;subst hv
   simp only[eqbF,Option.some.injEq] at h;subst h
   simp only[Op.equalIn];rw[Sem.run_bind,run w,Result.andThen_ok];rfl
 | f=>
  obtain⟨p,q,z,rfl⟩:∃p q z,d=.func p q z:=by cases d<;>simp[eqT] at he;exact⟨_,_,_,rfl⟩
  have run:=run_underlying hd
  cases a<;>try (simp[eqbF] at h;done)
  ·simp only[den,Option.some.injEq] at hu;subst hu
   refine key (fun m w=>?_) (by simp) (by simp) (by simp) (by simp) (by simp) (by simp)
   cases b<;>try (simp[eqbF] at h;done)
   ·simp only[den,Option.some.injEq] at hv;subst hv
    simp only[eqbF,Option.some.injEq] at h;subst h
    simp only[Op.equalIn];rw[Sem.run_bind,run w,Result.andThen_ok];rfl
   ·obtain⟨a,c,_,_,rfl⟩:=Qo7 hv
    simp only[eqbF,Option.some.injEq] at h;subst h
    simp only[Op.equalIn];rw[Sem.run_bind,run w,Result.andThen_ok];rfl
  ·obtain⟨a,c,_,_,rfl⟩:=Qo7 hu
   refine key (fun m w=>?_) (by simp) (by simp) (by simp) (by simp) (by simp) (by simp)
   cases b<;>try (simp[eqbF] at h;done)
   simp only[den,Option.some.injEq] at hv;subst hv
   simp only[eqbF,Option.some.injEq] at h;subst h
   simp only[Op.equalIn];rw[Sem.run_bind,run w,Result.andThen_ok];rfl
end Go.Va
