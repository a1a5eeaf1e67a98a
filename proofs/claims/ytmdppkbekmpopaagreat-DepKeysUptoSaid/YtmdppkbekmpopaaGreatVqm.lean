import Derived.Test.YtmdppkbekmpopaaGreatVf
import Derived.Laws.StructEq
set_option linter.unusedVariables false
set_option linter.unusedSimpArgs false
set_option linter.unusedSectionVars false
namespace Go.Va
open Go Go.Sh
variable [Vb]
variable {P:Program}
theorem bS {α β:Type}{x:Option α}{f:α→Option β}{r:β}(h:x.bind f=some r):∃a,x=some a∧f a=some r:=by
 cases x with
 | none=>cases h
 | some a=>exact⟨a,rfl,h⟩
theorem add_add (a:Addr)(m n:Nat):(a.add m).add n=a.add (m+n):=by
 have:=QFW (.pointer (some a)) m n
 simpa [padd] using this
variable {E:Env}{L:List HP}{cs:List FV}{h h0:Heap}{i k:Nat}{th:TH}
theorem Rep.read (r:Rep E th h0 h L)(hg:th.t.get i=some (.cells cs k)) :
  ∃a vs,E.p i=some a∧denL E cs=some vs∧cs.all oneF=true∧Rd h (.pointer (some a)) vs:=by
 obtain⟨a,vs,post,hc,s⟩:=r.told hg
 refine⟨a,vs,hc.1,hc.2.1,hc.2.2.1,?_⟩
 have:=s.rd.take vs.length
 rwa [List.take_left] at this
theorem Rep.readR (r:Rep E th h0 h L)(hg:th.t.get i=some (.ro cs)) :
  ∃a vs,E.p i=some a∧denL E cs=some vs∧cs.all oneF=true∧Rd h (.pointer (some a)) vs:=by
 obtain⟨a,vs,hc,s⟩:=r.toldR hg
 exact⟨a,vs,hc.1,hc.2.1,hc.2.2.1,hc.2.2.2 h r.fz⟩
theorem QmX (h:cs.all oneF=true)(n m:Nat):((cs.drop n).take m).all oneF=true:=by
 rw[List.all_eq_true] at *
 intro x hx
 exact h x (List.mem_of_mem_drop (List.mem_of_mem_take hx))
variable {b:Bool}{v:Value}{x:FV}
theorem QH9 (r:Rep E th h0 h L){t:TypeId}(hk:szO P t=some k)(hb:agO P t=some b)(hk0:0<k){y:FV}(hv:den E x=some v)
  (hx:ldF th.t k b x=some y):Qnx P t v (Eq h) fun v=>den E y=some v:=by
 cases x<;>try (simp[ldF] at hx;done)
 rename_i i o
 simp only[ldF] at hx
 obtain⟨a',ha',rfl⟩:=Qca hv
 have key:∀cs:List FV,(∃a vs,E.p i=some a∧denL E cs=some vs∧cs.all oneF=true∧Rd h (.pointer (some a)) vs)→ldG k b o cs=some y→Qnx P t (.pointer (some (a'.add o))) (Eq h) fun v=>den E y=some v:=by
  intro cs hr hx
  unfold ldG at hx
  obtain⟨a,vs,h1,h2,h3,h4⟩:=hr
  rw[h1] at ha'
  simp only[sj] at ha'
  subst ha'
  have hp:Value.pointer (some (a.add o))=padd (.pointer (some a)) o:=rfl
  rw[hp]
  cases b with
  | true=>
   simp only at hx
   cases ht:Qbb k (Qaz o cs) with
   | none=>rw[ht] at hx;cases hx
   | some l=>
    rw[ht] at hx
    cases sJ hx
    obtain⟨h5,h6⟩:=Qcd ht
    rw[Qbo] at h5 h6
    haveI:=Qjr hb
    haveI:=QbA hk
    have hl:=QS h2
    refine QF1 (fun h' e=>e ▸ h4) ⟨a,rfl⟩ (by rw[List.length_drop] at h6;omega) ?_
    have h7:=QfV k (QeM o h2)
    rw[←h5] at h7
    simp only[den,h7]
    rw[if_pos (by rw[h5];exact QmX h3 o k)]
  | false=>
   simp only at hx
   haveI:=Qjr hb
   obtain⟨u,h5,h6⟩:=Qji h2 (QeW hx)
   exact QF2 (fun h' e=>e ▸ h4) h5 h6
 cases hg:th.t.get i with
 | none=>rw[hg] at hx;cases hx
 | some ob=>
  rw[hg] at hx
  rcases ob with⟨cs,kk⟩ | ⟨dd,mm⟩ | ⟨ii,cc,bb⟩ | ⟨rr⟩
  ·exact key cs (r.read hg) hx
  ·cases hx
  ·cases hx
  ·exact key rr (r.readR hg) hx
  ·cases hx
  ·cases hx
  ·cases hx
  ·cases hx
def OI (r:Option Nat)(w:Option Value):Prop:=match r with
 | none=>w=none
 | some n=>∃k,w=some (.int k (n:Int))
theorem QgF {fr:Fr}{ρ:Operand→Value}(hρ:AgO E fr ρ){x:Option Operand}{z:Option Opd}{r:Option Nat}(hc:c1O x=some z)(hx:evI fr z=some r):OI r (x.map ρ):=by
 cases x with
 | none=>
  simp only[c1O,sj] at hc;subst hc
  simp only[evI,sj] at hx;subst hx
  rfl
 | some x=>
  simp only[c1O] at hc
  cases ha:c1 x with
  | none=>rw[ha] at hc;cases hc
  | some a=>
   rw[ha] at hc;cases sJ hc
   simp only[evI] at hx
   cases hv:evO fr a with
   | none=>rw[hv] at hx;cases hx
   | some v=>
    rw[hv] at hx
    simp only at hx
    cases v<;>try (cases hx;done)
    rename_i k n
    cases n with
    | negSucc m=>cases hx
    | ofNat m=>
     cases sJ hx
     have:=hρ x a _ ha hv
     simp only[den,sj] at this
     exact⟨k,by simp only[Option.map_some];rw[←this];rfl⟩
variable {hi lo mx:Option Nat}
theorem Qko {len cap:Nat}{lo' hi' mx':Option Value}(h1:OI lo lo')(h2:OI hi hi')(h3:OI mx mx')(hm:mx=none∨hi≠none)
  (c1:gD mx cap≤cap) (c2:hi=none∨gD hi len≤gD mx cap) (c3:lo=none∨gD lo 0≤gD hi len) (w:World) :
  (Instr.sliceBounds b len cap lo' hi' mx').run P w=.ok (gD lo 0,gD hi len,gD mx cap) w:=by
 cases mx with
 | none=>
  cases h3
  cases hi with
  | none=>
   cases h2
   cases lo with
   | none=>cases h1;simp[Instr.sliceBounds,gD]
   | some l=>
    obtain⟨k,rfl⟩:=h1
    simp only[gD,reduceCtorEq,false_or] at c3
    simp[Instr.sliceBounds,gD,run_sliceBound,c3]
  | some h=>
   obtain⟨k,rfl⟩:=h2
   simp only[gD,reduceCtorEq,false_or] at c2
   cases lo with
   | none=>cases h1;simp[Instr.sliceBounds,gD,run_sliceBound,c2]
   | some l=>
    obtain⟨k',rfl⟩:=h1
    simp only[gD,reduceCtorEq,false_or] at c3
    simp[Instr.sliceBounds,gD,run_sliceBound,c2,c3]
 | some m=>
  obtain⟨k,rfl⟩:=h3
  cases hi with
  | none=>rcases hm with h | h<;>simp at h
  | some h=>
   obtain⟨k',rfl⟩:=h2
   simp only[gD,reduceCtorEq,false_or] at c1 c2
   cases lo with
   | none=>cases h1;simp[Instr.sliceBounds,gD,run_sliceBound,c1,c2]
   | some l=>
    obtain⟨k'',rfl⟩:=h1
    simp only[gD,reduceCtorEq,false_or] at c3
    simp[Instr.sliceBounds,gD,run_sliceBound,c1,c2,c3]
theorem QDY {r:FV}(hv:den E x=some v)(h:slcF k x lo hi mx=some r) :
  ∃a len cap,v=.slice a len cap∧(mx=none∨hi≠none)∧gD mx cap≤cap∧gD hi len≤gD mx cap∧gD lo 0≤gD hi len∧den E r=some (sliced a (gD lo 0) (gD hi len) (gD mx cap) k):=by
 cases x<;>try (simp[slcF] at h;done)
 case nsl=>
  simp only[den,sj] at hv;subst hv
  simp only[slcF] at h
  cases hb:(mxok mx hi&&(Nat.beq (gD lo 0) 0&&Nat.beq (gD hi 0) 0&&Nat.beq (gD mx 0) 0)) with
  | false=>rw[hb] at h;cases h
  | true=>
   rw[hb] at h;simp only[cond_true,sj] at h;subst h
   simp only[Bool.and_eq_true] at hb
   obtain⟨h0,⟨h1,h2⟩,h3⟩:=hb
   have h1:=Qm h1;have h2:=Qm h2;have h3:=Qm h3
   refine⟨none,0,0,rfl,?_,om,om,om,?_⟩
   ·cases mx with
    | none=>exact .inl rfl
    | some m=>cases hi with
     | none=>cases h0
     | some x=>exact .inr (by simp)
   ·rw[h1,h2,h3];simp[sliced,den]
 case sl i off offz len cap=>
  obtain⟨a,c,hp,rfl,hc⟩:=QeE hv
  cases cap with
  | lit c'=>
   simp only at hc
   subst hc
   simp only[slcF] at h
   refine⟨_,len,c,rfl,?_⟩
   cases mx with
   | none=>
    simp only at h
    cases hb:(Nat.ble (gD hi len) c&&Nat.ble (gD lo 0) (gD hi len)) with
    | false=>rw[hb] at h;cases h
    | true=>
     rw[hb] at h;simp only[cond_true,sj] at h;subst h
     simp only[Bool.and_eq_true] at hb
     refine⟨.inl rfl,nr,Qag hb.1,Qag hb.2,?_⟩
     simp only[den,hp,sliced,QeC,bq]
     generalize gD lo 0=l
     by_cases he:c=l
     ·simp[he]
     ·simp[he,add_add]
   | some m=>
    cases hi with
    | none=>simp at h
    | some x=>
     simp only at h
     cases hb:(Nat.ble m c&&Nat.ble x m&&Nat.ble (gD lo 0) x) with
     | false=>rw[hb] at h;cases h
     | true=>
      rw[hb] at h;simp only[cond_true,sj] at h;subst h
      simp only[Bool.and_eq_true] at hb
      refine⟨.inr (by simp),Qag hb.1.1,Qag hb.1.2,Qag hb.2,?_⟩
      simp only[den,hp,sliced,Qdg,bq]
      generalize gD lo 0=l
      by_cases he:m=l
      ·simp[he]
      ·simp[he,add_add]
  | hid j=>
   simp only at hc
   obtain⟨hle,rfl⟩:=hc
   simp only[slcF] at h
   refine⟨_,len,_,rfl,?_⟩
   cases mx with
   | none=>
    simp only at h
    cases hb:(Nat.ble (gD hi len) len&&Nat.ble (gD lo 0) (gD hi len)) with
    | false=>rw[hb] at h;cases h
    | true=>
     rw[hb] at h;simp only[cond_true,sj] at h;subst h
     simp only[Bool.and_eq_true] at hb
     have h1:=Qag hb.1
     have h2:=Qag hb.2
     refine⟨.inl rfl,nr,by simp only[QeC];omega,h2,?_⟩
     simp only[den,hp,sliced,QeC]
     generalize gD lo 0=l at *
     generalize gD hi len=x at *
     rw[if_pos om]
     simp only[bq]
     by_cases he:E.c i - j=l
     ·have e1:E.c i=j+l:=om
      by_cases h0:l=0
      ·subst h0
       have e2:E.c i=j:=om
       simp[e2]
      ·have e2:¬E.c i=j:=om
       simp[h0,e2,he,e1]
       try omega
     ·have e1:¬E.c i=j+l:=om
      have e2:¬E.c i=j:=om
      simp[he,e1,e2,add_add]
      try omega
   | some m=>
    cases hi with
    | none=>simp at h
    | some x=>
     simp only at h
     cases hb:(Nat.ble m len&&Nat.ble x m&&Nat.ble (gD lo 0) x&&Nat.blt 0 len) with
     | false=>rw[hb] at h;cases h
     | true=>
      rw[hb] at h;simp only[cond_true,sj] at h;subst h
      simp only[Bool.and_eq_true] at hb
      have h1:=Qag hb.1.1.1
      have h2:=QaQ hb.2
      refine⟨.inr (by simp),by simp only[gD];omega,Qag hb.1.1.2,Qag hb.1.2,?_⟩
      simp only[den,hp,sliced,Qdg,bq]
      generalize gD lo 0=l at *
      have hne:¬E.c i=j:=om
      by_cases he:m=l
      ·simp[he,hne]
      ·simp[he,hne,add_add]
end Go.Va
namespace Go.Va
open Go Go.Sh
variable [Vb]
variable {P:Program}
variable {place:Nat→Option (Nat×Nat)}{v:Value}
theorem QI7 {i off sz:Nat}{c:Array Value}{rest:List (Nat×Value)}(hp:place i=some (off,sz))(hv:v.cells.size=sz)(hle:off+sz≤c.size) :
  Instr.fill place c ((i,v)::rest)=Instr.fill place (setAt c.toList off v.cells.toList).toArray rest:=by
 rw[Instr.fill]
 have h1:¬(off+sz > c.size):=om
 simp only[hp,hv,ne_eq,not_true_eq_false,decide_false,h1,Bool.or_false,Bool.false_eq_true,if_false]
 have h2:(v.cells.zipIdx.foldl (fun cs (p:Value×Nat)=>cs.setIfInBounds (off+p.2) p.1) c)=(setAt c.toList off v.cells.toList).toArray:=by
  have key2:∀(l:List Value) (j:Nat) (c:Array Value),(l.zipIdx j).foldl (fun cs (p:Value×Nat)=>cs.setIfInBounds (off+p.2) p.1) c=(setAt c.toList (off+j) l).toArray:=by
   intro l
   induction l with
   | nil=>intro j c;simp[setAt]
   | cons y l ih=>
    intro j c
    simp only[List.zipIdx_cons,List.foldl_cons,setAt]
    rw[ih]
    simp[Nat.add_assoc]
  rw[←Array.foldl_toList,Array.toList_zipIdx]
  exact key2 _ 0 c
 rw[h2]
theorem Qv8 {E:Env}{place:Nat→Option (Nat×Nat)}:∀ {ps:List (Nat×FV)}{pl:List (Nat×Nat)}{cs r:List FV}{vs us:List Value}{ks:List (Nat×Value)},
  Qc4 cs pl ps=some r→denL E cs=some vs→cs.all oneF=true→denL E (ps.map (·.2))=some us→ks=(ps.map (·.1)).zip us→(∀(j:Nat) (p:Nat×FV) (q:Nat×Nat),ps[j]?=some p→pl[j]?=some q→place p.1=some q) →
  ∃ws,Instr.fill place vs.toArray ks=some ws.toArray∧denL E r=some ws∧r.all oneF=true
 | [],[],cs,r,vs,us,ks,h,hd,ho,hu,hk,hp=>by
  simp only[Qc4,sj] at h;subst h
  simp only[List.map_nil,List.zip_nil_left] at hk;subst hk
  exact⟨vs,by simp[Instr.fill],hd,ho⟩
 | [],_::_,cs,r,vs,us,ks,h,_,_,_,_,_=>by simp[Qc4] at h
 | _::_,[],cs,r,vs,us,ks,h,_,_,_,_,_=>by simp[Qc4] at h
 | (i,v)::ps,(off,sz)::pl,cs,r,vs,us,ks,h,hd,ho,hu,hk,hp=>by
  simp only[Qc4] at h
  cases hb:(Nat.beq (QbI v).length sz&&QfE v) with
  | false=>rw[hb] at h;cases h
  | true=>
   rw[hb] at h
   simp only[cond_true] at h
   simp only[Bool.and_eq_true] at hb
   obtain⟨hb,hnt⟩:=hb
   have hsz:=Qm hb
   obtain⟨u,us',h1,h2,rfl⟩:=QR hu
   have hc:=QcN h1
   have hl:=QS hc
   cases hs:splO (QbI v) off cs with
   | none=>rw[hs] at h;cases h
   | some cs'=>
    rw[hs] at h
    simp only at h
    obtain⟨h3,h4⟩:=Qhd hs
    have h5:denL E cs'=some (setAt vs off u.cells.toList):=by rw[h3];exact Qhw off hd hc
    have h6:(QbI v).all oneF=true:=Qij h1 (QjT hnt)
    obtain⟨ws,h7,h8,h9⟩:=Qv8 (place:=place) h h5 (by rw[h3];exact Ql9 ho h6) h2 rfl (fun j p q hj hq=>hp (j+1) p q (by simpa using hj) (by simpa using hq))
    refine⟨ws,?_,h8,h9⟩
    subst hk
    simp only[List.map_cons,List.zip_cons_cons]
    have hvl:=QS hd
    rw[QI7 (hp 0 (i,v) (off,sz) rfl rfl) (by rw[←hsz,←hl];simp) (by rw[List.size_toArray,hvl,←hsz];omega)]
    simpa using h7
theorem Qrs {α:Type}:∀ {v:List (Nat×FV)}{l:List (Nat×Operand)}{f:Nat×Operand→α},v.map (·.1)=l.map (·.1)→(v.map (·.1)).zip (l.map f)=l.map fun p=>(p.1,f p)
 | [],[],_,_=>rfl
 | [],_::_,_,h=>by simp at h
 | _::_,[],_,h=>by simp at h
 | p::v,q::l,f,h=>by
  simp only[List.map_cons,List.cons.injEq] at h
  simp only[List.map_cons,List.zip_cons_cons,h.1,Qrs h.2]
theorem QDZ {l:List (Nat×Nat)}:∀ {ps:List (Nat×Operand)}{pl:List (Nat×Nat)},plsL l ps=some pl→∀(j:Nat) (i:Nat) (q:Nat×Nat),(ps.map (·.1))[j]?=some i→pl[j]?=some q→l[i]?=some q
 | [],pl,h,j,i,q,hj,_=>by simp at hj
 | (a,b)::ps,pl,h,j,i,q,hj,hq=>by
  simp only[plsL] at h
  cases h1:l[a]? with
  | none=>rw[h1] at h;cases h
  | some p=>
   cases h2:plsL l ps with
   | none=>rw[h1,h2] at h;cases h
   | some r=>
    rw[h1,h2] at h;cases sJ h
    cases j with
    | zero=>simp only[List.map_cons,List.getElem?_cons_zero,sj] at hj hq;subst hj hq;exact h1
    | succ j=>exact QDZ h2 j i q (by simpa using hj) (by simpa using hq)
theorem Qyt {k:Nat}:∀ {ps:List (Nat×Operand)}(j:Nat) (i:Nat) (q:Nat×Nat),(ps.map (·.1))[j]?=some i→(plsK k ps)[j]?=some q→(i * k,k)=q
 | [],j,i,q,hj,_=>by simp at hj
 | (a,b)::ps,j,i,q,hj,hq=>by
  cases j with
  | zero=>simp only[List.map_cons,List.getElem?_cons_zero,sj,plsK] at hj hq;subst hj;exact hq
  | succ j=>exact Qyt (ps:=ps) j i q (by simpa using hj) (by simpa [plsK] using hq)
theorem Qzu {ps:List (Nat×Operand)}{l:List (Nat×FV)}{pl:List (Nat×Nat)}(h1:l.map (·.1)=ps.map (·.1))(h:∀(j:Nat) (i:Nat) (q:Nat×Nat),(ps.map (·.1))[j]?=some i→pl[j]?=some q→place i=some q) :
  ∀(j:Nat) (p:Nat×FV) (q:Nat×Nat),l[j]?=some p→pl[j]?=some q→place p.1=some q:=fun j p q hj hq=>h j p.1 q (by rw[←h1,List.getElem?_map,hj];rfl) hq
theorem QFV:∀ {fs:List Field}{l:List (Nat×Nat)},plT P fs=some l→fs.mapM (fun f=>(P.info? f.type).map fun i=>(f.offset,i.size))=some l
 | [],l,h=>by simp only[plT,sj] at h;subst h;rfl
 | f::r,l,h=>by
  simp only[plT] at h
  cases hi:P.info? f.type with
  | none=>rw[hi] at h;cases h
  | some i=>
   cases hr:plT P r with
   | none=>rw[hi,hr] at h;cases h
   | some l'=>rw[hi,hr] at h;cases sJ h;simp[List.mapM_cons,hi,QFV hr]
theorem QGH {E:Env}{neg:Bool}{t:TypeId}{d:TypeDesc}{kd:EqK}{x y:Operand}{a b:FV}{u:Value}{r:Bool}(hd:P.underlying t=some d)(he:eqT d=some kd)(hu:den E a=some u)(hv:den E b=some v)(h:eqbF kd a b=some r) :
  oBin P (match neg with | true=>.neq | false=>.eql) t x y u v fun w=>w=.bool (match neg with | true=>r.not | false=>r):=by
 have key:(∀(m:Nat) w,(Op.equalIn (m+1) t u v).run P w=.ok r w)→(∀k n,u≠.int k n)→(∀k n,u≠.float k n)→(∀k m n,u≠.complex k m n)→(∀s,u≠.string s)→u≠.nilIface→(∀l,u≠.agg l) →
   oBin P (match neg with | true=>.neq | false=>.eql) t x y u v fun w=>w=.bool (match neg with | true=>r.not | false=>r):=fun hr h1 h2 h3 h4 h5 h6=>by
  refine Sp.of (v:=.bool (match neg with | true=>r.not | false=>r)) (fun w=>QA ?_) rfl
  have hg:∀op:BinOp,(eqGuard op t x y u v).run P w=.ok () w:=fun op=>by
   cases u<;>first | exact absurd rfl h5 | exact absurd rfl (h6 _) | (cases op<;>simp[eqGuard])
  have hb:∀nn:Bool,(binOp (match nn with | true=>.neq | false=>.eql) t u v).run P w=.ok (.bool (match nn with | true=>r.not | false=>r)) w:=fun nn=>by
   have h9:=hr 9999 w
   cases u<;>first | exact absurd rfl (h1 _ _) | exact absurd rfl (h2 _ _) | exact absurd rfl (h3 _ _ _) | exact absurd rfl (h4 _) | (cases nn<;>simp only[binOp,Op.equal,Op.maxDepth]<;>simp[h9])
  rw[Sem.run_bind,hg,Result.andThen_ok]
  exact hb neg
 cases kd with
 | b=>
  have hd':d=.bool:=by cases d<;>simp[eqT] at he;rfl
  subst hd'
  cases a<;>try (simp[eqbF] at h;done)
  cases b<;>try (simp[eqbF] at h;done)
  rename_i a b
  simp only[den,sj] at hu hv;subst hu hv
  simp only[eqbF,sj] at h
  refine key (fun m w=>?_) (by simp) (by simp) (by simp) (by simp) (by simp) (by simp)
  have:=run_underlying hd w
  subst h
  simp only[Op.equalIn]
  rw[Sem.run_bind,this,Result.andThen_ok]
  cases a<;>cases b<;>rfl
 | p=>
  obtain⟨e,rfl⟩:∃e,d=.pointer e:=by cases d<;>simp[eqT] at he;exact⟨_,rfl⟩
  have run:=run_underlying hd
  cases a<;>try (simp[eqbF] at h;done)
  ·simp only[den,sj] at hu;subst hu
   refine key (fun m w=>?_) (by simp) (by simp) (by simp) (by simp) (by simp) (by simp)
   cases b<;>try (simp[eqbF] at h;done)
   ·simp only[den,sj] at hv;subst hv
    simp only[eqbF,sj] at h;subst h
    simp only[Op.equalIn];rw[Sem.run_bind,run w,Result.andThen_ok];rfl
   ·obtain⟨a,_,rfl⟩:=Qca hv
    simp only[eqbF,sj] at h;subst h
    simp only[Op.equalIn];rw[Sem.run_bind,run w,Result.andThen_ok];rfl
  ·obtain⟨a,_,rfl⟩:=Qca hu
   refine key (fun m w=>?_) (by simp) (by simp) (by simp) (by simp) (by simp) (by simp)
   cases b<;>try (simp[eqbF] at h;done)
   simp only[den,sj] at hv;subst hv
   simp only[eqbF,sj] at h;subst h
   simp only[Op.equalIn];rw[Sem.run_bind,run w,Result.andThen_ok];rfl
 | s=>
  obtain⟨e,rfl⟩:∃e,d=.slice e:=by cases d<;>simp[eqT] at he;exact⟨_,rfl⟩
  have run:=run_underlying hd
  cases a<;>try (simp[eqbF] at h;done)
  ·simp only[den,sj] at hu;subst hu
   refine key (fun m w=>?_) (by simp) (by simp) (by simp) (by simp) (by simp) (by simp)
   cases b<;>try (simp[eqbF] at h;done)
   ·simp only[den,sj] at hv;subst hv
    simp only[eqbF,sj] at h;subst h
    simp only[Op.equalIn];rw[Sem.run_bind,run w,Result.andThen_ok];rfl
   ·obtain⟨a,c,_,rfl,_⟩:=QeE hv
    simp only[eqbF,sj] at h;subst h
    simp only[Op.equalIn];rw[Sem.run_bind,run w,Result.andThen_ok];rfl
  ·obtain⟨a,c,_,rfl,_⟩:=QeE hu
   refine key (fun m w=>?_) (by simp) (by simp) (by simp) (by simp) (by simp) (by simp)
   cases b<;>try (simp[eqbF] at h;done)
   simp only[den,sj] at hv;subst hv
   simp only[eqbF,sj] at h;subst h
   simp only[Op.equalIn];rw[Sem.run_bind,run w,Result.andThen_ok];rfl
 | f=>
  obtain⟨p,q,z,rfl⟩:∃p q z,d=.func p q z:=by cases d<;>simp[eqT] at he;exact⟨_,_,_,rfl⟩
  have run:=run_underlying hd
  cases a<;>try (simp[eqbF] at h;done)
  ·simp only[den,sj] at hu;subst hu
   refine key (fun m w=>?_) (by simp) (by simp) (by simp) (by simp) (by simp) (by simp)
   cases b<;>try (simp[eqbF] at h;done)
   ·simp only[den,sj] at hv;subst hv
    simp only[eqbF,sj] at h;subst h
    simp only[Op.equalIn];rw[Sem.run_bind,run w,Result.andThen_ok];rfl
   ·obtain⟨a,c,_,_,rfl⟩:=Qo7 hv
    simp only[eqbF,sj] at h;subst h
    simp only[Op.equalIn];rw[Sem.run_bind,run w,Result.andThen_ok];rfl
  ·obtain⟨a,c,_,_,rfl⟩:=Qo7 hu
   refine key (fun m w=>?_) (by simp) (by simp) (by simp) (by simp) (by simp) (by simp)
   cases b<;>try (simp[eqbF] at h;done)
   simp only[den,sj] at hv;subst hv
   simp only[eqbF,sj] at h;subst h
   simp only[Op.equalIn];rw[Sem.run_bind,run w,Result.andThen_ok];rfl
end Go.Va
namespace Go.Va
open Go Go.Sh
variable [Vb]
variable {P:Program}
variable {E:Env}{v:Value}
theorem QJk {cs:List FV}(h:den E (.agg cs)=some v):∃vs,denL E cs=some vs∧cs.all oneF=true∧v=.agg vs.toArray:=by
 simp only[den] at h
 cases hd:denL E cs with
 | none=>rw[hd] at h;cases h
 | some vs=>
  rw[hd] at h
  simp only at h
  by_cases ho:cs.all oneF=true
  ·rw[if_pos ho] at h;simp only[sj] at h;exact⟨vs,rfl,ho,h.symm⟩
  ·rw[if_neg ho] at h;cases h
theorem QIN {t:TypeId}{k off:Nat}{b:Bool}(hk:szO P t=some k)(hb:agO P t=some b){x y:FV}(hv:den E x=some v)(hx:fldF off k b x=some y) :
  ∃cs u,v=.agg cs∧den E y=some u∧∀w,(Go.part t cs off).run P w=.ok u w:=by
 cases x<;>try (simp[fldF] at hx;done)
 rename_i cs
 obtain⟨vs,hd,ho,rfl⟩:=QJk hv
 simp only[fldF] at hx
 haveI ia:=Qjr hb
 haveI is:=QbA hk
 cases b with
 | true=>
  simp only at hx
  cases ht:Qbb k (Qaz off cs) with
  | none=>rw[ht] at hx;cases hx
  | some l=>
   rw[ht] at hx;cases sJ hx
   obtain⟨h5,h6⟩:=Qcd ht
   rw[Qbo] at h5 h6
   have h7:=QfV k (QeM off hd)
   rw[←h5] at h7
   refine⟨_,.agg ((vs.drop off).take k).toArray,rfl,by simp only[den,h7];rw[if_pos (by rw[h5];exact QmX ho _ _)],fun w=>?_⟩
   simp only[Go.part]
   rw[Sem.run_bind,ia.run,Result.andThen_ok,if_pos rfl,Sem.run_bind,is.run,Result.andThen_ok]
   have:vs.toArray.extract off (off+k)=((vs.drop off).take k).toArray:=by
    apply Array.ext'
    simp
   rw[this];rfl
 | false=>
  simp only at hx
  obtain⟨u,h5,h6⟩:=Qji hd (QeW hx)
  refine⟨_,u,rfl,h6,fun w=>?_⟩
  simp only[Go.part]
  rw[Sem.run_bind,ia.run,Result.andThen_ok,if_neg (by simp)]
  have:vs.toArray[off]?=some u:=by simpa using h5
  rw[this];rfl
end Go.Va
namespace Go.Va
open Go Go.Sh
variable [Vb]
variable {P:Program}
variable {d:KD}{t:TypeId}
theorem Qr2 (h:kdO P t=some d):P.underlying t=some (kdT d):=by
 unfold kdO at h
 cases hu:P.underlying t with
 | none=>rw[hu] at h;cases h
 | some e=>
  rw[hu] at h
  cases e<;>simp only at h<;>try (cases h;done)
  ·cases sJ h;rfl
  ·cases sJ h;rfl
theorem QIb (h:kdO P t=some d):d.u=0:=by
 unfold kdO at h
 split at h<;>first | (cases sJ h;rfl) | cases h
variable {z:FV}
theorem QDG (h:zvO P t=some z):∃k b v,Inf P t k b v∧∀E,den E z=some v:=by
 unfold zvO at h
 cases hi:P.info? t with
 | none=>rw[hi] at h;cases h
 | some i=>
  rw[hi] at h
  simp only at h
  cases hz:i.zero with
  | none=>rw[hz] at h;cases h
  | some v=>
   rw[hz] at h
   simp only at h
   exact⟨_,_,v,⟨⟨i,hi,rfl,rfl,hz⟩⟩,fun E=>QyC E h⟩
theorem QIa {a b:KD}(h:kdq a b=true):a=b.b:=by
 unfold kdq at h
 cases a with
 | o _ _=>cases h
 | s=>cases hb:b.b<;>rw[hb] at h<;>first | rfl | cases h
 | i k=>cases hb:b.b<;>rw[hb] at h<;>first | (cases h;done) | rw[QdB h]
variable {E:Env}{v:Value}{x:FV}
theorem QyK (h:kokF d x=true)(hd:den E x=some v):∃k,keyD d x=some k∧Mk.kOk (kdT d) k∧v=Mk.kV k:=by
 have key:∃k,keyD d x=some k:=by
  cases d with
  | s=>
   cases x<;>simp only[kokF] at h<;>try (cases h;done)
   rename_i l
   obtain⟨hb,_⟩:=Qcr hd
   exact⟨_,by simp only[keyD,if_pos hb];rfl⟩
  | i kk=>
   cases x<;>simp only[kokF] at h<;>try (cases h;done)
   rename_i k' n
   exact⟨_,by simp only[keyD,if_pos (QdB h)];rfl⟩
  | o n d=>cases h
 obtain⟨k,hk⟩:=key
 obtain⟨h1,h2⟩:=QtD hk
 have:=h2 E
 rw[hd] at this
 simp only[sj] at this
 exact⟨k,hk,h1,this⟩
variable {y:FV}
theorem QEc {a b:Mk.MK}(hx:keyD d x=some a)(hy:keyD d y=some b):keqv x y=decide (a=b):=by
 induction d with
 | o n d ih=>exact ih hx hy
 | s=>
  cases x<;>simp only[keyD] at hx<;>try (cases hx;done)
  cases y<;>simp only[keyD] at hy<;>try (cases hy;done)
  split at hx<;>try (cases hx;done)
  split at hy<;>try (cases hy;done)
  rename_i l l' h1 h2
  simp only[sj] at hx hy
  subst hx;subst hy
  simp only[keqv,QB8 h1 h2,Sum.inl.injEq]
 | i kk=>
  cases x<;>simp only[keyD] at hx<;>try (cases hx;done)
  cases y<;>simp only[keyD] at hy<;>try (cases hy;done)
  split at hx<;>try (cases hx;done)
  split at hy<;>try (cases hy;done)
  simp only[sj] at hx hy
  subst hx;subst hy
  simp only[keqv,Qkg,Sum.inr.injEq,Prod.mk.injEq,true_and]
theorem QHu (k:FV)(p:FV×FV)(r:List (FV×FV)):lkM k (p::r)=bif keqv p.1 k then some p.2 else lkM k r:=brec _ _ _
theorem QG4 (k v:FV)(p:FV×FV)(r:List (FV×FV)):upM k v (p::r)=bif keqv p.1 k then (k,v)::r else p::upM k v r:=brec _ _ _
theorem QGm {E:Env}{d:KD}{x:FV}{k:Mk.MK}(hk:keyD d x=some k):∀ {m:List (FV×FV)}{l:List (Mk.MK×Value)},denM E d m=some l →
  (match lkM x m with
  | some y=>∃v,den E y=some v∧Mk.look l k=some v
  | none=>Mk.look l k=none)
 | [],l,h=>by simp only[denM,sj] at h;subst h;rfl
 | p::r,l,h=>by
  obtain⟨a,v,l',h1,h2,h3,rfl⟩:=Qd6 h
  have ih:=QGm (x:=x) hk h3
  rw[QHu,QEc h1 hk,Mk.look]
  by_cases e:a=k
  ·rw[if_pos e,decide_eq_true e,cond_true];exact⟨v,h2,rfl⟩
  ·rw[if_neg e,decide_eq_false e,cond_false];exact ih
theorem QFy {E:Env}{d:KD}{x y:FV}{k:Mk.MK}{u:Value}(hk:keyD d x=some k)(hy:den E y=some u):∀ {m:List (FV×FV)}{l:List (Mk.MK×Value)},denM E d m=some l→denM E d (upM x y m)=some (Mk.ups l k u)
 | [],l,h=>by
  simp only[denM,sj] at h;subst h
  exact QtJ (p:=(x,y)) hk hy rfl
 | p::r,l,h=>by
  obtain⟨a,v,l',h1,h2,h3,rfl⟩:=Qd6 h
  rw[QG4,QEc h1 hk,Mk.ups]
  by_cases e:a=k
  ·rw[if_pos e,decide_eq_true e,cond_true];exact QtJ (p:=(x,y)) hk hy h3
  ·rw[if_neg e,decide_eq_false e,cond_false];exact QtJ h1 h2 (QFy hk hy h3)
variable {L:List HP}{h h0:Heap}{i:Nat}{th:TH}
theorem Rep.readM (r:Rep E th h0 h L){m:List (FV×FV)}(hg:th.t.get i=some (.map d m)) :
  ∃a l,E.p i=some a∧denM E d m=some l∧Mk.RdM h (.map (some a.block)) l ((List.range l.length).map (d.u+·)) (d.u+l.length):=by
 obtain⟨a,l,h1,h2,s⟩:=r.toldM hg
 exact⟨a,l,h1,h2,Mk.St.mapRd s⟩
theorem QeF (h:den E (.map i)=some v):∃a,E.p i=some a∧v=.map (some a.block):=by
 simp only[den] at h
 cases hp:E.p i with
 | none=>rw[hp] at h;cases h
 | some a=>rw[hp] at h;simp only[sj] at h;exact⟨a,rfl,h.symm⟩
variable {et kt:TypeId}{ok:Bool}
theorem look_nil {d:TypeDesc}{kk bb:Nat}{z:Value} [Und P t (.map kt et)] (hu:P.underlying kt=some d) [Inf P et kk bb z]{k:Mk.MK}{D:Heap→Prop}{K:Value→Prop}
  (hkk:Mk.kOk d k) (hk:K (if ok then .tuple #[z,.bool false] else z)):Qxk P t (.map none) (Mk.kV k) ok D K:=by
 refine⟨_,fun w hw=>?_,hk⟩
 refine QA ?_
 unfold Instr.lookup
 have h1:=Mk.run_findKey_k (P:=P) hu hkk [] [] (fun p hp=>by cases hp) rfl w
 have e:Mk.ents [] []=[]:=rfl
 rw[e] at h1
 simp only[Sem.run_bind,Und.run (P:=P) (t:=t),Result.andThen_ok,pure_bind,Mk.run_checkKey_k hu _ 9999 hkk,h1]
 simp[Mk.lookI,Inf.zer]
theorem QGl (r:Rep E th h0 h L)(hu:P.underlying t=some (.map kt et))(hd:kdO P kt=some d)(hz:zvO P et=some z){k:FV}{u:Value}
  (hv:den E x=some v) (hk:den E k=some u) (hx:lkpF th.t d z ok x k=some y):Qxk P t v u ok (Eq h) fun v=>den E y=some v:=by
 haveI:Und P t (.map kt et):=⟨hu⟩
 obtain⟨kk,bb,zv,hi,hzd⟩:=QDG hz
 haveI:=hi
 cases x<;>simp only[lkpF] at hx<;>try (cases hx;done)
 case nilm=>
  cases hb:kokF d k with
  | false=>rw[hb] at hx;cases hx
  | true=>
   rw[hb] at hx;simp only[cond_true,sj] at hx;subst hx
   simp only[den,sj] at hv;subst hv
   obtain⟨q,h1,h2,rfl⟩:=QyK hb hk
   refine look_nil (Qr2 hd) h2 ?_
   cases ok with
   | true=>simp only[resM,if_true,den,denL,hzd E]
   | false=>simpa only [resM,Bool.false_eq_true,if_false] using hzd E
 case map i=>
  cases hg:th.t.get i with
  | none=>rw[hg] at hx;cases hx
  | some o=>
   rw[hg] at hx
   rcases o with⟨cs,kq⟩ | ⟨d',m⟩ | ⟨ii,cc,bb⟩ | ⟨rr⟩
   case row=>first | exact hx.elim | cases hx
   case mp=>first | exact hx.elim | cases hx
   case mf=>first | exact hx.elim | cases hx
   case im=>first | exact hx.elim | cases hx
   ·cases hx
   ·simp only at hx
    cases hb:kdq d d'&&kokF d k with
    | false=>rw[hb] at hx;cases hx
    | true=>
     rw[hb] at hx;simp only[cond_true,sj] at hx;subst hx
     simp only[Bool.and_eq_true] at hb
     have e:=QIa hb.1
     subst e
     obtain⟨q,h1,h2,rfl⟩:=QyK hb.2 hk
     obtain⟨a,ha,rfl⟩:=QeF hv
     obtain⟨a',l,g1,g2,g3⟩:=r.readM hg
     rw[←QxY] at g2
     rw[ha] at g1;cases sJ g1
     refine Mk.oLook_val (Qr2 hd) h2 (Qy6 g2) (fun h' e=>by subst e;exact⟨_,_,g3⟩) ?_
     have hl:=QGm h1 g2
     cases hm:lkM k m with
     | none=>
      rw[hm] at hl
      simp only at hl
      rw[hl]
      cases ok with
      | true=>simp only[resM,if_true,den,denL,hzd E,Option.getD_none,Option.isSome_none]
      | false=>simpa only [resM,Bool.false_eq_true,if_false,Option.getD_none] using hzd E
     | some w=>
      rw[hm] at hl
      obtain⟨vv,g4,g5⟩:=hl
      rw[g5]
      cases ok with
      | true=>simp only[resM,if_true,den,denL,g4,Option.getD_some,Option.isSome_some]
      | false=>simpa only [resM,Bool.false_eq_true,if_false,Option.getD_some] using g4
   ·cases hx
   ·cases hx
theorem QI1 (r:Rep E th h0 h L){ty:TypeId}(hu:P.underlying t=some (.map kt et))(hv:den E x=some v)(hx:QFd th.t x=some y) :
  QpS P #[t] ty v (Eq h) fun v=>den E y=some v:=by
 haveI:Und P t (.map kt et):=⟨hu⟩
 cases x<;>simp only[QFd] at hx<;>try (cases hx;done)
 case nilm=>
  cases sJ hx
  simp only[den,sj] at hv;subst hv
  refine⟨.int .i64 0,fun w hw=>QA ?_,rfl⟩
  unfold Builtin.len_
  simp[Und.run,goInt]
 case map i=>
  cases hg:th.t.get i with
  | none=>rw[hg] at hx;cases hx
  | some o=>
   rw[hg] at hx
   rcases o with⟨cs,kq⟩ | ⟨d',m⟩ | ⟨ii,cc,bb⟩ | ⟨rr⟩
   case row=>first | exact hx.elim | cases hx
   case mp=>first | exact hx.elim | cases hx
   case mf=>first | exact hx.elim | cases hx
   case im=>first | exact hx.elim | cases hx
   ·cases hx
   ·cases sJ hx
    obtain⟨a,ha,rfl⟩:=QeF hv
    obtain⟨a',l,g1,g2,g3⟩:=r.readM hg
    rw[ha] at g1;cases sJ g1
    refine Mk.oLenM_rd (fun h' e=>by subst e;exact⟨_,_,g3⟩) ?_
    rw[QmP g2];rfl
   ·cases hx
   ·cases hx
theorem Rep.readI (r:Rep E th h0 h L){j c:Nat}{b:List Nat}(hg:th.t.get i=some (.it j c b)) :
  ∃i0 m,E.p i=some ⟨i0,0,none⟩∧E.p j=some m∧h[i0]?=some (.mapIter (some m.block) c b.toArray c):=by
 obtain⟨a,m,h1,h2,s⟩:=r.toldI hg
 obtain⟨S,⟨i0,rfl,_,hb⟩,_⟩:=s.get
 exact⟨i0,m,h1,h2,hb⟩
theorem QCb:∀ {b:List Nat}{s:Nat},QtC b=some s→b.toArray.back?=some s
 | [a],s,h=>by
  simp only[QtC,sj] at h;subst h;simp
 | a::x::r,s,h=>by
  simp only[QtC] at h
  have:=QCb (b:=x::r) h
  simpa [List.getLast?_cons_cons] using this
 | [],s,h=>by cases h
theorem QEk {E:Env}{d:KD}{s:Nat}:∀ {m:List (FV×FV)}{l:List (Mk.MK×Value)}{u:Nat}{p:FV×FV},denM E d m=some l→entA s m u=some p→∃k v,den E p.1=some (Mk.kV k)∧den E p.2=some v∧(Mk.ents l ((List.range l.length).map (u+·))).find? (fun e=>e.born == s)=some ⟨Mk.kV k,v,s⟩
 | q::m,l,u,p,h,hp=>by
  obtain⟨k,v,l',h1,h2,h3,rfl⟩:=Qd6 h
  have hents:Mk.ents ((k,v)::l') ((List.range ((k,v)::l').length).map (u+·))=⟨Mk.kV k,v,u⟩::Mk.ents l' ((List.range l'.length).map (u.succ+·)):=by
   rw[List.length_cons,List.range_succ_eq_map,List.map_cons,List.map_map]
   have e:((fun x=>u+x) ∘ Nat.succ)=(fun x=>u.succ+x):=by funext x;show u+(x+1)=(u+1)+x;omega
   rw[e];rfl
  rw[hents]
  unfold entA at hp
  cases hb:Nat.beq u s with
  | true=>
   rw[hb] at hp;simp only[cond_true,sj] at hp;subst hp
   have:=Qm hb;subst this
   exact⟨k,v,(QtD h1).2 E,h2,by simp⟩
  | false=>
   rw[hb] at hp;simp only[cond_false] at hp
   obtain⟨k',v',q1,q2,q3⟩:=QEk h3 hp
   refine⟨k',v',q1,q2,?_⟩
   have hne:(u == s)=false:=by
    rw[beq_eq_false_iff_ne]
    intro e
    rw[e,Nat.beq_refl] at hb
    cases hb
   rw[List.find?_cons]
   simp only[hne]
   exact q3
 | [],l,u,p,h,hp=>by cases hp
theorem QKE (r:Rep E th h0 h L)(hv:den E x=some v)(hx:entF th.t x=some y):QrY P v (Eq h) fun v=>den E y=some v:=by
 cases x<;>simp only[entF] at hx<;>try (cases hx;done)
 rename_i j o
 cases o with
 | succ o=>cases hx
 | zero=>
  simp only at hx
  cases hg:th.t.get j with
  | none=>rw[hg] at hx;cases hx
  | some ob=>
   rw[hg] at hx
   rcases ob with⟨cs,kk⟩ | ⟨dd,mm⟩ | ⟨i,c,b⟩ | ⟨rr⟩<;>try (cases hx;done)
   simp only at hx
   cases hl:QtC b with
   | none=>rw[hl] at hx;cases hx
   | some s=>
    rw[hl] at hx
    simp only at hx
    cases hg2:th.t.get i with
    | none=>rw[hg2] at hx;cases hx
    | some ob=>
     rw[hg2] at hx
     rcases ob with⟨cs,kk⟩ | ⟨d,m⟩ | ⟨ii,cc,bb⟩ | ⟨rr⟩<;>try (cases hx;done)
     simp only at hx
     cases hc:Nat.beq c (Nat.add d.u m.length) with
     | false=>rw[hc] at hx;cases hx
     | true=>
      rw[hc] at hx;simp only[cond_true] at hx
      have hc':=Qm hc
      cases he:entA s m d.u with
      | none=>rw[he] at hx;cases hx
      | some p=>
       rw[he] at hx;cases sJ hx
       obtain⟨i0,a,h1,h2,hi⟩:=r.readI hg
       obtain⟨a',l,g1,g2,hok,q,e,hb⟩:=r.readM hg2
       rw[h2] at g1;cases sJ g1
       obtain⟨k,u,k2,k3,hf⟩:=QEk g2 he
       simp only[Value.map.injEq,sj] at e
       simp only[den,h1,sj] at hv;subst hv
       refine⟨.tuple #[Mk.kV k,u],fun w hw=>QA ?_,by simp only[den,denL,k2,k3]⟩
       rw[hw] at hi hb
       rw[←e] at hb
       have hgi:=Qay (P:=P) hi (by simp)
       have hgm:=Qay (P:=P) hb (by simp)
       have hcl:c=d.u+l.length:=by rw[hc',QmP g2];rfl
       show (Instr.entry (.pointer (some ⟨i0,0,none⟩))).run P w=_
       unfold Instr.entry
       simp only[Sem.run_bind,hgi,Result.andThen_ok,QCb hl]
       simp[hgm,hf,hcl]
end Go.Va
