import Derived.Test.YtemffgbncjnmkaaGreatVa
import Derived.Test.YtemffgbncjnmkaaGreatRo
set_option linter.unusedVariables false
set_option linter.unusedSectionVars false
set_option linter.unusedSimpArgs false
noncomputable section
namespace Go.Va
open Go Go.Sh
variable [Vb]
inductive KD where
 | s
 | i (k:IntKind)
 | o (n:Nat) (d:KD)
def KD.b:KD→KD
 | .o _ d=>d.b
 | d=>d
def KD.u:KD→Nat
 | .o n _=>n
 | _=>0
inductive TO where
 | cells (cs:List FV) (k:Nat)
 | map (d:KD) (m:List (FV×FV))
 | it (i c:Nat) (b:List Nat)
 | ro (cs:List FV)
 | row (t:Nat) (es:List LD)
 | mp (t:Nat) (ag:Bool) (es:List LD)
 | mf (t:Nat) (ag:Bool) (es:List LD)
 | im (i t:Nat) (ag:Bool) (rest:List LD) (cur:Option LD)
def kdT:KD→TypeDesc
 | .s=>.string
 | .i k=>.int k
 | .o _ d=>kdT d
def keyD (d:KD)(x:FV):Option Mk.MK:=match d with
 | .s=>match x with
  | .str l=>if Q0 l=true then some (.inl (l.map UInt8.ofNat)) else none
  | _=>none
 | .i k=>match x with
  | .int k' n=>if k=k' then some (.inr (k,n)) else none
  | _=>none
 | .o _ d=>keyD d x
theorem QGv (x:FV):∀d:KD,keyD d.b x=keyD d x
 | .s=>rfl
 | .i _=>rfl
 | .o _ d=>QGv x d
theorem QtD {d:KD}{x:FV}{k:Mk.MK}(h:keyD d x=some k):Mk.kOk (kdT d) k∧∀E,den E x=some (Mk.kV k):=by
 induction d with
 | o n d ih=>exact ih h
 | s=>
  cases x<;>simp only[keyD] at h<;>try (cases h;done)
  rename_i l
  split at h
  ·rename_i hb
   simp only[Option.some.injEq] at h;subst h
   exact⟨rfl,fun E=>by simp only[den,if_pos hb];rfl⟩
  ·cases h
 | i kk=>
  cases x<;>simp only[keyD] at h<;>try (cases h;done)
  rename_i k' n
  split at h
  ·rename_i e
   simp only[Option.some.injEq] at h;subst h;subst e
   exact⟨rfl,fun E=>rfl⟩
  ·cases h
def denM (E:Env)(d:KD):List (FV×FV)→Option (List (Mk.MK×Value))
 | []=>some []
 | p::r=>match keyD d p.1,den E p.2,denM E d r with
  | some k,some v,some l=>some ((k,v)::l)
  | _,_,_=>none
theorem QxY (E:Env)(d:KD):∀m:List (FV×FV),denM E d.b m=denM E d m
 | []=>rfl
 | p::r=>by simp only[denM,QGv,QxY E d r]
theorem Qd6 {E:Env}{d:KD}{p:FV×FV}{r:List (FV×FV)}{l:List (Mk.MK×Value)}(h:denM E d (p::r)=some l):∃k v l',keyD d p.1=some k∧den E p.2=some v∧denM E d r=some l'∧l=(k,v)::l':=by
 simp only[denM] at h
 cases h1:keyD d p.1 with
 | none=>rw[h1] at h;cases h
 | some k=>
  cases h2:den E p.2 with
  | none=>rw[h1,h2] at h;cases h
  | some v=>
   cases h3:denM E d r with
   | none=>rw[h1,h2,h3] at h;cases h
   | some l'=>rw[h1,h2,h3] at h;simp only[Option.some.injEq] at h;exact⟨k,v,l',rfl,rfl,rfl,h.symm⟩
theorem QtJ {E:Env}{d:KD}{p:FV×FV}{r:List (FV×FV)}{l:List (Mk.MK×Value)}{k:Mk.MK}{v:Value}(h1:keyD d p.1=some k)(h2:den E p.2=some v)(h3:denM E d r=some l):denM E d (p::r)=some ((k,v)::l):=by
 simp only[denM,h1,h2,h3]
theorem QlT {E F:Env}(he:E.Le0 F){d:KD}:∀ {m:List (FV×FV)}{l:List (Mk.MK×Value)},denM E d m=some l→denM F d m=some l
 | [],_,h=>h
 | p::r,l,h=>by
  obtain⟨k,v,l',h1,h2,h3,rfl⟩:=Qd6 h
  exact QtJ h1 (Qkl he h2) (QlT he h3)
theorem Qy6 {E:Env}{d:KD}:∀ {m:List (FV×FV)}{l:List (Mk.MK×Value)},denM E d m=some l→∀p∈l,Mk.kOk (kdT d) p.1
 | [],l,h,p,hp=>by simp only[denM,Option.some.injEq] at h;subst h;cases hp
 | q::r,l,h,p,hp=>by
  obtain⟨k,v,l',h1,h2,h3,rfl⟩:=Qd6 h
  rcases List.mem_cons.1 hp with rfl | hp
  ·exact (QtD h1).1
  ·exact Qy6 h3 p hp
theorem QmP {E:Env}{d:KD}:∀ {m:List (FV×FV)}{l:List (Mk.MK×Value)},denM E d m=some l→l.length=m.length
 | [],l,h=>by simp only[denM,Option.some.injEq] at h;subst h;rfl
 | q::r,l,h=>by
  obtain⟨k,v,l',h1,h2,h3,rfl⟩:=Qd6 h
  simp[QmP h3]
inductive Scr where
 | nil
 | f (b:Bool) (r:Scr)
 | s (l r:Scr)
 | auto (q:Scr) (l:List SC)
 | v (c:Int) (r:Scr)
 | w (c:SE) (lo hi:Int) (r:Scr)
 | n (r:Scr)
 | u (n:Nat) (r:Scr)
structure TH where
 t:Tr TO
 nx:Nat
 scr:Scr
def TH.set (th:TH)(i:Nat)(o:TO):TH:=⟨th.t.put i o,th.nx,th.scr⟩
def TH.new (th:TH)(o:TO):TH:=⟨th.t.put th.nx o,th.nx.succ,th.scr⟩
def TH.del (th:TH)(i:Nat):TH:=⟨th.t.del i,th.nx,th.scr⟩
def TH.scrp (th:TH)(s:Scr):TH:=⟨th.t,th.nx,s⟩
def Qfc (E:Env)(i:Nat)(cs:List FV)(k:Nat)(a:Addr)(vs post:List Value):Prop:=
 E.p i=some a∧denL E cs=some vs∧cs.all oneF=true∧(k=0→post=[]∧a.off=0)∧(k≠0→vs.length+post.length=E.c i * k)
theorem Qfc.mono {E F:Env}(h:E.Le0 F){i:Nat}{cs:List FV}{k:Nat}{a:Addr}{vs post:List Value}(c:Qfc E i cs k a vs post):Qfc F i cs k a vs post:=
 ⟨(h.a i a c.1).1,Qcj h c.2.1,c.2.2.1,c.2.2.2.1,by rw[(h.a i a c.1).2];exact c.2.2.2.2⟩
def MapU (d:KD)(v:Value)(m:List (Mk.MK×Value)):HP:=Mk.MapS v m ((List.range m.length).map (d.u+·)) (d.u+m.length)
def ItB (a:Addr)(m c:Nat)(b:List Nat):HP:=
  ⟨fun h S=>∃i,a=⟨i,0,none⟩∧S i∧h[i]?=some (.mapIter (some m) c b.toArray c),
   fun h h' S ⟨i,h1,h2,h3⟩ he=>⟨i,h1,h2,(he i h2).trans h3⟩⟩
def RoIs (E:Env)(i:Nat)(cs:List FV)(a:Addr)(vs:List Value):Prop:=E.p i=some a∧denL E cs=some vs∧cs.all oneF=true∧E.rd a vs
def NoP:HP:=⟨fun _ S=>∀b,¬S b,fun _ _ _ h _=>h⟩
structure Qju (E:Env)(i t:Nat)(es:List LD)(a:Addr)(v:Value)(ks:List CK):Prop where
 p:E.p i=some a
 s:E.s i=v
 ly:Vb.ly[t]?=some ks
 ne:ks≠[]
 wt:wtE es ks
 li:QI E.rd es ks
 len:es.length≤maxL
theorem Qju.mono {E F:Env}(h:E.Le0 F){i t:Nat}{es:List LD}{a:Addr}{v:Value}{ks:List CK}(r:Qju E i t es a v ks):Qju F i t es a v ks:=
 ⟨(h.a i a r.p).1,(h.s i a r.p).trans r.s,r.ly,r.ne,r.wt,Qam (fun _ _=>h.rd) r.li,r.len⟩
def mvV (ag:Bool)(l:List Value):Value:=match ag with
 | true=>.agg l.toArray
 | false=>l.headD .nilIface
def keyE (e:LD):Str:=(e.f 0).st
def entM (ag:Bool)(ks:List CK)(e:LD):Str×Value:=(keyE e,mvV ag (LD.vs ks (e.cs.drop 1)))
structure MpIs (E:Env)(i t:Nat)(ag:Bool)(es:List LD)(a:Addr)(ks:List CK):Prop where
 p:E.p i=some a
 ly:Vb.ly[t]?=some (.s::ks)
 one:ag=false→ks.length=1
 wt:wtE es (.s::ks)
 li:QI E.rd es (.s::ks)
 len:es.length≤maxL
theorem MpIs.mono {E F:Env}(h:E.Le0 F){i t:Nat}{ag:Bool}{es:List LD}{a:Addr}{ks:List CK}(r:MpIs E i t ag es a ks):MpIs F i t ag es a ks:=
 ⟨(h.a i a r.p).1,r.ly,r.one,r.wt,Qam (fun _ _=>h.rd) r.li,r.len⟩
def FzM (E:Env)(b:Nat)(m:List (Str×Value)):Prop:=∃st c,Go.Sh.Qga m st c∧(b,Obj.map (Go.Sh.ents m st).toArray c)∈E.z
theorem FzM.mono {E F:Env}(h:E.Le0 F){b:Nat}{m:List (Str×Value)}(r:FzM E b m):FzM F b m:=r.elim fun st r=>r.elim fun c r=>⟨st,c,r.1,h.z _ r.2⟩
def encZ (m:List (Str×Value))(st:List Nat)(c:Nat):Value:=
 .tuple #[.agg (m.map fun p=>str p.1).toArray,.agg (m.map (·.2)).toArray,.agg (st.map fun n:Nat=>Value.int .i64 (n:Int)).toArray,.int .i64 (c:Int)]
theorem QCB:∀ {m m':List (Str×Value)},(m.map fun p=>str p.1)=(m'.map fun p=>str p.1)→m.map (·.2)=m'.map (·.2)→m=m'
 | [],[],_,_=>rfl
 | [],_::_,h,_=>by simp at h
 | _::_,[],h,_=>by simp at h
 | (a,x)::m,(b,y)::m',h1,h2=>by
  simp only[List.map_cons,List.cons.injEq] at h1 h2
  have e:=QCB h1.2 h2.2
  have e1:a=b:=by have:=h1.1;simpa [str] using this
  rw[e,e1,h2.1]
theorem QCA:∀ {l l':List Nat},(l.map fun n:Nat=>Value.int .i64 (n:Int))=(l'.map fun n:Nat=>Value.int .i64 (n:Int))→l=l'
 | [],[],_=>rfl
 | [],_::_,h=>by simp at h
 | _::_,[],h=>by simp at h
 | a::l,b::l',h=>by
  simp only[List.map_cons,List.cons.injEq] at h
  have e1:a=b:=by have:=h.1;simp only[Value.int.injEq,true_and] at this;omega
  rw[e1,QCA h.2]
theorem encZ_inj {m m':List (Str×Value)}{st st':List Nat}{c c':Nat}(h:encZ m st c=encZ m' st' c'):m=m'∧st=st'∧c=c':=by
 unfold encZ at h
 injection h with h
 have h:=congrArg Array.toList h
 simp only[List.cons.injEq,and_true] at h
 obtain⟨h1,h2,h3,h4⟩:=h
 injection h1 with h1
 injection h2 with h2
 injection h3 with h3
 injection h4 with _ h4
 exact⟨QCB (List.toArray_inj h1) (List.toArray_inj h2),QCA (List.toArray_inj h3),by omega⟩
structure ImIs (E:Env)(j i t:Nat)(ag:Bool)(rest:List LD)(cur:Option LD)(a ma:Addr)(ks:List CK)(m:List (Str×Value))(st:List Nat)(c:Nat)(dn:List Str):Prop where
 p:E.p j=some a
 pm:E.p i=some ma
 pin:E.s j=encZ m st c
 ly:Vb.ly[t]?=some (.s::ks)
 one:ag=false→ks.length=1
 wt:wtE rest (.s::ks)
 li:QI E.rd rest (.s::ks)
 ok:Go.Sh.Qga m st c
 z:(ma.block,Obj.map (Go.Sh.ents m st).toArray c)∈E.z
 sub:∀k∈dn,k∈m.map (·.1)
 all:∀k∈m.map (·.1),k∈dn∨k∈rest.map keyE
 rst:∀e∈rest,Go.Sh.look m (keyE e)=some (entM ag ks e).2∧keyE e ∉ dn
 nd:(rest.map keyE).Nodup
 len:rest.length≤maxL
 cur:∀e,cur=some e→wtT e (.s::ks)∧Qbz E.rd e (.s::ks)∧Go.Sh.look m (keyE e)=some (entM ag ks e).2∧∃l,dn=l++[keyE e]
theorem ImIs.mono {E F:Env}(h:E.Le0 F){j i t:Nat}{ag:Bool}{rest:List LD}{cur:Option LD}{a ma:Addr}{ks:List CK}{m:List (Str×Value)}{st:List Nat}{c:Nat}{dn:List Str}(r:ImIs E j i t ag rest cur a ma ks m st c dn):ImIs F j i t ag rest cur a ma ks m st c dn:=
 ⟨(h.a j a r.p).1,(h.a i ma r.pm).1,(h.s j a r.p).trans r.pin,r.ly,r.one,r.wt,Qam (fun _ _=>h.rd) r.li,r.ok,h.z _ r.z,r.sub,r.all,r.rst,r.nd,r.len,fun e he=>⟨(r.cur e he).1,Qxp (fun _ _=>h.rd) (r.cur e he).2.1,(r.cur e he).2.2⟩⟩
structure ImZ where
 a:Addr
 ma:Addr
 ks:List CK
 m:List (Str×Value)
 st:List Nat
 c:Nat
 dn:List Str
def part (E:Env)(x:Nat×TO):HP:=match x.2 with
 | .mp t ag es=>HP.ex fun z:Addr×List CK=>HP.pure (MpIs E x.1 t ag es z.1 z.2) (Go.Sh.MapO (.map (some z.1.block)) (es.map (entM ag z.2)))
 | .mf t ag es=>HP.ex fun z:Addr×List CK=>HP.pure (MpIs E x.1 t ag es z.1 z.2∧FzM E z.1.block (es.map (entM ag z.2))) NoP
 | .im i t ag rest cur=>HP.ex fun z:ImZ=>HP.pure (ImIs E x.1 i t ag rest cur z.a z.ma z.ks z.m z.st z.c z.dn) (Go.Sh.QBg (.pointer (some z.a)) (.map (some z.ma.block)) (z.m.map (·.1)) z.st z.c z.dn)
 | .row t es=>HP.ex fun z:Addr×Value×List CK=>HP.pure (Qju E x.1 t es z.1 z.2.1 z.2.2) (Row z.2.2.length z.2.1 es.length (LD.vsE z.2.2 es))
 | .cells cs k=>HP.ex fun z:Addr×List Value×List Value=>HP.pure (Qfc E x.1 cs k z.1 z.2.1 z.2.2) (Qap (.pointer (some z.1)) (z.2.1++z.2.2))
 | .map d m=>HP.ex fun z:Addr×List (Mk.MK×Value)=>HP.pure (E.p x.1=some z.1∧denM E d m=some z.2) (MapU d (.map (some z.1.block)) z.2)
 | .it i c b=>HP.ex fun z:Addr×Addr=>HP.pure (E.p x.1=some z.1∧E.p i=some z.2) (ItB z.1 z.2.block c b)
 | .ro cs=>HP.ex fun z:Addr×List Value=>HP.pure (RoIs E x.1 cs z.1 z.2) NoP
theorem Qcs {E F:Env}(h:E.Le0 F){x:Nat×TO}{hp:Heap}{S:Nat→Prop}(o:(part E x).own hp S):(part F x).own hp S:=by
 obtain⟨i,o'⟩:=x
 cases o' with
 | cells cs k=>
  obtain⟨z,hz,hc⟩:=o
  exact⟨z,hz.mono h,hc⟩
 | map d m=>
  obtain⟨z,hz,hc⟩:=o
  exact⟨z,⟨(h.a _ _ hz.1).1,QlT h hz.2⟩,hc⟩
 | it ii c b=>
  obtain⟨z,hz,hc⟩:=o
  exact⟨z,⟨(h.a _ _ hz.1).1,(h.a _ _ hz.2).1⟩,hc⟩
 | ro cs=>
  obtain⟨z,hz,hc⟩:=o
  exact⟨z,⟨(h.a _ _ hz.1).1,Qcj h hz.2.1,hz.2.2.1,h.rd hz.2.2.2⟩,hc⟩
 | row t es=>
  obtain⟨z,hz,hc⟩:=o
  exact⟨z,hz.mono h,hc⟩
 | mp t ag es=>
  obtain⟨z,hz,hc⟩:=o
  exact⟨z,hz.mono h,hc⟩
 | mf t ag es=>
  obtain⟨z,hz,hc⟩:=o
  exact⟨z,⟨hz.1.mono h,hz.2.mono h⟩,hc⟩
 | im i t ag rest cur=>
  obtain⟨z,hz,hc⟩:=o
  exact⟨z,hz.mono h,hc⟩
theorem Sep.imps {h:Heap}{α:Type}{f g:α→HP}(hf:∀x S,(f x).own h S→(g x).own h S){L:List HP}:∀ {l:List α}{U:Nat→Prop},Sep h (l.map f++L) U→Sep h (l.map g++L) U
 | [],_,s=>s
 | x::l,_,⟨S,a,b,c⟩=>⟨S,hf x S a,b,Sep.imps hf c⟩
def FzP (z:List (Nat×Obj)):HP:=⟨fun h S=>∀q∈z,S q.1∧h[q.1]?=some q.2,fun h h' S f he=>fun q hq=>⟨(f q hq).1,(he _ (f q hq).1).trans (f q hq).2⟩⟩
structure Rep (E:Env)(th:TH)(h0 h:Heap)(L:List HP):Prop where
 st:St h0 h (th.t.all.map (part E)++(FzP E.z::L))
 fr:∀i,th.nx≤i→E.p i=none∧E.r i=false
 eh:E.h=h0
theorem Rep.fz {E:Env}{th:TH}{h0 h:Heap}{L:List HP}(r:Rep E th h0 h L):E.fz h:=by
 refine⟨fun b o hb=>?_,?_⟩
 ·have hb':=hb
  rw[r.eh] at hb
  have hlt:=(Array.getElem?_eq_some_iff.1 hb).1
  rw[←hb];exact r.st.ext.2 b hlt
 ·obtain⟨S,h1,_⟩:=(r.st.perm List.perm_middle).get
  exact fun q hq=>(h1 q hq).2
theorem Rep.mono {E F:Env}{th:TH}{h0 h:Heap}{L:List HP}(r:Rep E th h0 h L)(he:E.Le0 F)(hz:F.z=E.z)(hf:∀i,th.nx≤i→F.p i=none∧F.r i=false):Rep F th h0 h L:=
 ⟨by rw[hz];exact⟨r.st.1,Sep.imps (fun x S=>Qcs he) r.st.2⟩,hf,he.h.trans r.eh⟩
theorem Rep.scrp {E:Env}{th:TH}{h0 h:Heap}{L:List HP}(r:Rep E th h0 h L)(s:Scr):Rep E (th.scrp s) h0 h L:=⟨r.st,r.fr,r.eh⟩
theorem Rep.pick {E:Env}{th:TH}{h0 h:Heap}{L:List HP}(r:Rep E th h0 h L){i:Nat}{o:TO}(hg:th.t.get i=some o) :
  St h0 h (part E (i,o)::((th.t.del i).all.map (part E)++(FzP E.z::L))):=
 r.st.perm (((Tr.perm hg).1.map (part E)).append_right _)
theorem Rep.put {E:Env}{th:TH}{h0 h:Heap}{L:List HP}{i:Nat}{o o':TO}(hg:th.t.get i=some o)(s:St h0 h (part E (i,o')::((th.t.del i).all.map (part E)++(FzP E.z::L))))
  (fr:∀i,th.nx≤i→E.p i=none∧E.r i=false) (eh:E.h=h0):Rep E (th.set i o') h0 h L:=
 ⟨s.perm ((((Tr.perm hg).2 o').map (part E)).append_right _).symm,fr,eh⟩
theorem Rep.del {E:Env}{th:TH}{h0 h:Heap}{L:List HP}(r:Rep E th h0 h L){i:Nat}{o:TO}(hg:th.t.get i=some o):Rep E (th.del i) h0 h L:=⟨(r.pick hg).drop,r.fr,r.eh⟩
theorem Rep.told {E:Env}{th:TH}{h0 h:Heap}{L:List HP}(r:Rep E th h0 h L){i:Nat}{cs:List FV}{k:Nat}(hg:th.t.get i=some (.cells cs k)) :
  ∃a vs post,Qfc E i cs k a vs post∧St h0 h (Qap (.pointer (some a)) (vs++post)::((th.t.del i).all.map (part E)++(FzP E.z::L))):=by
 obtain⟨z,s⟩:=(r.pick hg).ex
 obtain⟨hz,s⟩:=s.pure
 exact⟨z.1,z.2.1,z.2.2,hz,s⟩
theorem Rep.toldM {E:Env}{th:TH}{h0 h:Heap}{L:List HP}(r:Rep E th h0 h L){i:Nat}{d:KD}{m:List (FV×FV)}(hg:th.t.get i=some (.map d m)) :
  ∃a l,E.p i=some a∧denM E d m=some l∧St h0 h (MapU d (.map (some a.block)) l::((th.t.del i).all.map (part E)++(FzP E.z::L))):=by
 obtain⟨z,s⟩:=(r.pick hg).ex
 obtain⟨hz,s⟩:=s.pure
 exact⟨z.1,z.2,hz.1,hz.2,s⟩
theorem Rep.toldI {E:Env}{th:TH}{h0 h:Heap}{L:List HP}(r:Rep E th h0 h L){i j c:Nat}{b:List Nat}(hg:th.t.get i=some (.it j c b)) :
  ∃a m,E.p i=some a∧E.p j=some m∧St h0 h (ItB a m.block c b::((th.t.del i).all.map (part E)++(FzP E.z::L))):=by
 obtain⟨z,s⟩:=(r.pick hg).ex
 obtain⟨hz,s⟩:=s.pure
 exact⟨z.1,z.2,hz.1,hz.2,s⟩
theorem Rep.toldR {E:Env}{th:TH}{h0 h:Heap}{L:List HP}(r:Rep E th h0 h L){i:Nat}{cs:List FV}(hg:th.t.get i=some (.ro cs)) :
  ∃a vs,RoIs E i cs a vs∧St h0 h (NoP::((th.t.del i).all.map (part E)++(FzP E.z::L))):=by
 obtain⟨z,s⟩:=(r.pick hg).ex
 obtain⟨hz,s⟩:=s.pure
 exact⟨z.1,z.2,hz,s⟩
theorem Rep.toldW {E:Env}{th:TH}{h0 h:Heap}{L:List HP}(r:Rep E th h0 h L){i t:Nat}{es:List LD}(hg:th.t.get i=some (.row t es)) :
  ∃a v ks,Qju E i t es a v ks∧St h0 h (Row ks.length v es.length (LD.vsE ks es)::((th.t.del i).all.map (part E)++(FzP E.z::L))):=by
 obtain⟨z,s⟩:=(r.pick hg).ex
 obtain⟨hz,s⟩:=s.pure
 exact⟨z.1,z.2.1,z.2.2,hz,s⟩
theorem Rep.toldP {E:Env}{th:TH}{h0 h:Heap}{L:List HP}(r:Rep E th h0 h L){i t:Nat}{ag:Bool}{es:List LD}(hg:th.t.get i=some (.mp t ag es)) :
  ∃a ks,MpIs E i t ag es a ks∧St h0 h (Go.Sh.MapO (.map (some a.block)) (es.map (entM ag ks))::((th.t.del i).all.map (part E)++(FzP E.z::L))):=by
 obtain⟨z,s⟩:=(r.pick hg).ex
 obtain⟨hz,s⟩:=s.pure
 exact⟨z.1,z.2,hz,s⟩
theorem Rep.toldF {E:Env}{th:TH}{h0 h:Heap}{L:List HP}(r:Rep E th h0 h L){i t:Nat}{ag:Bool}{es:List LD}(hg:th.t.get i=some (.mf t ag es)) :
  ∃a ks,MpIs E i t ag es a ks∧FzM E a.block (es.map (entM ag ks)):=by
 obtain⟨z,s⟩:=(r.pick hg).ex
 obtain⟨hz,s⟩:=s.pure
 exact⟨z.1,z.2,hz.1,hz.2⟩
theorem Rep.toldIm {E:Env}{th:TH}{h0 h:Heap}{L:List HP}(r:Rep E th h0 h L){j i t:Nat}{ag:Bool}{rest:List LD}{cur:Option LD}(hg:th.t.get j=some (.im i t ag rest cur)) :
  ∃z:ImZ,ImIs E j i t ag rest cur z.a z.ma z.ks z.m z.st z.c z.dn∧St h0 h (Go.Sh.QBg (.pointer (some z.a)) (.map (some z.ma.block)) (z.m.map (·.1)) z.st z.c z.dn::((th.t.del j).all.map (part E)++(FzP E.z::L))):=by
 obtain⟨z,s⟩:=(r.pick hg).ex
 obtain⟨hz,s⟩:=s.pure
 exact⟨z,hz,s⟩
theorem Rep.nx {E:Env}{th:TH}{h0 h:Heap}{L:List HP}(r:Rep E th h0 h L):th.t.get th.nx=none:=by
 cases hg:th.t.get th.nx with
 | none=>rfl
 | some o=>
  cases o with
  | cells cs k=>
   obtain⟨a,vs,post,hc,_⟩:=r.told hg
   have h1:=hc.1
   rw[(r.fr _ (Nat.le_refl _)).1] at h1
   cases h1
  | map d m=>
   obtain⟨a,l,h1,_⟩:=r.toldM hg
   rw[(r.fr _ (Nat.le_refl _)).1] at h1
   cases h1
  | it j c b=>
   obtain⟨a,m,h1,_⟩:=r.toldI hg
   rw[(r.fr _ (Nat.le_refl _)).1] at h1
   cases h1
  | ro cs=>
   obtain⟨a,vs,h1,_⟩:=r.toldR hg
   have h1:=h1.1
   rw[(r.fr _ (Nat.le_refl _)).1] at h1
   cases h1
  | row t es=>
   obtain⟨a,v,ks,h1,_⟩:=r.toldW hg
   have h1:=h1.p
   rw[(r.fr _ (Nat.le_refl _)).1] at h1
   cases h1
  | mp t ag es=>
   obtain⟨a,ks,h1,_⟩:=r.toldP hg
   have h1:=h1.p
   rw[(r.fr _ (Nat.le_refl _)).1] at h1
   cases h1
  | mf t ag es=>
   obtain⟨a,ks,h1,_⟩:=r.toldF hg
   have h1:=h1.p
   rw[(r.fr _ (Nat.le_refl _)).1] at h1
   cases h1
  | im i t ag rest cur=>
   obtain⟨z,h1,_⟩:=r.toldIm hg
   have h1:=h1.p
   rw[(r.fr _ (Nat.le_refl _)).1] at h1
   cases h1
def Env.add (E:Env)(i:Nat)(a:Addr)(c:Nat):Env:=⟨fun j=>if j=i then some a else E.p j,fun j=>if j=i then c else E.c j,E.r,E.h,E.z,E.s⟩
theorem Env.le_add {E:Env}{i:Nat}(a:Addr)(c:Nat)(h:E.p i=none∧E.r i=false):E.Le (E.add i a c):=⟨⟨fun j b hb=>by
 have:j≠i:=fun e=>by rw[e,h.1] at hb;cases hb
 simp[Env.add,this,hb],rfl,fun _ hq=>hq,fun _ _ _=>rfl⟩,fun j hj=>by
 have:j≠i:=fun e=>by rw[e,h.2] at hj;cases hj
 simp[Env.add,this,hj]⟩
theorem Rep.add {E:Env}{th:TH}{h0 h:Heap}{L:List HP}{cs:List FV}{k c:Nat}{a:Addr}{vs post:List Value}
  (fr:∀i,th.nx≤i→E.p i=none∧E.r i=false) (eh:E.h=h0) (hn:th.t.get th.nx=none)
  (s:St h0 h (Qap (.pointer (some a)) (vs++post)::(th.t.all.map (part E)++(FzP E.z::L)))) (hd:denL E cs=some vs) (ho:cs.all oneF=true) (h1:k=0→post=[]∧a.off=0) (h2:k≠0→vs.length+post.length=c * k) :
  E.Le (E.add th.nx a c)∧Rep (E.add th.nx a c) (th.new (.cells cs k)) h0 h L:=by
 have hle:=Env.le_add a c (fr th.nx (Nat.le_refl _))
 have hi:(E.add th.nx a c).p th.nx=some a:=by simp[Env.add]
 have hc:(E.add th.nx a c).c th.nx=c:=by simp[Env.add]
 refine⟨hle,⟨?_,fun i hi=>?_,eh⟩⟩
 ·have hp:(part (E.add th.nx a c) (th.nx,.cells cs k)::(th.t.all.map (part (E.add th.nx a c))++(FzP E.z::L))).Perm ((th.new (.cells cs k)).t.all.map (part (E.add th.nx a c))++(FzP E.z::L)):=
   (((Tr.perm_new (TO.cells cs k) hn).map (part (E.add th.nx a c))).append_right _).symm
  refine St.perm ?_ hp
  have s2:St h0 h (part (E.add th.nx a c) (th.nx,.cells cs k)::(th.t.all.map (part E)++(FzP E.z::L))):=
   s.imp fun S ho'=>⟨(a,vs,post),⟨hi,QcO hle hd,ho,h1,by rw[hc];exact h2⟩,ho'⟩
  obtain⟨he,S,hA,hS,r⟩:=s2
  exact⟨he,S,hA,hS,Sep.imps (fun x S=>Qcs hle.p) r⟩
 ·have:i≠th.nx:=by have:th.nx.succ≤i:=hi;omega
  simp only[Env.add,this,if_false]
  exact fr i (by have:th.nx.succ≤i:=hi;omega)
theorem Rep.addO {E:Env}{th:TH}{h0 h:Heap}{L:List HP}{o:TO}{a:Addr}{A:HP}(fr:∀i,th.nx≤i→E.p i=none∧E.r i=false)(eh:E.h=h0)(hn:th.t.get th.nx=none)
  (s:St h0 h (A::(th.t.all.map (part E)++(FzP E.z::L)))) (g:∀S,A.own h S→(part (E.add th.nx a 0) (th.nx,o)).own h S):E.Le (E.add th.nx a 0)∧Rep (E.add th.nx a 0) (th.new o) h0 h L:=by
 have hle:=Env.le_add a 0 (fr th.nx (Nat.le_refl _))
 refine⟨hle,⟨?_,fun i hi=>?_,eh⟩⟩
 ·have hp:(part (E.add th.nx a 0) (th.nx,o)::(th.t.all.map (part (E.add th.nx a 0))++(FzP E.z::L))).Perm ((th.new o).t.all.map (part (E.add th.nx a 0))++(FzP E.z::L)):=
   (((Tr.perm_new o hn).map (part (E.add th.nx a 0))).append_right _).symm
  refine St.perm ?_ hp
  obtain⟨he,S,hA,hS,r⟩:=s.imp g
  exact⟨he,S,hA,hS,Sep.imps (fun x S=>Qcs hle.p) r⟩
 ·have:i≠th.nx:=by have:th.nx.succ≤i:=hi;omega
  simp only[Env.add,this,if_false]
  exact fr i (by have:th.nx.succ≤i:=hi;omega)
def Env.addR (E:Env)(i:Nat)(v:Value):Env:=⟨fun j=>if j=i then some ⟨0,0,none⟩ else E.p j,fun j=>if j=i then 0 else E.c j,E.r,E.h,E.z,fun j=>if j=i then v else E.s j⟩
theorem Env.le_addR {E:Env}{i:Nat}(v:Value)(h:E.p i=none∧E.r i=false):E.Le (E.addR i v):=⟨⟨fun j b hb=>by
 have:j≠i:=fun e=>by rw[e,h.1] at hb;cases hb
 simp[Env.addR,this,hb],rfl,fun _ hq=>hq,fun j b hb=>by
 have:j≠i:=fun e=>by rw[e,h.1] at hb;cases hb
 simp[Env.addR,this]⟩,fun j hj=>by
 have:j≠i:=fun e=>by rw[e,h.2] at hj;cases hj
 simp[Env.addR,this,hj]⟩
theorem Rep.addW {E:Env}{th:TH}{h0 h:Heap}{L:List HP}{t:Nat}{es:List LD}{v:Value}{ks:List CK}(fr:∀i,th.nx≤i→E.p i=none∧E.r i=false)(eh:E.h=h0)(hn:th.t.get th.nx=none)
  (ly:Vb.ly[t]?=some ks) (ne:ks≠[]) (w:wtE es ks) (li:QI E.rd es ks) (len:es.length≤maxL)
  (s:St h0 h (Row ks.length v es.length (LD.vsE ks es)::(th.t.all.map (part E)++(FzP E.z::L)))):E.Le (E.addR th.nx v)∧Rep (E.addR th.nx v) (th.new (.row t es)) h0 h L∧den (E.addR th.nx v) (.os t th.nx)=some v:=by
 have hle:=Env.le_addR v (fr th.nx (Nat.le_refl _))
 refine⟨hle,⟨?_,fun i hi=>?_,eh⟩,?_⟩
 ·have hp:(part (E.addR th.nx v) (th.nx,.row t es)::(th.t.all.map (part (E.addR th.nx v))++(FzP E.z::L))).Perm ((th.new (.row t es)).t.all.map (part (E.addR th.nx v))++(FzP E.z::L)):=
   (((Tr.perm_new (TO.row t es) hn).map (part (E.addR th.nx v))).append_right _).symm
  refine St.perm ?_ hp
  obtain⟨he,S,hA,hS,r⟩:=s
  exact⟨he,S,⟨(⟨0,0,none⟩,v,ks),⟨by simp[Env.addR],by simp[Env.addR],ly,ne,w,Qam (fun _ _=>hle.p.rd) li,len⟩,hA⟩,hS,Sep.imps (fun x S=>Qcs hle.p) r⟩
 ·have:i≠th.nx:=by have:th.nx.succ≤i:=hi;omega
  simp only[Env.addR,this,if_false]
  exact fr i (by have:th.nx.succ≤i:=hi;omega)
 ·obtain⟨⟨a,c,hv⟩,_,_⟩:=s.row
  simp[den,Env.addR,hv]
theorem Rep.addM {E:Env}{th:TH}{h0 h:Heap}{L:List HP}{d:KD}{a:Addr}(fr:∀i,th.nx≤i→E.p i=none∧E.r i=false)(eh:E.h=h0)(hn:th.t.get th.nx=none)
  (s:St h0 h (MapU d (.map (some a.block)) []::(th.t.all.map (part E)++(FzP E.z::L)))):E.Le (E.add th.nx a 0)∧Rep (E.add th.nx a 0) (th.new (.map d [])) h0 h L:=
 Rep.addO fr eh hn s fun S ho'=>⟨(a,[]),⟨by simp[Env.add],rfl⟩,ho'⟩
def hd? {α:Type}:List α→Option α
 | []=>none
 | a::_=>some a
def Qaz {α:Type}(n:Nat):List α→List α:=Nat.rec (motive:=fun _=>List α→List α) (fun l=>l) (fun _ ih l=>List.rec (motive:=fun _=>List α) [] (fun _ r _=>ih r) l) n
theorem Qbo {α:Type}:∀(n:Nat)(l:List α),Qaz n l=l.drop n
 | 0,l=>rfl
 | n+1,[]=>rfl
 | n+1,a::r=>by
  show Qaz n r=_
  simp[Qbo n r]
def Qbb {α:Type}(n:Nat):List α→Option (List α):=Nat.rec (motive:=fun _=>List α→Option (List α)) (fun _=>some [])
 (fun _ ih l=>List.rec (motive:=fun _=>Option (List α)) none (fun a r _=>Option.rec (motive:=fun _=>Option (List α)) none (fun t=>some (a::t)) (ih r)) l) n
theorem QEI {α:Type}(l:List α):Qbb 0 l=some []:=rfl
theorem QFE {α:Type}(n:Nat):Qbb (n+1) ([]:List α)=none:=rfl
theorem QEJ {α:Type}(n:Nat)(a:α)(r:List α):Qbb (n+1) (a::r)=match Qbb n r with
  | some t=>some (a::t)
  | none=>none:=by
 show Option.rec (motive:=fun _=>Option (List α)) none (fun t=>some (a::t)) (Qbb n r)=_
 cases Qbb n r<;>rfl
theorem Qcd {α:Type}:∀ {n:Nat}{l t:List α},Qbb n l=some t→t=l.take n∧n≤l.length
 | 0,l,t,h=>by rw[QEI] at h;simp only[Option.some.injEq] at h;subst h;simp
 | n+1,[],t,h=>by rw[QFE] at h;cases h
 | n+1,a::r,t,h=>by
  rw[QEJ] at h
  cases ht:Qbb n r with
  | none=>rw[ht] at h;cases h
  | some u=>
   rw[ht] at h
   simp only[Option.some.injEq] at h
   obtain⟨h1,h2⟩:=Qcd ht
   subst h
   exact⟨by simp[h1],by simpa using h2⟩
theorem QeW {α:Type}{l:List α}{a:α}{n:Nat}(h:hd? (Qaz n l)=some a):l[n]?=some a:=by
 rw[Qbo] at h
 have:(l.drop n)[0]?=some a:=by
  cases hl:l.drop n with
  | nil=>rw[hl] at h;cases h
  | cons x r=>rw[hl] at h;simpa [hd?] using h
 simpa [List.getElem?_drop] using this
def ovr (xs:List FV):List FV→Option (List FV):=List.rec (motive:=fun _=>List FV→Option (List FV)) (fun cs=>some cs)
 (fun x _ ih cs=>List.rec (motive:=fun _=>Option (List FV)) none (fun _ r _=>Option.rec (motive:=fun _=>Option (List FV)) none (fun t=>some (x::t)) (ih r)) cs) xs
theorem QIP (cs:List FV):ovr [] cs=some cs:=rfl
theorem QKc (x:FV)(xs:List FV):ovr (x::xs) []=none:=rfl
theorem QHm (x:FV)(xs:List FV)(c:FV)(r:List FV):ovr (x::xs) (c::r)=match ovr xs r with
  | some t=>some (x::t)
  | none=>none:=by
 show Option.rec (motive:=fun _=>Option (List FV)) none (fun t=>some (x::t)) (ovr xs r)=_
 cases ovr xs r<;>rfl
def splO (xs:List FV)(n:Nat):List FV→Option (List FV):=Nat.rec (motive:=fun _=>List FV→Option (List FV)) (fun cs=>ovr xs cs)
 (fun _ ih cs=>List.rec (motive:=fun _=>Option (List FV)) none (fun c r _=>Option.rec (motive:=fun _=>Option (List FV)) none (fun t=>some (c::t)) (ih r)) cs) n
theorem QHb (xs:List FV)(n:Nat):splO xs (n+1) []=none:=rfl
theorem QFH (xs:List FV)(n:Nat)(c:FV)(r:List FV):splO xs (n+1) (c::r)=match splO xs n r with
  | some t=>some (c::t)
  | none=>none:=by
 show Option.rec (motive:=fun _=>Option (List FV)) none (fun t=>some (c::t)) (splO xs n r)=_
 cases splO xs n r<;>rfl
theorem QBK:∀ {xs cs t:List FV},ovr xs cs=some t→t=xs++cs.drop xs.length∧xs.length≤cs.length
 | [],cs,t,h=>by rw[QIP] at h;simp only[Option.some.injEq] at h;subst h;simp
 | x::xs,[],t,h=>by rw[QKc] at h;cases h
 | x::xs,c::r,t,h=>by
  rw[QHm] at h
  cases ht:ovr xs r with
  | none=>rw[ht] at h;cases h
  | some u=>
   rw[ht] at h
   simp only[Option.some.injEq] at h
   obtain⟨h1,h2⟩:=QBK ht
   subst h
   exact⟨by simp[h1],by simpa using h2⟩
theorem Qhd {xs:List FV}:∀ {n:Nat}{cs t:List FV},splO xs n cs=some t→t=setF cs n xs∧n+xs.length≤cs.length
 | 0,cs,t,h=>by
  obtain⟨h1,h2⟩:=QBK h
  exact⟨by rw[h1,Qzr xs cs h2],by omega⟩
 | n+1,[],t,h=>by rw[QHb] at h;cases h
 | n+1,c::r,t,h=>by
  rw[QFH] at h
  cases ht:splO xs n r with
  | none=>rw[ht] at h;cases h
  | some u=>
   rw[ht] at h
   simp only[Option.some.injEq] at h
   obtain⟨h1,h2⟩:=Qhd ht
   subst h
   exact⟨by rw[h1,QrI],by simp;omega⟩
theorem Ql9:∀ {xs cs:List FV}{n:Nat},cs.all oneF=true→xs.all oneF=true→(setF cs n xs).all oneF=true
 | [],cs,n,h,_=>h
 | x::xs,cs,n,h,hx=>by
  simp only[List.all_cons,Bool.and_eq_true] at hx
  show (setF (cs.set n x) (n+1) xs).all oneF=true
  refine Ql9 ?_ hx.2
  rw[List.all_eq_true] at h ⊢
  intro y hy
  rcases List.mem_or_eq_of_mem_set hy with h1 | rfl
  ·exact h y h1
  ·exact hx.1
end Go.Va
