import Derived.Test.YtmdppkbekmpopaaGreatVmr
set_option linter.unusedVariables false
set_option linter.unusedSimpArgs false
set_option linter.unusedSectionVars false
noncomputable section
namespace Go.Va
open Go Go.Sh
variable [Vb]
variable {P:Program}
def keyO:FV→Option Str
 | .str l=>some (l.map UInt8.ofNat)
 | .sstr s=>some s
 | _=>none
variable {E:Env}{v:Value}{x:FV}
theorem QHx {k:Str}(h:keyO x=some k)(hd:den E x=some v):v=str k:=by
 cases x<;>simp only[keyO] at h<;>try (cases h;done)
 ·cases sJ h
  simp only[den] at hd
  split at hd
  ·simp only[sj] at hd;exact hd.symm
  ·cases hd
 ·cases sJ h
  exact (Qcr hd).2
def lkmK (z:FV)(ok:Bool)(t:Nat)(ag:Bool)(es:List LD)(k:FV)(th:TH)(K:FV→TH→Prop):Prop:=match keyO k with
 | some q=>match lyG t with
  | some ks=>match ks with
   | .s::ks=>(∀e:LD,QU q es=some e→K (resM z ok (some (valE ag ks e))) th)∧(QU q es=none→K (resM z ok none) th)
   | _=>False
  | none=>False
 | none=>False
def lkmO (d:KD)(z:FV)(ok:Bool)(i:Nat)(o:TO)(k:FV)(th:TH)(K:FV→TH→Prop):Prop:=match mpO o with
 | some p=>match d with
  | .s=>lkmK z ok p.1 p.2.1 p.2.2 k th K
  | _=>False
 | none=>match lkpF th.t d z ok (.map i) k with
  | some y=>K y th
  | none=>False
def lkmX (d:KD)(z:FV)(ok:Bool)(x k:FV)(th:TH)(K:FV→TH→Prop):Prop:=match x with
 | .map i=>match th.t.get i with
  | some o=>lkmO d z ok i o k th K
  | none=>False
 | x=>match lkpF th.t d z ok x k with
  | some y=>K y th
  | none=>False
variable {h:Heap}
theorem Sq.toX [Gd]{s:Sem Next}{Q:Value→Prop}{K:Value→Heap→Prop}(q:Sq P (Eq h) s Q)(g:∀v,Q v→K v h):Sx P s h K:=fun w hw=>by
 obtain⟨v,hv,hq⟩:=q
 rw[hv w hw.symm]
 exact⟨Qx.refl w,by rw[hw];exact g v hq⟩
variable {z:FV}
theorem QBH {zv:Value}(hz:den E z=some zv)(ok:Bool){x:Option FV}{y:Option Value}(hx:∀f,x=some f→∃u,y=some u∧den E f=some u)(hn:x=none→y=none):den E (resM z ok x)=some (if ok then .tuple #[y.getD zv,.bool y.isSome] else y.getD zv):=by
 cases x with
 | none=>
  rw[hn rfl]
  cases ok with
  | true=>simp only[resM,if_true,den,denL,hz];rfl
  | false=>simp only[resM,Bool.false_eq_true,if_false];exact hz
 | some f=>
  obtain⟨u,rfl,hu⟩:=hx f rfl
  cases ok with
  | true=>simp only[resM,if_true,den,denL,hu];rfl
  | false=>simp only[resM,Bool.false_eq_true,if_false];exact hu
variable {K:FV→TH→Prop}{L:List HP}{d:KD}{et kt t:TypeId}{h0:Heap}{k:FV}{th:TH}
theorem QKl [Gd](r:Rep E th h0 h L)(hu:P.underlying t=some (.map kt et))(hd:kdO P kt=some d)(hz:zvO P et=some z){ok:Bool}{u:Value}
  (hv:den E x=some v) (hk:den E k=some u) (hx:lkmX d z ok x k th K):Sx P (nv (Instr.lookup t v u ok)) h (Post E h0 L K):=by
 have old:(∃y,lkpF th.t d z ok x k=some y∧K y th)→Sx P (nv (Instr.lookup t v u ok)) h (Post E h0 L K):=fun⟨y,h1,h2⟩=>
  Sq.toX (QGl r hu hd hz hv hk h1) fun v' hv'=>Post.same hv' r h2
 have old2:(match lkpF th.t d z ok x k with
   | some y=>K y th
   | none=>False)→Sx P (nv (Instr.lookup t v u ok)) h (Post E h0 L K):=fun hx=>by
  cases hl:lkpF th.t d z ok x k with
  | none=>rw[hl] at hx;exact hx.elim
  | some y=>rw[hl] at hx;exact old ⟨y,hl,hx⟩
 cases x<;>try (exact old2 hx)
 rename_i i
 simp only[lkmX] at hx
 cases hg:th.t.get i with
 | none=>rw[hg] at hx;exact hx.elim
 | some o=>
  rw[hg] at hx
  simp only[lkmO] at hx
  cases ho:mpO o with
  | none=>rw[ho] at hx;exact old2 hx
  | some p=>
   rw[ho] at hx
   obtain⟨tt,ag,es⟩:=p
   simp only at hx
   cases d<;>try (exact hx.elim)
   simp only[lkmK] at hx
   cases hq:keyO k with
   | none=>rw[hq] at hx;exact hx.elim
   | some q=>
    rw[hq] at hx
    simp only at hx
    cases hl:lyG tt with
    | none=>rw[hl] at hx;exact hx.elim
    | some ks=>
     rw[hl] at hx
     simp only at hx
     split at hx<;>try (exact hx.elim)
     rename_i ks
     have ly:=QaN hl
     have eu:=QHx hq hk
     subst eu
     obtain⟨kk,bb,zv,hi,hzd⟩:=QDG hz
     haveI:=hi
     haveI:Und P t (.map kt et):=⟨hu⟩
     haveI:Und P kt .string:=⟨Qr2 hd⟩
     obtain⟨a,ks',st,c,hw,hr⟩:=r.rdP hg ho
     have ek:ks'=ks:=by have:=hw.ly;rw[ly] at this;simpa using this.symm
     subst ek
     obtain⟨a',ha,rfl⟩:=QeF hv
     rw[hw.p] at ha;cases sJ ha
     have lk:=QvT q ag ks' es
     refine Sq.toX (oLook_val (P:=P) (m:=es.map (entM ag ks')) (D:=Eq h) (K:=fun v=>v=if ok then .tuple #[(Go.Sh.look (es.map (entM ag ks')) q).getD zv,.bool (Go.Sh.look (es.map (entM ag ks')) q).isSome] else (Go.Sh.look (es.map (entM ag ks')) q).getD zv) (fun h' e=>by subst e;exact⟨st,c,hr⟩) rfl) fun v' hv'=>?_
     subst hv'
     rw[lk]
     cases he:QU q es with
     | none=>
      exact Post.same (QBH (x:=none) (y:=none) (hzd E) ok (fun f h=>by cases h) fun _=>rfl) r (hx.2 he)
     | some e=>
      obtain⟨m1,m2⟩:=QzH he
      have hd1:=(Qvi (E:=E) (Qti hw.wt m1) (Qnz hw.li m1) hw.one).1
      exact Post.same (QBH (x:=some (valE ag ks' e)) (y:=some (entM ag ks' e).2) (hzd E) ok (fun f h=>by cases sJ h;exact⟨_,rfl,hd1⟩) fun h=>by cases h) r (hx.1 e he)
def agV (ag:Bool)(v:FV):Bool:=match ag with
 | true=>match v with
  | .agg _=>true
  | _=>false
 | false=>oneF v
def bqB (a b:Bool):Bool:=match a with
 | true=>b
 | false=>!b
theorem QBf {a b:Bool}(h:bqB a b=true):a=b:=by cases a<;>cases b<;>first | rfl | cases h
def mumK (i t:Nat)(ag:Bool)(ds:List LD)(th:TH)(K:FV→TH→Prop):Prop:=match th.t.get i with
 | some o=>match o with
  | .mp t2 ag2 es=>bif Nat.beq t t2&&bqB ag ag2 then es.length<maxL∧K undF (th.set i (.mp t ag (upE (keyE (.t ds)) (.t ds) es))) else False
  | _=>False
 | none=>False
def mumO (d:KD)(i:Nat)(o:TO)(k v:FV)(th:TH)(K:FV→TH→Prop):Prop:=match o with
 | .mp t ag _=>match d with
  | .s=>match lyG t with
   | some ks=>match ks with
    | .s::ks=>bif agV ag v then frzL (frz fzD) (.s::ks) (k::QbI v) th fun ds th=>mumK i t ag ds th K else False
    | _=>False
   | none=>False
  | _=>False
 | _=>mupF d (.map i) k v th K
def mumX (d:KD)(x k v:FV)(th:TH)(K:FV→TH→Prop):Prop:=match x with
 | .map i=>match th.t.get i with
  | some o=>mumO d i o k v th K
  | none=>False
 | x=>mupF d x k v th K
variable {ag:Bool}{c:Value}
theorem QGW {v:FV}(h:agV ag v=true)(hd:den E v=some c):mvV ag c.cells.toList=c:=by
 cases ag with
 | true=>
  cases v<;>simp only[agV] at h<;>try (cases h;done)
  simp only[den] at hd
  split at hd
  ·split at hd
   ·cases sJ hd;rfl
   ·cases hd
  ·cases hd
 | false=>
  have:=cells_one (v:=c) (fun cs e=>by subst e;cases QEm hd h)
  rw[this];rfl
theorem QGc [Gd](r:Rep E th h0 h L)(hu:P.underlying t=some (.map kt et))(hd:kdO P kt=some d){v:FV}{a b:Value}
  (ha:den E x=some a) (hb:den E k=some b) (hc:den E v=some c) (hx:mumX d x k v th K):oUpd P t a b c h (Post E h0 L K):=by
 have old:mupF d x k v th K→oUpd P t a b c h (Post E h0 L K):=fun hx=>QGb r hu hd ha hb hc hx
 cases x<;>try (exact old hx)
 rename_i i
 simp only[mumX] at hx
 cases hg:th.t.get i with
 | none=>rw[hg] at hx;exact hx.elim
 | some o=>
  rw[hg] at hx
  cases o<;>try (exact old hx)
  rename_i tt ag es
  simp only[mumO] at hx
  cases d<;>try (exact hx.elim)
  simp only at hx
  cases hl:lyG tt with
  | none=>rw[hl] at hx;exact hx.elim
  | some ks=>
   rw[hl] at hx
   simp only at hx
   split at hx<;>try (exact hx.elim)
   rename_i ks
   have ly:=QaN hl
   obtain⟨hag,hx⟩:=Q1 hx
   haveI:Und P t (.map kt et):=⟨hu⟩
   haveI:Und P kt .string:=⟨Qr2 hd⟩
   obtain⟨z,ds,th',g1,g2,g3,g4,g5,g6,g7⟩:=Qjf (QgB fzD) (.s::ks) _ th _ hx E h0 h L _ r (Qau hb (QcN hc))
   simp only[mumK] at g7
   cases hg':th'.t.get i with
   | none=>rw[hg'] at g7;exact g7.elim
   | some o'=>
    rw[hg'] at g7
    cases o'<;>try (exact g7.elim)
    rename_i t2 ag2 es2
    simp only at g7
    obtain⟨hbb,hlen,g8⟩:=Q1 g7
    simp only[Bool.and_eq_true] at hbb
    have e1:=Qm hbb.1
    have e2:=QBf hbb.2
    subst e1 e2
    obtain⟨ad,ks',hw,s⟩:=g3.toldP hg'
    obtain⟨st,c',s⟩:=s.mapO
    have ek:ks'=ks:=by have:=hw.ly;rw[ly] at this;simpa using this.symm
    subst ek
    obtain⟨a',ha',rfl⟩:=QeF ha
    have ea:a'=ad:=by have:=hw.p;rw[show (E.wz z).p i=E.p i from rfl,ha'] at this;simpa using this
    subst ea
    cases ds with
    | nil=>simp only[wtL] at g4
    | cons d0 dr=>
     simp only[LD.vs,List.cons.injEq] at g6
     have hk:b=str (keyE (.t (d0::dr))):=g6.1.symm
     have hval:(entM ag ks' (.t (d0::dr))).2=c:=by
      show mvV ag (LD.vs ks' dr)=c
      rw[g6.2];exact QGW hag hc
     subst hk
     refine oUpd_own (m:=es2.map (entM ag ks')) s fun h' st' c2 _ s'=>?_
     rw[←hval,QDS _ _ _ _ rfl] at s'
     have hw2:MpIs (E.wz z) i tt ag (upE (keyE (.t (d0::dr))) (.t (d0::dr)) es2) a' ks':=
      ⟨hw.p,hw.ly,hw.one,QFz (by simp only[wtT];exact g4) hw.wt,QFA (by simp only[Qbz];exact g5) hw.li,by have:=Qi6 (keyE (.t (d0::dr))) (.t (d0::dr)) es2;omega⟩
     have r2:=Rep.put (E:=E.wz z) (o':=.mp tt ag (upE (keyE (.t (d0::dr))) (.t (d0::dr)) es2)) hg' (s'.toMapO.imp fun S hS=>⟨(a',ks'),hw2,hS⟩) g3.fr g3.eh
     exact⟨_,undF,_,Env.le_wz g1,Qhv _,r2,g8⟩
theorem Post.le {F:Env}{h':Heap}(hle:E.Le F)(p:Post F h0 L K v h'):Post E h0 L K v h':=by
 obtain⟨G,x,th,h1,h2⟩:=p
 exact⟨G,x,th,hle.trans h1,h2⟩
variable {i:Nat}
theorem Rep.take {o:TO}(r:Rep E th h0 h (part E (i,o)::L)):Rep E ⟨th.t.put i o,th.nx,th.scr⟩ h0 h L:=by
 refine⟨?_,r.fr,r.eh⟩
 cases hg:th.t.get i with
 | none=>
  refine r.st.perm ?_
  have:=((Tr.perm_new o hg).map (part E)).append_right (FzP E.z::L)
  refine List.Perm.trans ?_ this.symm
  exact (List.Perm.append_left _ (.swap _ _ _)).trans List.perm_middle
 | some o'=>
  have s:=(r.pick hg).drop
  refine s.perm ?_
  have:=(((Tr.perm hg).2 o).map (part E)).append_right (FzP E.z::L)
  refine List.Perm.trans ?_ this.symm
  exact (List.Perm.append_left _ (.swap _ _ _)).trans List.perm_middle
def QBa (ag:Bool)(ks:List CK):List (FV×FV)→TH→(List LD→TH→Prop)→Prop
 | [],th,K=>K [] th
 | p::r,th,K=>match p.1 with
  | .str l=>bif Nat.ble l.length 1000000&&agV ag p.2 then frzL (frz fzD) ks (QbI p.2) th fun ds th=>QBa ag ks r th fun es th=>K (.t (.s (l.map UInt8.ofNat)::ds)::es) th else False
  | _=>False
theorem QCc {l:List Nat}{k:Mk.MK}:∀ {d:KD},keyD d (.str l)=some k→k=.inl (l.map UInt8.ofNat)
 | .s,h=>by
  simp only[keyD] at h
  split at h
  ·simp only[sj] at h;exact h.symm
  ·cases h
 | .i _,h=>by simp[keyD] at h
 | .o _ d,h=>QCc (d:=d) h
def toMK (p:Str×Value):Mk.MK×Value:=(.inl p.1,p.2)
theorem QCq {ag:Bool}{ks:List CK}{d:KD}:∀(m:List (FV×FV)) (th:TH) (K:List LD→TH→Prop),QBa ag ks m th K→∀(E:Env) (h0 h:Heap) (L:List HP) (l:List (Mk.MK×Value)),Rep E th h0 h L→denM E d m=some l →
  ∃z es th',(∀q∈E.z,q∈z)∧th'.nx=th.nx∧Rep (E.wz z) th' h0 h L∧wtE es (.s::ks)∧QI (E.wz z).rd es (.s::ks)∧es.length=m.length∧l=(es.map (entM ag ks)).map toMK∧K es th'
 | [],th,K,hx,E,h0,h,L,l,r,hd=>by
  simp only[denM,sj] at hd;subst hd
  exact⟨E.z,[],th,fun _ h=>h,rfl,r.self,by simp only[wtE],by simp only[QI],rfl,rfl,hx⟩
 | p::m,th,K,hx,E,h0,h,L,l,r,hd=>by
  obtain⟨x,v⟩:=p
  simp only[QBa] at hx
  cases x<;>try (exact hx.elim)
  rename_i q
  simp only at hx
  obtain⟨hb,hx⟩:=Q1 hx
  simp only[Bool.and_eq_true] at hb
  obtain⟨k,u,l',h1,h2,h3,rfl⟩:=Qd6 hd
  have ek:=QCc h1
  subst ek
  obtain⟨z,ds,th',g1,g2,g3,g4,g5,g6,g7⟩:=Qjf (QgB fzD) ks _ th _ hx E h0 h L _ r (QcN h2)
  obtain⟨z',es,th2,e1,e2,e3,e4,e5,e6,e7,e8⟩:=QCq m th' _ g7 (E.wz z) h0 h L l' g3 (QlT (Env.le_wz (E:=E) g1).p h3)
  refine⟨z',_,th2,fun q hq=>e1 q (g1 q hq),e2.trans g2,e3,?_,?_,?_,?_,e8⟩
  ·simp only[wtE,wtT,wtL,wt]
   refine⟨⟨?_,g4⟩,e4⟩
   have:=Qag hb.1
   rw[List.length_map]
   unfold maxL;omega
  ·simp only[QI,Qbz,Q5,lies]
   exact⟨⟨trivial,Qf5 (fun _ _=>(Env.le_wz (E:=E.wz z) e1).p.rd) g5⟩,e5⟩
  ·simp only[List.length_cons,e6]
  ·rw[e7]
   show _=toMK (entM ag ks (.t (.s (q.map UInt8.ofNat)::ds)))::_
   have:entM ag ks (.t (.s (q.map UInt8.ofNat)::ds))=(q.map UInt8.ofNat,u):=by
    show (q.map UInt8.ofNat,mvV ag (LD.vs ks ds))=_
    rw[g6,QGW hb.2 h2]
   rw[this];rfl
theorem QGK:∀(m:List (Str×Value)) (st:List Nat),Mk.ents (m.map toMK) st=Go.Sh.ents m st
 | [],_=>rfl
 | _::_,[]=>rfl
 | p::m,s::st=>by
  have:=QGK m st
  show (⟨Mk.kV (.inl p.1),p.2,s⟩:MapEntry)::Mk.ents (m.map toMK) st=⟨str p.1,p.2,s⟩::Go.Sh.ents m st
  rw[this];rfl
theorem QKi {m:List (Str×Value)}{S:Nat→Prop}(o:(MapU d v (m.map toMK)).own h S):(Go.Sh.MapO v m).own h S:=by
 obtain⟨hok,r,h1,h2,h3⟩:=o
 refine⟨(List.range (m.map toMK).length).map (d.u+·),d.u+(m.map toMK).length,⟨?_,?_,hok.born,hok.lt⟩,r,h1,h2,?_⟩
 ·exact (List.length_map (f:=toMK)).symm.trans hok.len
 ·have:=hok.keys
  rw[List.map_map] at this
  have e:((fun x:Mk.MK×Value=>x.1) ∘ toMK)=(fun k:Str=>(Sum.inl k:Mk.MK)) ∘ (·.1):=rfl
  rw[e,←List.map_map] at this
  exact (List.pairwise_map.1 this).imp fun h e=>h (by rw[e])
 ·rw[h3,QGK]
def cvMp (t:Nat)(ag:Bool)(i:Nat)(m:List (FV×FV))(th:TH)(K:TH→Prop):Prop:=match lyG t with
 | some ks=>match ks with
  | .s::ks=>bif (ag||Nat.beq ks.length 1)&&Nat.ble m.length 1000000 then QBa ag ks m (th.del i) fun es th=>K ⟨th.t.put i (.mp t ag es),th.nx,th.scr⟩ else False
  | _=>False
 | none=>False
theorem QJl {t:Nat}{m:List (FV×FV)}{K:TH→Prop}(hx:cvMp t ag i m th K)(r:Rep E th h0 h L)(hg:th.t.get i=some (.map d m)) :
  ∃z th',(∀q∈E.z,q∈z)∧Rep (E.wz z) th' h0 h L∧K th':=by
 unfold cvMp at hx
 cases hl:lyG t with
 | none=>rw[hl] at hx;exact hx.elim
 | some ks=>
  rw[hl] at hx
  simp only at hx
  split at hx<;>try (exact hx.elim)
  rename_i ks
  have ly:=QaN hl
  obtain⟨hb,hx⟩:=Q1 hx
  simp only[Bool.and_eq_true] at hb
  obtain⟨a,l,hp,hd,_⟩:=r.toldM hg
  obtain⟨z,es,th',g1,g2,g3,g4,g5,g6,g7,g8⟩:=QCq m (th.del i) _ hx E h0 h _ l (r.out hg) hd
  refine⟨z,_,g1,Rep.take (i:=i) (o:=.mp t ag es) ?_,g8⟩
  have one:ag=false→ks.length=1:=fun e=>by
   subst e
   exact Qm (by simpa using hb.1)
  have s:=g3.outP.imp fun S hS=>(show (part (E.wz z) (i,.mp t ag es)).own h S by
   obtain⟨y,hy,hc⟩:=hS
   have e1:y.1=a:=by have:=hy.1;rw[hp] at this;simpa using this.symm
   have e2:y.2=l:=by have:=hy.2;rw[hd] at this;simpa using this.symm
   rw[e1,e2,g7] at hc
   exact⟨(a,ks),⟨hp,ly,one,g4,g5,by have:=Qag hb.2;rw[g6];unfold maxL;omega⟩,QKi hc⟩)
  exact⟨s.perm ((List.Perm.cons _ List.perm_middle.symm).trans (List.perm_middle.symm.trans (List.Perm.append_left _ (.swap _ _ _)))),g3.fr,g3.eh⟩
end Go.Va
namespace Go.Va
open Go Go.Sh
variable [Vb]
variable {P:Program}
variable {h:Heap}
theorem Sp.toX [Gd]{s:Sem Next}{K:Value→Heap→Prop}(q:Sp P s fun v=>K v h):Sx P s h K:=fun w hw=>by
 obtain⟨v,hv,hq⟩:=q
 rw[hv w]
 exact⟨Qx.refl w,by rw[hw];exact hq⟩
variable {L:List HP}{e t:TypeId}{h0:Heap}{k:Nat}{v:Value}
theorem QIV (hu:P.underlying t=some (.slice e))(hk:szO P e=some k){n m:Nat}{cs:List Value}{ik:IntKind}{K:Value→Prop}
  (s:St h0 h (Row k v n cs::L)) (hm:m≤n) (g:∀v',St h0 h (Row k v' m (cs.take (m * k))::L)→K v'):QfD P t v none (some (.int ik m)) none K:=by
 haveI:=QbA hk
 obtain⟨he,S,⟨hl,hown⟩,r⟩:=id s
 have hel:P.underlying t=some (.slice (P.elem t)):=by
  rw[hu]
  congr 1
  simp[Program.elem,hu]
 have hel2:P.elem t=e:=by
  rw[hu] at hel
  simpa using hel.symm
 rcases hown with⟨rfl,rfl⟩ | ⟨a,cap,post,rfl,h2,h3,h4⟩
 ·have hm0:m=0:=om
  subst hm0
  refine⟨.slice none 0 0,fun w=>QA ?_,g _ ?_⟩
  ·rw[run_sliceAt_slice w t _ _ _ _ hel,show ((0:Nat):Int)=0 from rfl,run_slice_h w t none 0 0 hel ik 0 om om,hel2,Siz.run]
   rfl
  ·have:cs=[]:=by simpa using hl
   subst this
   simpa using s
 ·refine⟨.slice (some a) m cap,fun w=>QA ?_,g _ ?_⟩
  ·rw[run_sliceAt_slice w t _ _ _ _ hel,run_slice_h w t (some a) n cap hel ik m om om,hel2,Siz.run]
   simp only[Result.andThen_ok,sliced,Int.toNat_natCast,Nat.sub_zero,Nat.zero_mul,Option.map_some,Addr.add,if_true]
   split<;>rfl
  ·refine⟨he,S,⟨?_,.inr ⟨a,cap,cs.drop (m * k)++post,rfl,om,?_,?_⟩⟩,r⟩
   ·rw[List.length_take,hl]
    exact Nat.min_eq_left (Nat.mul_le_mul_right _ hm)
   ·rw[List.length_append,List.length_drop,hl,h3,←Nat.sub_mul,←Nat.add_mul]
    congr 1
    omega
   ·rw[←List.append_assoc,List.take_append_drop]
    exact h4
def sloK (k t i:Nat)(n:SE)(th:TH)(K:FV→TH→Prop):Prop:=match lyG t with
 | some ks=>match th.t.get i with
  | some o=>match o with
   | .row t2 es=>bif Nat.beq k ks.length&&Nat.beq t t2 then (0≤n.ev∧n.ev.toNat≤es.length)∧K (.os t th.nx) ((th.del i).new (.row t (es.take n.ev.toNat))) else False
   | _=>False
  | none=>False
 | none=>False
def xSlo (k:Nat)(x:Opd)(lo hi mx:Option Opd)(fr:Fr)(th:TH)(K:FV→TH→Prop):Prop:=match lo with
 | some _=>False
 | none=>match mx with
  | some _=>False
  | none=>match bdN fr hi with
   | some b=>match b with
    | some n=>match evO fr x with
     | some v=>match v with
      | .os t i=>sloK k t i n th K
      | _=>False
     | none=>False
    | none=>False
   | none=>False
variable {E:Env}{K:FV→TH→Prop}{th:TH}
theorem QJ4 [Gd](r:Rep E th h0 h L)(hu:P.underlying t=some (.slice e))(hk:szO P e=some k){tt i:Nat}(hv:den E (.os tt i)=some v){n:SE}{w:Option Value}
  (hw:0≤n.ev→OI (toN (some n)) w) (hx:sloK k tt i n th K):QfD P t v none w none fun v=>Post E h0 L K v h:=by
 simp only[sloK] at hx
 cases hl:lyG tt with
 | none=>rw[hl] at hx;exact hx.elim
 | some ks=>
  rw[hl] at hx
  simp only at hx
  cases hg:th.t.get i with
  | none=>rw[hg] at hx;exact hx.elim
  | some o=>
   rw[hg] at hx
   cases o<;>try (exact hx.elim)
   rename_i t2 es
   simp only at hx
   obtain⟨hb,⟨c1,c2⟩,hx2⟩:=Q1 hx
   simp only[Bool.and_eq_true] at hb
   have e1:=Qm hb.1
   have e2:=Qm hb.2
   subst e1 e2
   have ly:=QaN hl
   obtain⟨a,v1,ks',hr,s⟩:=r.toldW hg
   have ek:ks'=ks:=by have:=hr.ly;rw[ly] at this;simpa using this.symm
   subst ek
   obtain⟨_,hs,_⟩:=Qe4 hv
   have ev:v1=v:=hr.s.symm.trans hs
   subst ev
   obtain⟨ik,rfl⟩:=hw c1
   refine QIV hu hk s c2 fun v' s'=>?_
   have hlen:(es.take n.ev.toNat).length=n.ev.toNat:=by rw[List.length_take];exact Nat.min_eq_left c2
   have hvs:LD.vsE ks' (es.take n.ev.toNat)=(LD.vsE ks' es).take (n.ev.toNat * ks'.length):=by
    have:=QDP hr.wt 0 n.ev.toNat
    simpa using this
   rw[←hvs] at s'
   have rd:=r.del hg
   obtain⟨a1,a2,a3⟩:=Rep.addW (E:=E) (th:=th.del i) (t:=tt) (ks:=ks') (es:=es.take n.ev.toNat) rd.fr rd.eh rd.nx ly hr.ne (Qi5 _ hr.wt) (QpY _ hr.li) (by rw[hlen];exact Nat.le_trans c2 hr.len) (by rw[hlen];exact s')
   exact⟨_,_,_,a1,a3,a2,hx2⟩
def zLD:List CK→List FV→Option (List LD)
 | [],[]=>some []
 | k::ks,z::zs=>match toLD k z with
  | some d=>match zLD ks zs with
   | some ds=>some (d::ds)
   | none=>none
  | none=>none
 | _,_=>none
theorem QFt {E:Env}:∀ {ks:List CK}{zs:List FV}{ds:List LD}{us:List Value},zLD ks zs=some ds→denL E zs=some us→wtL ds ks∧Q5 E.rd ds ks∧LD.vs ks ds=us
 | [],[],ds,us,h,hd=>by
  simp only[zLD,sj] at h;subst h
  simp only[denL,sj] at hd;subst hd
  exact⟨by simp only[wtL],by simp only[Q5],rfl⟩
 | [],_::_,ds,us,h,hd=>by simp[zLD] at h
 | _::_,[],ds,us,h,hd=>by simp[zLD] at h
 | k::ks,z::zs,ds,us,h,hd=>by
  simp only[zLD] at h
  obtain⟨u,us',h1,h2,rfl⟩:=QR hd
  cases ht:toLD k z with
  | none=>rw[ht] at h;cases h
  | some d=>
   rw[ht] at h
   cases hz:zLD ks zs with
   | none=>rw[hz] at h;cases h
   | some ds'=>
    rw[hz] at h;cases sJ h
    obtain⟨f1,f2⟩:=Qtn ht h1
    obtain⟨g1,g2,g3⟩:=QFt hz h2
    exact⟨by simp only[wtL];exact⟨f1.1,g1⟩,by simp only[Q5];exact⟨f1.2,g2⟩,by simp only[LD.vs,f2,g3]⟩
def zTy (z:List FV):List (List CK)→Nat→Option (Nat×List LD)
 | [],_=>none
 | ks::r,t=>match zLD ks z with
  | some ds=>some (t,ds)
  | none=>zTy z r t.succ
def apoK (k b:Nat)(z:List FV)(n:FV)(th:TH)(K:FV→TH→Prop):Prop:=match zbn n with
 | some p=>match zTy z Vb.ly 0 with
  | some q=>match lyG q.1 with
   | some ks=>match zLD ks z with
    | some ds=>(0<p.2.1.ev∧p.2.1.ev.toNat * b≤140737488355328∧p.2.1.ev.toNat≤4611686018427387904)∧K (.os q.1 th.nx) (th.new (.row q.1 (List.replicate p.2.1.ev.toNat (.t ds))))
    | none=>False
   | none=>False
  | none=>False
 | none=>False
def xApo (k b:Nat)(z:List FV)(s n:Opd)(fr:Fr)(th:TH)(K:FV→TH→Prop):Prop:=match evN fr n with
 | some _=>xApc k b z s n fr th K
 | none=>match evO fr s with
  | some v=>match v with
   | .nsl=>match evO fr n with
    | some n=>apoK k b z n th K
    | none=>False
   | _=>False
  | none=>False
theorem QDH {z:List Value}(hp:0<z.length):∀n,((List.range (n * z.length)).map fun i=>z.toArray[i % z.length]!)=(List.replicate n z).flatten
 | 0=>by simp
 | n+1=>by
  rw[show (n+1) * z.length=z.length+n * z.length by rw[Nat.add_mul];omega,List.range_add,List.map_append,List.map_map,List.replicate_succ,List.flatten_cons]
  congr 1
  ·apply List.ext_getElem
   ·simp
   ·intro i h1 h2
    simp[Nat.mod_eq_of_lt h2,List.getElem?_eq_getElem h2]
  ·rw[←QDH hp n]
   refine List.map_congr_left fun i _=>?_
   simp
theorem QDR (ks:List CK)(ds:List LD):∀n,LD.vsE ks (List.replicate n (.t ds))=(List.replicate n (LD.vs ks ds)).flatten
 | 0=>rfl
 | n+1=>by
  rw[List.replicate_succ,List.replicate_succ,List.flatten_cons,←QDR ks ds n]
  rfl
variable {t' ty:TypeId}{x:FV}
theorem QKS [Gd](r:Rep E th h0 h L){kk:IntKind}{z:List FV}{i:TypeInfo}(hu:P.underlying t=some (.slice e))(hu':P.underlying t'=some (.int kk))(hz:zrO P e=some z)(hi:P.info? e=some i)
  (hp:0<z.length) (hv:den E x=some v) (hx:apoK z.length i.bytes z x th K):QbY P #[t,t'] ty #[.slice none 0 0,v] h (Post E h0 L K):=by
 obtain⟨i',zv,h1,h2,h3,h4,h5,h6⟩:=Qe5 hz
 rw[hi] at h1;cases sJ h1
 simp only[apoK] at hx
 cases hb:zbn x with
 | none=>rw[hb] at hx;exact hx.elim
 | some p=>
  obtain⟨kq,m,lo,hi2⟩:=p
  rw[hb] at hx
  simp only at hx
  cases hq:zTy z Vb.ly 0 with
  | none=>rw[hq] at hx;exact hx.elim
  | some q=>
   rw[hq] at hx
   simp only at hx
   cases hl:lyG q.1 with
   | none=>rw[hl] at hx;exact hx.elim
   | some ks=>
    rw[hl] at hx
    simp only at hx
    cases hd:zLD ks z with
    | none=>rw[hd] at hx;exact hx.elim
    | some ds=>
     rw[hd] at hx
     simp only at hx
     obtain⟨⟨c1,c2,c3⟩,hx2⟩:=hx
     obtain⟨rfl,_⟩:=Qcl hb hv
     generalize hN:m.ev.toNat=N at *
     have eN:m.ev=(N:Int):=om
     rw[eN]
     have hzd:=Qcf E h3
     obtain⟨g1,g2,g3⟩:=QFt hd hzd
     have hkl:ks.length=z.length:=by rw[←(QaW g1).1,g3,QS hzd]
     have hzl:zv.cells.toList.length=z.length:=QS hzd
     have ly:=QaN hl
     intro w hw
     have hr1:=Go.Lib.run_append_nil_zeros (P:=P) w t t' ty e i zv kq kk hu hu' hi h2 N om om om om
     rw[QA hr1]
     refine⟨⟨rfl,rfl,rfl,fun _=>by first | exact nr | exact Nat.le_succ _ | exact Nat.le_add_right _ _⟩,?_⟩
     show Post E h0 L K _ (w.heap.push _)
     have hge:=grownCap_ge w N 0 e
     have e1:Builtin.zeroCells zv.cells N++Builtin.zeroCells zv.cells (grownCap w N 0 e - N)=(LD.vsE ks (List.replicate N (.t ds))++(Builtin.zeroCells zv.cells (grownCap w N 0 e - N)).toList).toArray:=by
      rw[QDR,g3,←QDH om]
      apply Array.ext'
      simp[Builtin.zeroCells]
     rw[e1,hw]
     have s:=r.st.push (LD.vsE ks (List.replicate N (.t ds))++(Builtin.zeroCells zv.cells (grownCap w N 0 e - N)).toList) e
     have hwt:wtE (List.replicate N (.t ds)) ks:=QBi fun x hx=>by rw[List.eq_of_mem_replicate hx];simp only[wtT];exact g1
     have hli:QI E.rd (List.replicate N (.t ds)) ks:=QvU fun x hx=>by rw[List.eq_of_mem_replicate hx];simp only[Qbz];exact g2
     have s2:=s.rowShut (k:=ks.length) (n:=N) (cap:=grownCap w N 0 e) om (by rw[Array.length_toList,Qc8,h6,hkl,h5]) (by rw[QbS hwt,List.length_replicate])
     obtain⟨a1,a2,a3⟩:=Rep.addW (E:=E) (th:=th) (t:=q.1) (ks:=ks) (es:=List.replicate N (.t ds)) r.fr r.eh r.nx ly (fun e=>by rw[e] at hkl;simp at hkl;omega) hwt hli (by rw[List.length_replicate];unfold maxL;omega) (by rw[List.length_replicate];exact s2)
     exact⟨_,_,_,a1,a3,a2,hx2⟩
def dlE (k:Str):List LD→List LD
 | []=>[]
 | e::r=>if keyE e=k then r else e::dlE k r
def dlM (k:Str):List (Str×Value)→List (Str×Value)
 | []=>[]
 | p::r=>if p.1=k then r else p::dlM k r
theorem QVH (k:Str)(ag:Bool)(ks:List CK):∀es:List LD,dlM k (es.map (entM ag ks))=(dlE k es).map (entM ag ks)
 | []=>rfl
 | e::r=>by
  show (if keyE e=k then r.map (entM ag ks) else entM ag ks e::dlM k (r.map (entM ag ks)))=_
  unfold dlE
  split
  ·rfl
  ·rw[List.map_cons,QVH k ag ks r]
theorem QT5 (k:Str):∀es:List LD,(dlE k es).Sublist es
 | []=>.refl _
 | e::r=>by
  unfold dlE
  split
  ·exact .cons _ (.refl _)
  ·exact .cons_cons _ (QT5 k r)
def dlS (k:Str):List (Str×Value)→List Nat→List Nat
 | p::r,b::st=>if p.1=k then st else b::dlS k r st
 | _,_=>[]
theorem QVG (k:Str):∀m:List (Str×Value),(dlM k m).Sublist m
 | []=>.refl _
 | e::r=>by
  unfold dlM
  split
  ·exact .cons _ (.refl _)
  ·exact .cons_cons _ (QVG k r)
theorem QVF (k:Str):∀(m:List (Str×Value)) (st:List Nat),m.length=st.length→(dlS k m st).Sublist st∧(dlM k m).length=(dlS k m st).length
 | [],[],_=>⟨.refl _,rfl⟩
 | p::r,b::st,h=>by
  have h':r.length=st.length:=by simpa using h
  unfold dlS dlM
  split
  ·exact⟨.cons _ (.refl _),h'⟩
  ·obtain⟨h1,h2⟩:=QVF k r st h'
   exact⟨.cons_cons _ h1,by simp[h2]⟩
 | [],_::_,h=>by simp at h
 | _::_,[],h=>by simp at h
theorem QVD (k:Str):∀(m:List (Str×Value)) (st:List Nat) (i:Nat){j:Nat}{x:Value},m.length=st.length→lookI m k i=some (j,x)→i≤j∧Go.Sh.ents (dlM k m) (dlS k m st)=(Go.Sh.ents m st).eraseIdx (j - i)
 | [],_,_,_,_,_,h=>by simp[lookI] at h
 | (k',x')::m,b::st,i,j,x,hl,h=>by
  unfold lookI at h
  unfold dlM dlS
  simp only at h ⊢
  split at h
  ·rename_i hk
   simp only[sj,Prod.mk.injEq] at h
   obtain⟨rfl,rfl⟩:=h
   rw[if_pos hk,if_pos hk,Nat.sub_self]
   exact⟨nr,rfl⟩
  ·rename_i hk
   obtain⟨h1,h2⟩:=QVD k m st (i+1) (by simpa using hl) h
   rw[if_neg hk,if_neg hk]
   refine⟨om,?_⟩
   show (⟨str k',x',b⟩:MapEntry)::Go.Sh.ents (dlM k m) (dlS k m st)=(⟨str k',x',b⟩::Go.Sh.ents m st:List MapEntry).eraseIdx (j - i)
   rw[h2,show j - i=(j - (i+1))+1 by omega,List.eraseIdx_cons_succ]
 | _::_,[],_,_,_,hl,_=>by simp at hl
theorem QVE (k:Str):∀(m:List (Str×Value)) (st:List Nat) (i:Nat),m.length=st.length→lookI m k i=none→dlM k m=m∧dlS k m st=st
 | [],[],_,_,_=>⟨rfl,rfl⟩
 | (k',x')::m,b::st,i,hl,h=>by
  unfold lookI at h
  unfold dlM dlS
  simp only at h ⊢
  split at h
  ·cases h
  ·rename_i hk
   obtain⟨h1,h2⟩:=QVE k m st (i+1) (by simpa using hl) h
   rw[if_neg hk,if_neg hk,h1,h2]
   exact⟨rfl,rfl⟩
 | _::_,[],_,hl,_=>by simp at hl
 | [],_::_,_,hl,_=>by simp at hl
variable {et kt:TypeId}
theorem QWi [Gd](hu:P.underlying t=some (.map kt et))(hk:P.underlying kt=some .string){m:List (Str×Value)}{st:List Nat}{c:Nat}{k:Str}{K:Value→Heap→Prop}
  (s:St h0 h (Go.Sh.MapS v m st c::L)) (g:∀h',St h0 h' (Go.Sh.MapO v (dlM k m)::L)→K undef h'):QD5 P #[t,t'] ty #[v,str k] h K:=by
 haveI:Und P t (.map kt et):=⟨hu⟩
 haveI:Und P kt .string:=⟨hk⟩
 intro w hw
 obtain⟨_,S0,⟨hok,r,rfl,hSr,hb⟩,_,_⟩:=id s
 have hbw:w.heap[r]?=some (.map (Go.Sh.ents m st).toArray c):=by rw[hw];exact hb
 have h1:=Qno (P:=P) (kt:=kt) k m st hok.len w
 obtain⟨d1,d2⟩:=QVF k m st hok.len
 have hok':Go.Sh.Qga (dlM k m) (dlS k m st) c:=⟨d2,(((QVG k m).map (·.1)).nodup) hok.keys,d1.nodup hok.born,fun b hb=>hok.lt b (d1.subset hb)⟩
 have stepTo:St h0 (setB h r (.map (Go.Sh.ents (dlM k m) (dlS k m st)).toArray c)) (Go.Sh.MapO (.map (some r)) (dlM k m)::L):=by
  refine St.toMapO (st:=dlS k m st) (c:=c) (St.step s fun S' hA' hS'=>?_)
  obtain⟨_,r',hr',hSr',hb'⟩:=hA'
  simp only[Value.map.injEq,sj] at hr'
  subst hr'
  exact⟨by rw[QeJ];exact nr,fun i _ hi=>Qda (fun e=>hi (e ▸ hSr')),S',⟨hok',r,rfl,hSr',Qe6 (lt_of_some hb')⟩,fun i hi=>.inl hi⟩
 have hset:=Qf1 (P:=P) (o':=.map (Go.Sh.ents (dlM k m) (dlS k m st)).toArray c) hbw (by simp)
 rw[hw] at hset
 have hrun:(Builtin.delete_ #[t,t'] ty #[.map (some r),str k]).run P w=.ok (.tuple #[]) { w with heap:=setB h r (.map (Go.Sh.ents (dlM k m) (dlS k m st)).toArray c) }:=by
  unfold Builtin.delete_
  cases hf:lookI m k 0 with
  | some p=>
   obtain⟨j,x0⟩:=p
   obtain⟨_,he⟩:=QVD k m st 0 hok.len hf
   have he':(Go.Sh.ents m st).eraseIdx j=Go.Sh.ents (dlM k m) (dlS k m st):=by
    rw[he,Nat.sub_zero]
   simp[Und.run (P:=P) (t:=t),Qay (P:=P) hbw (by simp),QgR (P:=P) (kt:=kt) _ 9999 k,h1,hf,he',hset]
  | none=>
   obtain⟨e1,e2⟩:=QVE k m st 0 hok.len hf
   rw[e1,e2] at hset ⊢
   simp[Und.run (P:=P) (t:=t),Qay (P:=P) hbw (by simp),QgR (P:=P) (kt:=kt) _ 9999 k,h1,hf,hset]
 rw[QA hrun]
 exact⟨⟨rfl,rfl,rfl,fun _=>nr⟩,g _ stepTo⟩
def dlmO (d:KD)(i:Nat)(o:TO)(k:FV)(th:TH)(K:FV→TH→Prop):Prop:=match o with
 | .mp t ag es=>match d with
  | .s=>match keyO k with
   | some q=>K undF (th.set i (.mp t ag (dlE q es)))
   | none=>False
  | _=>False
 | _=>False
def dlmX (d:KD)(x k:FV)(th:TH)(K:FV→TH→Prop):Prop:=match x with
 | .map i=>match th.t.get i with
  | some o=>dlmO d i o k th K
  | none=>False
 | _=>False
theorem QWw [Gd](r:Rep E th h0 h L){d:KD}(hu:P.underlying t=some (.map kt et))(hd:kdO P kt=some d){k:FV}{a b:Value}
  (ha:den E x=some a) (hb:den E k=some b) (hx:dlmX d x k th K):QD5 P #[t,t'] ty #[a,b] h (Post E h0 L K):=by
 cases x<;>try (exact hx.elim)
 rename_i i
 simp only[dlmX] at hx
 cases hg:th.t.get i with
 | none=>rw[hg] at hx;exact hx.elim
 | some o=>
  rw[hg] at hx
  cases o<;>try (exact hx.elim)
  rename_i tt ag es
  simp only[dlmO] at hx
  cases d<;>try (exact hx.elim)
  simp only at hx
  cases hq:keyO k with
  | none=>rw[hq] at hx;exact hx.elim
  | some q=>
   rw[hq] at hx
   have eb:=QHx hq hb
   subst eb
   obtain⟨ad,ks,hw,s⟩:=r.toldP hg
   obtain⟨st,c,s⟩:=s.mapO
   obtain⟨a',ha',rfl⟩:=QeF ha
   have ea:a'=ad:=by have:=hw.p;rw[ha'] at this;simpa using this
   subst ea
   refine QWi hu (Qr2 hd) s fun h' s'=>?_
   rw[QVH] at s'
   have sub:=QT5 q es
   have hw2:MpIs E i tt ag (dlE q es) a' ks:=⟨hw.p,hw.ly,hw.one,QBi fun e he=>Qti hw.wt (sub.subset he),QvU fun e he=>Qnz hw.li (sub.subset he),Nat.le_trans sub.length_le hw.len⟩
   have r2:=Rep.put (o':=.mp tt ag (dlE q es)) hg (s'.imp fun S hS=>⟨(a',ks),hw2,hS⟩) r.fr r.eh
   exact Post.same (x:=undF) (Qhv E) r2 hx
end Go.Va
