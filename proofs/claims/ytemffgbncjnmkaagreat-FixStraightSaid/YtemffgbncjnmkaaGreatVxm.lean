import Derived.Test.YtemffgbncjnmkaaGreatVmr
set_option linter.unusedVariables false
set_option linter.unusedSectionVars false
set_option linter.unusedSimpArgs false
noncomputable section
namespace Go.Va
open Go Go.Sh
variable [Vb]
variable {P:Program}
def keyO:FV→Option Str
 | .str l=>some (l.map UInt8.ofNat)
 | .sstr s=>some s
 | _=>none
theorem QHx {E:Env}{x:FV}{v:Value}{k:Str}(h:keyO x=some k)(hd:den E x=some v):v=str k:=by
 cases x<;>simp only[keyO] at h<;>try (cases h;done)
 ·simp only[Option.some.injEq] at h;subst h
  simp only[den] at hd
  split at hd
  ·simp only[Option.some.injEq] at hd;exact hd.symm
  ·cases hd
 ·simp only[Option.some.injEq] at h;subst h
  exact (Qcr hd).2
def lkmK (z:FV)(ok:Bool)(t:Nat)(ag:Bool)(es:List LD)(k:FV)(th:TH)(K:FV→TH→Prop):Prop:=match keyO k with
 | some q=>match lyG t with
  | some ks=>match ks with
   | .s::ks=>(∀e:LD,QU q es=some e→K (resM z ok (some (valE ag ks e))) th)∧(QU q es=none→K (resM z ok none) th)
   | _=>False
  | none=>False
 | none=>False
def lkmO (d:KD)(z:FV)(ok:Bool)(i:Nat)(o:TO)(k:FV)(th:TH)(K:FV→TH→Prop):Prop:=match mpO o with
 | some p=>match d with
  | .s=>lkmK z ok p.1 p.2.1 p.2.2 k th K
  | _=>False
 | none=>match lkpF th.t d z ok (.map i) k with
  | some y=>K y th
  | none=>False
def lkmX (d:KD)(z:FV)(ok:Bool)(x k:FV)(th:TH)(K:FV→TH→Prop):Prop:=match x with
 | .map i=>match th.t.get i with
  | some o=>lkmO d z ok i o k th K
  | none=>False
 | x=>match lkpF th.t d z ok x k with
  | some y=>K y th
  | none=>False
theorem Sq.toX [Gd]{h:Heap}{s:Sem Next}{Q:Value→Prop}{K:Value→Heap→Prop}(q:Sq P (Eq h) s Q)(g:∀v,Q v→K v h):Sx P s h K:=fun w hw=>by
 obtain⟨v,hv,hq⟩:=q
 rw[hv w hw.symm]
 exact⟨Qx.refl w,by rw[hw];exact g v hq⟩
theorem QBH {E:Env}{z:FV}{zv:Value}(hz:den E z=some zv)(ok:Bool){x:Option FV}{y:Option Value}(hx:∀f,x=some f→∃u,y=some u∧den E f=some u)(hn:x=none→y=none):den E (resM z ok x)=some (if ok then .tuple #[y.getD zv,.bool y.isSome] else y.getD zv):=by
 cases x with
 | none=>
  rw[hn rfl]
  cases ok with
  | true=>simp only[resM,if_true,den,denL,hz];rfl
  | false=>simp only[resM,Bool.false_eq_true,if_false];exact hz
 | some f=>
  obtain⟨u,rfl,hu⟩:=hx f rfl
  cases ok with
  | true=>simp only[resM,if_true,den,denL,hu];rfl
  | false=>simp only[resM,Bool.false_eq_true,if_false];exact hu
theorem QKl [Gd]{E:Env}{th:TH}{h0 h:Heap}{L:List HP}(r:Rep E th h0 h L){t kt et:TypeId}{d:KD}{z:FV}(hu:P.underlying t=some (.map kt et))(hd:kdO P kt=some d)(hz:zvO P et=some z){x k:FV}{ok:Bool}{v u:Value}
  (hv:den E x=some v) (hk:den E k=some u) {K:FV→TH→Prop} (hx:lkmX d z ok x k th K):Sx P (nv (Instr.lookup t v u ok)) h (Post E h0 L K):=by
 have old:(∃y,lkpF th.t d z ok x k=some y∧K y th)→Sx P (nv (Instr.lookup t v u ok)) h (Post E h0 L K):=fun⟨y,h1,h2⟩=>
  Sq.toX (QGl r hu hd hz hv hk h1) fun v' hv'=>Post.same hv' r h2
 have old2:(match lkpF th.t d z ok x k with
   | some y=>K y th
   | none=>False)→Sx P (nv (Instr.lookup t v u ok)) h (Post E h0 L K):=fun hx=>by
  cases hl:lkpF th.t d z ok x k with
  | none=>rw[hl] at hx;exact hx.elim
  | some y=>rw[hl] at hx;exact old ⟨y,hl,hx⟩
 cases x<;>try (exact old2 hx)
 rename_i i
 simp only[lkmX] at hx
 cases hg:th.t.get i with
 | none=>rw[hg] at hx;exact hx.elim
 | some o=>
  rw[hg] at hx
  simp only[lkmO] at hx
  cases ho:mpO o with
  | none=>rw[ho] at hx;exact old2 hx
  | some p=>
   rw[ho] at hx
   obtain⟨tt,ag,es⟩:=p
   simp only at hx
   cases d<;>try (exact hx.elim)
   simp only[lkmK] at hx
   cases hq:keyO k with
   | none=>rw[hq] at hx;exact hx.elim
   | some q=>
    rw[hq] at hx
    simp only at hx
    cases hl:lyG tt with
    | none=>rw[hl] at hx;exact hx.elim
    | some ks=>
     rw[hl] at hx
     simp only at hx
     split at hx<;>try (exact hx.elim)
     rename_i ks
     have ly:=QaN hl
     have eu:=QHx hq hk
     subst eu
     obtain⟨kk,bb,zv,hi,hzd⟩:=QDG hz
     haveI:=hi
     haveI:Und P t (.map kt et):=⟨hu⟩
     haveI:Und P kt .string:=⟨Qr2 hd⟩
     obtain⟨a,ks',st,c,hw,hr⟩:=r.rdP hg ho
     have ek:ks'=ks:=by have:=hw.ly;rw[ly] at this;simpa using this.symm
     subst ek
     obtain⟨a',ha,rfl⟩:=QeF hv
     rw[hw.p] at ha;simp only[Option.some.injEq] at ha;subst ha
     have lk:=QvT q ag ks' es
     refine Sq.toX (oLook_val (P:=P) (m:=es.map (entM ag ks')) (D:=Eq h) (K:=fun v=>v=if ok then .tuple #[(Go.Sh.look (es.map (entM ag ks')) q).getD zv,.bool (Go.Sh.look (es.map (entM ag ks')) q).isSome] else (Go.Sh.look (es.map (entM ag ks')) q).getD zv) (fun h' e=>by subst e;exact⟨st,c,hr⟩) rfl) fun v' hv'=>?_
     subst hv'
     rw[lk]
     cases he:QU q es with
     | none=>
      exact Post.same (QBH (x:=none) (y:=none) (hzd E) ok (fun f h=>by cases h) fun _=>rfl) r (hx.2 he)
     | some e=>
      obtain⟨m1,m2⟩:=QzH he
      have hd1:=(Qvi (E:=E) (Qti hw.wt m1) (Qnz hw.li m1) hw.one).1
      exact Post.same (QBH (x:=some (valE ag ks' e)) (y:=some (entM ag ks' e).2) (hzd E) ok (fun f h=>by simp only[Option.some.injEq] at h;subst h;exact⟨_,rfl,hd1⟩) fun h=>by cases h) r (hx.1 e he)
def agV (ag:Bool)(v:FV):Bool:=match ag with
 | true=>match v with
  | .agg _=>true
  | _=>false
 | false=>oneF v
def bqB (a b:Bool):Bool:=match a with
 | true=>b
 | false=>!b
theorem QBf {a b:Bool}(h:bqB a b=true):a=b:=by cases a<;>cases b<;>first | rfl | cases h
def mumK (i t:Nat)(ag:Bool)(ds:List LD)(th:TH)(K:FV→TH→Prop):Prop:=match th.t.get i with
 | some o=>match o with
  | .mp t2 ag2 es=>bif Nat.beq t t2&&bqB ag ag2 then es.length<maxL∧K undF (th.set i (.mp t ag (upE (keyE (.t ds)) (.t ds) es))) else False
  | _=>False
 | none=>False
def mumO (d:KD)(i:Nat)(o:TO)(k v:FV)(th:TH)(K:FV→TH→Prop):Prop:=match o with
 | .mp t ag _=>match d with
  | .s=>match lyG t with
   | some ks=>match ks with
    | .s::ks=>bif agV ag v then frzL (frz fzD) (.s::ks) (k::QbI v) th fun ds th=>mumK i t ag ds th K else False
    | _=>False
   | none=>False
  | _=>False
 | _=>mupF d (.map i) k v th K
def mumX (d:KD)(x k v:FV)(th:TH)(K:FV→TH→Prop):Prop:=match x with
 | .map i=>match th.t.get i with
  | some o=>mumO d i o k v th K
  | none=>False
 | x=>mupF d x k v th K
theorem QGW {E:Env}{ag:Bool}{v:FV}{c:Value}(h:agV ag v=true)(hd:den E v=some c):mvV ag c.cells.toList=c:=by
 cases ag with
 | true=>
  cases v<;>simp only[agV] at h<;>try (cases h;done)
  simp only[den] at hd
  split at hd
  ·split at hd
   ·simp only[Option.some.injEq] at hd;subst hd;rfl
   ·cases hd
  ·cases hd
 | false=>
  have:=cells_one (v:=c) (fun cs e=>by subst e;cases QEm hd h)
  rw[this];rfl
theorem QGc [Gd]{E:Env}{th:TH}{h0 h:Heap}{L:List HP}(r:Rep E th h0 h L){t kt et:TypeId}{d:KD}(hu:P.underlying t=some (.map kt et))(hd:kdO P kt=some d){x k v:FV}{a b c:Value}
  (ha:den E x=some a) (hb:den E k=some b) (hc:den E v=some c) {K:FV→TH→Prop} (hx:mumX d x k v th K):oUpd P t a b c h (Post E h0 L K):=by
 have old:mupF d x k v th K→oUpd P t a b c h (Post E h0 L K):=fun hx=>QGb r hu hd ha hb hc hx
 cases x<;>try (exact old hx)
 rename_i i
 simp only[mumX] at hx
 cases hg:th.t.get i with
 | none=>rw[hg] at hx;exact hx.elim
 | some o=>
  rw[hg] at hx
  cases o<;>try (exact old hx)
  rename_i tt ag es
  simp only[mumO] at hx
  cases d<;>try (exact hx.elim)
  simp only at hx
  cases hl:lyG tt with
  | none=>rw[hl] at hx;exact hx.elim
  | some ks=>
   rw[hl] at hx
   simp only at hx
   split at hx<;>try (exact hx.elim)
   rename_i ks
   have ly:=QaN hl
   obtain⟨hag,hx⟩:=Q1 hx
   haveI:Und P t (.map kt et):=⟨hu⟩
   haveI:Und P kt .string:=⟨Qr2 hd⟩
   obtain⟨z,ds,th',g1,g2,g3,g4,g5,g6,g7⟩:=Qjf (QgB fzD) (.s::ks) _ th _ hx E h0 h L _ r (Qau hb (QcN hc))
   simp only[mumK] at g7
   cases hg':th'.t.get i with
   | none=>rw[hg'] at g7;exact g7.elim
   | some o'=>
    rw[hg'] at g7
    cases o'<;>try (exact g7.elim)
    rename_i t2 ag2 es2
    simp only at g7
    obtain⟨hbb,hlen,g8⟩:=Q1 g7
    simp only[Bool.and_eq_true] at hbb
    have e1:=Qm hbb.1
    have e2:=QBf hbb.2
    subst e1 e2
    obtain⟨ad,ks',hw,s⟩:=g3.toldP hg'
    obtain⟨st,c',s⟩:=s.mapO
    have ek:ks'=ks:=by have:=hw.ly;rw[ly] at this;simpa using this.symm
    subst ek
    obtain⟨a',ha',rfl⟩:=QeF ha
    have ea:a'=ad:=by have:=hw.p;rw[show (E.wz z).p i=E.p i from rfl,ha'] at this;simpa using this
    subst ea
    cases ds with
    | nil=>simp only[wtL] at g4
    | cons d0 dr=>
     simp only[LD.vs,List.cons.injEq] at g6
     have hk:b=str (keyE (.t (d0::dr))):=g6.1.symm
     have hval:(entM ag ks' (.t (d0::dr))).2=c:=by
      show mvV ag (LD.vs ks' dr)=c
      rw[g6.2];exact QGW hag hc
     subst hk
     refine oUpd_own (m:=es2.map (entM ag ks')) s fun h' st' c2 _ s'=>?_
     rw[←hval,QDS _ _ _ _ rfl] at s'
     have hw2:MpIs (E.wz z) i tt ag (upE (keyE (.t (d0::dr))) (.t (d0::dr)) es2) a' ks':=
      ⟨hw.p,hw.ly,hw.one,QFz (by simp only[wtT];exact g4) hw.wt,QFA (by simp only[Qbz];exact g5) hw.li,by have:=Qi6 (keyE (.t (d0::dr))) (.t (d0::dr)) es2;omega⟩
     have r2:=Rep.put (E:=E.wz z) (o':=.mp tt ag (upE (keyE (.t (d0::dr))) (.t (d0::dr)) es2)) hg' (s'.toMapO.imp fun S hS=>⟨(a',ks'),hw2,hS⟩) g3.fr g3.eh
     exact⟨_,undF,_,Env.le_wz g1,Qhv _,r2,g8⟩
theorem sxM [Gd]{s:Sem Next}{h:Heap}{K K':Value→Heap→Prop}(hs:Sx P s h K)(hk:∀v h',K v h'→K' v h'):Sx P s h K':=by
 intro w hw
 have:=hs w hw
 unfold Qd9 at *
 split at this
 ·exact⟨this.1,hk _ _ this.2⟩
 ·exact⟨this.1,hk _ _ this.2⟩
 ·exact⟨this.1,this.2.mono hk⟩
 ·exact this
 ·exact this.elim
theorem Post.le {E F:Env}{h0:Heap}{L:List HP}{K:FV→TH→Prop}{v:Value}{h':Heap}(hle:E.Le F)(p:Post F h0 L K v h'):Post E h0 L K v h':=by
 obtain⟨G,x,th,h1,h2⟩:=p
 exact⟨G,x,th,hle.trans h1,h2⟩
theorem Rep.frzM {E:Env}{th:TH}{h0 h:Heap}{L:List HP}(r:Rep E th h0 h L){i t:Nat}{ag:Bool}{es:List LD}(hg:th.t.get i=some (.mp t ag es)) :
  ∃a ks z st c,MpIs E i t ag es a ks∧(∀q∈E.z,q∈z)∧Rep (E.wz z) (th.set i (.mf t ag es)) h0 h L∧Go.Sh.Qga (es.map (entM ag ks)) st c∧(a.block,Obj.map (Go.Sh.ents (es.map (entM ag ks)) st).toArray c)∈z:=by
 obtain⟨a,ks,hw,s⟩:=r.toldP hg
 obtain⟨st,c,s⟩:=s.mapO
 obtain⟨S,⟨hok,b,e,hS,hb⟩,_⟩:=s.get
 simp only[Value.map.injEq,Option.some.injEq] at e
 subst e
 refine⟨a,ks,(a.block,Obj.map (Go.Sh.ents (es.map (entM ag ks)) st).toArray c)::E.z,st,c,hw,fun q hq=>.tail _ hq,?_,hok,.head _⟩
 have s1:=s.perm (List.Perm.cons _ List.perm_middle)
 have s2:St h0 h (FzP ((a.block,Obj.map (Go.Sh.ents (es.map (entM ag ks)) st).toArray c)::E.z)::((th.t.del i).all.map (part E)++L)):=St.merge s1 fun S1 S2 g1 g2=>by
  obtain⟨_,b',e',hS',hb'⟩:=g1
  simp only[Value.map.injEq,Option.some.injEq] at e'
  subst e'
  intro q hq
  rcases List.mem_cons.1 hq with rfl | hq
  ·exact⟨.inl hS',hb⟩
  ·exact⟨.inr (g2 q hq).1,(g2 q hq).2⟩
 have le:E.Le0 (E.wz ((a.block,Obj.map (Go.Sh.ents (es.map (entM ag ks)) st).toArray c)::E.z)):=(Env.le_wz fun q hq=>.tail _ hq).p
 have s3:=s2.perm List.perm_middle.symm
 have s4:St h0 h ((th.t.del i).all.map (part (E.wz ((a.block,Obj.map (Go.Sh.ents (es.map (entM ag ks)) st).toArray c)::E.z)))++(FzP ((a.block,Obj.map (Go.Sh.ents (es.map (entM ag ks)) st).toArray c)::E.z)::L)):=⟨s3.1,Sep.imps (fun x S=>Qcs le) s3.2⟩
 refine Rep.put hg ?_ r.fr r.eh
 exact⟨s4.1,fun _=>False,⟨(a,ks),⟨hw.mono le,st,c,hok,.head _⟩,fun _ h=>h⟩,fun _ h=>h.elim,Sep.mono (fun _ h=>⟨h,fun h=>h⟩) s4.2⟩
def Env.addI (E:Env)(i:Nat)(a:Addr)(v:Value):Env:=⟨fun j=>if j=i then some a else E.p j,fun j=>if j=i then 0 else E.c j,E.r,E.h,E.z,fun j=>if j=i then v else E.s j⟩
theorem Env.le_addI {E:Env}{i:Nat}(a:Addr)(v:Value)(h:E.p i=none∧E.r i=false):E.Le (E.addI i a v):=⟨⟨fun j b hb=>by
 have:j≠i:=fun e=>by rw[e,h.1] at hb;cases hb
 simp[Env.addI,this,hb],rfl,fun _ hq=>hq,fun j b hb=>by
 have:j≠i:=fun e=>by rw[e,h.1] at hb;cases hb
 simp[Env.addI,this]⟩,fun j hj=>by
 have:j≠i:=fun e=>by rw[e,h.2] at hj;cases hj
 simp[Env.addI,this,hj]⟩
theorem Rep.addI {E:Env}{th:TH}{h0 h:Heap}{L:List HP}{o:TO}{a:Addr}{v:Value}{A:HP}(fr:∀i,th.nx≤i→E.p i=none∧E.r i=false)(eh:E.h=h0)(hn:th.t.get th.nx=none)
  (s:St h0 h (A::(th.t.all.map (part E)++(FzP E.z::L)))) (g:∀S,A.own h S→(part (E.addI th.nx a v) (th.nx,o)).own h S):E.Le (E.addI th.nx a v)∧Rep (E.addI th.nx a v) (th.new o) h0 h L:=by
 have hle:=Env.le_addI (i:=th.nx) a v (fr th.nx (Nat.le_refl _))
 refine⟨hle,⟨?_,fun i hi=>?_,eh⟩⟩
 ·have hp:(part (E.addI th.nx a v) (th.nx,o)::(th.t.all.map (part (E.addI th.nx a v))++(FzP E.z::L))).Perm ((th.new o).t.all.map (part (E.addI th.nx a v))++(FzP E.z::L)):=
   (((Tr.perm_new o hn).map (part (E.addI th.nx a v))).append_right _).symm
  refine St.perm ?_ hp
  obtain⟨he,S,hA,hS,r⟩:=s.imp g
  exact⟨he,S,hA,hS,Sep.imps (fun x S=>Qcs hle.p) r⟩
 ·have:i≠th.nx:=by have:th.nx.succ≤i:=hi;omega
  simp only[Env.addI,this,if_false]
  exact fr i (by have:th.nx.succ≤i:=hi;omega)
def rgmO (i:Nat)(o:TO)(th:TH)(K:FV→TH→Prop):Prop:=match o with
 | .mp t ag es=>K (.ptr th.nx 0) ((th.set i (.mf t ag es)).new (.im i t ag es none))
 | .mf t ag es=>K (.ptr th.nx 0) (th.new (.im i t ag es none))
 | _=>rngF (.map i) th K
def rgmX (x:FV)(th:TH)(K:FV→TH→Prop):Prop:=match x with
 | .map i=>match th.t.get i with
  | some o=>rgmO i o th K
  | none=>False
 | x=>rngF x th K
theorem QFO [Gd]{E:Env}{th:TH}{h0 h:Heap}{L:List HP}(r:Rep E th h0 h L){t kt et:TypeId}(hu:P.underlying t=some (.map kt et)){i tt:Nat}{ag:Bool}{es:List LD}{a:Addr}{ks:List CK}{st:List Nat}{c:Nat}(hw:MpIs E i tt ag es a ks)(hok:Go.Sh.Qga (es.map (entM ag ks)) st c)
  (hz:(a.block,Obj.map (Go.Sh.ents (es.map (entM ag ks)) st).toArray c)∈E.z) {K:FV→TH→Prop} (hx:K (.ptr th.nx 0) (th.new (.im i tt ag es none))):QoH P t (.map (some a.block)) h (Post E h0 L K):=by
 haveI:Und P t (.map kt et):=⟨hu⟩
 have hr:Go.Sh.RdM h (.map (some a.block)) (es.map (entM ag ks)) st c:=⟨hok,a.block,rfl,r.fz.2 _ hz⟩
 refine QE0 r.st hr fun it h' s'=>?_
 obtain⟨S,⟨j,rr,hit,_⟩,_⟩:=s'.get
 subst hit
 have hn:=r.nx
 have keys:(es.map (entM ag ks)).map (·.1)=es.map keyE:=by rw[List.map_map];rfl
 obtain⟨g1,g2⟩:=Rep.addI (E:=E) (th:=th) (o:=.im i tt ag es none) (a:=⟨j,0,none⟩) (v:=encZ (es.map (entM ag ks)) st c) r.fr r.eh hn s' fun S hS=>by
  have hle:=Env.le_addI (E:=E) (i:=th.nx) ⟨j,0,none⟩ (encZ (es.map (entM ag ks)) st c) (r.fr th.nx (Nat.le_refl _))
  have hw':=hw.mono hle.p
  refine⟨⟨⟨j,0,none⟩,a,ks,es.map (entM ag ks),st,c,[]⟩,⟨by simp[Env.addI],hw'.p,by simp[Env.addI],hw'.ly,hw'.one,hw'.wt,hw'.li,hok,hz,fun k hk=>by simp at hk,fun k hk=>.inr (by rw[←keys];exact hk),fun e he=>⟨?_,by simp⟩,by rw[←keys];exact hok.keys,hw'.len,fun e h=>by cases h⟩,hS⟩
  have h1:=QvT (keyE e) ag ks es
  rw[h1]
  have:=Qp4 (by rw[←keys];exact hok.keys) he
  rw[this];rfl
 exact⟨_,_,_,g1,by simp[den,Env.addI,Addr.add],g2,hx⟩
theorem QKa [Gd]{E:Env}{th:TH}{h0 h:Heap}{L:List HP}(r:Rep E th h0 h L){t kt et:TypeId}(hu:P.underlying t=some (.map kt et)){x:FV}{a:Value}(ha:den E x=some a){K:FV→TH→Prop}(hx:rgmX x th K) :
  QoH P t a h (Post E h0 L K):=by
 have old:rngF x th K→QoH P t a h (Post E h0 L K):=fun hx=>QFN r hu ha hx
 cases x<;>try (exact old hx)
 rename_i i
 simp only[rgmX] at hx
 cases hg:th.t.get i with
 | none=>rw[hg] at hx;exact hx.elim
 | some o=>
  rw[hg] at hx
  cases o<;>try (exact old hx)
  ·rename_i tt ag es
   simp only[rgmO] at hx
   obtain⟨ad,ks,z,st,c,hw,g1,g2,g3,g4⟩:=r.frzM hg
   obtain⟨a',ha',rfl⟩:=QeF ha
   have ea:a'=ad:=by have:=hw.p;rw[ha'] at this;simpa using this
   subst ea
   have hle:=Env.le_wz (E:=E) g1
   have:=QFO g2 hu (hw.mono hle.p) g3 g4 (K:=K) hx
   exact sxM this fun v h' hp=>Post.le hle hp
  ·rename_i tt ag es
   simp only[rgmO] at hx
   obtain⟨ad,ks,hw,st,c,g3,g4⟩:=r.toldF hg
   obtain⟨a',ha',rfl⟩:=QeF ha
   have ea:a'=ad:=by have:=hw.p;rw[ha'] at this;simpa using this
   subst ea
   exact QFO r hu hw g3 g4 hx
def nxmO (j:Nat)(o:TO)(th:TH)(K:FV→TH→Prop):Prop:=match o with
 | .im i t ag rest _=>match lyG t with
  | some ks=>match ks with
   | .s::ks=>(rest=[]→K (.tup [.bool false]) th)∧∀(a:List LD) (e:LD) (b:List LD),rest=a++e::b→K (.tup [.bool true,.sstr (keyE e),valE ag ks e]) (th.set j (.im i t ag (a++b) (some e)))
   | _=>False
  | none=>False
 | _=>nxtF (.ptr j 0) th K
def nxmX (x:FV)(th:TH)(K:FV→TH→Prop):Prop:=match x with
 | .ptr j o=>match o with
  | 0=>match th.t.get j with
   | some o=>nxmO j o th K
   | none=>False
  | _=>False
 | _=>False
theorem QKe [Gd]{E:Env}{th:TH}{h0 h:Heap}{L:List HP}(r:Rep E th h0 h L){ty:TypeId}{x:FV}{a:Value}(ha:den E x=some a){K:FV→TH→Prop}(hx:nxmX x th K) :
  Qtv P a false ty h (Post E h0 L K):=by
 cases x<;>try (exact hx.elim)
 rename_i j o
 cases o with
 | succ o=>exact hx.elim
 | zero=>
  simp only[nxmX] at hx
  cases hg:th.t.get j with
  | none=>rw[hg] at hx;exact hx.elim
  | some o=>
   rw[hg] at hx
   have old:nxtF (.ptr j 0) th K→Qtv P a false ty h (Post E h0 L K):=fun hx=>QF9 r ha hx
   cases o<;>try (exact old hx)
   rename_i i t ag rest cur
   simp only[nxmO] at hx
   cases hl:lyG t with
   | none=>rw[hl] at hx;exact hx.elim
   | some ks=>
    rw[hl] at hx
    simp only at hx
    split at hx<;>try (exact hx.elim)
    rename_i ks
    have ly:=QaN hl
    obtain⟨z,hw,s⟩:=r.toldIm hg
    obtain⟨ia,ma,ks',m,st,c,dn⟩:=z
    simp only at hw s
    have ek:ks'=ks:=by have:=hw.ly;rw[ly] at this;simpa using this.symm
    subst ek
    have hr:Go.Sh.RdM h (.map (some ma.block)) m st c:=⟨hw.ok,ma.block,rfl,r.fz.2 _ hw.z⟩
    obtain⟨ia',hp,hv⟩:=Qca ha
    have ei:ia'=ia:=by have:=hw.p;rw[hp] at this;simpa using this
    subst ei
    rw[add_zero] at hv
    subst hv
    refine QFY s hr rfl hw.sub (fun hall=>?_) fun k x h' hlk hnk s' _=>?_
    ·refine Post.same (x:=.tup [.bool false]) (by simp only[den,denL]) r (hx.1 ?_)
     cases rest with
     | nil=>rfl
     | cons e l=>
      exfalso
      obtain⟨q1,q2⟩:=hw.rst e (.head _)
      exact q2 (hall _ ((Qgz (keyE e) m).1 (by rw[q1];rfl)))
    ·have hkm:k∈m.map (·.1):=(Qgz k m).1 (by rw[hlk];rfl)
     rcases hw.all k hkm with hk | hk
     ·exact absurd hk hnk
     ·obtain⟨e,he,rfl⟩:=List.mem_map.1 hk
      obtain⟨q1,q2⟩:=hw.rst e he
      have ex:x=(entM ag ks' e).2:=by rw[hlk] at q1;simpa using q1
      subst ex
      obtain⟨l1,l2,hsp⟩:=List.append_of_mem he
      subst hsp
      have hwe:=Qti hw.wt he
      have hle:=Qnz hw.li he
      obtain⟨d1,d2⟩:=Qvi (E:=E) hwe hle hw.one
      have hnd:=hw.nd
      rw[List.map_append,List.map_cons] at hnd
      have hnd2:keyE e ∉ (l1++l2).map keyE:=by
       rw[List.map_append]
       have:=(List.perm_middle.nodup_iff).1 hnd
       rw[List.nodup_cons] at this
       exact this.1
      have hnd3:((l1++l2).map keyE).Nodup:=by
       rw[List.map_append]
       have:=(List.perm_middle.nodup_iff).1 hnd
       rw[List.nodup_cons] at this
       exact this.2
      have sub:∀x∈l1++l2,x∈l1++e::l2:=fun x hx=>by
       rcases List.mem_append.1 hx with h | h
       ·exact List.mem_append_left _ h
       ·exact List.mem_append_right _ (.tail _ h)
      have hw2:ImIs E j i t ag (l1++l2) (some e) ia' ma ks' m st c (dn++[keyE e]):=
       ⟨hw.p,hw.pm,hw.pin,hw.ly,hw.one,QBi fun x hx=>Qti hw.wt (sub x hx),QvU fun x hx=>Qnz hw.li (sub x hx),hw.ok,hw.z,
        fun k hk=>by
         rcases List.mem_append.1 hk with h | h
         ·exact hw.sub k h
         ·rw[List.mem_singleton] at h;subst h;exact hkm,
        fun k hk=>by
         rcases hw.all k hk with h | h
         ·exact .inl (List.mem_append_left _ h)
         ·rw[List.map_append,List.map_cons] at h
          rcases List.mem_append.1 h with h | h
          ·exact .inr (by rw[List.map_append];exact List.mem_append_left _ h)
          ·rcases List.mem_cons.1 h with h | h
           ·exact .inl (List.mem_append_right _ (by rw[h];exact .head _))
           ·exact .inr (by rw[List.map_append];exact List.mem_append_right _ h),
        fun x hx=>⟨(hw.rst x (sub x hx)).1,fun hin=>by
         rcases List.mem_append.1 hin with h | h
         ·exact (hw.rst x (sub x hx)).2 h
         ·rw[List.mem_singleton] at h
          exact hnd2 (by rw[←h];exact List.mem_map.2 ⟨x,hx,rfl⟩)⟩,
        hnd3,by have:=hw.len;simp only[List.length_append,List.length_cons] at this ⊢;omega,fun x hx=>by simp only[Option.some.injEq] at hx;subst hx;exact⟨hwe,hle,q1,dn,rfl⟩⟩
      have r2:=Rep.put (E:=E) (o':=.im i t ag (l1++l2) (some e)) hg (s'.imp fun S hS=>⟨⟨ia',ma,ks',m,st,c,dn++[keyE e]⟩,hw2,hS⟩) r.fr r.eh
      exact Post.same (x:=.tup [.bool true,.sstr (keyE e),valE ag ks' e]) (by simp only[den,denL] at d2 ⊢;simp only[d1,d2]) r2 (hx.2 l1 e l2 rfl)
theorem Rep.take {E:Env}{th:TH}{h0 h:Heap}{L:List HP}{i:Nat}{o:TO}(r:Rep E th h0 h (part E (i,o)::L)):Rep E ⟨th.t.put i o,th.nx,th.scr⟩ h0 h L:=by
 refine⟨?_,r.fr,r.eh⟩
 cases hg:th.t.get i with
 | none=>
  refine r.st.perm ?_
  have:=((Tr.perm_new o hg).map (part E)).append_right (FzP E.z::L)
  refine List.Perm.trans ?_ this.symm
  exact (List.Perm.append_left _ (.swap _ _ _)).trans List.perm_middle
 | some o'=>
  have s:=(r.pick hg).drop
  refine s.perm ?_
  have:=(((Tr.perm hg).2 o).map (part E)).append_right (FzP E.z::L)
  refine List.Perm.trans ?_ this.symm
  exact (List.Perm.append_left _ (.swap _ _ _)).trans List.perm_middle
def QBa (ag:Bool)(ks:List CK):List (FV×FV)→TH→(List LD→TH→Prop)→Prop
 | [],th,K=>K [] th
 | p::r,th,K=>match p.1 with
  | .str l=>bif Nat.ble l.length 1000000&&agV ag p.2 then frzL (frz fzD) ks (QbI p.2) th fun ds th=>QBa ag ks r th fun es th=>K (.t (.s (l.map UInt8.ofNat)::ds)::es) th else False
  | _=>False
theorem QCc {l:List Nat}{k:Mk.MK}:∀ {d:KD},keyD d (.str l)=some k→k=.inl (l.map UInt8.ofNat)
 | .s,h=>by
  simp only[keyD] at h
  split at h
  ·simp only[Option.some.injEq] at h;exact h.symm
  ·cases h
 | .i _,h=>by simp[keyD] at h
 | .o _ d,h=>QCc (d:=d) h
def toMK (p:Str×Value):Mk.MK×Value:=(.inl p.1,p.2)
theorem QCq {ag:Bool}{ks:List CK}{d:KD}:∀(m:List (FV×FV))(th:TH)(K:List LD→TH→Prop),QBa ag ks m th K→∀(E:Env)(h0 h:Heap)(L:List HP)(l:List (Mk.MK×Value)),Rep E th h0 h L→denM E d m=some l →
  ∃z es th',(∀q∈E.z,q∈z)∧th'.nx=th.nx∧Rep (E.wz z) th' h0 h L∧wtE es (.s::ks)∧QI (E.wz z).rd es (.s::ks)∧es.length=m.length∧l=(es.map (entM ag ks)).map toMK∧K es th'
 | [],th,K,hx,E,h0,h,L,l,r,hd=>by
  simp only[denM,Option.some.injEq] at hd;subst hd
  exact⟨E.z,[],th,fun _ h=>h,rfl,r.self,by simp only[wtE],by simp only[QI],rfl,rfl,hx⟩
 | p::m,th,K,hx,E,h0,h,L,l,r,hd=>by
  obtain⟨x,v⟩:=p
  simp only[QBa] at hx
  cases x<;>try (exact hx.elim)
  rename_i q
  simp only at hx
  obtain⟨hb,hx⟩:=Q1 hx
  simp only[Bool.and_eq_true] at hb
  obtain⟨k,u,l',h1,h2,h3,rfl⟩:=Qd6 hd
  have ek:=QCc h1
  subst ek
  obtain⟨z,ds,th',g1,g2,g3,g4,g5,g6,g7⟩:=Qjf (QgB fzD) ks _ th _ hx E h0 h L _ r (QcN h2)
  obtain⟨z',es,th2,e1,e2,e3,e4,e5,e6,e7,e8⟩:=QCq m th' _ g7 (E.wz z) h0 h L l' g3 (QlT (Env.le_wz (E:=E) g1).p h3)
  refine⟨z',_,th2,fun q hq=>e1 q (g1 q hq),e2.trans g2,e3,?_,?_,?_,?_,e8⟩
  ·simp only[wtE,wtT,wtL,wt]
   refine⟨⟨?_,g4⟩,e4⟩
   have:=Qag hb.1
   rw[List.length_map]
   unfold maxL;omega
  ·simp only[QI,Qbz,Q5,lies]
   exact⟨⟨trivial,Qf5 (fun _ _=>(Env.le_wz (E:=E.wz z) e1).p.rd) g5⟩,e5⟩
  ·simp only[List.length_cons,e6]
  ·rw[e7]
   show _=toMK (entM ag ks (.t (.s (q.map UInt8.ofNat)::ds)))::_
   have:entM ag ks (.t (.s (q.map UInt8.ofNat)::ds))=(q.map UInt8.ofNat,u):=by
    show (q.map UInt8.ofNat,mvV ag (LD.vs ks ds))=_
    rw[g6,QGW hb.2 h2]
   rw[this];rfl
theorem QGK:∀(m:List (Str×Value))(st:List Nat),Mk.ents (m.map toMK) st=Go.Sh.ents m st
 | [],_=>rfl
 | _::_,[]=>rfl
 | p::m,s::st=>by
  have:=QGK m st
  show (⟨Mk.kV (.inl p.1),p.2,s⟩:MapEntry)::Mk.ents (m.map toMK) st=⟨str p.1,p.2,s⟩::Go.Sh.ents m st
  rw[this];rfl
theorem QKi {d:KD}{v:Value}{m:List (Str×Value)}{h:Heap}{S:Nat→Prop}(o:(MapU d v (m.map toMK)).own h S):(Go.Sh.MapO v m).own h S:=by
 obtain⟨hok,r,h1,h2,h3⟩:=o
 refine⟨(List.range (m.map toMK).length).map (d.u+·),d.u+(m.map toMK).length,⟨?_,?_,hok.born,hok.lt⟩,r,h1,h2,?_⟩
 ·exact (List.length_map (f:=toMK)).symm.trans hok.len
 ·have:=hok.keys
  rw[List.map_map] at this
  have e:((fun x:Mk.MK×Value=>x.1) ∘ toMK)=(fun k:Str=>(Sum.inl k:Mk.MK)) ∘ (·.1):=rfl
  rw[e,←List.map_map] at this
  exact (List.pairwise_map.1 this).imp fun h e=>h (by rw[e])
 ·rw[h3,QGK]
def cvMp (t:Nat)(ag:Bool)(i:Nat)(m:List (FV×FV))(th:TH)(K:TH→Prop):Prop:=match lyG t with
 | some ks=>match ks with
  | .s::ks=>bif (ag||Nat.beq ks.length 1)&&Nat.ble m.length 1000000 then QBa ag ks m (th.del i) fun es th=>K ⟨th.t.put i (.mp t ag es),th.nx,th.scr⟩ else False
  | _=>False
 | none=>False
theorem QJl {t:Nat}{ag:Bool}{i:Nat}{d:KD}{m:List (FV×FV)}{th:TH}{K:TH→Prop}(hx:cvMp t ag i m th K){E:Env}{h0 h:Heap}{L:List HP}(r:Rep E th h0 h L)(hg:th.t.get i=some (.map d m)) :
  ∃z th',(∀q∈E.z,q∈z)∧Rep (E.wz z) th' h0 h L∧K th':=by
 unfold cvMp at hx
 cases hl:lyG t with
 | none=>rw[hl] at hx;exact hx.elim
 | some ks=>
  rw[hl] at hx
  simp only at hx
  split at hx<;>try (exact hx.elim)
  rename_i ks
  have ly:=QaN hl
  obtain⟨hb,hx⟩:=Q1 hx
  simp only[Bool.and_eq_true] at hb
  obtain⟨a,l,hp,hd,_⟩:=r.toldM hg
  obtain⟨z,es,th',g1,g2,g3,g4,g5,g6,g7,g8⟩:=QCq m (th.del i) _ hx E h0 h _ l (r.out hg) hd
  refine⟨z,_,g1,Rep.take (i:=i) (o:=.mp t ag es) ?_,g8⟩
  have one:ag=false→ks.length=1:=fun e=>by
   subst e
   exact Qm (by simpa using hb.1)
  have s:=g3.outP.imp fun S hS=>(show (part (E.wz z) (i,.mp t ag es)).own h S by
   obtain⟨y,hy,hc⟩:=hS
   have e1:y.1=a:=by have:=hy.1;rw[hp] at this;simpa using this.symm
   have e2:y.2=l:=by have:=hy.2;rw[hd] at this;simpa using this.symm
   rw[e1,e2,g7] at hc
   exact⟨(a,ks),⟨hp,ly,one,g4,g5,by have:=Qag hb.2;rw[g6];unfold maxL;omega⟩,QKi hc⟩)
  exact⟨s.perm ((List.Perm.cons _ List.perm_middle.symm).trans (List.perm_middle.symm.trans (List.Perm.append_left _ (.swap _ _ _)))),g3.fr,g3.eh⟩
end Go.Va
