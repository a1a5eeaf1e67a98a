import Derived.Test.YtemffgbncjnmkaaGreatVin
import Derived.Great.BuildSlice
set_option linter.unusedVariables false
set_option linter.unusedSectionVars false
set_option linter.unusedSimpArgs false
noncomputable section
namespace Go.Va
open Go Go.Sh
variable [Vb]
variable {P:Program}
def undF:FV:=.tup []
theorem Qhv (E:Env):den E undF=some undef:=rfl
def repF (z:List FV):Nat→List FV
 | 0=>[]
 | n+1=>z++repF z n
def evN (fr:Fr)(x:Opd):Option Nat:=match evO fr x with
 | some v=>match v with
  | .int k n=>match n with
   | .ofNat m=>match k with
    | .i64=>some m
    | _=>none
   | _=>none
  | .sy k e lo _=>match k with
   | .i64=>bif ile (.ofNat 0) lo then some e.ev.toNat else none
   | _=>none
  | _=>none
 | none=>none
def appG (k off len:Nat)(cs:List FV):Option (Nat×List FV):=match Qbb (len * k) (Qaz off cs) with
 | some l=>some (len,l)
 | none=>none
def dsC (ks:List CK):List LD→List FV
 | []=>[]
 | e::r=>lvs e ks 0++dsC ks r
def appC (th:Tr TO)(k:Nat):FV→Option (Nat×List FV)
 | .nsl=>some (0,[])
 | .ds t d=>match lyG t with
  | some ks=>bif Nat.beq k ks.length then some (d.len,dsC ks d.es) else none
  | none=>none
 | .sl j off _ len _=>bif Nat.beq len 0 then some (0,[]) else match th.get j with
  | some (.cells cs _)=>appG k off len cs
  | some (.ro cs)=>appG k off len cs
  | _=>none
 | _=>none
def appL (th:TH)(k:Nat)(i off offz len c M:Nat)(xs:List FV)(K:FV→TH→Prop):Prop:=
 bif Nat.ble (len+M) c then match th.t.get i with
  | some (.cells cs kk)=>match splO xs (off+len * k) cs with
   | some cs'=>K (.sl i off offz (len+M) (.lit c)) (th.set i (.cells cs' kk))
   | none=>False
  | _=>False
 else match len with
  | 0=>K (.sl th.nx 0 0 M (.hid 0)) (th.new (.cells xs k))
  | len=>match th.t.get i with
   | some (.cells cs _)=>match Qbb (len * k) (Qaz off cs) with
    | some old=>K (.sl th.nx 0 0 (len+M) (.hid 0)) (th.new (.cells (old++xs) k))
    | none=>False
   | _=>False
def appH (th:TH)(k:Nat)(i off offz len j M:Nat)(xs:List FV)(K:FV→TH→Prop):Prop:=match th.t.get i with
 | some (.cells cs kk)=>bif Nat.beq kk k&&Nat.beq off (j * k) then match splO xs (off+len * k) cs with
   | some cs'=>K (.sl i off offz (len+M) (.hid j)) (th.set i (.cells cs' kk))
   | none=>bif Nat.beq (off+len * k) cs.length then K (.sl th.nx 0 0 (len+M) (.hid 0)) ((th.del i).new (.cells (Qaz off cs++xs) k)) else False
  else False
 | _=>False
def appS (th:TH)(k b:Nat)(i off offz len:Nat)(cap:FCap)(M:Nat)(xs:List FV)(K:FV→TH→Prop):Prop:=
 bif Nat.ble ((len+M) * b) 140737488355328&&Nat.ble (len+M) 4611686018427387904 then match cap with
  | .lit c=>appL th k i off offz len c M xs K
  | .hid j=>appH th k i off offz len j M xs K
 else False
def appX (th:TH)(k b:Nat)(s:FV)(m:Nat)(xs:List FV)(K:FV→TH→Prop):Prop:=match s with
 | .nsl=>match m with
  | 0=>K .nsl th
  | m=>bif Nat.ble (m * b) 140737488355328&&Nat.ble m 4611686018427387904 then K (.sl th.nx 0 0 m (.hid 0)) (th.new (.cells xs k)) else False
 | .sl i off offz len cap=>match m with
  | 0=>match cap with
   | .lit c=>bif Nat.ble len c then K s th else False
   | .hid _=>K s th
  | m=>appS th k b i off offz len cap m xs K
 | _=>False
def xAlc (z:List FV)(fr:Fr)(th:TH)(K:FV→TH→Prop):Prop:=K (.ptr th.nx 0) (th.new (.cells z 0))
def xBox (x:Opd)(fr:Fr)(th:TH)(K:FV→TH→Prop):Prop:=match evO fr x with
 | some v=>bif QfE v then K (.ptr th.nx 0) (th.new (.cells (QbI v) 0)) else False
 | none=>False
def stF (k i o:Nat)(v:FV)(th:TH)(K:FV→TH→Prop):Prop:=match th.t.get i with
 | some (.cells cs kk)=>bif Nat.beq (QbI v).length k&&QfE v then match splO (QbI v) o cs with
   | some cs'=>K undF (th.set i (.cells cs' kk))
   | none=>False
  else False
 | _=>False
def xSt (k:Nat)(a v:Opd)(fr:Fr)(th:TH)(K:FV→TH→Prop):Prop:=match evO fr a with
 | some a=>match evO fr v with
  | some v=>match a with
   | .ptr i o=>stF k i o v th K
   | _=>False
  | none=>False
 | none=>False
def xBsl (n:Nat)(z:List FV)(pl:List (Nat×Nat))(ps:List (Nat×Opd))(fr:Fr)(th:TH)(K:FV→TH→Prop):Prop:=match evP fr ps with
 | some l=>match Qc4 z pl l with
  | some cs=>K (.sl th.nx 0 0 n (.lit n)) (th.new (.cells cs 0))
  | none=>False
 | none=>False
def Qtg (b:Nat)(z:List FV)(l c:Opd)(fr:Fr)(th:TH)(K:FV→TH→Prop):Prop:=match evN fr l with
 | some l=>match evN fr c with
  | some c=>bif Nat.ble l c&&Nat.ble (b * c) 140737488355328&&Nat.ble c 4611686018427387904 then K (.sl th.nx 0 0 l (.lit c)) (th.new (.cells (repF z c) 0)) else False
  | none=>False
 | none=>False
def QwH (fr:Fr)(l:Opd):Bool:=match evO fr l with
 | some v=>match v with
  | .int k n=>match n with
   | .ofNat m=>match k with
    | .i64=>Nat.beq m 0
    | _=>false
   | _=>false
  | _=>false
 | none=>false
def QpQ (fr:Fr)(c:Opd):Option Int:=match evO fr c with
 | some v=>match v with
  | .sy k e _ _=>match k with
   | .i64=>some e.ev
   | _=>none
  | _=>none
 | none=>none
def xMks (b:Nat)(z:List FV)(l c:Opd)(fr:Fr)(th:TH)(K:FV→TH→Prop):Prop:=match QpQ fr c with
 | some n=>bif QwH fr l then (0≤n∧n.toNat * b≤140737488355328∧n.toNat≤4611686018427387904)∧K (.sl th.nx 0 0 0 (.hid 0)) (th.new (.cells [] z.length)) else Qtg b z l c fr th K
 | none=>Qtg b z l c fr th K
def xApp (k b:Nat)(s x:Opd)(fr:Fr)(th:TH)(K:FV→TH→Prop):Prop:=match evO fr s with
 | some s=>match evO fr x with
  | some x=>match appC th.t k x with
   | some p=>appX th k b s p.1 p.2 K
   | none=>False
  | none=>False
 | none=>False
def xBs0 (th:TH)(K:FV→TH→Prop):Prop:=K (.sl th.nx 0 0 0 (.lit 0)) (th.new (.cells [] 0))
def xMkm (d:KD)(r:Option Opd)(fr:Fr)(th:TH)(K:FV→TH→Prop):Prop:=match r with
 | none=>K (.map th.nx) (th.new (.map d []))
 | some x=>match evO fr x with
  | some v=>match zbn v with
   | some _=>K (.map th.nx) (th.new (.map d []))
   | none=>False
  | none=>False
def mupF (d:KD)(x k v:FV)(th:TH)(K:FV→TH→Prop):Prop:=match x with
 | .map i=>match th.t.get i with
  | some (.map d' m)=>bif kdq d d'&&kokF d k then K undF (th.set i (.map d' (upM k v m))) else False
  | _=>False
 | _=>False
def xMup (d:KD)(x k v:Opd)(fr:Fr)(th:TH)(K:FV→TH→Prop):Prop:=match evO fr x with
 | some x=>match evO fr k with
  | some k=>match evO fr v with
   | some v=>mupF d x k v th K
   | none=>False
  | none=>False
 | none=>False
def rngF (x:FV)(th:TH)(K:FV→TH→Prop):Prop:=match x with
 | .map i=>match th.t.get i with
  | some (.map d m)=>K (.ptr th.nx 0) (th.new (.it i (Nat.add d.u m.length) []))
  | _=>False
 | _=>False
def xRng (x:Opd)(fr:Fr)(th:TH)(K:FV→TH→Prop):Prop:=match evO fr x with
 | some x=>rngF x th K
 | none=>False
def nxtL (j i c:Nat)(b:List Nat)(th:TH)(K:FV→TH→Prop):List (FV×FV)→Nat→Prop
 | [],_=>True
 | p::r,u=>(bif b.contains u then True else K (.tup [.bool true,p.1,p.2]) (th.set j (.it i c (b++[u]))))∧nxtL j i c b th K r u.succ
def allN (b:List Nat):Nat→Nat→Bool
 | 0,_=>true
 | n+1,u=>bif b.contains u then allN b n u.succ else false
def nxtF (x:FV)(th:TH)(K:FV→TH→Prop):Prop:=match x with
 | .ptr j o=>match o with
  | 0=>match th.t.get j with
   | some (.it i c b)=>match th.t.get i with
    | some (.map d m)=>bif Nat.beq (Nat.add d.u m.length) c then (bif allN b m.length d.u then K (.tup [.bool false]) th else nxtL j i c b th K m d.u) else False
    | _=>False
   | _=>False
  | _=>False
 | _=>False
def xNxt (x:Opd)(fr:Fr)(th:TH)(K:FV→TH→Prop):Prop:=match evO fr x with
 | some x=>nxtF x th K
 | none=>False
def xInv (cl:FV→List FV→TH→(FV→TH→Prop)→Prop)(tb:List IM)(x:Opd)(l:List Opd)(fr:Fr)(th:TH)(K:FV→TH→Prop):Prop:=match evO fr x with
 | some x=>match x with
  | .ifc t v=>match lkI t tb with
   | some p=>match evL fr l with
    | some l=>match p.d with
     | false=>cl (.fn (.func p.f) [] []) (v::l) th K
     | true=>match ldF th.t p.k p.a v with
      | some u=>cl (.fn (.func p.f) [] []) (u::l) th K
      | none=>False
    | none=>False
   | none=>False
  | _=>False
 | none=>False
def xApc (k b:Nat)(z:List FV)(s n:Opd)(fr:Fr)(th:TH)(K:FV→TH→Prop):Prop:=match evO fr s with
 | some .nsl=>match evN fr n with
  | some m=>bif Nat.blt 0 m&&Nat.ble (m * b) 140737488355328&&Nat.ble m 4611686018427387904 then K (.sl th.nx 0 0 m (.hid 0)) (th.new (.cells (repF z m) k)) else False
  | none=>False
 | _=>False
def QCQ (l:List Nat):Nat→Bool:=List.rec (motive:=fun _=>Nat→Bool) (fun _=>true) (fun a _ ih c=>Bool.rec (motive:=fun _=>Bool) false (ih c.succ) (Nat.beq a c)) l
def QHW (l:List Nat)(x y:FV)(th:TH)(K:FV→TH→Prop):Prop:=match l with
 | []=>False
 | c::r=>bif QCQ (c::r) c then match zbn x with
   | some (_,a,lo,hi)=>match zbn y with
    | some (_,b,_,_)=>bif ile (.ofNat 0) lo&&ilt hi (.ofNat (c::r).length)&&eqE b (.add a (.c (.ofNat 1))) then K (.sx [.v (.add (.c (.ofNat c)) a) (Int.add (.ofNat c) lo) (Int.add (.ofNat c) hi)]) th else False
    | none=>False
   | none=>False
  else False
def Qtf (x:Opd)(lo hi:Option Opd)(fr:Fr)(th:TH)(K:FV→TH→Prop):Prop:=match evO fr x with
 | some (.str l)=>match lo with
  | some lo=>match hi with
   | some hi=>match evO fr lo with
    | some a=>match evO fr hi with
     | some b=>QHW l a b th K
     | none=>False
    | none=>False
   | none=>False
  | none=>False
 | _=>False
def QA0 (cl:FV→List FV→TH→(FV→TH→Prop)→Prop)(f:Opd)(l:List Opd)(fr:Fr)(th:TH)(K:FV→TH→Prop):Prop:=match evO fr f with
 | some f=>match evL fr l with
  | some l=>cl f l th K
  | none=>False
 | none=>False
def evX0 (cl:FV→List FV→TH→(FV→TH→Prop)→Prop)(fr:Fr)(th:TH)(m:MOp)(K:FV→TH→Prop):Prop:=match m with
 | .alc z=>xAlc z fr th K
 | .box x=>xBox x fr th K
 | .st k a v=>xSt k a v fr th K
 | .bsl _ n z pl ps=>xBsl n z pl ps fr th K
 | .mks _ b z l c=>xMks b z l c fr th K
 | .app k b s x=>xApp k b s x fr th K
 | .call f l=>QA0 cl f l fr th K
 | .mkm d r=>xMkm d r fr th K
 | .bs0=>xBs0 th K
 | .mup d x k v=>xMup d x k v fr th K
 | .slcS x lo hi=>Qtf x lo hi fr th K
 | .rng x=>xRng x fr th K
 | .nxt x=>xNxt x fr th K
 | .inv tb x l=>xInv cl tb x l fr th K
 | .apc k b z s n=>xApc k b z s n fr th K
 | _=>False
def Post (E:Env)(h0:Heap)(L:List HP)(K:FV→TH→Prop)(v:Value)(h':Heap):Prop:=∃F x th',E.Le F∧den F x=some v∧Rep F th' h0 h' L∧K x th'
theorem Post.same {E:Env}{h0:Heap}{L:List HP}{K:FV→TH→Prop}{v:Value}{h':Heap}{x:FV}{th:TH}(hd:den E x=some v)(r:Rep E th h0 h' L)(k:K x th):Post E h0 L K v h':=⟨E,x,th,Env.Le.refl E,hd,r,k⟩
theorem QBE [Gd]{w:World}{h:Heap}:Qx w { w with heap:=h }:=⟨rfl,rfl,rfl,fun _=>Nat.le_refl _⟩
theorem QEn {E:Env}{i c:Nat}{a:Addr}(o:Nat):den (E.add i a c) (.ptr i o)=some (.pointer (some (a.add o))):=by simp[den,Env.add]
theorem Qwm {E:Env}{i c len d:Nat}{a:Addr}:den (E.add i a c) (.sl i 0 0 len (.lit d))=some (.slice (some a) len d):=by simp[den,Env.add,Addr.add]
theorem QCJ {E:Env}{i c len:Nat}{a:Addr}(h:len≤c):den (E.add i a c) (.sl i 0 0 len (.hid 0))=some (.slice (some a) len c):=by
 simp[den,Env.add,Addr.add,h]
theorem QjE {E:Env}{th:TH}{h0 h:Heap}{L:List HP}(r:Rep E th h0 h L){cs:List FV}{vs:List Value}{T:TypeId}{K:FV→TH→Prop}{x:FV}{v:Value}(hd:denL E cs=some vs)(ho:cs.all oneF=true)
  (hv:∀c,den (E.add th.nx ⟨h.size,0,none⟩ c) x=some v) (k:K x (th.new (.cells cs 0))):Post E h0 L K v (h.push (.cells vs.toArray T)):=by
 have s:=r.st.push vs T
 obtain⟨h1,h2⟩:=Rep.add (cs:=cs) (k:=0) (c:=0) (a:=⟨h.size,0,none⟩) (vs:=vs) (post:=[]) r.fr r.eh r.nx (by rw[List.append_nil];exact s) hd ho (fun _=>⟨rfl,rfl⟩) (fun h=>absurd rfl h)
 exact⟨_,x,_,h1,hv 0,h2,k⟩
theorem QpI {E:Env}{th:TH}{h0 h:Heap}{L:List HP}(r:Rep E th h0 h L){cs:List FV}{vs post:List Value}{T:TypeId}{K:FV→TH→Prop}{k len c:Nat}(hk:0<k)(hd:denL E cs=some vs)(ho:cs.all oneF=true)
  (hl:vs.length+post.length=c * k) (hc:len≤c) (kk:K (.sl th.nx 0 0 len (.hid 0)) (th.new (.cells cs k))):Post E h0 L K (.slice (some ⟨h.size,0,none⟩) len c) (h.push (.cells (vs++post).toArray T)):=by
 have s:=r.st.push (vs++post) T
 obtain⟨h1,h2⟩:=Rep.add (cs:=cs) (k:=k) (c:=c) (a:=⟨h.size,0,none⟩) (vs:=vs) (post:=post) r.fr r.eh r.nx s hd ho (fun h=>by omega) (fun _=>hl)
 exact⟨_,_,_,h1,QCJ hc,h2,kk⟩
theorem Qst {E:Env}{fr:Fr}{ρ:Operand→Value}(hρ:AgO E fr ρ){y:Operand}{z:Opd}{n:Nat}(hc:c1 y=some z)(hx:evN fr z=some n):ρ y=.int .i64 (n:Int):=by
 unfold evN at hx
 cases hv:evO fr z with
 | none=>rw[hv] at hx;cases hx
 | some v=>
  rw[hv] at hx
  simp only at hx
  cases v<;>try (cases hx;done)
  ·rename_i k m
   cases m<;>try (cases hx;done)
   cases k<;>try (cases hx;done)
   simp only[Option.some.injEq] at hx;subst hx
   have:=hρ y z _ hc hv
   simp only[den,Option.some.injEq] at this
   exact this.symm
  ·rename_i k m lo hi
   cases k<;>try (cases hx;done)
   simp only at hx
   cases hb:ile (.ofNat 0) lo with
   | false=>rw[hb] at hx;cases hx
   | true=>
    rw[hb] at hx
    simp only[cond_true,Option.some.injEq] at hx;subst hx
    have h1:=Qbc hb
    obtain⟨h2,h3⟩:=QmN (hρ y z _ hc hv)
    have e0:(Int.ofNat 0:Int)=0:=rfl
    rw[h3,Int.toNat_of_nonneg (by omega)]
theorem QpE {z:List FV}(h:z.all oneF=true):∀n,(repF z n).all oneF=true
 | 0=>rfl
 | n+1=>by simp only[repF,List.all_append,h,QpE h n,Bool.and_self]
theorem QpD {E:Env}{z:List FV}{vs:List Value}(h:denL E z=some vs)(hp:0<vs.length):∀n,denL E (repF z n)=some ((List.range (n * vs.length)).map fun i=>vs.toArray[i % vs.length]!)
 | 0=>by simp[repF,denL]
 | n+1=>by
  have ih:=QpD h hp n
  have e:(List.range ((n+1) * vs.length)).map (fun i=>vs.toArray[i % vs.length]!)=vs++(List.range (n * vs.length)).map (fun i=>vs.toArray[i % vs.length]!):=by
   rw[show (n+1) * vs.length=vs.length+n * vs.length by rw[Nat.add_mul];omega,List.range_add,List.map_append,List.map_map]
   congr 1
   ·apply List.ext_getElem
    ·simp
    ·intro i h1 h2
     simp[Nat.mod_eq_of_lt h2,List.getElem?_eq_getElem h2]
   ·refine List.map_congr_left fun i _=>?_
    simp
  rw[e]
  exact Qc7 h ih
theorem QKU [Gd]{E:Env}{th:TH}{h0 h:Heap}{L:List HP}(r:Rep E th h0 h L){t:TypeId}{z:List FV}(hz:zrO P t=some z){K:FV→TH→Prop}(k:K (.ptr th.nx 0) (th.new (.cells z 0))) :
  QF8 P t h (Post E h0 L K):=by
 obtain⟨i,zv,h1,h2,h3,h4,h5,h6⟩:=Qe5 hz
 intro w hw
 haveI:Inf P t i.size i.bytes zv:=⟨⟨i,h1,rfl,rfl,h2⟩⟩
 have:(nv (Instr.alloc t true (.tuple #[]))).run P w=.ok (.value (.pointer (some ⟨w.heap.size,0,none⟩))) { w with heap:=w.heap.push (.cells zv.cells t) }:=
  QA (by simp[Instr.alloc,Inf.zer,newVar,newRow,newObj,Sem.run])
 rw[this]
 refine⟨QBE,?_⟩
 rw[hw]
 have:=QjE r (T:=t) (Qcf E h3) h4 (v:=.pointer (some ⟨h.size,0,none⟩)) (fun c=>by rw[QEn];simp[Addr.add]) k
 simpa using this
theorem QKP [Gd]{E:Env}{th:TH}{h0 h:Heap}{L:List HP}(r:Rep E th h0 h L){t:TypeId}{x:FV}{v:Value}(hx:den E x=some v)(hn:QfE x=true){K:FV→TH→Prop}(k:K (.ptr th.nx 0) (th.new (.cells (QbI x) 0))) :
  oBox P t v h (Post E h0 L K):=by
 intro w hw
 have:(nv (Instr.box t v)).run P w=.ok (.value (.pointer (some ⟨w.heap.size,0,none⟩))) { w with heap:=w.heap.push (.cells v.cells t) }:=
  QA (by simp[Instr.box,newVar,newRow,newObj,Sem.run])
 rw[this]
 refine⟨QBE,?_⟩
 rw[hw]
 have:=QjE r (T:=t) (QcN hx) (Qij hx (QjT hn)) (v:=.pointer (some ⟨h.size,0,none⟩)) (fun c=>by rw[QEn];simp[Addr.add]) k
 simpa using this
theorem Qfc.put {E:Env}{i:Nat}{cs cs':List FV}{k:Nat}{a:Addr}{vs vs' post:List Value}(c:Qfc E i cs k a vs post)(h1:denL E cs'=some vs')(h2:cs'.all oneF=true)(h3:vs'.length=vs.length):Qfc E i cs' k a vs' post:=
 ⟨c.1,h1,h2,c.2.2.2.1,by rw[h3];exact c.2.2.2.2⟩
theorem Rep.store {E:Env}{th:TH}{h0 h h':Heap}{L:List HP}(r:Rep E th h0 h L){i:Nat}{cs cs':List FV}{k:Nat}{a:Addr}{vs' post:List Value}(hg:th.t.get i=some (.cells cs k))(hc:Qfc E i cs' k a vs' post)
  (s:St h0 h' (Qap (.pointer (some a)) (vs'++post)::((th.t.del i).all.map (part E)++(FzP E.z::L)))):Rep E (th.set i (.cells cs' k)) h0 h' L:=
 Rep.put hg (s.imp fun S ho=>⟨(a,vs',post),hc,ho⟩) r.fr r.eh
theorem QpC (vs post xs:List Value)(j:Nat)(h:j+xs.length≤vs.length):setAt (vs++post) j xs=setAt vs j xs++post:=by
 have:=Qnn [] post xs vs j h
 simpa using this
theorem QK8 [Gd]{E:Env}{th:TH}{h0 h:Heap}{L:List HP}(r:Rep E th h0 h L){t:TypeId}{k:Nat}(hk:szO P t=some k){i o kk:Nat}{cs cs':List FV}{x:FV}{u v:Value}(hu:den E (.ptr i o)=some u)(hx:den E x=some v)
  (hn:QfE x=true) (hl:(QbI x).length=k) (hg:th.t.get i=some (.cells cs kk)) (hs:splO (QbI x) o cs=some cs') {K:FV→TH→Prop} (kK:K undF (th.set i (.cells cs' kk))):QrW P t u v h (Post E h0 L K):=by
 obtain⟨a,vs,post,hc,s⟩:=r.told hg
 obtain⟨a',ha',rfl⟩:=Qca hu
 rw[hc.1] at ha';simp only[Option.some.injEq] at ha';subst ha'
 obtain⟨h1,h2⟩:=Qhd hs
 have hvl:=QS hc.2.1
 have hcl:=QS (QcN hx)
 haveI:=QbA hk
 have hp:Value.pointer (some (a.add o))=padd (.pointer (some a)) o:=rfl
 rw[hp]
 refine QD4 s (by rw[hcl,hl]) (by rw[List.length_append];omega) (Qkm (QcN hx) (Qij hx (QjT hn))) fun h' s'=>?_
 rw[QpC _ _ _ _ (by rw[hcl];omega)] at s'
 exact Post.same (Qhv E) (r.store hg (hc.put (by rw[h1];exact Qhw o hc.2.1 (QcN hx)) (by rw[h1];exact Ql9 hc.2.2.1 (Qij hx (QjT hn))) (Qfy _ _ _)) s') kK
theorem QKh [Gd]{E:Env}{th:TH}{h0 h:Heap}{L:List HP}(r:Rep E th h0 h L){t e:TypeId}{z:List FV}{i:TypeInfo}(hu:P.underlying t=some (.slice e))(hz:zrO P e=some z)(hi:P.info? e=some i)(hp:0<z.length){l c:Nat}(hlc:l≤c)(hb:i.bytes * c≤140737488355328)(hc:c≤4611686018427387904)
  {K:FV→TH→Prop} (k:K (.sl th.nx 0 0 l (.lit c)) (th.new (.cells (repF z c) 0))):Qmk P t (.int .i64 l) (.int .i64 c) h (Post E h0 L K):=by
 obtain⟨i',zv,h1,h2,h3,h4,h5,h6⟩:=Qe5 hz
 rw[hi] at h1;simp only[Option.some.injEq] at h1;subst h1
 intro w hw
 have hbb:(i.bytes:Int) * (c:Int)≤281474976710656:=by
  have h4:((i.bytes * c:Nat):Int)≤281474976710656:=by omega
  rwa [Int.natCast_mul] at h4
 have hr:=run_make (P:=P) w t e i zv hu hi h2 .i64 .i64 l c (by omega) (by omega) hbb (by omega)
 simp only[Int.toNat_natCast] at hr
 rw[QA hr]
 refine⟨⟨rfl,rfl,rfl,fun _=>by first | exact Nat.le_refl _ | exact Nat.le_succ _ | exact Nat.le_add_right _ _⟩,?_⟩
 show Post E h0 L K _ (w.heap.push _)
 rw[hw,QoL]
 have hzl:zv.cells.toList.length=z.length:=QS (Qcf E h3)
 have hrd:=QpD (Qcf E h3) (by omega) c
 have e1:(List.range (c * i.size)).map (fun j=>zv.cells[j % zv.cells.size]!)=(List.range (c * zv.cells.toList.length)).map fun j=>zv.cells.toList.toArray[j % zv.cells.toList.length]!:=by
  simp[h6]
 rw[e1]
 exact QjE r (T:=e) hrd (QpE h4 c) (v:=.slice (some ⟨h.size,0,none⟩) l c) (fun _=>Qwm) k
theorem QIX [Gd]{E:Env}{th:TH}{h0 h:Heap}{L:List HP}(r:Rep E th h0 h L){t e:TypeId}{z:List FV}{i:TypeInfo}(hu:P.underlying t=some (.slice e))(hz:zrO P e=some z)(hi:P.info? e=some i)(hp:0<z.length){c:Nat}(hb:c * i.bytes≤140737488355328)(hc:c≤4611686018427387904)
  {K:FV→TH→Prop} (k:K (.sl th.nx 0 0 0 (.hid 0)) (th.new (.cells [] z.length))):Qmk P t (.int .i64 0) (.int .i64 c) h (Post E h0 L K):=by
 obtain⟨i',zv,h1,h2,h3,h4,h5,h6⟩:=Qe5 hz
 rw[hi] at h1;simp only[Option.some.injEq] at h1;subst h1
 intro w hw
 have hbb:(i.bytes:Int) * (c:Int)≤281474976710656:=by
  have h4:((i.bytes * c:Nat):Int)≤281474976710656:=by rw[Nat.mul_comm];omega
  rwa [Int.natCast_mul] at h4
 have hr:=run_make (P:=P) w t e i zv hu hi h2 .i64 .i64 0 c (by omega) (by omega) hbb (by omega)
 simp only[Int.toNat_natCast,Int.toNat_zero] at hr
 rw[QA hr]
 refine⟨⟨rfl,rfl,rfl,fun _=>by first | exact Nat.le_refl _ | exact Nat.le_succ _ | exact Nat.le_add_right _ _⟩,?_⟩
 show Post E h0 L K _ (w.heap.push _)
 rw[hw,QoL]
 have hzl:zv.cells.toList.length=z.length:=QS (Qcf E h3)
 have e1:i.size=z.length:=by rw[←hzl];simp[h6]
 rw[e1]
 exact QpI r (T:=e) (cs:=[]) (vs:=[]) (post:=(List.range (c * z.length)).map fun j=>zv.cells[j % zv.cells.size]!) hp rfl rfl (by simp) (Nat.zero_le _) k
theorem QGZ {E:Env}{fr:Fr}{ρ:Operand→Value}(hρ:AgO E fr ρ){y:Operand}{z:Opd}(hc:c1 y=some z)(hx:QwH fr z=true):ρ y=.int .i64 0:=by
 unfold QwH at hx
 cases hv:evO fr z with
 | none=>rw[hv] at hx;cases hx
 | some v=>
  rw[hv] at hx
  cases v<;>try (cases hx;done)
  rename_i k n
  cases n<;>try (cases hx;done)
  rename_i m
  cases k<;>try (cases hx;done)
  have:=Qm hx
  subst this
  exact Qst hρ hc (n:=0) (by unfold evN;rw[hv])
theorem QHn {E:Env}{fr:Fr}{ρ:Operand→Value}(hρ:AgO E fr ρ){y:Operand}{z:Opd}{n:Int}(hc:c1 y=some z)(hx:QpQ fr z=some n):ρ y=.int .i64 n:=by
 unfold QpQ at hx
 cases hv:evO fr z with
 | none=>rw[hv] at hx;cases hx
 | some v=>
  rw[hv] at hx
  cases v<;>try (cases hx;done)
  rename_i k e lo hi
  cases k<;>try (cases hx;done)
  simp only[Option.some.injEq] at hx;subst hx
  exact (QmN (hρ y z _ hc hv)).2
theorem St.cellsDrop {h0 h:Heap}{L:List HP}{a:Addr}{xs ys:List Value}(s:St h0 h (Qap (.pointer (some a)) (xs++ys)::L)):St h0 h (Qap (.pointer (some (a.add xs.length))) ys::L):=by
 refine s.imp fun S ⟨b,o,T,pre,post,hp,hS,hb,ho⟩=>?_
 simp only[Value.pointer.injEq,Option.some.injEq] at hp
 subst hp
 refine⟨b,o+xs.length,T,pre++xs,post,by rw[Addr.add_none],hS,?_,by simp[ho]⟩
 rw[hb];simp
theorem QKN [Gd]{E:Env}{th:TH}{h0 h:Heap}{L:List HP}(r:Rep E th h0 h L){t e:TypeId}{n:Nat}{ps:Array (Nat×Operand)}{ρ:Operand→Value}{fr:Fr}{l:List (Nat×Opd)}{q:List (Nat×FV)}{z cs:List FV}
  (hρ:AgO E fr ρ) (hl:c1P ps.toList=some l) (hq:evP fr l=some q) (hu:P.underlying t=some (.slice e)) (hz:zrO P e=some z) (hf:Qc4 (List.replicate n z).flatten (plsK z.length ps.toList) q=some cs)
  (h1:n * z.length≤16777216) (h2:0<n * z.length) {K:FV→TH→Prop} (k:K (.sl th.nx 0 0 n (.lit n)) (th.new (.cells cs 0))):Qn2 P t n (prs ρ ps) h (Post E h0 L K):=by
 obtain⟨i,zv,g1,g2,g3,g4,g5,g6⟩:=Qe5 hz
 obtain⟨h7,h8⟩:=hρ.pairs hl hq
 have hzp:0<z.length:=by
  rcases Nat.eq_zero_or_pos z.length with h | h
  ·rw[h,Nat.mul_zero] at h2;omega
  ·exact h
 have hzl:zv.cells.toList.length=z.length:=QS (Qcf E g3)
 have erep:∀m,(List.replicate m z).flatten=repF z m:=fun m=>by
  induction m with
  | zero=>rfl
  | succ m ih=>simp[List.replicate_succ,repF,ih]
 rw[erep] at hf
 have hrd:=QpD (Qcf E g3) (by omega) n
 have hpl:=Qzu (place:=fun i=>some (i * z.length,z.length)) (pl:=plsK z.length ps.toList) h7 fun j i q hj hq=>by
  have:=Qyt j i q hj hq
  simp only[this]
 obtain⟨ws,h9,h10,h11⟩:=Qv8 (place:=fun i=>some (i * z.length,z.length)) hf hrd (QpE g4 n) h8 rfl hpl
 intro w hw
 have e2:(prs ρ ps).toList=ps.toList.map fun p=>(p.1,ρ p.2):=by simp[prs]
 rw[Qrs h7] at h9
 have hr:=run_buildSlice (P:=P) w t e n (prs ρ ps) ws.toArray i zv hu g1 g2 (by rw[←g5];omega) (by rw[←g5];omega) (by
  rw[e2,←h9,←g5]
  congr 1
  apply Array.ext'
  have hzs:zv.cells.size=z.length:=by rw[g6,g5]
  simp[hzs,hzl])
 rw[QA hr]
 refine⟨⟨rfl,rfl,rfl,fun _=>Nat.le_refl _⟩,?_⟩
 show Post E h0 L K _ (w.heap.push _)
 rw[hw]
 exact QjE r (T:=e) h10 h11 (v:=.slice (some ⟨h.size,0,none⟩) n n) (fun _=>Qwm) k
theorem QKO [Gd]{E:Env}{th:TH}{h0 h:Heap}{L:List HP}(r:Rep E th h0 h L){t e:TypeId}{ps:Array (Nat×Operand)}{ρ:Operand→Value}{z:List FV}(hu:P.underlying t=some (.slice e))(hz:zrO P e=some z)(hp:ps.toList=[])
  {K:FV→TH→Prop} (k:xBs0 th K):Qn2 P t 0 (prs ρ ps) h (Post E h0 L K):=by
 obtain⟨i,zv,g1,g2,g3,g4,g5,g6⟩:=Qe5 hz
 intro w hw
 have e2:(prs ρ ps).toList=[]:=by simp[prs,hp]
 have hr:(Instr.buildSlice t 0 (prs ρ ps)).run P w=.ok (.slice (some ⟨w.heap.size,0,none⟩) 0 0) { w with heap:=w.heap.push (.cells #[] e) }:=by
  have hs:(sizeOf e).run P w=.ok i.size w:=by simp[sizeOf,typeInfo,g1]
  unfold Instr.buildSlice
  rw[Sem.run_bind,run_underlying hu,Result.andThen_ok]
  simp only
  rw[Sem.run_bind,hs,Result.andThen_ok]
  have e3:∀x:Value,Array.map (fun _=>x) (Array.range 0)=#[]:=fun x=>Array.ext (by simp) (fun i h1 h2=>by simp at h2)
  simp[e2,e3,Instr.fill,newRow,newObj,Sem.run]
 rw[QA hr]
 refine⟨⟨rfl,rfl,rfl,fun _=>Nat.le_refl _⟩,?_⟩
 show Post E h0 L K _ (w.heap.push _)
 rw[hw]
 exact QjE r (T:=e) (vs:=[]) rfl rfl (v:=.slice (some ⟨h.size,0,none⟩) 0 0) (fun _=>Qwm) k
end Go.Va
