import Derived.Test.YtemffgbncjnmkaaGreatHp
set_option linter.unusedVariables false
namespace Go.Sh
section mem
variable {P:Program}
def one:Value→Bool
 | .agg _ | .tuple _=>false
 | _=>true
theorem run_load {w:World}{a:Addr}{v:Value}(hv:cellAt w.heap a=some v):(load a).run P w=.ok v w:=by
 simp only[load,Sem.run,Qee,hv]
theorem QrJ {t:TypeId} [IsA P t false]{w:World}{a:Addr}{v:Value}(hv:cellAt w.heap a=some v):(loadVar t a).run P w=.ok v w:=by
 unfold loadVar
 rw[Sem.run_bind,IsA.run (P:=P) (t:=t),Result.andThen_ok,if_neg (by simp)]
 exact run_load hv
theorem QrK {w:World}{a:Addr}:∀(cs:List Value)(i:Nat)(acc:Array Value),(∀(j:Nat)(x:Value),cs[j]?=some x→cellAt w.heap (a.add (i+j))=some x) →
  (loadCellsFrom a i cs.length acc).run P w=.ok (acc++cs.toArray) w
 | [],_,acc,_=>by simp[loadCellsFrom]
 | x::cs,i,acc,h=>by
  have h0:(load (a.add i)).run P w=.ok x w:=run_load (by simpa using h 0 x rfl)
  have ih:=QrK (w:=w) (a:=a) cs (i+1) (acc.push x) (fun j y hy=>by
   have:=h (j+1) y (by simpa using hy)
   rwa [show i+(j+1)=i+1+j from by omega] at this)
  simp only[List.length_cons,loadCellsFrom]
  rw[Sem.run_bind,h0,Result.andThen_ok,ih]
  congr 1
  apply Array.ext'
  simp
theorem run_loadCells {w:World}{a:Addr}(cs:List Value)(h:∀(j:Nat)(x:Value),cs[j]?=some x→cellAt w.heap (a.add j)=some x) :
  (loadCells a cs.length).run P w=.ok cs.toArray w:=by
 have:=QrK (P:=P) cs 0 #[] (fun j x hx=>by rw[Nat.zero_add];exact h j x hx)
 simpa [loadCells] using this
theorem QF2 {t:TypeId} [IsA P t false]{p:Value}{cs:List Value}{j:Nat}{x:Value}{D:Heap→Prop}{K:Value→Prop}
  (hr:∀h',D h'→Rd h' p cs) (hx:cs[j]?=some x) (hk:K x):Qnx P t (padd p j) D K:=by
 refine⟨x,fun w hw=>?_,hk⟩
 obtain⟨a,ha,hc⟩:=(hr _ hw).at hx
 rw[ha]
 exact QA (by simp[Instr.loadAt,Instr.sureAddr,QrJ hc])
theorem QF1 {t:TypeId}{k:Nat} [IsA P t true] [Siz P t k]{p:Value}{cs:List Value}{j:Nat}{D:Heap→Prop}{K:Value→Prop}
  (hr:∀h',D h'→Rd h' p cs) (hp:∃a,p=.pointer (some a)) (hj:j+k≤cs.length) (hk:K (.agg ((cs.drop j).take k).toArray)):Qnx P t (padd p j) D K:=by
 refine⟨_,fun w hw=>?_,hk⟩
 have h1:=((hr _ hw).drop j).take k
 have hl:((cs.drop j).take k).length=k:=by simp;omega
 obtain⟨a,ha⟩:∃a,padd p j=.pointer (some a):=by obtain⟨a,rfl⟩:=hp;exact⟨_,rfl⟩
 rw[ha] at h1 ⊢
 refine QA ?_
 have h2:(loadCells a k).run P w=.ok ((cs.drop j).take k).toArray w:=by
  have:=run_loadCells (P:=P) (w:=w) (a:=a) ((cs.drop j).take k) (fun i x hx=>by
   obtain⟨a',ha',hc⟩:=h1.at hx
   simp only[padd,Value.pointer.injEq,Option.some.injEq] at ha'
   rw[ha'];exact hc)
  rwa [hl] at this
 simp[Instr.loadAt,Instr.sureAddr,loadVar,IsA.run,Siz.run,h2]
def setAt (cs:List Value)(j:Nat):List Value→List Value
 | []=>cs
 | x::xs=>setAt (cs.set j x) (j+1) xs
theorem Qfy:∀(xs cs:List Value)(j:Nat),(setAt cs j xs).length=cs.length
 | [],_,_=>rfl
 | x::xs,cs,j=>by simp[setAt,Qfy xs]
def setB (h:Heap)(b:Nat)(o:Obj):Heap:=h.setIfInBounds b o
theorem QeJ (h:Heap)(b:Nat)(o:Obj):(setB h b o).size=h.size:=by simp[setB]
theorem Qda {h:Heap}{b b':Nat}{o:Obj}(hne:b'≠b):(setB h b o)[b']?=h[b']?:=by
 simp[setB,Array.getElem?_setIfInBounds_ne (Ne.symm hne)]
theorem Qe6 {h:Heap}{b:Nat}{o:Obj}(hb:b<h.size):(setB h b o)[b]?=some o:=by simp[setB,hb]
theorem QFJ (h:Heap)(b:Nat)(o o':Obj):setB (setB h b o) b o'=setB h b o':=by
 apply Array.ext_getElem?
 intro i
 by_cases hi:i=b
 ·subst hi
  rcases Nat.lt_or_ge i h.size with hl | hl
  ·rw[Qe6 (by rw[QeJ];exact hl),Qe6 hl]
  ·simp[setB,hl]
 ·rw[Qda hi,Qda hi,Qda hi]
theorem lt_of_some {h:Heap}{b:Nat}{o:Obj}(hb:h[b]?=some o):b<h.size:=(Array.getElem?_eq_some_iff.1 hb).1
theorem QEQ {w:World}{b o T:Nat}{c:List Value}{x:Value}(hb:w.heap[b]?=some (.cells c.toArray T (0,0)))(ho:o<c.length)(hx:one x=true) :
  (store ⟨b,o,none⟩ x).run P w=.ok () { w with heap:=setB w.heap b (.cells (c.set o x).toArray T (0,0)) }:=by
 have h1:w.cell? ⟨b,o,none⟩=some c[o]:=by simp[World.cell?,hb,ho]
 have h2:w.frozen? ⟨b,o,none⟩=false:=by simp[World.frozen?,hb]
 have hlt:=lt_of_some hb
 have h3:w.setCell ⟨b,o,none⟩ x={ w with heap:=setB w.heap b (.cells (c.set o x).toArray T (0,0)) }:=by
  unfold World.setCell
  congr 1
  apply Array.ext_getElem?
  intro i
  rw[Array.getElem?_modify]
  by_cases hi:i=b
  ·subst hi
   rw[Qe6 hlt]
   simp[hb]
  ·rw[Qda hi,if_neg (fun e=>hi e.symm)]
 cases x<;>first | (simp[one] at hx;done) | simp only[store,Sem.run,h1,h2,h3,Bool.false_eq_true,if_false]
theorem Qon {b o T:Nat}:∀(xs:List Value)(i:Nat)(w:World)(c:List Value),w.heap[b]?=some (.cells c.toArray T (0,0))→o+i+xs.length≤c.length→(∀x∈xs,one x=true) →
  (storeCells ⟨b,o,none⟩ xs i).run P w=.ok () { w with heap:=setB w.heap b (.cells (setAt c (o+i) xs).toArray T (0,0)) }
 | [],i,w,c,hb,_,_=>by
  have hlt:=lt_of_some hb
  have:setB w.heap b (.cells c.toArray T (0,0))=w.heap:=by
   apply Array.ext_getElem?
   intro j
   by_cases hj:j=b
   ·subst hj;rw[Qe6 hlt,hb]
   ·rw[Qda hj]
  simp only[storeCells,setAt,this]
  rfl
 | x::xs,i,w,c,hb,hl,hx=>by
  simp only[List.length_cons] at hl
  simp only[storeCells]
  rw[Sem.run_bind,Addr.add_none,QEQ hb (by omega) (hx x (by simp)),Result.andThen_ok,
   Qon xs (i+1) { w with heap:=setB w.heap b (.cells (c.set (o+i) x).toArray T (0,0)) } (c.set (o+i) x) (Qe6 (lt_of_some hb)) (by simp;omega) (fun y hy=>hx y (by simp[hy]))]
  simp only[QFJ,setAt,Nat.add_assoc]
theorem set_mid (pre cs post:List Value)(j:Nat)(x:Value)(hj:j<cs.length):(pre++cs++post).set (pre.length+j) x=pre++cs.set j x++post:=by
 rw[List.append_assoc,List.set_append_right _ _ (by omega),Nat.add_sub_cancel_left,List.set_append_left _ _ hj,List.append_assoc]
theorem Qnn (pre post:List Value):∀(xs cs:List Value)(j:Nat),j+xs.length≤cs.length→setAt (pre++cs++post) (pre.length+j) xs=pre++setAt cs j xs++post
 | [],cs,j,_=>rfl
 | x::xs,cs,j,h=>by
  simp only[List.length_cons] at h
  simp only[setAt]
  rw[set_mid _ _ _ _ _ (by omega),show pre.length+j+1=pre.length+(j+1) from by omega,Qnn pre post xs (cs.set j x) (j+1) (by simp;omega)]
theorem Qap.set {h:Heap}{p:Value}{cs:List Value}{S:Nat→Prop}(hc:(Qap p cs).own h S)(hlt:∀b,S b→b<h.size)(j:Nat)(xs:List Value)(hj:j+xs.length≤cs.length)(h1:∀x∈xs,one x=true) :
  ∃b o T l,padd p j=.pointer (some ⟨b,o,none⟩)∧h[b]?=some (.cells l T (0,0))∧S b ∧
   (∀w:World,w.heap=h→(storeCells ⟨b,o,none⟩ xs).run P w=.ok () { w with heap:=setB h b (.cells (setAt l.toList o xs).toArray T (0,0)) }) ∧
   (Qap p (setAt cs j xs)).own (setB h b (.cells (setAt l.toList o xs).toArray T (0,0))) S:=by
 obtain⟨b,o,T,pre,post,rfl,hS,hb,rfl⟩:=hc
 refine⟨b,pre.length+j,T,(pre++cs++post).toArray,by simp[padd,Addr.add_none],hb,hS,fun w hw=>?_,b,pre.length,T,pre,post,rfl,hS,?_,rfl⟩
 ·have:=Qon (P:=P) (b:=b) (o:=pre.length+j) (T:=T) xs 0 w (pre++cs++post) (by rw[hw];exact hb) (by simp;omega) h1
  rw[this,hw]
  rfl
 ·rw[Qe6 (lt_of_some hb)]
  simp only
  rw[Qnn pre post xs cs j hj]
theorem QD4 [Gd]{t:TypeId}{k:Nat} [Siz P t k]{h0 h:Heap}{p v:Value}{cs:List Value}{L:List HP}{j:Nat}{K:Value→Heap→Prop}
  (s:St h0 h (Qap p cs::L)) (hk:v.cells.toList.length=k) (hj:j+k≤cs.length) (h1:∀x∈v.cells.toList,one x=true)
  (g:∀h',St h0 h' (Qap p (setAt cs j v.cells.toList)::L)→K undef h'):QrW P t (padd p j) v h K:=by
 intro w hw
 obtain⟨_,S,hA,hS,_⟩:=id s
 obtain⟨b,o,T,l,hp,hb,hSb,hrun,hown⟩:=Qap.set (P:=P) hA (fun b hb=>(hS b hb).2) j v.cells.toList (by omega) h1
 have hst:St h0 (setB h b (.cells (setAt l.toList o v.cells.toList).toArray T (0,0))) (Qap p (setAt cs j v.cells.toList)::L):=by
  refine St.step s fun S' hA' hS'=>?_
  obtain⟨b',o',T',l',hp',hb',hSb',hrun',hown'⟩:=Qap.set (P:=P) hA' (fun b hb=>(hS' b hb).2) j v.cells.toList (by omega) h1
  rw[hp] at hp'
  simp only[Value.pointer.injEq,Option.some.injEq,Addr.mk.injEq,and_true] at hp'
  obtain⟨rfl,rfl⟩:=hp'
  rw[hb] at hb'
  simp only[Option.some.injEq,Obj.cells.injEq,and_true] at hb'
  obtain⟨rfl,rfl⟩:=hb'
  exact⟨by rw[QeJ];exact Nat.le_refl _,fun i _ hi=>Qda (fun e=>hi (e ▸ hSb')),S',hown',fun i hi=>.inl hi⟩
 have hv:(storeVar t ⟨b,o,none⟩ v).run P w=.ok () { w with heap:=setB h b (.cells (setAt l.toList o v.cells.toList).toArray T (0,0)) }:=by
  unfold storeVar
  rw[Sem.run_bind,Siz.run (P:=P) (t:=t),Result.andThen_ok,if_neg (by simpa using hk)]
  exact hrun w hw
 have:(nu (Instr.storeAt t (padd p j) v)).run P w=.ok .skip { w with heap:=setB h b (.cells (setAt l.toList o v.cells.toList).toArray T (0,0)) }:=by
  rw[hp]
  simp only[nu,Instr.storeAt,Instr.sureAddr,pure_bind]
  rw[Sem.run_bind,hv]
  rfl
 rw[this]
 exact⟨⟨rfl,rfl,rfl,fun _=>by first | exact Nat.le_refl _ | exact Nat.le_succ _ | exact Nat.le_add_right _ _⟩,g _ hst⟩
theorem QIO {h:Heap}(cs:List Value)(T:TypeId):(Qap (.pointer (some ⟨h.size,0,none⟩)) cs).own (h.push (.cells cs.toArray T)) (fun b=>h.size≤b∧b<(h.push (.cells cs.toArray T)).size):=
 ⟨h.size,0,T,[],[],rfl,⟨Nat.le_refl _,by simp⟩,by simp,rfl⟩
theorem QpH {h:Heap}{o:Obj}(b:Nat)(hb:b<h.size):(h.push o)[b]?=h[b]?:=by
 rw[Array.getElem?_push_lt hb,Array.getElem?_eq_getElem hb]
theorem St.push {h0 h:Heap}{L:List HP}(s:St h0 h L)(cs:List Value)(T:TypeId):St h0 (h.push (.cells cs.toArray T)) (Qap (.pointer (some ⟨h.size,0,none⟩)) cs::L):=
 s.new (by simp) (fun b hb=>QpH b hb) (QIO cs T)
def Row (k:Nat)(v:Value)(n:Nat)(cs:List Value):HP:=
  ⟨fun h S=>cs.length=n * k∧((v=.slice none 0 0∧n=0)∨∃a cap post,v=.slice (some a) n cap∧n≤cap∧post.length=(cap - n) * k∧(Qap (.pointer (some a)) (cs++post)).own h S),
   fun h h' S hx he=>⟨hx.1,hx.2.imp id fun⟨a,cap,post,h1,h2,h3,h4⟩=>⟨a,cap,post,h1,h2,h3,(Qap _ _).loc h h' S h4 he⟩⟩⟩
theorem St.row {h0 h:Heap}{k n:Nat}{v:Value}{cs:List Value}{L:List HP}(s:St h0 h (Row k v n cs::L)):IsSl v n∧cs.length=n * k∧Rd h (Qc1 v) cs:=by
 obtain⟨S,⟨hl,hc⟩,_⟩:=s.get
 rcases hc with⟨rfl,rfl⟩ | ⟨a,cap,post,rfl,h2,h3,h4⟩
 ·refine⟨⟨_,_,rfl⟩,hl,?_⟩
  have:cs=[]:=by simpa using hl
  subst this
  exact Rd.nil _ _
 ·refine⟨⟨_,_,rfl⟩,hl,?_⟩
  have:=(Qap.rd h4).take cs.length
  rw[List.take_left] at this
  exact this
theorem Rd.nz {h:Heap}{p:Value}{cs:List Value}(r:Rd h p cs)(hne:0<cs.length):p≠.pointer none:=by
 obtain⟨b,o,rfl,_⟩:=r.block (by intro e;rw[e] at hne;simp at hne)
 simp
theorem Rd.ptr {h:Heap}{p:Value}{cs:List Value}(r:Rd h p cs)(hne:0<cs.length):∃a,p=.pointer (some a):=by
 obtain⟨b,o,rfl,_⟩:=r.block (by intro e;rw[e] at hne;simp at hne)
 exact⟨_,rfl⟩
theorem St.rowOpen {h0 h:Heap}{k n:Nat}{v:Value}{cs:List Value}{L:List HP}(s:St h0 h (Row k v n cs::L))(hn:0<n) :
  ∃a cap post,v=.slice (some a) n cap∧n≤cap∧post.length=(cap - n) * k∧cs.length=n * k∧St h0 h (Qap (.pointer (some a)) (cs++post)::L):=by
 obtain⟨he,S,⟨hl,hc⟩,r⟩:=s
 rcases hc with⟨rfl,rfl⟩ | ⟨a,cap,post,h1,h2,h3,h4⟩
 ·omega
 ·exact⟨a,cap,post,h1,h2,h3,hl,he,S,h4,r⟩
theorem St.rowShut {h0 h:Heap}{k n cap:Nat}{a:Addr}{cs post:List Value}{L:List HP}(s:St h0 h (Qap (.pointer (some a)) (cs++post)::L))(h2:n≤cap)(h3:post.length=(cap - n) * k)(hl:cs.length=n * k) :
  St h0 h (Row k (.slice (some a) n cap) n cs::L):=s.imp fun S h4=>⟨hl,.inr ⟨a,cap,post,rfl,h2,h3,h4⟩⟩
theorem QIU [Gd]{t:TypeId}{k m:Nat} [Siz P t k]{h0 h:Heap}{v x:Value}{n:Nat}{cs:List Value}{L:List HP}{j:Nat}{K:Value→Heap→Prop}
  (s:St h0 h (Row m v n cs::L)) (hk:x.cells.toList.length=k) (hj:j+k≤cs.length) (hk0:0<k) (h1:∀y∈x.cells.toList,one y=true)
  (g:∀h',St h0 h' (Row m v n (setAt cs j x.cells.toList)::L)→K undef h'):QrW P t (padd (Qc1 v) j) x h K:=by
 have hn:0<n:=by
  have:=s.row.2.1
  rcases Nat.eq_zero_or_pos n with rfl | hn
  ·rw[Nat.zero_mul] at this;omega
  ·exact hn
 obtain⟨a,cap,post,rfl,h2,h3,hl,s'⟩:=s.rowOpen hn
 refine QD4 s' hk (by simp;omega) h1 fun h' s''=>g h' ?_
 have:setAt (cs++post) j x.cells.toList=setAt cs j x.cells.toList++post:=by
  have:=Qnn [] post x.cells.toList cs j (by omega)
  simpa using this
 rw[this] at s''
 exact s''.rowShut h2 h3 (by rw[Qfy];exact hl)
theorem QoL (z:Array Value)(n:Nat):madeCells z n=((List.range n).map fun i=>z[i % z.size]!).toArray:=by
 apply Array.ext'
 simp[madeCells]
theorem QFL {w:World}{k m:Nat}{x:Value}{xs:List Value}(hx:IsSl x m)(hl:xs.length=m * k)(hr:Rd w.heap (Qc1 x) xs):(Builtin.firstCells k m x).run P w=.ok xs.toArray w:=by
 obtain⟨a,c,rfl⟩:=hx
 cases a with
 | none=>
  have:xs=[]:=by
   rcases hr with h | ⟨b,o,hp,_⟩
   ·exact h
   ·simp[Qc1] at hp
  subst this
  simp[Builtin.firstCells]
 | some a=>
  simp only[Builtin.firstCells,←hl]
  refine run_loadCells xs fun j y hy=>?_
  obtain⟨a',ha',hc⟩:=hr.at hy
  simp only[Qc1,padd,Value.pointer.injEq,Option.some.injEq] at ha'
  rw[ha'];exact hc
theorem QhK:∀(xs cs post:List Value),xs.length≤post.length→setAt (cs++post) cs.length xs=cs++xs++post.drop xs.length
 | [],cs,post,_=>by simp[setAt]
 | x::xs,cs,post,h=>by
  cases post with
  | nil=>simp at h
  | cons p post=>
   simp only[setAt]
   rw[List.set_append_right _ _ (Nat.le_refl _)]
   simp only[Nat.sub_self,List.set_cons_zero]
   have:=QhK xs (cs++[x]) post (by simpa using h)
   simpa using this
theorem Qc8 (z:Array Value)(n:Nat):(Builtin.zeroCells z n).size=n * z.size:=by simp[Builtin.zeroCells]
theorem QpV [Gd]{t e ty:TypeId}{k b:Nat}{z:Value} [Und P t (.slice e)] [u:Inf P e k b z]{h0 h:Heap}{v x:Value}{n m:Nat}{cs xs:List Value}{L:List HP}{K:Value→Heap→Prop}
  (s:St h0 h (Row k v n cs::L)) (hz:z.cells.size=k) (hk0:0<k) (hx:IsSl x m) (hl:xs.length=m * k) (hr:Rd h (Qc1 x) xs) (h1:∀y∈xs,one y=true)
  (hb:(n+m) * b≤140737488355328) (hb2:n+m≤4611686018427387904)
  (g:∀v' h',St h0 h' (Row k v' (n+m) (cs++xs)::L)→K v' h'):QbY P #[t,t] ty #[v,x] h K:=by
 intro w hw
 obtain⟨i,hi,hk,hbb,hzz⟩:=u.info
 obtain⟨xa,xc,rfl⟩:=id hx
 have hf:∀w':World,w'.heap=h→(Builtin.firstCells k m (.slice xa m xc)).run P w'=.ok xs.toArray w':=fun w' hw'=>QFL hx hl (hw' ▸ hr)
 have hcs:=s.row.2.1
 obtain⟨he,S,⟨_,hown⟩,hS,hL⟩:=id s
 by_cases hroom:∃a cap post,v=.slice (some a) n cap∧n+m≤cap∧post.length=(cap - n) * k∧(Qap (.pointer (some a)) (cs++post)).own h S
 ·
  obtain⟨a,cap,post,rfl,hfit,hpost,hc⟩:=hroom
  have hxp:xs.length≤post.length:=by
   rw[hl,hpost];exact Nat.mul_le_mul_right _ (by omega)
  obtain⟨bb,o,T,l,hp,hbk,hSb,hrun,hown'⟩:=Qap.set (P:=P) hc (fun b hb=>(hS b hb).2) cs.length xs (by simp;omega) h1
  have ha:a.add (n * k)=⟨bb,o,none⟩:=by
   rw[hcs] at hp
   simpa [padd] using hp
  have hr1:(Builtin.append_ #[t,t] ty #[.slice (some a) n cap,.slice xa m xc]).run P w=.ok (.slice (some a) (n+m) cap) { w with heap:=setB h bb (.cells (setAt l.toList o xs).toArray T (0,0)) }:=by
   have:=hf w hw
   have h2:=hrun w hw
   simp[Builtin.append_,run_underlying (Und.eq (P:=P) (t:=t)),sizeOf,typeInfo,hi,hk,Builtin.lenOf,hfit,this,ha,h2]
  rw[QA hr1]
  refine⟨⟨rfl,rfl,rfl,fun _=>by first | exact Nat.le_refl _ | exact Nat.le_succ _ | exact Nat.le_add_right _ _⟩,g _ _ ?_⟩
  have hst:St h0 (setB h bb (.cells (setAt l.toList o xs).toArray T (0,0))) (Qap (.pointer (some a)) (setAt (cs++post) cs.length xs)::L):=by
   refine St.step (A:=Qap (.pointer (some a)) (cs++post)) ⟨he,S,hc,hS,hL⟩ fun S' hA' hS'=>?_
   obtain⟨b',o',T',l',hp',hb',hSb',_,hown2⟩:=Qap.set (P:=P) hA' (fun b hb=>(hS' b hb).2) cs.length xs (by simp;omega) h1
   rw[hp] at hp'
   simp only[Value.pointer.injEq,Option.some.injEq,Addr.mk.injEq,and_true] at hp'
   obtain⟨rfl,rfl⟩:=hp'
   rw[hbk] at hb'
   simp only[Option.some.injEq,Obj.cells.injEq,and_true] at hb'
   obtain⟨rfl,rfl⟩:=hb'
   exact⟨by rw[QeJ];exact Nat.le_refl _,fun i _ hi=>Qda (fun e=>hi (e ▸ hSb')),S',hown2,fun i hi=>.inl hi⟩
  rw[QhK xs cs post hxp] at hst
  exact hst.rowShut hfit (by rw[List.length_drop,hpost,hl,←Nat.sub_mul];congr 1;omega) (by rw[List.length_append,hcs,hl,Nat.add_mul])
 ·
  have hmain:(v=.slice none 0 0∧n=0)∨∃a cap post,v=.slice (some a) n cap∧cap<n+m∧n≤cap∧(Qap (.pointer (some a)) (cs++post)).own h S:=by
   rcases hown with h | ⟨a,cap,post,h1,h2,h3,h4⟩
   ·exact .inl h
   ·refine .inr ⟨a,cap,post,h1,?_,h2,h4⟩
    rcases Nat.lt_or_ge cap (n+m) with h | h
    ·exact h
    ·exact absurd ⟨a,cap,post,h1,h,h3,h4⟩ hroom
  have grown:∀w':World,Qx w w'→∀cap,n+m≤cap→w'.heap=w.heap.push (.cells ((cs++xs).toArray++Builtin.zeroCells z.cells (cap - (n+m))) e) →
    (Builtin.append_ #[t,t] ty #[v,.slice xa m xc]).run P w=.ok (.slice (some ⟨w.heap.size,0,none⟩) (n+m) cap) w'→Qd9 P K w ((nv (Builtin.append_ #[t,t] ty #[v,.slice xa m xc])).run P w):=by
   intro w' hs cap hcap hh hrun
   rw[QA hrun]
   refine⟨hs,?_⟩
   rw[hh,hw]
   refine g _ _ ?_
   have s0:=s.drop.push (cs++xs++(Builtin.zeroCells z.cells (cap - (n+m))).toList) e
   have e1:(cs++xs++(Builtin.zeroCells z.cells (cap - (n+m))).toList).toArray=(cs++xs).toArray++Builtin.zeroCells z.cells (cap - (n+m)):=by
    apply Array.ext';simp
   rw[e1] at s0
   exact s0.rowShut hcap (by rw[Array.length_toList,Qc8,hz]) (by rw[List.length_append,hcs,hl,Nat.add_mul])
  rcases hmain with⟨rfl,rfl⟩ | ⟨a,cap,post,rfl,hgrow,hcap,hc⟩
  ·have hcs0:cs=[]:=by simpa using hcs
   subst hcs0
   rcases Nat.eq_zero_or_pos m with rfl | hm
   ·have:xs=[]:=by simpa using hl
    subst this
    have hr1:(Builtin.append_ #[t,t] ty #[.slice none 0 0,.slice xa 0 xc]).run P w=.ok (.slice none 0 0) w:=by
     have:=hf w hw
     simp[Builtin.append_,run_underlying (Und.eq (P:=P) (t:=t)),sizeOf,typeInfo,hi,hk,Builtin.lenOf,this]
    rw[QA hr1]
    exact⟨⟨rfl,rfl,rfl,fun _=>by first | exact Nat.le_refl _ | exact Nat.le_succ _ | exact Nat.le_add_right _ _⟩,by rw[hw];exact g _ _ s⟩
   ·cases xa with
    | none=>
     have:xs=[]:=by
      rcases hr with h | ⟨_,_,hp,_⟩
      ·exact h
      ·simp[Qc1] at hp
     subst this
     rcases Nat.mul_eq_zero.1 hl.symm with h | h<;>omega
    | some a=>
     have hnews:∀j y,xs[j]?=some y→w.cell? (a.add j)=some y:=fun j y hy=>by
      obtain⟨a',ha',hc⟩:=hr.at hy
      simp only[Qc1,padd,Value.pointer.injEq,Option.some.injEq] at ha'
      rw[Qee,hw,ha'];exact hc
     have hr1:=run_append_nil (P:=P) w t ty e i z Und.eq hi hzz a m xc xs (by rw[hk];exact hl) hnews hm (by omega) (by rw[hbb];rw[Nat.zero_add] at hb;omega)
     refine grown (w.drew.alloc (.cells (xs.toArray++Builtin.zeroCells z.cells (grownCap w m 0 e - m)) e)) ⟨rfl,rfl,rfl,fun _=>by first | exact Nat.le_refl _ | exact Nat.le_succ _ | exact Nat.le_add_right _ _⟩ (grownCap w m 0 e) (by rw[Nat.zero_add];exact grownCap_ge w m 0 e) ?_ (by rw[Nat.zero_add];exact hr1)
     show w.heap.push _=_
     congr 2
     rw[Nat.zero_add]
     rfl
  ·have hm:0<m:=by omega
   obtain⟨xb,hxb⟩:∃xb,xa=some xb:=by
    cases xa with
    | some y=>exact⟨y,rfl⟩
    | none=>
     exfalso
     have hxs:xs=[]:=by
      rcases hr with h | ⟨_,_,hp,_⟩
      ·exact h
      ·simp[Qc1] at hp
     subst hxs
     rcases Nat.mul_eq_zero.1 hl.symm with h | h<;>omega
   subst hxb
   have hnews:∀j y,xs[j]?=some y→w.cell? (xb.add j)=some y:=fun j y hy=>by
    obtain⟨a',ha',hc⟩:=hr.at hy
    simp only[Qc1,padd,Value.pointer.injEq,Option.some.injEq] at ha'
    rw[Qee,hw,ha'];exact hc
   have holds:∀j y,cs[j]?=some y→w.cell? (a.add j)=some y:=fun j y hy=>by
    have hrd:=(Qap.rd hc).take cs.length
    rw[List.take_left] at hrd
    obtain⟨a',ha',hcc⟩:=hrd.at hy
    simp only[padd,Value.pointer.injEq,Option.some.injEq] at ha'
    rw[Qee,hw,ha'];exact hcc
   have hr1:=run_append_grow (P:=P) w t ty e i z Und.eq hi hzz a n cap cs (by rw[hk];exact hcs) holds xb m xc xs (by rw[hk];exact hl) hnews hgrow (by omega) (growslice_fits hgrow (by rw[hbb];exact hb))
   refine grown (w.drew.alloc (.cells (cs.toArray++xs.toArray++Builtin.zeroCells z.cells (grownCap w (n+m) cap e - (n+m))) e)) ⟨rfl,rfl,rfl,fun _=>by first | exact Nat.le_refl _ | exact Nat.le_succ _ | exact Nat.le_add_right _ _⟩ (grownCap w (n+m) cap e) (grownCap_ge w (n+m) cap e) ?_ hr1
   show w.heap.push _=_
   congr 2
   simp
end mem
end Go.Sh
