import Derived.Test.YtemffgbncjnmkaaGreatOp
set_option linter.unusedVariables false
namespace Go.Sh
section maps
variable {P:Program}
def ents (m:List (Str×Value))(st:List Nat):List MapEntry:=(m.zip st).map fun p=>⟨str p.1.1,p.1.2,p.2⟩
def lookI (m:List (Str×Value))(k:Str)(i:Nat):Option (Nat×Value):=
 match m with
 | []=>none
 | (k',x)::m=>if k'=k then some (i,x) else lookI m k (i+1)
def look (m:List (Str×Value))(k:Str):Option Value:=
 match m with
 | []=>none
 | (k',x)::m=>if k'=k then some x else look m k
def ups (m:List (Str×Value))(k:Str)(x:Value):List (Str×Value):=
 match m with
 | []=>[(k,x)]
 | (k',y)::m=>if k'=k then (k,x)::m else (k',y)::ups m k x
theorem QeU (k:Str):∀(m:List (Str×Value))(i:Nat),(lookI m k i).map (·.2)=look m k
 | [],_=>rfl
 | (k',x)::m,i=>by
  unfold lookI look
  split
  ·rfl
  ·exact QeU k m (i+1)
theorem str_eq (a b:Str):((⟨a.toArray⟩:ByteArray) == ⟨b.toArray⟩)=decide (a=b):=by
 rw[show ((⟨a.toArray⟩:ByteArray) == ⟨b.toArray⟩)=(a.toArray == b.toArray) from rfl,Bool.eq_iff_iff]
 simp
theorem QfT (k:Str):∀(m:List (Str×Value))(st:List Nat)(i:Nat),m.length=st.length→Instr.findNow .string (str k) (ents m st) i=some (lookI m k i)
 | [],[],_,_=>rfl
 | (k',x)::m,b::st,i,h=>by
  have h':m.length=st.length:=by simpa using h
  show Instr.findNow .string (str k) (⟨str k',x,b⟩::ents m st) i=_
  unfold Instr.findNow lookI
  simp only[Instr.sameNow,str,str_eq]
  by_cases hk:k'=k
  ·subst hk;simp
  ·rw[show decide (k=k')=false from by simp;exact fun e=>hk e.symm,if_neg hk]
   simpa [str] using QfT k m st (i+1) h'
 | [],_::_,_,h=>by simp at h
 | _::_,[],_,h=>by simp at h
theorem QgR {kt:TypeId} [Und P kt .string] (e:Bool)(n:Nat)(k:Str)(w:World):(Instr.checkKey e (n+1) kt (str k)).run P w=.ok () w:=by
 simp[Instr.checkKey,Und.run,str]
theorem Qno {kt:TypeId} [Und P kt .string] (k:Str)(m:List (Str×Value))(st:List Nat)(h:m.length=st.length)(w:World) :
  (Instr.findKey kt (str k) (ents m st)).run P w=.ok (lookI m k 0) w:=by
 simp[Instr.findKey,Und.run,QfT k m st 0 h]
structure Qga (m:List (Str×Value))(st:List Nat)(c:Nat):Prop where
 len:m.length=st.length
 keys:(m.map (·.1)).Nodup
 born:st.Nodup
 lt:∀b∈st,b<c
def RdM (h:Heap)(v:Value)(m:List (Str×Value))(st:List Nat)(c:Nat):Prop:=
 Qga m st c∧∃r,v=.map (some r)∧h[r]?=some (.map (ents m st).toArray c)
def MapS (v:Value)(m:List (Str×Value))(st:List Nat)(c:Nat):HP:=
  ⟨fun h S=>Qga m st c∧∃r,v=.map (some r)∧S r∧h[r]?=some (.map (ents m st).toArray c),
   fun h h' S ⟨h1,r,h2,h3,h4⟩ he=>⟨h1,r,h2,h3,(he r h3).trans h4⟩⟩
def MapO (v:Value)(m:List (Str×Value)):HP:=HP.ex fun st=>HP.ex fun c=>MapS v m st c
theorem RdM.ext {h h':Heap}{v:Value}{m:List (Str×Value)}{st:List Nat}{c:Nat}(r:RdM h v m st c)(he:Ext h h'):RdM h' v m st c:=by
 obtain⟨h1,b,h2,h3⟩:=r
 exact⟨h1,b,h2,(he.2 b (lt_of_some h3)).trans h3⟩
theorem St.mapRd {h0 h:Heap}{v:Value}{m:List (Str×Value)}{st:List Nat}{c:Nat}{L:List HP}(s:St h0 h (MapS v m st c::L)):RdM h v m st c:=by
 obtain⟨S,⟨h1,r,h2,_,h4⟩,_⟩:=s.get
 exact⟨h1,r,h2,h4⟩
theorem St.mapO {h0 h:Heap}{v:Value}{m:List (Str×Value)}{L:List HP}(s:St h0 h (MapO v m::L)):∃st c,St h0 h (MapS v m st c::L):=by
 obtain⟨st,s⟩:=s.ex
 obtain⟨c,s⟩:=s.ex
 exact⟨st,c,s⟩
theorem St.toMapO {h0 h:Heap}{v:Value}{m:List (Str×Value)}{st:List Nat}{c:Nat}{L:List HP}(s:St h0 h (MapS v m st c::L)):St h0 h (MapO v m::L):=
 St.toEx st (St.toEx c s)
theorem Qay {w:World}{r:Nat}{o:Obj}(h:w.heap[r]?=some o)(hc:∀a b d,o≠.cells a b d):(getObj r).run P w=.ok o w:=by
 unfold getObj
 simp only[Sem.run,h]
theorem Qf1 {w:World}{r:Nat}{o o':Obj}(h:w.heap[r]?=some o)(hc:∀a b d,o≠.cells a b d):(setObj r o').run P w=.ok () { w with heap:=setB w.heap r o' }:=by
 unfold setObj
 simp only[Sem.run,h]
 cases o<;>first | rfl | (rename_i a b d;exact absurd rfl (hc a b d))
theorem oLook_val {t kt et:TypeId}{kk bb:Nat}{z:Value} [Und P t (.map kt et)] [Und P kt .string] [Inf P et kk bb z]{v:Value}{m:List (Str×Value)}{k:Str}{ok:Bool}{D:Heap→Prop}{K:Value→Prop}
  (hr:∀h',D h'→∃st c,RdM h' v m st c) (hk:K (if ok then .tuple #[(look m k).getD z,.bool (look m k).isSome] else (look m k).getD z)):Qxk P t v (str k) ok D K:=by
 refine⟨_,fun w hw=>?_,hk⟩
 obtain⟨st,c,hok,r,rfl,hb⟩:=hr _ hw
 refine QA ?_
 unfold Instr.lookup
 have h1:=Qno (P:=P) (kt:=kt) k m st hok.len w
 have h2:=QeU k m 0
 simp only[Sem.run_bind,Und.run (P:=P) (t:=t),Result.andThen_ok,Qay (P:=P) hb (by simp),pure_bind,QgR (P:=P) (kt:=kt) _ 9999 k,h1]
 cases hl:lookI m k 0 with
 | none=>
  rw[hl] at h2
  simp only[Option.map_none] at h2
  rw[←h2]
  simp[Inf.zer]
 | some p=>
  rw[hl] at h2
  simp only[Option.map_some] at h2
  rw[←h2]
  simp
theorem Qn7 (m m':List (Str×Value))(st st':List Nat)(h:m.length=st.length):ents (m++m') (st++st')=ents m st++ents m' st':=by
 simp[ents,List.zip_append h]
theorem Qh4 (k:Str):∀(m:List (Str×Value))(st:List Nat)(i:Nat){j:Nat}{x y:Value},m.length=st.length→lookI m k i=some (j,x) →
  i≤j∧(ents m st)[j - i]?.map (·.key)=some (str k)∧(ents m st).modify (j - i) (fun e=>{ e with key:=str k,val:=y })=ents (ups m k y) st
 | [],_,_,_,_,_,_,h=>by simp[lookI] at h
 | (k',x')::m,b::st,i,j,x,y,hl,h=>by
  unfold lookI at h
  show i≤j∧((⟨str k',x',b⟩::ents m st:List MapEntry)[j - i]?).map _=_∧(⟨str k',x',b⟩::ents m st:List MapEntry).modify (j - i) _=ents (ups ((k',x')::m) k y) (b::st)
  split at h
  ·rename_i hk
   subst hk
   simp only[Option.some.injEq,Prod.mk.injEq] at h
   obtain⟨rfl,rfl⟩:=h
   refine⟨Nat.le_refl _,by simp,?_⟩
   simp only[Nat.sub_self,List.modify_zero_cons,ups,if_true]
   rfl
  ·rename_i hk
   obtain⟨h1,h2,h3⟩:=Qh4 k m st (i+1) (y:=y) (by simpa using hl) h
   refine⟨by omega,?_,?_⟩
   ·rw[show j - i=(j - (i+1))+1 from by omega];simpa using h2
   ·rw[show j - i=(j - (i+1))+1 from by omega]
    simp only[List.modify_succ_cons,h3,ups,if_neg hk]
    rfl
 | _::_,[],_,_,_,_,hl,_=>by simp at hl
theorem Qh5 (k:Str)(y:Value):∀(m:List (Str×Value))(i:Nat),lookI m k i=none→ups m k y=m++[(k,y)]∧∀p∈m,p.1≠k
 | [],_,_=>⟨rfl,by simp⟩
 | (k',x')::m,i,h=>by
  unfold lookI at h
  split at h
  ·cases h
  ·rename_i hk
   obtain⟨h1,h2⟩:=Qh5 k y m (i+1) h
   refine⟨by simp[ups,hk,h1],fun p hp=>?_⟩
   rcases List.mem_cons.1 hp with rfl | hp
   ·exact hk
   ·exact h2 p hp
theorem Qe0 (k:Str)(y:Value):∀(m:List (Str×Value))(i:Nat) {r},lookI m k i=some r→(ups m k y).map (·.1)=m.map (·.1)
 | [],_,_,h=>by simp[lookI] at h
 | (k',x')::m,i,r,h=>by
  unfold lookI at h
  split at h
  ·rename_i hk;subst hk;simp[ups]
  ·rename_i hk;simp[ups,hk,Qe0 k y m (i+1) h]
theorem oUpd_own [Gd]{t kt et:TypeId} [Und P t (.map kt et)] [Und P kt .string]{h0 h:Heap}{v x:Value}{m:List (Str×Value)}{st:List Nat}{c:Nat}{k:Str}{L:List HP}{K:Value→Heap→Prop}
  (s:St h0 h (MapS v m st c::L)) (g:∀h' st' c',((look m k).isSome→st'=st∧c'=c)→St h0 h' (MapS v (ups m k x) st' c'::L)→K undef h'):oUpd P t v (str k) x h K:=by
 intro w hw
 obtain⟨_,S0,⟨hok,r,rfl,hSr,hb⟩,_,_⟩:=id s
 have hbw:w.heap[r]?=some (.map (ents m st).toArray c):=by rw[hw];exact hb
 have h1:=Qno (P:=P) (kt:=kt) k m st hok.len w
 have hl:=QeU k m 0
 have stepTo:∀m' st' c',Qga m' st' c'→St h0 (setB h r (.map (ents m' st').toArray c')) (MapS (.map (some r)) m' st' c'::L):=by
  intro m' st' c' hok'
  refine St.step s fun S' hA' hS'=>?_
  obtain⟨_,r',hr',hSr',hb'⟩:=hA'
  simp only[Value.map.injEq,Option.some.injEq] at hr'
  subst hr'
  exact⟨by rw[QeJ];exact Nat.le_refl _,fun i _ hi=>Qda (fun e=>hi (e ▸ hSr')),S',⟨hok',r,rfl,hSr',Qe6 (lt_of_some hb')⟩,fun i hi=>.inl hi⟩
 cases hf:lookI m k 0 with
 | some p=>
  obtain⟨j,x0⟩:=p
  obtain⟨_,hkey,hmod⟩:=Qh4 k m st 0 (y:=x) hok.len hf
  simp only[Nat.sub_zero] at hkey hmod
  have hkeys:=Qe0 k x m 0 hf
  have hok':Qga (ups m k x) st c:=⟨by rw[←hok.len,←List.length_map (f:=(·.1)),hkeys,List.length_map],by rw[hkeys];exact hok.keys,hok.born,hok.lt⟩
  have hrun:(Instr.mapUpdate t (.map (some r)) (str k) x).run P w=.ok () { w with heap:=setB h r (.map (ents (ups m k x) st).toArray c) }:=by
   unfold Instr.mapUpdate
   have hstay:(Instr.keyThatStays (((ents m st).toArray[j]?.map (·.key)).getD (str k)) (str k)).run P w=.ok (str k) w:=by
    have e1:((ents m st).toArray[j]?.map (·.key)).getD (str k)=str k:=by
     rw[List.getElem?_toArray,hkey];rfl
    rw[e1]
    have e2:Instr.sameBits 10000 (str k) (str k)=true:=by simp[Instr.sameBits,str,str_eq]
    simp[Instr.keyThatStays,e2]
   have hset:=Qf1 (P:=P) (o':=.map (ents (ups m k x) st).toArray c) hbw (by simp)
   rw[hw] at hset
   have hmod':(ents m st).toArray.modify j (fun e=>{ e with key:=str k,val:=x })=(ents (ups m k x) st).toArray:=by
    rw[←hmod];simp
   simp only[Sem.run_bind,Und.run (P:=P) (t:=t),Result.andThen_ok,Qay (P:=P) hbw (by simp),QgR (P:=P) (kt:=kt) _ 9999 k,h1,hf,hstay,hmod',hset]
  have:(nu (Instr.mapUpdate t (.map (some r)) (str k) x)).run P w=.ok .skip { w with heap:=setB h r (.map (ents (ups m k x) st).toArray c) }:=by
   simp only[nu];rw[Sem.run_bind,hrun];rfl
  rw[this]
  exact⟨⟨rfl,rfl,rfl,fun _=>by first | exact Nat.le_refl _ | exact Nat.le_succ _ | exact Nat.le_add_right _ _⟩,g _ st c (fun _=>⟨rfl,rfl⟩) (stepTo _ _ _ hok')⟩
 | none=>
  obtain⟨hups,hne⟩:=Qh5 k x m 0 hf
  have hok':Qga (ups m k x) (st++[c]) (c+1):=by
   rw[hups]
   refine⟨by simp[hok.len],?_,?_,?_⟩
   ·rw[List.map_append,List.nodup_append]
    refine⟨hok.keys,by simp,?_⟩
    intro a ha b hb
    obtain⟨p,hp,rfl⟩:=List.mem_map.1 ha
    simp only[List.map_cons,List.map_nil,List.mem_singleton] at hb
    rw[hb];exact hne p hp
   ·rw[List.nodup_append]
    refine⟨hok.born,by simp,?_⟩
    intro a ha b hb
    simp only[List.mem_singleton] at hb
    subst hb
    have:=hok.lt a ha
    omega
   ·intro b hb
    rcases List.mem_append.1 hb with hb | hb
    ·have:=hok.lt b hb;omega
    ·simp only[List.mem_singleton] at hb;omega
  have hents:ents (ups m k x) (st++[c])=ents m st++[⟨str k,x,c⟩]:=by
   rw[hups,Qn7 _ _ _ _ hok.len];rfl
  have hrun:(Instr.mapUpdate t (.map (some r)) (str k) x).run P w=.ok () { w with heap:=setB h r (.map (ents (ups m k x) (st++[c])).toArray (c+1)) }:=by
   unfold Instr.mapUpdate
   have hset:=Qf1 (P:=P) (o':=.map (ents (ups m k x) (st++[c])).toArray (c+1)) hbw (by simp)
   rw[hw] at hset
   have hpush:(ents m st).toArray.push { key:=str k,val:=x,born:=c }=(ents (ups m k x) (st++[c])).toArray:=by rw[hents];simp
   simp only[Sem.run_bind,Und.run (P:=P) (t:=t),Result.andThen_ok,Qay (P:=P) hbw (by simp),QgR (P:=P) (kt:=kt) _ 9999 k,h1,hf,hpush,hset]
  have:(nu (Instr.mapUpdate t (.map (some r)) (str k) x)).run P w=.ok .skip { w with heap:=setB h r (.map (ents (ups m k x) (st++[c])).toArray (c+1)) }:=by
   simp only[nu];rw[Sem.run_bind,hrun];rfl
  rw[this]
  refine⟨⟨rfl,rfl,rfl,fun _=>by first | exact Nat.le_refl _ | exact Nat.le_succ _ | exact Nat.le_add_right _ _⟩,g _ (st++[c]) (c+1) (fun h=>?_) (stepTo _ _ _ hok')⟩
  rw[hf] at hl
  simp only[Option.map_none] at hl
  rw[←hl] at h
  cases h
theorem oLenM_rd {t ty kt et:TypeId} [Und P t (.map kt et)]{v:Value}{m:List (Str×Value)}{D:Heap→Prop}{K:Value→Prop}
  (hr:∀h',D h'→∃st c,RdM h' v m st c) (hk:K (.int .i64 m.length)):QpS P #[t] ty v D K:=by
 refine⟨_,fun w hw=>?_,hk⟩
 obtain⟨st,c,hok,r,rfl,hb⟩:=hr _ hw
 refine QA ?_
 have hsz:(ents m st).length=m.length:=by simp[ents,hok.len]
 have:=Qay (P:=P) hb (by simp)
 unfold Builtin.len_
 simp[Und.run,this,goInt,hsz]
def QaH (keys:List Str)(st:List Nat)(k:Str):Nat:=
 match keys,st with
 | k'::keys,b::st=>if k'=k then b else QaH keys st k
 | _,_=>0
def QBg (it v:Value)(keys:List Str)(st:List Nat)(c:Nat)(ks:List Str):HP:=
  ⟨fun h S=>∃i r,it=.pointer (some ⟨i,0,none⟩)∧v=.map (some r)∧S i∧h[i]?=some (.mapIter (some r) c (ks.map (QaH keys st)).toArray c),
   fun h h' S ⟨i,r,h1,h2,h3,h4⟩ he=>⟨i,r,h1,h2,h3,(he i h3).trans h4⟩⟩
theorem QE0 [Gd]{t kt et:TypeId} [Und P t (.map kt et)]{h0 h:Heap}{L:List HP}{v:Value}{m:List (Str×Value)}{st:List Nat}{c:Nat}{K:Value→Heap→Prop}
  (s:St h0 h L) (hr:RdM h v m st c) (g:∀it h',St h0 h' (QBg it v (m.map (·.1)) st c []::L)→K it h'):QoH P t v h K:=by
 intro w hw
 obtain⟨hok,r,rfl,hb⟩:=hr
 have hbw:w.heap[r]?=some (.map (ents m st).toArray c):=by rw[hw];exact hb
 have hrun:(Instr.range t (.map (some r))).run P w=.ok (.pointer (some ⟨w.heap.size,0,none⟩)) { w with heap:=w.heap.push (.mapIter (some r) c #[] c) }:=by
  unfold Instr.range
  simp[Und.run,Qay (P:=P) hbw (by simp),newObj,Sem.run]
 rw[QA hrun]
 refine⟨⟨rfl,rfl,rfl,fun _=>by first | exact Nat.le_refl _ | exact Nat.le_succ _ | exact Nat.le_add_right _ _⟩,?_⟩
 rw[hw]
 exact g _ _ (s.new (by simp) (fun b hb=>QpH b hb) ⟨h.size,r,rfl,rfl,⟨Nat.le_refl _,by simp⟩,by simp⟩)
theorem Qea (k:Str):∀(keys:List Str)(st:List Nat),keys.length=st.length→k∈keys→QaH keys st k∈st
 | k'::keys,b::st,hl,hk=>by
  unfold QaH
  split
  ·simp
  ·rename_i hne
   rcases List.mem_cons.1 hk with h | h
   ·exact absurd h.symm hne
   ·exact List.mem_cons_of_mem _ (Qea k keys st (by simpa using hl) h)
 | [],_,_,hk=>by simp at hk
 | _::_,[],hl,_=>by simp at hl
theorem Qu1:∀(keys:List Str)(st:List Nat),keys.length=st.length→st.Nodup→∀ {a b:Str},a∈keys→b∈keys→QaH keys st a=QaH keys st b→a=b
 | k::keys,s::st,hl,hn,a,b,ha,hb,h=>by
  have hl':keys.length=st.length:=by simpa using hl
  rw[List.nodup_cons] at hn
  unfold QaH at h
  rcases List.mem_cons.1 ha with ea | ha2
  ·rcases List.mem_cons.1 hb with eb | hb2
   ·rw[ea,eb]
   ·by_cases he:k=b
    ·rw[ea,he]
    ·rw[if_pos ea.symm,if_neg he] at h
     exact absurd (h ▸ Qea b keys st hl' hb2) hn.1
  ·rcases List.mem_cons.1 hb with eb | hb2
   ·by_cases he:k=a
    ·rw[eb,he]
    ·rw[if_neg he,if_pos eb.symm] at h
     exact absurd (h.symm ▸ Qea a keys st hl' ha2) hn.1
   ·by_cases h1:k=a
    ·by_cases h2:k=b
     ·rw[←h1,←h2]
     ·rw[if_pos h1,if_neg h2] at h
      exact absurd (h ▸ Qea b keys st hl' hb2) hn.1
    ·by_cases h2:k=b
     ·rw[if_neg h1,if_pos h2] at h
      exact absurd (h.symm ▸ Qea a keys st hl' ha2) hn.1
     ·rw[if_neg h1,if_neg h2] at h
      exact Qu1 keys st hl' hn.2 ha2 hb2 h
 | [],_,_,_,_,_,ha,_,_=>by simp at ha
 | _::_,[],hl,_,_,_,_,_,_=>by simp at hl
theorem QvS {e:MapEntry}:∀(m:List (Str×Value))(st:List Nat),m.length=st.length→(m.map (·.1)).Nodup→e∈ents m st →
  ∃k x,(k,x)∈m∧look m k=some x∧e.key=str k∧e.val=x∧e.born=QaH (m.map (·.1)) st k
 | (k,x)::m,b::st,hl,hn,he=>by
  rw[List.map_cons,List.nodup_cons] at hn
  have he':e∈(⟨str k,x,b⟩::ents m st:List MapEntry):=he
  rcases List.mem_cons.1 he' with rfl | he'
  ·exact⟨k,x,by simp,by simp[look],rfl,rfl,by simp[QaH]⟩
  ·obtain⟨k',x',h1,h2,h3,h4,h5⟩:=QvS m st (by simpa using hl) hn.2 he'
   have hne:k≠k':=fun e=>hn.1 (e ▸ List.mem_map.2 ⟨_,h1,rfl⟩)
   exact⟨k',x',List.mem_cons_of_mem _ h1,by simp[look,hne,h2],h3,h4,by simp[QaH,hne,h5]⟩
 | [],_,_,_,he=>by simp[ents] at he
 | _::_,[],hl,_,_=>by simp at hl
theorem QCx (k:Str)(x:Value):∀(m:List (Str×Value))(st:List Nat),m.length=st.length→look m k=some x →
  (⟨str k,x,QaH (m.map (·.1)) st k⟩:MapEntry)∈ents m st
 | (k',x')::m,b::st,hl,h=>by
  show _∈(⟨str k',x',b⟩::ents m st:List MapEntry)
  unfold look at h
  split at h
  ·rename_i hk
   subst hk
   simp only[Option.some.injEq] at h
   subst h
   simp[QaH]
  ·rename_i hk
   have:=QCx k x m st (by simpa using hl) h
   simp[QaH,hk,this]
 | [],_,_,h=>by simp[look] at h
 | _::_,[],hl,_=>by simp at hl
theorem Qgz (k:Str):∀(m:List (Str×Value)),(look m k).isSome↔k∈m.map (·.1)
 | []=>by simp[look]
 | (k',x)::m=>by
  unfold look
  split
  ·rename_i h;simp[h]
  ·rename_i h
   rw[Qgz k m,List.map_cons,List.mem_cons]
   constructor
   ·exact .inr
   ·rintro (e | e)
    ·exact absurd e.symm h
    ·exact e
theorem QFY [Gd]{ty:TypeId}{h0 h:Heap}{L:List HP}{it v:Value}{m:List (Str×Value)}{st:List Nat}{c:Nat}{keys ks:List Str}{K:Value→Heap→Prop}
    (s:St h0 h (QBg it v keys st c ks::L)) (hr:RdM h v m st c) (hkeys:keys=m.map (·.1)) (hks:∀k∈ks,k∈keys)
    (gdone:(∀k∈keys,k∈ks)→K (.tuple #[.bool false]) h)
    (gnext:∀k x h',look m k=some x→k ∉ ks→St h0 h' (QBg it v keys st c (ks++[k])::L)→(∀b,h'[b]?=h[b]?∨it=.pointer (some ⟨b,0,none⟩))→K (.tuple #[.bool true,str k,x]) h'):Qtv P it false ty h K:=by
  intro w hw
  subst hkeys
  obtain⟨hok,r,rfl,hb⟩:=hr
  obtain⟨_,S0,⟨i,r',rfl,hrr,hSi,hi⟩,hS0,_⟩:=id s
  simp only[Value.map.injEq,Option.some.injEq] at hrr
  subst hrr
  have hbw:w.heap[r]?=some (.map (ents m st).toArray c):=by rw[hw];exact hb
  have hiw:w.heap[i]?=some (.mapIter (some r) c (ks.map (QaH (m.map (·.1)) st)).toArray c):=by rw[hw];exact hi
  have hborn:∀e∈ents m st,e.born<c:=by
    intro e he
    obtain⟨k,x,h1,_,_,_,h5⟩:=QvS m st hok.len hok.keys he
    rw[h5]
    exact hok.lt _ (Qea k _ st (by simpa using hok.len) (List.mem_map.2 ⟨_,h1,rfl⟩))
  generalize hseen:(ks.map (QaH (m.map (·.1)) st)).toArray=seen at *
  have hlate:(!seen.isEmpty&&!(ents m st).toArray.isEmpty&&(ents m st).toArray.all (fun e=>decide (e.born ≥ c)))=false:=by
    cases he:ents m st with
    | nil=>simp
    | cons e l=>
      have:=hborn e (by rw[he];simp)
      simp[show ¬c≤e.born from by omega]
  generalize hleft:((ents m st).toArray.filter fun e=>!seen.contains e.born)=left
  have hold:left.filter (fun e=>decide (e.born<c))=left:=by
    rw[Array.filter_eq_self]
    intro e he
    rw[←hleft] at he
    have:=hborn e (by simpa using (Array.mem_filter.1 he).1)
    simpa using this
  have hnew:left.filter (fun e=>decide (e.born ≥ c))=#[]:=by
    rw[Array.filter_eq_empty_iff]
    intro e he
    rw[←hleft] at he
    have:=hborn e (by simpa using (Array.mem_filter.1 he).1)
    simp;omega
  have hcand:∀e∈left,∃k x,look m k=some x∧k ∉ ks∧e.key=str k∧e.val=x∧e.born=QaH (m.map (·.1)) st k:=by
    intro e he
    rw[←hleft] at he
    obtain⟨h1,h2⟩:=Array.mem_filter.1 he
    obtain⟨k,x,h3,h4,h5,h6,h7⟩:=QvS m st hok.len hok.keys (by simpa using h1)
    refine⟨k,x,h4,fun hk=>?_,h5,h6,h7⟩
    have:e.born∈seen:=by
      rw[←hseen,h7]
      simpa using ⟨k,hk,rfl⟩
    simp[Array.contains_eq_mem,this] at h2
  have hdone:left=#[]→∀k∈m.map (·.1),k∈ks:=by
    intro hl k hk
    obtain⟨x,hx⟩:=Option.isSome_iff_exists.1 ((Qgz k m).2 hk)
    have hmem:=QCx k x m st hok.len hx
    by_cases hin:QaH (m.map (·.1)) st k∈seen
    · rw[←hseen] at hin
      simp only[List.mem_toArray,List.mem_map] at hin
      obtain⟨k',hk',he⟩:=hin
      have:=Qu1 (m.map (·.1)) st (by simpa using hok.len) hok.born (hks k' hk') hk he
      exact this ▸ hk'
    · exfalso
      have:(⟨str k,x,QaH (m.map (·.1)) st k⟩:MapEntry)∈left:=by
        rw[←hleft,Array.mem_filter]
        exact⟨by simpa using hmem,by simp[Array.contains_eq_mem,hin]⟩
      rw[hl] at this
      simp at this
  have hgo:=Qay (P:=P) hiw (by simp)
  have hgm:=Qay (P:=P) hbw (by simp)
  generalize hcands:((if left.isEmpty then #[none] else #[])++left.map some:Array (Option MapEntry))=cands
  have hrun:∀n w',(choose (.mapNext cands.size)).run P w=.ok n w'→(Instr.next (.pointer (some ⟨i,0,none⟩)) false ty).run P w =
      (match cands[n]? with
       | some (some e)=>do
         setObj i (.mapIter (some r) c (seen.push e.born) c)
         pure (.tuple #[.bool true,e.key,e.val])
       | some none=>pure (.tuple #[.bool false])
       | none=>stuck "Next: no such candidate" : Sem Value).run P w':=by
    intro n w' hch
    unfold Instr.next
    simp only[Sem.run_bind,hgo,Result.andThen_ok,hgm,hlate,Bool.false_eq_true,if_false,hleft,hold,hnew,Array.append_empty,hcands,hch]
    rfl
  have hsz:0<cands.size:=by
    rw[←hcands]
    by_cases hl:left=#[]
    · subst hl;simp
    · have:0<left.size:=by
        rcases Nat.eq_zero_or_pos left.size with h | h
        · exact absurd (Array.eq_empty_of_size_eq_zero h) hl
        · exact h
      simp;omega
  obtain⟨n,w',hch,hsw,hhw,hn⟩:∃n w',(choose (.mapNext cands.size)).run P w=.ok n w'∧Qx w w'∧w'.heap=w.heap∧n<cands.size:=by
    by_cases hf:cands.size≤1
    · exact⟨0,w,by simp[choose,Sem.run,Question.forced,hf],.refl _,rfl,hsz⟩
    · exact⟨w.tape w.drawn (.mapNext cands.size) % cands.size,{ w with drawn:=w.drawn+1 },by simp only[choose,Sem.run,Question.forced,hf,Question.cut,decide_false,Bool.false_eq_true,if_false],⟨rfl,rfl,rfl,fun _=>by first | exact Nat.le_refl _ | exact Nat.le_succ _ | exact Nat.le_add_right _ _⟩,rfl,Nat.mod_lt _ hsz⟩
  have hr2:=hrun n w' hch
  obtain⟨cand,hcand'⟩:∃cand,cands[n]?=some cand:=⟨_,Array.getElem?_eq_getElem hn⟩
  rw[hcand'] at hr2
  have hmemc:cand∈cands:=Array.mem_of_getElem? hcand'
  rw[←hcands] at hmemc
  cases cand with
  | none=>
    have hl:left=#[]:=by
      by_cases hl:left=#[]
      · exact hl
      · exfalso
        have:left.isEmpty=false:=by simpa using hl
        simp[this] at hmemc
    simp only[Sem.run_pure] at hr2
    rw[QA hr2]
    exact⟨hsw,by rw[hhw,hw];exact gdone (hdone hl)⟩
  | some e=>
    have he:e∈left:=by
      rcases Array.mem_append.1 hmemc with h | h
      · split at h<;>simp at h
      · simpa using h
    obtain⟨k,x,h1,h2,h3,h4,h5⟩:=hcand e he
    have hset:=Qf1 (P:=P) (w:=w') (o':=.mapIter (some r) c (seen.push e.born) c) (by rw[hhw];exact hiw) (by simp)
    rw[Sem.run_bind,hset,Result.andThen_ok,h3,h4] at hr2
    simp only[Sem.run_pure,hhw] at hr2
    rw[QA hr2]
    refine⟨⟨hsw.os,hsw.tape,hsw.output,hsw.drawn⟩,?_⟩
    show K _ (setB w.heap i _)
    rw[hw]
    refine gnext k x _ h1 h2 (St.step s fun S' hA' hS'=>?_) fun b=>?_
    · obtain⟨i',r',hi',hrr',hSi',_⟩:=hA'
      simp only[Value.pointer.injEq,Option.some.injEq,Addr.mk.injEq,and_true] at hi'
      subst hi'
      refine⟨by rw[QeJ];exact Nat.le_refl _,fun j _ hj=>Qda (fun e=>hj (e ▸ hSi')),S',⟨i,r,rfl,rfl,hSi',?_⟩,fun j hj=>.inl hj⟩
      rw[Qe6 (lt_of_some hi),h5,←hseen]
      simp
    · by_cases hbi:b=i
      · right;rw[hbi]
      · left;exact Qda hbi
theorem find_born (k:Str)(x:Value):∀(m:List (Str×Value))(st:List Nat),m.length=st.length→st.Nodup→look m k=some x →
  (ents m st).find? (fun e=>e.born == QaH (m.map (·.1)) st k)=some ⟨str k,x,QaH (m.map (·.1)) st k⟩
 | (k',x')::m,b::st,hl,hn,h=>by
  show (⟨str k',x',b⟩::ents m st:List MapEntry).find? _=_
  rw[List.nodup_cons] at hn
  unfold look at h
  split at h
  ·rename_i hk
   subst hk
   simp only[Option.some.injEq] at h
   subst h
   simp[QaH]
  ·rename_i hk
   have hmem:k∈m.map (·.1):=(Qgz k m).1 (by rw[h];rfl)
   have hin:=Qea k (m.map (·.1)) st (by simpa using hl) hmem
   have hne:b≠QaH (m.map (·.1)) st k:=fun e=>hn.1 (e ▸ hin)
   have:=find_born k x m st (by simpa using hl) hn.2 h
   simp[QaH,hk,hne,this]
 | [],_,_,_,h=>by simp[look] at h
 | _::_,[],hl,_,_=>by simp at hl
theorem QE5 {h0 h:Heap}{L:List HP}{it v x:Value}{m:List (Str×Value)}{st:List Nat}{c:Nat}{keys ks:List Str}{k:Str}{K:Value→Prop}
  (s:St h0 h (QBg it v keys st c (ks++[k])::L)) (hr:RdM h v m st c) (hkeys:keys=m.map (·.1)) (hx:look m k=some x)
  (hk:K (.tuple #[str k,x])):QrY P it (Eq h) K:=by
 subst hkeys
 refine⟨_,fun w hw=>?_,hk⟩
 obtain⟨hok,r,rfl,hb⟩:=hr
 obtain⟨_,S0,⟨i,r',rfl,hrr,hSi,hi⟩,hS0,_⟩:=id s
 simp only[Value.map.injEq,Option.some.injEq] at hrr
 subst hrr
 have hbw:w.heap[r]?=some (.map (ents m st).toArray c):=by rw[←hw];exact hb
 have hiw:w.heap[i]?=some (.mapIter (some r) c ((ks++[k]).map (QaH (m.map (·.1)) st)).toArray c):=by rw[←hw];exact hi
 refine QA ?_
 have hf:=find_born k x m st hok.len hok.born hx
 unfold Instr.entry
 have hgm:=Qay (P:=P) hbw (by simp)
 simp only[Sem.run_bind,Qay (P:=P) hiw (by simp),Result.andThen_ok]
 simp[hf,hgm]
end maps
section bytes
variable {P:Program}
end bytes
end Go.Sh
