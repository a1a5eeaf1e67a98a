import Derived.Test.YtmdppkbekmpopaaGreatOp
import Derived.ProofKit
import Derived.ReadAgain
import Derived.OpenShut
set_option linter.unusedVariables false
set_option linter.unusedSimpArgs false
set_option linter.unusedSectionVars false
namespace Go.Sh
section maps
variable {P:Program}
def ents (m:List (Str×Value))(st:List Nat):List MapEntry:=(m.zip st).map fun p=>⟨str p.1.1,p.1.2,p.2⟩
def lookI (m:List (Str×Value))(k:Str)(i:Nat):Option (Nat×Value):=
 match m with
 | []=>none
 | (k',x)::m=>if k'=k then some (i,x) else lookI m k (i+1)
def look (m:List (Str×Value))(k:Str):Option Value:=
 match m with
 | []=>none
 | (k',x)::m=>if k'=k then some x else look m k
def ups (m:List (Str×Value))(k:Str)(x:Value):List (Str×Value):=
 match m with
 | []=>[(k,x)]
 | (k',y)::m=>if k'=k then (k,x)::m else (k',y)::ups m k x
theorem QeU (k:Str):∀(m:List (Str×Value)) (i:Nat),(lookI m k i).map (·.2)=look m k
 | [],_=>rfl
 | (k',x)::m,i=>by
  unfold lookI look
  split
  ·rfl
  ·exact QeU k m (i+1)
theorem str_eq (a b:Str):((⟨a.toArray⟩:ByteArray) == ⟨b.toArray⟩)=decide (a=b):=by
 rw[show ((⟨a.toArray⟩:ByteArray) == ⟨b.toArray⟩)=(a.toArray == b.toArray) from rfl,Bool.eq_iff_iff]
 simp
theorem QfT (k:Str):∀(m:List (Str×Value)) (st:List Nat) (i:Nat),m.length=st.length→Instr.findNow .string (str k) (ents m st) i=some (lookI m k i)
 | [],[],_,_=>rfl
 | (k',x)::m,b::st,i,h=>by
  have h':m.length=st.length:=by simpa using h
  show Instr.findNow .string (str k) (⟨str k',x,b⟩::ents m st) i=_
  unfold Instr.findNow lookI
  simp only[Instr.sameNow,str,str_eq]
  by_cases hk:k'=k
  ·subst hk;simp
  ·rw[show decide (k=k')=false from by simp;exact fun e=>hk e.symm,if_neg hk]
   simpa [str] using QfT k m st (i+1) h'
 | [],_::_,_,h=>by simp at h
 | _::_,[],_,h=>by simp at h
variable {kt:TypeId}
theorem QgR [Und P kt .string] (e:Bool)(n:Nat)(k:Str)(w:World):(Instr.checkKey e (n+1) kt (str k)).run P w=.ok () w:=by
 simp[Instr.checkKey,Und.run,str]
theorem Qno [Und P kt .string] (k:Str)(m:List (Str×Value))(st:List Nat)(h:m.length=st.length)(w:World) :
  (Instr.findKey kt (str k) (ents m st)).run P w=.ok (lookI m k 0) w:=by
 simp[Instr.findKey,Und.run,QfT k m st 0 h]
structure Qga (m:List (Str×Value))(st:List Nat)(c:Nat):Prop where
 len:m.length=st.length
 keys:(m.map (·.1)).Nodup
 born:st.Nodup
 lt:∀b∈st,b<c
def RdM (h:Heap)(v:Value)(m:List (Str×Value))(st:List Nat)(c:Nat):Prop:=
 Qga m st c∧∃r,v=.map (some r)∧h[r]?=some (.map (ents m st).toArray c)
def MapS (v:Value)(m:List (Str×Value))(st:List Nat)(c:Nat):HP:=
  ⟨fun h S=>Qga m st c∧∃r,v=.map (some r)∧S r∧h[r]?=some (.map (ents m st).toArray c),
   fun h h' S ⟨h1,r,h2,h3,h4⟩ he=>⟨h1,r,h2,h3,(he r h3).trans h4⟩⟩
def MapO (v:Value)(m:List (Str×Value)):HP:=HP.ex fun st=>HP.ex fun c=>MapS v m st c
variable {c:Nat}{h:Heap}{m:List (Str×Value)}{st:List Nat}{v:Value}
theorem RdM.ext {h':Heap}(r:RdM h v m st c)(he:Ext h h'):RdM h' v m st c:=by
 obtain⟨h1,b,h2,h3⟩:=r
 exact⟨h1,b,h2,(he.2 b (lt_of_some h3)).trans h3⟩
variable {L:List HP}{h0:Heap}
theorem St.mapRd (s:St h0 h (MapS v m st c::L)):RdM h v m st c:=by
 obtain⟨S,⟨h1,r,h2,_,h4⟩,_⟩:=s.get
 exact⟨h1,r,h2,h4⟩
theorem St.mapO (s:St h0 h (MapO v m::L)):∃st c,St h0 h (MapS v m st c::L):=by
 obtain⟨st,s⟩:=s.ex
 obtain⟨c,s⟩:=s.ex
 exact⟨st,c,s⟩
theorem St.toMapO (s:St h0 h (MapS v m st c::L)):St h0 h (MapO v m::L):=
 St.toEx st (St.toEx c s)
variable {o:Obj}{r:Nat}{w:World}
theorem Qay (h:w.heap[r]?=some o)(hc:∀a b d,o≠.cells a b d):(getObj r).run P w=.ok o w:=by
 unfold getObj
 simp only[Sem.run,h]
theorem Qf1 {o':Obj}(h:w.heap[r]?=some o)(hc:∀a b d,o≠.cells a b d):(setObj r o').run P w=.ok () { w with heap:=setB w.heap r o' }:=by
 unfold setObj
 simp only[Sem.run,h]
 cases o<;>first | rfl | (rename_i a b d;exact absurd rfl (hc a b d))
variable {D:Heap→Prop}{K:Value→Prop}{et t:TypeId}{k:Str}
theorem oLook_val {kk bb:Nat}{z:Value} [Und P t (.map kt et)] [Und P kt .string] [Inf P et kk bb z]{ok:Bool}
  (hr:∀h',D h'→∃st c,RdM h' v m st c) (hk:K (if ok then .tuple #[(look m k).getD z,.bool (look m k).isSome] else (look m k).getD z)):Qxk P t v (str k) ok D K:=by
 refine⟨_,fun w hw=>?_,hk⟩
 obtain⟨st,c,hok,r,rfl,hb⟩:=hr _ hw
 refine QA ?_
 unfold Instr.lookup
 have h1:=Qno (P:=P) (kt:=kt) k m st hok.len w
 have h2:=QeU k m 0
 simp only[Sem.run_bind,Und.run (P:=P) (t:=t),Result.andThen_ok,Qay (P:=P) hb (by simp),pure_bind,QgR (P:=P) (kt:=kt) _ 9999 k,h1]
 cases hl:lookI m k 0 with
 | none=>
  rw[hl] at h2
  simp only[Option.map_none] at h2
  rw[←h2]
  simp[Inf.zer]
 | some p=>
  rw[hl] at h2
  simp only[Option.map_some] at h2
  rw[←h2]
  simp
theorem Qn7 (m m':List (Str×Value))(st st':List Nat)(h:m.length=st.length):ents (m++m') (st++st')=ents m st++ents m' st':=by
 simp[ents,List.zip_append h]
theorem Qh4 (k:Str):∀(m:List (Str×Value)) (st:List Nat) (i:Nat){j:Nat}{x y:Value},m.length=st.length→lookI m k i=some (j,x) →
  i≤j∧(ents m st)[j - i]?.map (·.key)=some (str k)∧(ents m st).modify (j - i) (fun e=>{ e with key:=str k,val:=y })=ents (ups m k y) st
 | [],_,_,_,_,_,_,h=>by simp[lookI] at h
 | (k',x')::m,b::st,i,j,x,y,hl,h=>by
  unfold lookI at h
  show i≤j∧((⟨str k',x',b⟩::ents m st:List MapEntry)[j - i]?).map _=_∧(⟨str k',x',b⟩::ents m st:List MapEntry).modify (j - i) _=ents (ups ((k',x')::m) k y) (b::st)
  split at h
  ·rename_i hk
   subst hk
   simp only[sj,Prod.mk.injEq] at h
   obtain⟨rfl,rfl⟩:=h
   refine⟨nr,by simp,?_⟩
   simp only[Nat.sub_self,List.modify_zero_cons,ups,if_true]
   rfl
  ·rename_i hk
   obtain⟨h1,h2,h3⟩:=Qh4 k m st (i+1) (y:=y) (by simpa using hl) h
   refine⟨om,?_,?_⟩
   ·rw[show j - i=(j - (i+1))+1 from by omega];simpa using h2
   ·rw[show j - i=(j - (i+1))+1 from by omega]
    simp only[List.modify_succ_cons,h3,ups,if_neg hk]
    rfl
 | _::_,[],_,_,_,_,hl,_=>by simp at hl
theorem Qh5 (k:Str)(y:Value):∀(m:List (Str×Value)) (i:Nat),lookI m k i=none→ups m k y=m++[(k,y)]∧∀p∈m,p.1≠k
 | [],_,_=>⟨rfl,by simp⟩
 | (k',x')::m,i,h=>by
  unfold lookI at h
  split at h
  ·cases h
  ·rename_i hk
   obtain⟨h1,h2⟩:=Qh5 k y m (i+1) h
   refine⟨by simp[ups,hk,h1],fun p hp=>?_⟩
   rcases List.mem_cons.1 hp with rfl | hp
   ·exact hk
   ·exact h2 p hp
theorem Qe0 (k:Str)(y:Value):∀(m:List (Str×Value)) (i:Nat) {r},lookI m k i=some r→(ups m k y).map (·.1)=m.map (·.1)
 | [],_,_,h=>by simp[lookI] at h
 | (k',x')::m,i,r,h=>by
  unfold lookI at h
  split at h
  ·rename_i hk;subst hk;simp[ups]
  ·rename_i hk;simp[ups,hk,Qe0 k y m (i+1) h]
variable {x:Value}
theorem oUpd_own [Gd] [Und P t (.map kt et)] [Und P kt .string]{K:Value→Heap→Prop}
  (s:St h0 h (MapS v m st c::L)) (g:∀h' st' c',((look m k).isSome→st'=st∧c'=c)→St h0 h' (MapS v (ups m k x) st' c'::L)→K undef h'):oUpd P t v (str k) x h K:=by
 intro w hw
 obtain⟨_,S0,⟨hok,r,rfl,hSr,hb⟩,_,_⟩:=id s
 have hbw:w.heap[r]?=some (.map (ents m st).toArray c):=by rw[hw];exact hb
 have h1:=Qno (P:=P) (kt:=kt) k m st hok.len w
 have hl:=QeU k m 0
 have stepTo:∀m' st' c',Qga m' st' c'→St h0 (setB h r (.map (ents m' st').toArray c')) (MapS (.map (some r)) m' st' c'::L):=by
  intro m' st' c' hok'
  refine St.step s fun S' hA' hS'=>?_
  obtain⟨_,r',hr',hSr',hb'⟩:=hA'
  simp only[Value.map.injEq,sj] at hr'
  subst hr'
  exact⟨by rw[QeJ];exact nr,fun i _ hi=>Qda (fun e=>hi (e ▸ hSr')),S',⟨hok',r,rfl,hSr',Qe6 (lt_of_some hb')⟩,fun i hi=>.inl hi⟩
 cases hf:lookI m k 0 with
 | some p=>
  obtain⟨j,x0⟩:=p
  obtain⟨_,hkey,hmod⟩:=Qh4 k m st 0 (y:=x) hok.len hf
  simp only[Nat.sub_zero] at hkey hmod
  have hkeys:=Qe0 k x m 0 hf
  have hok':Qga (ups m k x) st c:=⟨by rw[←hok.len,←List.length_map (f:=(·.1)),hkeys,List.length_map],by rw[hkeys];exact hok.keys,hok.born,hok.lt⟩
  have hrun:(Instr.mapUpdate t (.map (some r)) (str k) x).run P w=.ok () { w with heap:=setB h r (.map (ents (ups m k x) st).toArray c) }:=by
   unfold Instr.mapUpdate
   have hstay:(Instr.keyThatStays (((ents m st).toArray[j]?.map (·.key)).getD (str k)) (str k)).run P w=.ok (str k) w:=by
    have e1:((ents m st).toArray[j]?.map (·.key)).getD (str k)=str k:=by
     rw[List.getElem?_toArray,hkey];rfl
    rw[e1]
    have e2:Instr.sameBits 10000 (str k) (str k)=true:=by simp[Instr.sameBits,str,str_eq]
    simp[Instr.keyThatStays,e2]
   have hset:=Qf1 (P:=P) (o':=.map (ents (ups m k x) st).toArray c) hbw (by simp)
   rw[hw] at hset
   have hmod':(ents m st).toArray.modify j (fun e=>{ e with key:=str k,val:=x })=(ents (ups m k x) st).toArray:=by
    rw[←hmod];simp
   simp only[Sem.run_bind,Und.run (P:=P) (t:=t),Result.andThen_ok,Qay (P:=P) hbw (by simp),QgR (P:=P) (kt:=kt) _ 9999 k,h1,hf,hstay,hmod',hset]
  have:(nu (Instr.mapUpdate t (.map (some r)) (str k) x)).run P w=.ok .skip { w with heap:=setB h r (.map (ents (ups m k x) st).toArray c) }:=by
   simp only[nu];rw[Sem.run_bind,hrun];rfl
  rw[this]
  exact⟨⟨rfl,rfl,rfl,fun _=>by first | exact nr | exact Nat.le_succ _ | exact Nat.le_add_right _ _⟩,g _ st c (fun _=>⟨rfl,rfl⟩) (stepTo _ _ _ hok')⟩
 | none=>
  obtain⟨hups,hne⟩:=Qh5 k x m 0 hf
  have hok':Qga (ups m k x) (st++[c]) (c+1):=by
   rw[hups]
   refine⟨by simp[hok.len],?_,?_,?_⟩
   ·rw[List.map_append,List.nodup_append]
    refine⟨hok.keys,by simp,?_⟩
    intro a ha b hb
    obtain⟨p,hp,rfl⟩:=List.mem_map.1 ha
    simp only[List.map_cons,List.map_nil,List.mem_singleton] at hb
    rw[hb];exact hne p hp
   ·rw[List.nodup_append]
    refine⟨hok.born,by simp,?_⟩
    intro a ha b hb
    simp only[List.mem_singleton] at hb
    subst hb
    have:=hok.lt a ha
    omega
   ·intro b hb
    rcases List.mem_append.1 hb with hb | hb
    ·have:=hok.lt b hb;omega
    ·simp only[List.mem_singleton] at hb;omega
  have hents:ents (ups m k x) (st++[c])=ents m st++[⟨str k,x,c⟩]:=by
   rw[hups,Qn7 _ _ _ _ hok.len];rfl
  have hrun:(Instr.mapUpdate t (.map (some r)) (str k) x).run P w=.ok () { w with heap:=setB h r (.map (ents (ups m k x) (st++[c])).toArray (c+1)) }:=by
   unfold Instr.mapUpdate
   have hset:=Qf1 (P:=P) (o':=.map (ents (ups m k x) (st++[c])).toArray (c+1)) hbw (by simp)
   rw[hw] at hset
   have hpush:(ents m st).toArray.push { key:=str k,val:=x,born:=c }=(ents (ups m k x) (st++[c])).toArray:=by rw[hents];simp
   simp only[Sem.run_bind,Und.run (P:=P) (t:=t),Result.andThen_ok,Qay (P:=P) hbw (by simp),QgR (P:=P) (kt:=kt) _ 9999 k,h1,hf,hpush,hset]
  have:(nu (Instr.mapUpdate t (.map (some r)) (str k) x)).run P w=.ok .skip { w with heap:=setB h r (.map (ents (ups m k x) (st++[c])).toArray (c+1)) }:=by
   simp only[nu];rw[Sem.run_bind,hrun];rfl
  rw[this]
  refine⟨⟨rfl,rfl,rfl,fun _=>by first | exact nr | exact Nat.le_succ _ | exact Nat.le_add_right _ _⟩,g _ (st++[c]) (c+1) (fun h=>?_) (stepTo _ _ _ hok')⟩
  rw[hf] at hl
  simp only[Option.map_none] at hl
  rw[←hl] at h
  cases h
theorem oLenM_rd {ty:TypeId} [Und P t (.map kt et)]
  (hr:∀h',D h'→∃st c,RdM h' v m st c) (hk:K (.int .i64 m.length)):QpS P #[t] ty v D K:=by
 refine⟨_,fun w hw=>?_,hk⟩
 obtain⟨st,c,hok,r,rfl,hb⟩:=hr _ hw
 refine QA ?_
 have hsz:(ents m st).length=m.length:=by simp[ents,hok.len]
 have:=Qay (P:=P) hb (by simp)
 unfold Builtin.len_
 simp[Und.run,this,goInt,hsz]
def QaH (keys:List Str)(st:List Nat)(k:Str):Nat:=
 match keys,st with
 | k'::keys,b::st=>if k'=k then b else QaH keys st k
 | _,_=>0
def QBg (it v:Value)(keys:List Str)(st:List Nat)(c:Nat)(ks:List Str):HP:=
  ⟨fun h S=>∃i r,it=.pointer (some ⟨i,0,none⟩)∧v=.map (some r)∧S i∧h[i]?=some (.mapIter (some r) c (ks.map (QaH keys st)).toArray c),
   fun h h' S ⟨i,r,h1,h2,h3,h4⟩ he=>⟨i,r,h1,h2,h3,(he i h3).trans h4⟩⟩
theorem Qea (k:Str):∀(keys:List Str) (st:List Nat),keys.length=st.length→k∈keys→QaH keys st k∈st
 | k'::keys,b::st,hl,hk=>by
  unfold QaH
  split
  ·simp
  ·rename_i hne
   rcases List.mem_cons.1 hk with h | h
   ·exact absurd h.symm hne
   ·exact List.mem_cons_of_mem _ (Qea k keys st (by simpa using hl) h)
 | [],_,_,hk=>by simp at hk
 | _::_,[],hl,_=>by simp at hl
theorem Qgz (k:Str):∀(m:List (Str×Value)),(look m k).isSome↔k∈m.map (·.1)
 | []=>by simp[look]
 | (k',x)::m=>by
  unfold look
  split
  ·rename_i h;simp[h]
  ·rename_i h
   rw[Qgz k m,List.map_cons,List.mem_cons]
   constructor
   ·exact .inr
   ·rintro (e | e)
    ·exact absurd e.symm h
    ·exact e
theorem find_born (k:Str)(x:Value):∀(m:List (Str×Value)) (st:List Nat),m.length=st.length→st.Nodup→look m k=some x →
  (ents m st).find? (fun e=>e.born == QaH (m.map (·.1)) st k)=some ⟨str k,x,QaH (m.map (·.1)) st k⟩
 | (k',x')::m,b::st,hl,hn,h=>by
  show (⟨str k',x',b⟩::ents m st:List MapEntry).find? _=_
  rw[List.nodup_cons] at hn
  unfold look at h
  split at h
  ·rename_i hk
   subst hk
   cases sJ h
   simp[QaH]
  ·rename_i hk
   have hmem:k∈m.map (·.1):=(Qgz k m).1 (by rw[h];rfl)
   have hin:=Qea k (m.map (·.1)) st (by simpa using hl) hmem
   have hne:b≠QaH (m.map (·.1)) st k:=fun e=>hn.1 (e ▸ hin)
   have:=find_born k x m st (by simpa using hl) hn.2 h
   simp[QaH,hk,hne,this]
 | [],_,_,_,h=>by simp[look] at h
 | _::_,[],hl,_,_=>by simp at hl
theorem QE5 {it:Value}{keys ks:List Str}
  (s:St h0 h (QBg it v keys st c (ks++[k])::L)) (hr:RdM h v m st c) (hkeys:keys=m.map (·.1)) (hx:look m k=some x)
  (hk:K (.tuple #[str k,x])):QrY P it (Eq h) K:=by
 subst hkeys
 refine⟨_,fun w hw=>?_,hk⟩
 obtain⟨hok,r,rfl,hb⟩:=hr
 obtain⟨_,S0,⟨i,r',rfl,hrr,hSi,hi⟩,hS0,_⟩:=id s
 simp only[Value.map.injEq,sj] at hrr
 subst hrr
 have hbw:w.heap[r]?=some (.map (ents m st).toArray c):=by rw[←hw];exact hb
 have hiw:w.heap[i]?=some (.mapIter (some r) c ((ks++[k]).map (QaH (m.map (·.1)) st)).toArray c):=by rw[←hw];exact hi
 refine QA ?_
 have hf:=find_born k x m st hok.len hok.born hx
 unfold Instr.entry
 have hgm:=Qay (P:=P) hbw (by simp)
 simp only[Sem.run_bind,Qay (P:=P) hiw (by simp),Result.andThen_ok]
 simp[hf,hgm]
end maps
section bytes
variable {P:Program}
end bytes
end Go.Sh
namespace Go.Mk
open Go Go.Sh
section maps
variable {P:Program}
abbrev MK:=Str ⊕ (IntKind×Int)
def kV:MK→Value
 | .inl l=>str l
 | .inr p=>.int p.1 p.2
def kOk (d:TypeDesc):MK→Prop
 | .inl _=>d=.string
 | .inr p=>d=.int p.1
def ents (m:List (MK×Value))(st:List Nat):List MapEntry:=(m.zip st).map fun p=>⟨kV p.1.1,p.1.2,p.2⟩
def lookI (m:List (MK×Value))(k:MK)(i:Nat):Option (Nat×Value):=
 match m with
 | []=>none
 | (k',x)::m=>if k'=k then some (i,x) else lookI m k (i+1)
def look (m:List (MK×Value))(k:MK):Option Value:=
 match m with
 | []=>none
 | (k',x)::m=>if k'=k then some x else look m k
def ups (m:List (MK×Value))(k:MK)(x:Value):List (MK×Value):=
 match m with
 | []=>[(k,x)]
 | (k',y)::m=>if k'=k then (k,x)::m else (k',y)::ups m k x
theorem QeU (k:MK):∀(m:List (MK×Value)) (i:Nat),(lookI m k i).map (·.2)=look m k
 | [],_=>rfl
 | (k',x)::m,i=>by
  unfold lookI look
  split
  ·rfl
  ·exact QeU k m (i+1)
variable {d:TypeDesc}{k:MK}
theorem QJ8 {k':MK}(h:kOk d k)(h':kOk d k'):Instr.sameNow d (kV k) (kV k')=some (decide (k'=k)):=by
 cases k with
 | inl l=>
  cases k' with
  | inl l'=>
   have e:d=.string:=h
   subst e
   show some ((⟨l.toArray⟩:ByteArray) == ⟨l'.toArray⟩)=_
   rw[Go.Sh.str_eq]
   congr 1
   simp only[decide_eq_decide,Sum.inl.injEq]
   exact eq_comm
  | inr p=>have e:d=.string:=h;subst e;cases (show TypeDesc.string=.int p.1 from h')
 | inr p=>
  cases k' with
  | inl l=>have e:d=.int p.1:=h;subst e;cases (show TypeDesc.int p.1=.string from h')
  | inr q=>
   obtain⟨a,x⟩:=p
   obtain⟨b,y⟩:=q
   have e:d=.int a:=h
   subst e
   have e2:TypeDesc.int a=.int b:=h'
   simp only[TypeDesc.int.injEq] at e2
   subst e2
   show (if a=a then some (x == y) else none)=_
   rw[if_pos rfl]
   congr 1
   rw[show (x == y)=decide (x=y) from rfl]
   simp only[decide_eq_decide,Sum.inr.injEq,Prod.mk.injEq,true_and]
   exact eq_comm
theorem QfT {d:TypeDesc}(k:MK)(hk:kOk d k):∀(m:List (MK×Value)) (st:List Nat) (i:Nat),(∀p∈m,kOk d p.1)→m.length=st.length→Instr.findNow d (kV k) (ents m st) i=some (lookI m k i)
 | [],[],_,_,_=>rfl
 | (k',x)::m,b::st,i,ho,h=>by
  have h':m.length=st.length:=by simpa using h
  show Instr.findNow d (kV k) (⟨kV k',x,b⟩::ents m st) i=_
  unfold Instr.findNow lookI
  simp only[QJ8 hk (ho _ (.head _))]
  by_cases e:k'=k
  ·subst e;simp
  ·rw[decide_eq_false e,if_neg e]
   exact QfT k hk m st (i+1) (fun p hp=>ho p (.tail _ hp)) h'
 | [],_::_,_,_,h=>by simp at h
 | _::_,[],_,_,h=>by simp at h
variable {kt:TypeId}
theorem run_checkKey_k (hu:P.underlying kt=some d)(e:Bool)(n:Nat)(hk:kOk d k)(w:World):(Instr.checkKey e (n+1) kt (kV k)).run P w=.ok () w:=by
 haveI:Und P kt d:=⟨hu⟩
 cases k with
 | inl l=>have e:d=.string:=hk;subst e;simp[Instr.checkKey,Und.run,kV,str]
 | inr p=>have e:d=.int p.1:=hk;subst e;simp[Instr.checkKey,Und.run,kV]
theorem run_findKey_k (hu:P.underlying kt=some d)(hk:kOk d k)(m:List (MK×Value))(st:List Nat)(ho:∀p∈m,kOk d p.1)(h:m.length=st.length)(w:World) :
  (Instr.findKey kt (kV k) (ents m st)).run P w=.ok (lookI m k 0) w:=by
 haveI:Und P kt d:=⟨hu⟩
 simp[Instr.findKey,Und.run,QfT k hk m st 0 ho h]
theorem QEP (k:MK):Instr.sameBits 10000 (kV k) (kV k)=true:=by
 cases k with
 | inl l=>simp[Instr.sameBits,kV,str,Go.Sh.str_eq]
 | inr p=>simp[Instr.sameBits,kV]
structure Qga (m:List (MK×Value))(st:List Nat)(c:Nat):Prop where
 len:m.length=st.length
 keys:(m.map (·.1)).Nodup
 born:st.Nodup
 lt:∀b∈st,b<c
def RdM (h:Heap)(v:Value)(m:List (MK×Value))(st:List Nat)(c:Nat):Prop:=
 Qga m st c∧∃r,v=.map (some r)∧h[r]?=some (.map (ents m st).toArray c)
def MapS (v:Value)(m:List (MK×Value))(st:List Nat)(c:Nat):HP:=
  ⟨fun h S=>Qga m st c∧∃r,v=.map (some r)∧S r∧h[r]?=some (.map (ents m st).toArray c),
   fun h h' S ⟨h1,r,h2,h3,h4⟩ he=>⟨h1,r,h2,h3,(he r h3).trans h4⟩⟩
def MapO (v:Value)(m:List (MK×Value)):HP:=MapS v m (List.range m.length) m.length
variable {c:Nat}{h:Heap}{m:List (MK×Value)}{st:List Nat}{v:Value}
theorem RdM.ext {h':Heap}(r:RdM h v m st c)(he:Ext h h'):RdM h' v m st c:=by
 obtain⟨h1,b,h2,h3⟩:=r
 exact⟨h1,b,h2,(he.2 b (lt_of_some h3)).trans h3⟩
variable {L:List HP}{h0:Heap}
theorem St.mapRd (s:St h0 h (MapS v m st c::L)):RdM h v m st c:=by
 obtain⟨S,⟨h1,r,h2,_,h4⟩,_⟩:=s.get
 exact⟨h1,r,h2,h4⟩
theorem St.mapO (s:St h0 h (MapO v m::L)):St h0 h (MapS v m (List.range m.length) m.length::L):=s
variable {D:Heap→Prop}{K:Value→Prop}{et t:TypeId}
theorem oLook_val {kk bb:Nat}{z:Value} [Und P t (.map kt et)] (hu:P.underlying kt=some d) [Inf P et kk bb z]{ok:Bool}
  (hkk:kOk d k) (ho:∀p∈m,kOk d p.1) (hr:∀h',D h'→∃st c,RdM h' v m st c) (hk:K (if ok then .tuple #[(look m k).getD z,.bool (look m k).isSome] else (look m k).getD z)):Qxk P t v (kV k) ok D K:=by
 refine⟨_,fun w hw=>?_,hk⟩
 obtain⟨st,c,hok,r,rfl,hb⟩:=hr _ hw
 refine QA ?_
 unfold Instr.lookup
 have h1:=run_findKey_k hu hkk m st ho hok.len w
 have h2:=QeU k m 0
 simp only[Sem.run_bind,Und.run (P:=P) (t:=t),Result.andThen_ok,Qay (P:=P) hb (by simp),pure_bind,run_checkKey_k hu _ 9999 hkk,h1]
 cases hl:lookI m k 0 with
 | none=>
  rw[hl] at h2
  simp only[Option.map_none] at h2
  rw[←h2]
  simp[Inf.zer]
 | some p=>
  rw[hl] at h2
  simp only[Option.map_some] at h2
  rw[←h2]
  simp
theorem Qn7 (m m':List (MK×Value))(st st':List Nat)(h:m.length=st.length):ents (m++m') (st++st')=ents m st++ents m' st':=by
 simp[ents,List.zip_append h]
theorem Qh4 (k:MK):∀(m:List (MK×Value)) (st:List Nat) (i:Nat){j:Nat}{x y:Value},m.length=st.length→lookI m k i=some (j,x) →
  i≤j∧(ents m st)[j - i]?.map (·.key)=some (kV k)∧(ents m st).modify (j - i) (fun e=>{ e with key:=kV k,val:=y })=ents (ups m k y) st
 | [],_,_,_,_,_,_,h=>by simp[lookI] at h
 | (k',x')::m,b::st,i,j,x,y,hl,h=>by
  unfold lookI at h
  show i≤j∧((⟨kV k',x',b⟩::ents m st:List MapEntry)[j - i]?).map _=_∧(⟨kV k',x',b⟩::ents m st:List MapEntry).modify (j - i) _=ents (ups ((k',x')::m) k y) (b::st)
  split at h
  ·rename_i hk
   subst hk
   simp only[sj,Prod.mk.injEq] at h
   obtain⟨rfl,rfl⟩:=h
   refine⟨nr,by simp,?_⟩
   simp only[Nat.sub_self,List.modify_zero_cons,ups,if_true]
   rfl
  ·rename_i hk
   obtain⟨h1,h2,h3⟩:=Qh4 k m st (i+1) (y:=y) (by simpa using hl) h
   refine⟨om,?_,?_⟩
   ·rw[show j - i=(j - (i+1))+1 from by omega];simpa using h2
   ·rw[show j - i=(j - (i+1))+1 from by omega]
    simp only[List.modify_succ_cons,h3,ups,if_neg hk]
    rfl
 | _::_,[],_,_,_,_,hl,_=>by simp at hl
theorem Qh5 (k:MK)(y:Value):∀(m:List (MK×Value)) (i:Nat),lookI m k i=none→ups m k y=m++[(k,y)]∧∀p∈m,p.1≠k
 | [],_,_=>⟨rfl,by simp⟩
 | (k',x')::m,i,h=>by
  unfold lookI at h
  split at h
  ·cases h
  ·rename_i hk
   obtain⟨h1,h2⟩:=Qh5 k y m (i+1) h
   refine⟨by simp[ups,hk,h1],fun p hp=>?_⟩
   rcases List.mem_cons.1 hp with rfl | hp
   ·exact hk
   ·exact h2 p hp
theorem Qe0 (k:MK)(y:Value):∀(m:List (MK×Value)) (i:Nat) {r},lookI m k i=some r→(ups m k y).map (·.1)=m.map (·.1)
 | [],_,_,h=>by simp[lookI] at h
 | (k',x')::m,i,r,h=>by
  unfold lookI at h
  split at h
  ·rename_i hk;subst hk;simp[ups]
  ·rename_i hk;simp[ups,hk,Qe0 k y m (i+1) h]
theorem oUpd_own [Gd] [Und P t (.map kt et)] (hu:P.underlying kt=some d){x:Value}{K:Value→Heap→Prop}
  (hkk:kOk d k) (ho:∀p∈m,kOk d p.1) (s:St h0 h (MapS v m st c::L)) (g:∀h' st' c',((look m k).isSome→(ups m k x).length=m.length∧st'=st∧c'=c)→((look m k)=none→(ups m k x).length=m.length+1∧st'=st++[c]∧c'=c+1)→St h0 h' (MapS v (ups m k x) st' c'::L)→K undef h'):oUpd P t v (kV k) x h K:=by
 intro w hw
 obtain⟨_,S0,⟨hok,r,rfl,hSr,hb⟩,_,_⟩:=id s
 have hbw:w.heap[r]?=some (.map (ents m st).toArray c):=by rw[hw];exact hb
 have h1:=run_findKey_k hu hkk m st ho hok.len w
 have hl:=QeU k m 0
 have stepTo:∀m' st' c',Qga m' st' c'→St h0 (setB h r (.map (ents m' st').toArray c')) (MapS (.map (some r)) m' st' c'::L):=by
  intro m' st' c' hok'
  refine St.step s fun S' hA' hS'=>?_
  obtain⟨_,r',hr',hSr',hb'⟩:=hA'
  simp only[Value.map.injEq,sj] at hr'
  subst hr'
  exact⟨by rw[QeJ];exact nr,fun i _ hi=>Qda (fun e=>hi (e ▸ hSr')),S',⟨hok',r,rfl,hSr',Qe6 (lt_of_some hb')⟩,fun i hi=>.inl hi⟩
 cases hf:lookI m k 0 with
 | some p=>
  obtain⟨j,x0⟩:=p
  obtain⟨_,hkey,hmod⟩:=Qh4 k m st 0 (y:=x) hok.len hf
  simp only[Nat.sub_zero] at hkey hmod
  have hkeys:=Qe0 k x m 0 hf
  have hok':Qga (ups m k x) st c:=⟨by rw[←hok.len,←List.length_map (f:=(·.1)),hkeys,List.length_map],by rw[hkeys];exact hok.keys,hok.born,hok.lt⟩
  have hrun:(Instr.mapUpdate t (.map (some r)) (kV k) x).run P w=.ok () { w with heap:=setB h r (.map (ents (ups m k x) st).toArray c) }:=by
   unfold Instr.mapUpdate
   have hstay:(Instr.keyThatStays (((ents m st).toArray[j]?.map (·.key)).getD (kV k)) (kV k)).run P w=.ok (kV k) w:=by
    have e1:((ents m st).toArray[j]?.map (·.key)).getD (kV k)=kV k:=by
     rw[List.getElem?_toArray,hkey];rfl
    rw[e1]
    have e2:=QEP k
    simp[Instr.keyThatStays,e2]
   have hset:=Qf1 (P:=P) (o':=.map (ents (ups m k x) st).toArray c) hbw (by simp)
   rw[hw] at hset
   have hmod':(ents m st).toArray.modify j (fun e=>{ e with key:=kV k,val:=x })=(ents (ups m k x) st).toArray:=by
    rw[←hmod];simp
   simp only[Sem.run_bind,Und.run (P:=P) (t:=t),Result.andThen_ok,Qay (P:=P) hbw (by simp),run_checkKey_k hu _ 9999 hkk,h1,hf,hstay,hmod',hset]
  have:(nu (Instr.mapUpdate t (.map (some r)) (kV k) x)).run P w=.ok .skip { w with heap:=setB h r (.map (ents (ups m k x) st).toArray c) }:=by
   simp only[nu];rw[Sem.run_bind,hrun];rfl
  rw[this]
  exact⟨⟨rfl,rfl,rfl,fun _=>by first | exact nr | exact Nat.le_succ _ | exact Nat.le_add_right _ _⟩,g _ st c (fun _=>⟨by rw[←List.length_map (f:=(·.1)),hkeys,List.length_map],rfl,rfl⟩) (fun h=>by rw[hf] at hl;simp only[Option.map_some] at hl;rw[←hl] at h;cases h) (stepTo _ _ _ hok')⟩
 | none=>
  obtain⟨hups,hne⟩:=Qh5 k x m 0 hf
  have hok':Qga (ups m k x) (st++[c]) (c+1):=by
   rw[hups]
   refine⟨by simp[hok.len],?_,?_,?_⟩
   ·rw[List.map_append,List.nodup_append]
    refine⟨hok.keys,by simp,?_⟩
    intro a ha b hb
    obtain⟨p,hp,rfl⟩:=List.mem_map.1 ha
    simp only[List.map_cons,List.map_nil,List.mem_singleton] at hb
    rw[hb];exact hne p hp
   ·rw[List.nodup_append]
    refine⟨hok.born,by simp,?_⟩
    intro a ha b hb
    simp only[List.mem_singleton] at hb
    subst hb
    have:=hok.lt a ha
    omega
   ·intro b hb
    rcases List.mem_append.1 hb with hb | hb
    ·have:=hok.lt b hb;omega
    ·simp only[List.mem_singleton] at hb;omega
  have hents:ents (ups m k x) (st++[c])=ents m st++[⟨kV k,x,c⟩]:=by
   rw[hups,Qn7 _ _ _ _ hok.len];rfl
  have hrun:(Instr.mapUpdate t (.map (some r)) (kV k) x).run P w=.ok () { w with heap:=setB h r (.map (ents (ups m k x) (st++[c])).toArray (c+1)) }:=by
   unfold Instr.mapUpdate
   have hset:=Qf1 (P:=P) (o':=.map (ents (ups m k x) (st++[c])).toArray (c+1)) hbw (by simp)
   rw[hw] at hset
   have hpush:(ents m st).toArray.push { key:=kV k,val:=x,born:=c }=(ents (ups m k x) (st++[c])).toArray:=by rw[hents];simp
   simp only[Sem.run_bind,Und.run (P:=P) (t:=t),Result.andThen_ok,Qay (P:=P) hbw (by simp),run_checkKey_k hu _ 9999 hkk,h1,hf,hpush,hset]
  have:(nu (Instr.mapUpdate t (.map (some r)) (kV k) x)).run P w=.ok .skip { w with heap:=setB h r (.map (ents (ups m k x) (st++[c])).toArray (c+1)) }:=by
   simp only[nu];rw[Sem.run_bind,hrun];rfl
  rw[this]
  refine⟨⟨rfl,rfl,rfl,fun _=>by first | exact nr | exact Nat.le_succ _ | exact Nat.le_add_right _ _⟩,g _ (st++[c]) (c+1) (fun h=>?_) (fun _=>⟨by rw[hups];simp,rfl,rfl⟩) (stepTo _ _ _ hok')⟩
  rw[hf] at hl
  simp only[Option.map_none] at hl
  rw[←hl] at h
  cases h
theorem oLenM_rd {ty:TypeId} [Und P t (.map kt et)]
  (hr:∀h',D h'→∃st c,RdM h' v m st c) (hk:K (.int .i64 m.length)):QpS P #[t] ty v D K:=by
 refine⟨_,fun w hw=>?_,hk⟩
 obtain⟨st,c,hok,r,rfl,hb⟩:=hr _ hw
 refine QA ?_
 have hsz:(ents m st).length=m.length:=by simp[ents,hok.len]
 have:=Qay (P:=P) hb (by simp)
 unfold Builtin.len_
 simp[Und.run,this,goInt,hsz]
end maps
end Go.Mk
namespace Go.Sh
open Go.ChangeShapes Go.WideShapes Go.ChangeAt Go.RowKit
theorem QI5 [Gd]{w w':World}(hs:Qx w w')(hx:Ext w.heap w'.heap)(may:MemPlace→Prop):w.keptBut w' may:=by
 refine⟨hs.os,hs.output,fun i hi=>?_⟩
 rw[hx.2 i hi]
 cases h:w.heap[i]? with
 | none=>trivial
 | some o=>
  cases o with
  | cells c t fr=>exact⟨rfl,rfl,rfl,fun _ _=>rfl⟩
  | map es c=>exact .inr ⟨rfl,rfl⟩
  | _=>rfl
section
variable {H:Type}{enc:TypeId×Value→H}{P:Program}
theorem QIK {w w':World}(hx:Ext w.heap w'.heap){p:MemPlace}(hp:p.block<w.heap.size):w.sameAt w' p:=by
 cases p with
 | cell b off=>
  show w'.cell? _=w.cell? _
  simp only[World.cell?]
  rw[hx.2 b hp]
 | map b=>exact hx.2 b hp
theorem QuZ {w w':World}{base:Nat}{sp:Nat→Bool}{held:Bool}:∀ {ts:List TypeId}{vs:List Value}{ds:List (DataW H)}{ps:List MemPlace},DataW.TrodAll enc P w base sp held ts vs ds ps→(∀p∈ps,w.sameAt w' p) →
  DataW.TrodAll enc P w' base sp held ts vs ds ps
 | [],[],[],_,h,_=>h
 | _::_,_::_,_::_,_,⟨p,q,⟨n,h1⟩,h2,e⟩,hs=>
  ⟨p,q,⟨n,DataW.trod_carry n _ _ _ h1 fun x hx=>hs x (by rw[e];exact List.mem_append_left _ hx)⟩,QuZ h2 fun x hx=>hs x (by rw[e];exact List.mem_append_right _ hx),e⟩
theorem QHw [Gd]{f:Func}{s:ChangeSpec}{apart fresh handsOn again:Bool}{W W':World}{args:Array Value}{ds gs:List (DataW H)}{before:List MemPlace}{b:TypeId}
  (hl:laidOutB P=true) (hm:mapsRowed P=true) (hz:∀t e,t<P.types.size→P.underlying t=some (.slice e)→0<P.cellsOf e) (hts:∀t∈f.params.toList,t<P.types.size)
  (hv:s.vars=[]) (hr:(s.fn H (ds++gs)).results=[.lit (.bool true)]) (ha:(s.fn H (ds++gs)).args=ds) (hvv:(s.fn H (ds++gs)).vars=[]) (hrt:f.resultTypes=#[b]) (hb:P.underlying b=some .bool)
  (hW:DataW.Whole enc P f.params.toList s.vars apart W args.toList ds gs before) (hs:Qx W W') (hx:Ext W.heap W'.heap):s.post enc P f apart fresh handsOn again W args (.bool true) W':=by
 have hlt:=hW.lt
 obtain⟨p,q,hA,hV,he,hfz,hnd⟩:=id hW
 rw[hv] at hV
 obtain⟨hq1,hq2⟩:=trodVars_none hV
 subst hq1;subst hq2
 rw[List.append_nil] at he
 subst he
 have hA':DataW.TrodAll enc P W' 0 (fun _=>true) true f.params.toList args.toList ds before:=QuZ hA fun x hx'=>QIK hx (hlt x hx')
 have hA2:∀sp:Nat→Bool,(∀p∈before,sp p.block=true)→DataW.TrodAll enc P W' 0 sp true f.params.toList args.toList ds before:=fun sp hsp=>
  DataW.TrodAll.respare (kids_rows hl hm) hz hts hA' hsp
 have hres:∀(b':Nat) (sp:Nat→Bool) (hd:Bool),DataW.TrodAll enc P W' b' sp hd f.resultTypes.toList ((Value.bool true).resultList f.resultTypes.size) [.lit (.bool true)] []:=fun b' sp hd=>by
  rw[hrt]
  exact trodAll_cons_mk (shut_bool hb _) trodAll_mk0
 refine⟨ds,[],before,[],before,[],hW,?_,?_,?_,QI5 hs hx _,fun _=>⟨?_,[.lit (.bool true)]++ds,[],before,⟨before,[],?_,?_,by simp,fun b' off hp=>?_,fun h=>hnd h⟩,fun x hx' _=>hx'⟩⟩
 ·rw[hr];exact hres _ _ _
 ·rw[ha]
  exact hA2 _ fun x hx'=>by simpa using hlt x hx'
 ·rw[hv,hvv];exact rfl
 ·exact ok_one hrt rfl (okWide_bool_mk hb _)
 ·have:=trodAll_append (H:=H) (enc:=enc) (P:=P) hA' (hres 0 (fun _=>true) true)
  exact this
 ·rw[hv];exact rfl
 ·have:=hfz b' off hp
  have hl2:=hlt _ hp
  have e:=hx.2 b' hl2
  simp only[World.frozen?] at this ⊢
  rw[e];exact this
end
end Go.Sh
