import Derived.Test.YtemffgbncjnmkaaGreatMp
import Derived.ProofKit
import Derived.ReadAgain
import Derived.OpenShut
set_option linter.unusedVariables false
namespace Go.Mk
open Go Go.Sh
section maps
variable {P:Program}
abbrev MK:=Str ⊕ (IntKind×Int)
def kV:MK→Value
 | .inl l=>str l
 | .inr p=>.int p.1 p.2
def kOk (d:TypeDesc):MK→Prop
 | .inl _=>d=.string
 | .inr p=>d=.int p.1
def ents (m:List (MK×Value))(st:List Nat):List MapEntry:=(m.zip st).map fun p=>⟨kV p.1.1,p.1.2,p.2⟩
def lookI (m:List (MK×Value))(k:MK)(i:Nat):Option (Nat×Value):=
 match m with
 | []=>none
 | (k',x)::m=>if k'=k then some (i,x) else lookI m k (i+1)
def look (m:List (MK×Value))(k:MK):Option Value:=
 match m with
 | []=>none
 | (k',x)::m=>if k'=k then some x else look m k
def ups (m:List (MK×Value))(k:MK)(x:Value):List (MK×Value):=
 match m with
 | []=>[(k,x)]
 | (k',y)::m=>if k'=k then (k,x)::m else (k',y)::ups m k x
theorem QeU (k:MK):∀(m:List (MK×Value))(i:Nat),(lookI m k i).map (·.2)=look m k
 | [],_=>rfl
 | (k',x)::m,i=>by
  unfold lookI look
  split
  ·rfl
  ·exact QeU k m (i+1)
theorem QJ8 {d:TypeDesc}{k k':MK}(h:kOk d k)(h':kOk d k'):Instr.sameNow d (kV k) (kV k')=some (decide (k'=k)):=by
 cases k with
 | inl l=>
  cases k' with
  | inl l'=>
   have e:d=.string:=h
   subst e
   show some ((⟨l.toArray⟩:ByteArray) == ⟨l'.toArray⟩)=_
   rw[Go.Sh.str_eq]
   congr 1
   simp only[decide_eq_decide,Sum.inl.injEq]
   exact eq_comm
  | inr p=>have e:d=.string:=h;subst e;cases (show TypeDesc.string=.int p.1 from h')
 | inr p=>
  cases k' with
  | inl l=>have e:d=.int p.1:=h;subst e;cases (show TypeDesc.int p.1=.string from h')
  | inr q=>
   obtain⟨a,x⟩:=p
   obtain⟨b,y⟩:=q
   have e:d=.int a:=h
   subst e
   have e2:TypeDesc.int a=.int b:=h'
   simp only[TypeDesc.int.injEq] at e2
   subst e2
   show (if a=a then some (x == y) else none)=_
   rw[if_pos rfl]
   congr 1
   rw[show (x == y)=decide (x=y) from rfl]
   simp only[decide_eq_decide,Sum.inr.injEq,Prod.mk.injEq,true_and]
   exact eq_comm
theorem QfT {d:TypeDesc}(k:MK)(hk:kOk d k):∀(m:List (MK×Value))(st:List Nat)(i:Nat),(∀p∈m,kOk d p.1)→m.length=st.length→Instr.findNow d (kV k) (ents m st) i=some (lookI m k i)
 | [],[],_,_,_=>rfl
 | (k',x)::m,b::st,i,ho,h=>by
  have h':m.length=st.length:=by simpa using h
  show Instr.findNow d (kV k) (⟨kV k',x,b⟩::ents m st) i=_
  unfold Instr.findNow lookI
  simp only[QJ8 hk (ho _ (.head _))]
  by_cases e:k'=k
  ·subst e;simp
  ·rw[decide_eq_false e,if_neg e]
   exact QfT k hk m st (i+1) (fun p hp=>ho p (.tail _ hp)) h'
 | [],_::_,_,_,h=>by simp at h
 | _::_,[],_,_,h=>by simp at h
theorem run_checkKey_k {kt:TypeId}{d:TypeDesc}(hu:P.underlying kt=some d)(e:Bool)(n:Nat){k:MK}(hk:kOk d k)(w:World):(Instr.checkKey e (n+1) kt (kV k)).run P w=.ok () w:=by
 haveI:Und P kt d:=⟨hu⟩
 cases k with
 | inl l=>have e:d=.string:=hk;subst e;simp[Instr.checkKey,Und.run,kV,str]
 | inr p=>have e:d=.int p.1:=hk;subst e;simp[Instr.checkKey,Und.run,kV]
theorem run_findKey_k {kt:TypeId}{d:TypeDesc}(hu:P.underlying kt=some d){k:MK}(hk:kOk d k)(m:List (MK×Value))(st:List Nat)(ho:∀p∈m,kOk d p.1)(h:m.length=st.length)(w:World) :
  (Instr.findKey kt (kV k) (ents m st)).run P w=.ok (lookI m k 0) w:=by
 haveI:Und P kt d:=⟨hu⟩
 simp[Instr.findKey,Und.run,QfT k hk m st 0 ho h]
theorem QEP (k:MK):Instr.sameBits 10000 (kV k) (kV k)=true:=by
 cases k with
 | inl l=>simp[Instr.sameBits,kV,str,Go.Sh.str_eq]
 | inr p=>simp[Instr.sameBits,kV]
structure Qga (m:List (MK×Value))(st:List Nat)(c:Nat):Prop where
 len:m.length=st.length
 keys:(m.map (·.1)).Nodup
 born:st.Nodup
 lt:∀b∈st,b<c
def RdM (h:Heap)(v:Value)(m:List (MK×Value))(st:List Nat)(c:Nat):Prop:=
 Qga m st c∧∃r,v=.map (some r)∧h[r]?=some (.map (ents m st).toArray c)
def MapS (v:Value)(m:List (MK×Value))(st:List Nat)(c:Nat):HP:=
  ⟨fun h S=>Qga m st c∧∃r,v=.map (some r)∧S r∧h[r]?=some (.map (ents m st).toArray c),
   fun h h' S ⟨h1,r,h2,h3,h4⟩ he=>⟨h1,r,h2,h3,(he r h3).trans h4⟩⟩
def MapO (v:Value)(m:List (MK×Value)):HP:=MapS v m (List.range m.length) m.length
theorem RdM.ext {h h':Heap}{v:Value}{m:List (MK×Value)}{st:List Nat}{c:Nat}(r:RdM h v m st c)(he:Ext h h'):RdM h' v m st c:=by
 obtain⟨h1,b,h2,h3⟩:=r
 exact⟨h1,b,h2,(he.2 b (lt_of_some h3)).trans h3⟩
theorem St.mapRd {h0 h:Heap}{v:Value}{m:List (MK×Value)}{st:List Nat}{c:Nat}{L:List HP}(s:St h0 h (MapS v m st c::L)):RdM h v m st c:=by
 obtain⟨S,⟨h1,r,h2,_,h4⟩,_⟩:=s.get
 exact⟨h1,r,h2,h4⟩
theorem St.mapO {h0 h:Heap}{v:Value}{m:List (MK×Value)}{L:List HP}(s:St h0 h (MapO v m::L)):St h0 h (MapS v m (List.range m.length) m.length::L):=s
theorem oLook_val {t kt et:TypeId}{kk bb:Nat}{z:Value}{d:TypeDesc} [Und P t (.map kt et)] (hu:P.underlying kt=some d) [Inf P et kk bb z]{v:Value}{m:List (MK×Value)}{k:MK}{ok:Bool}{D:Heap→Prop}{K:Value→Prop}
  (hkk:kOk d k) (ho:∀p∈m,kOk d p.1) (hr:∀h',D h'→∃st c,RdM h' v m st c) (hk:K (if ok then .tuple #[(look m k).getD z,.bool (look m k).isSome] else (look m k).getD z)):Qxk P t v (kV k) ok D K:=by
 refine⟨_,fun w hw=>?_,hk⟩
 obtain⟨st,c,hok,r,rfl,hb⟩:=hr _ hw
 refine QA ?_
 unfold Instr.lookup
 have h1:=run_findKey_k hu hkk m st ho hok.len w
 have h2:=QeU k m 0
 simp only[Sem.run_bind,Und.run (P:=P) (t:=t),Result.andThen_ok,Qay (P:=P) hb (by simp),pure_bind,run_checkKey_k hu _ 9999 hkk,h1]
 cases hl:lookI m k 0 with
 | none=>
  rw[hl] at h2
  simp only[Option.map_none] at h2
  rw[←h2]
  simp[Inf.zer]
 | some p=>
  rw[hl] at h2
  simp only[Option.map_some] at h2
  rw[←h2]
  simp
theorem Qn7 (m m':List (MK×Value))(st st':List Nat)(h:m.length=st.length):ents (m++m') (st++st')=ents m st++ents m' st':=by
 simp[ents,List.zip_append h]
theorem Qh4 (k:MK):∀(m:List (MK×Value))(st:List Nat)(i:Nat){j:Nat}{x y:Value},m.length=st.length→lookI m k i=some (j,x) →
  i≤j∧(ents m st)[j - i]?.map (·.key)=some (kV k)∧(ents m st).modify (j - i) (fun e=>{ e with key:=kV k,val:=y })=ents (ups m k y) st
 | [],_,_,_,_,_,_,h=>by simp[lookI] at h
 | (k',x')::m,b::st,i,j,x,y,hl,h=>by
  unfold lookI at h
  show i≤j∧((⟨kV k',x',b⟩::ents m st:List MapEntry)[j - i]?).map _=_∧(⟨kV k',x',b⟩::ents m st:List MapEntry).modify (j - i) _=ents (ups ((k',x')::m) k y) (b::st)
  split at h
  ·rename_i hk
   subst hk
   simp only[Option.some.injEq,Prod.mk.injEq] at h
   obtain⟨rfl,rfl⟩:=h
   refine⟨Nat.le_refl _,by simp,?_⟩
   simp only[Nat.sub_self,List.modify_zero_cons,ups,if_true]
   rfl
  ·rename_i hk
   obtain⟨h1,h2,h3⟩:=Qh4 k m st (i+1) (y:=y) (by simpa using hl) h
   refine⟨by omega,?_,?_⟩
   ·rw[show j - i=(j - (i+1))+1 from by omega];simpa using h2
   ·rw[show j - i=(j - (i+1))+1 from by omega]
    simp only[List.modify_succ_cons,h3,ups,if_neg hk]
    rfl
 | _::_,[],_,_,_,_,hl,_=>by simp at hl
theorem Qh5 (k:MK)(y:Value):∀(m:List (MK×Value))(i:Nat),lookI m k i=none→ups m k y=m++[(k,y)]∧∀p∈m,p.1≠k
 | [],_,_=>⟨rfl,by simp⟩
 | (k',x')::m,i,h=>by
  unfold lookI at h
  split at h
  ·cases h
  ·rename_i hk
   obtain⟨h1,h2⟩:=Qh5 k y m (i+1) h
   refine⟨by simp[ups,hk,h1],fun p hp=>?_⟩
   rcases List.mem_cons.1 hp with rfl | hp
   ·exact hk
   ·exact h2 p hp
theorem Qe0 (k:MK)(y:Value):∀(m:List (MK×Value))(i:Nat) {r},lookI m k i=some r→(ups m k y).map (·.1)=m.map (·.1)
 | [],_,_,h=>by simp[lookI] at h
 | (k',x')::m,i,r,h=>by
  unfold lookI at h
  split at h
  ·rename_i hk;subst hk;simp[ups]
  ·rename_i hk;simp[ups,hk,Qe0 k y m (i+1) h]
theorem oUpd_own [Gd]{t kt et:TypeId}{d:TypeDesc} [Und P t (.map kt et)] (hu:P.underlying kt=some d){h0 h:Heap}{v x:Value}{m:List (MK×Value)}{st:List Nat}{c:Nat}{k:MK}{L:List HP}{K:Value→Heap→Prop}
  (hkk:kOk d k) (ho:∀p∈m,kOk d p.1) (s:St h0 h (MapS v m st c::L)) (g:∀h' st' c',((look m k).isSome→(ups m k x).length=m.length∧st'=st∧c'=c)→((look m k)=none→(ups m k x).length=m.length+1∧st'=st++[c]∧c'=c+1)→St h0 h' (MapS v (ups m k x) st' c'::L)→K undef h'):oUpd P t v (kV k) x h K:=by
 intro w hw
 obtain⟨_,S0,⟨hok,r,rfl,hSr,hb⟩,_,_⟩:=id s
 have hbw:w.heap[r]?=some (.map (ents m st).toArray c):=by rw[hw];exact hb
 have h1:=run_findKey_k hu hkk m st ho hok.len w
 have hl:=QeU k m 0
 have stepTo:∀m' st' c',Qga m' st' c'→St h0 (setB h r (.map (ents m' st').toArray c')) (MapS (.map (some r)) m' st' c'::L):=by
  intro m' st' c' hok'
  refine St.step s fun S' hA' hS'=>?_
  obtain⟨_,r',hr',hSr',hb'⟩:=hA'
  simp only[Value.map.injEq,Option.some.injEq] at hr'
  subst hr'
  exact⟨by rw[QeJ];exact Nat.le_refl _,fun i _ hi=>Qda (fun e=>hi (e ▸ hSr')),S',⟨hok',r,rfl,hSr',Qe6 (lt_of_some hb')⟩,fun i hi=>.inl hi⟩
 cases hf:lookI m k 0 with
 | some p=>
  obtain⟨j,x0⟩:=p
  obtain⟨_,hkey,hmod⟩:=Qh4 k m st 0 (y:=x) hok.len hf
  simp only[Nat.sub_zero] at hkey hmod
  have hkeys:=Qe0 k x m 0 hf
  have hok':Qga (ups m k x) st c:=⟨by rw[←hok.len,←List.length_map (f:=(·.1)),hkeys,List.length_map],by rw[hkeys];exact hok.keys,hok.born,hok.lt⟩
  have hrun:(Instr.mapUpdate t (.map (some r)) (kV k) x).run P w=.ok () { w with heap:=setB h r (.map (ents (ups m k x) st).toArray c) }:=by
   unfold Instr.mapUpdate
   have hstay:(Instr.keyThatStays (((ents m st).toArray[j]?.map (·.key)).getD (kV k)) (kV k)).run P w=.ok (kV k) w:=by
    have e1:((ents m st).toArray[j]?.map (·.key)).getD (kV k)=kV k:=by
     rw[List.getElem?_toArray,hkey];rfl
    rw[e1]
    have e2:=QEP k
    simp[Instr.keyThatStays,e2]
   have hset:=Qf1 (P:=P) (o':=.map (ents (ups m k x) st).toArray c) hbw (by simp)
   rw[hw] at hset
   have hmod':(ents m st).toArray.modify j (fun e=>{ e with key:=kV k,val:=x })=(ents (ups m k x) st).toArray:=by
    rw[←hmod];simp
   simp only[Sem.run_bind,Und.run (P:=P) (t:=t),Result.andThen_ok,Qay (P:=P) hbw (by simp),run_checkKey_k hu _ 9999 hkk,h1,hf,hstay,hmod',hset]
  have:(nu (Instr.mapUpdate t (.map (some r)) (kV k) x)).run P w=.ok .skip { w with heap:=setB h r (.map (ents (ups m k x) st).toArray c) }:=by
   simp only[nu];rw[Sem.run_bind,hrun];rfl
  rw[this]
  exact⟨⟨rfl,rfl,rfl,fun _=>by first | exact Nat.le_refl _ | exact Nat.le_succ _ | exact Nat.le_add_right _ _⟩,g _ st c (fun _=>⟨by rw[←List.length_map (f:=(·.1)),hkeys,List.length_map],rfl,rfl⟩) (fun h=>by rw[hf] at hl;simp only[Option.map_some] at hl;rw[←hl] at h;cases h) (stepTo _ _ _ hok')⟩
 | none=>
  obtain⟨hups,hne⟩:=Qh5 k x m 0 hf
  have hok':Qga (ups m k x) (st++[c]) (c+1):=by
   rw[hups]
   refine⟨by simp[hok.len],?_,?_,?_⟩
   ·rw[List.map_append,List.nodup_append]
    refine⟨hok.keys,by simp,?_⟩
    intro a ha b hb
    obtain⟨p,hp,rfl⟩:=List.mem_map.1 ha
    simp only[List.map_cons,List.map_nil,List.mem_singleton] at hb
    rw[hb];exact hne p hp
   ·rw[List.nodup_append]
    refine⟨hok.born,by simp,?_⟩
    intro a ha b hb
    simp only[List.mem_singleton] at hb
    subst hb
    have:=hok.lt a ha
    omega
   ·intro b hb
    rcases List.mem_append.1 hb with hb | hb
    ·have:=hok.lt b hb;omega
    ·simp only[List.mem_singleton] at hb;omega
  have hents:ents (ups m k x) (st++[c])=ents m st++[⟨kV k,x,c⟩]:=by
   rw[hups,Qn7 _ _ _ _ hok.len];rfl
  have hrun:(Instr.mapUpdate t (.map (some r)) (kV k) x).run P w=.ok () { w with heap:=setB h r (.map (ents (ups m k x) (st++[c])).toArray (c+1)) }:=by
   unfold Instr.mapUpdate
   have hset:=Qf1 (P:=P) (o':=.map (ents (ups m k x) (st++[c])).toArray (c+1)) hbw (by simp)
   rw[hw] at hset
   have hpush:(ents m st).toArray.push { key:=kV k,val:=x,born:=c }=(ents (ups m k x) (st++[c])).toArray:=by rw[hents];simp
   simp only[Sem.run_bind,Und.run (P:=P) (t:=t),Result.andThen_ok,Qay (P:=P) hbw (by simp),run_checkKey_k hu _ 9999 hkk,h1,hf,hpush,hset]
  have:(nu (Instr.mapUpdate t (.map (some r)) (kV k) x)).run P w=.ok .skip { w with heap:=setB h r (.map (ents (ups m k x) (st++[c])).toArray (c+1)) }:=by
   simp only[nu];rw[Sem.run_bind,hrun];rfl
  rw[this]
  refine⟨⟨rfl,rfl,rfl,fun _=>by first | exact Nat.le_refl _ | exact Nat.le_succ _ | exact Nat.le_add_right _ _⟩,g _ (st++[c]) (c+1) (fun h=>?_) (fun _=>⟨by rw[hups];simp,rfl,rfl⟩) (stepTo _ _ _ hok')⟩
  rw[hf] at hl
  simp only[Option.map_none] at hl
  rw[←hl] at h
  cases h
theorem oLenM_rd {t ty kt et:TypeId} [Und P t (.map kt et)]{v:Value}{m:List (MK×Value)}{D:Heap→Prop}{K:Value→Prop}
  (hr:∀h',D h'→∃st c,RdM h' v m st c) (hk:K (.int .i64 m.length)):QpS P #[t] ty v D K:=by
 refine⟨_,fun w hw=>?_,hk⟩
 obtain⟨st,c,hok,r,rfl,hb⟩:=hr _ hw
 refine QA ?_
 have hsz:(ents m st).length=m.length:=by simp[ents,hok.len]
 have:=Qay (P:=P) hb (by simp)
 unfold Builtin.len_
 simp[Und.run,this,goInt,hsz]
end maps
end Go.Mk
namespace Go.Sh
open Go.ChangeShapes Go.WideShapes Go.ChangeAt Go.RowKit
theorem QI5 [Gd]{w w':World}(hs:Qx w w')(hx:Ext w.heap w'.heap)(may:MemPlace→Prop):w.keptBut w' may:=by
 refine⟨hs.os,hs.output,fun i hi=>?_⟩
 rw[hx.2 i hi]
 cases h:w.heap[i]? with
 | none=>trivial
 | some o=>
  cases o with
  | cells c t fr=>exact⟨rfl,rfl,rfl,fun _ _=>rfl⟩
  | map es c=>exact .inr ⟨rfl,rfl⟩
  | _=>rfl
section
variable {H:Type}{enc:TypeId×Value→H}{P:Program}
theorem QIK {w w':World}(hx:Ext w.heap w'.heap){p:MemPlace}(hp:p.block<w.heap.size):w.sameAt w' p:=by
 cases p with
 | cell b off=>
  show w'.cell? _=w.cell? _
  simp only[World.cell?]
  rw[hx.2 b hp]
 | map b=>exact hx.2 b hp
theorem QuZ {w w':World}{base:Nat}{sp:Nat→Bool}{held:Bool}:∀ {ts:List TypeId}{vs:List Value}{ds:List (DataW H)}{ps:List MemPlace},DataW.TrodAll enc P w base sp held ts vs ds ps→(∀p∈ps,w.sameAt w' p) →
  DataW.TrodAll enc P w' base sp held ts vs ds ps
 | [],[],[],_,h,_=>h
 | _::_,_::_,_::_,_,⟨p,q,⟨n,h1⟩,h2,e⟩,hs=>
  ⟨p,q,⟨n,DataW.trod_carry n _ _ _ h1 fun x hx=>hs x (by rw[e];exact List.mem_append_left _ hx)⟩,QuZ h2 fun x hx=>hs x (by rw[e];exact List.mem_append_right _ hx),e⟩
theorem QHw [Gd]{f:Func}{s:ChangeSpec}{apart fresh handsOn again:Bool}{W W':World}{args:Array Value}{ds gs:List (DataW H)}{before:List MemPlace}{b:TypeId}
  (hl:laidOutB P=true) (hm:mapsRowed P=true) (hz:∀t e,t<P.types.size→P.underlying t=some (.slice e)→0<P.cellsOf e) (hts:∀t∈f.params.toList,t<P.types.size)
  (hv:s.vars=[]) (hr:(s.fn H (ds++gs)).results=[.lit (.bool true)]) (ha:(s.fn H (ds++gs)).args=ds) (hvv:(s.fn H (ds++gs)).vars=[]) (hrt:f.resultTypes=#[b]) (hb:P.underlying b=some .bool)
  (hW:DataW.Whole enc P f.params.toList s.vars apart W args.toList ds gs before) (hs:Qx W W') (hx:Ext W.heap W'.heap):s.post enc P f apart fresh handsOn again W args (.bool true) W':=by
 have hlt:=hW.lt
 obtain⟨p,q,hA,hV,he,hfz,hnd⟩:=id hW
 rw[hv] at hV
 obtain⟨hq1,hq2⟩:=trodVars_none hV
 subst hq1;subst hq2
 rw[List.append_nil] at he
 subst he
 have hA':DataW.TrodAll enc P W' 0 (fun _=>true) true f.params.toList args.toList ds before:=QuZ hA fun x hx'=>QIK hx (hlt x hx')
 have hA2:∀sp:Nat→Bool,(∀p∈before,sp p.block=true)→DataW.TrodAll enc P W' 0 sp true f.params.toList args.toList ds before:=fun sp hsp=>
  DataW.TrodAll.respare (kids_rows hl hm) hz hts hA' hsp
 have hres:∀(b':Nat) (sp:Nat→Bool) (hd:Bool),DataW.TrodAll enc P W' b' sp hd f.resultTypes.toList ((Value.bool true).resultList f.resultTypes.size) [.lit (.bool true)] []:=fun b' sp hd=>by
  rw[hrt]
  exact trodAll_cons_mk (shut_bool hb _) trodAll_mk0
 refine⟨ds,[],before,[],before,[],hW,?_,?_,?_,QI5 hs hx _,fun _=>⟨?_,[.lit (.bool true)]++ds,[],before,⟨before,[],?_,?_,by simp,fun b' off hp=>?_,fun h=>hnd h⟩,fun x hx' _=>hx'⟩⟩
 ·rw[hr];exact hres _ _ _
 ·rw[ha]
  exact hA2 _ fun x hx'=>by simpa using hlt x hx'
 ·rw[hv,hvv];exact rfl
 ·exact ok_one hrt rfl (okWide_bool_mk hb _)
 ·have:=trodAll_append (H:=H) (enc:=enc) (P:=P) hA' (hres 0 (fun _=>true) true)
  exact this
 ·rw[hv];exact rfl
 ·have:=hfz b' off hp
  have hl2:=hlt _ hp
  have e:=hx.2 b' hl2
  simp only[World.frozen?] at this ⊢
  rw[e];exact this
end
end Go.Sh
set_option linter.unusedSimpArgs false
namespace Go.Sh
def isMap (P:Program)(t:TypeId):Bool:=match P.underlying t with
 | some (.map _ _)=>true
 | _=>false
def arr (ρ:Operand→Value)(l:Array Operand):Array Value:=(l.toList.map ρ).toArray
def oarr (ρ:Operand→Value):Option Operand→Option Value
 | some x=>some (ρ x)
 | none=>none
def prs (ρ:Operand→Value)(l:Array (Nat×Operand)):Array (Nat×Value):=(l.toList.map fun p=>(p.1,ρ p.2)).toArray
def opQ (P:Program)(ρ:Operand→Value)(o:Oper)(D:Heap→Prop)(K:Value→Prop):Prop:=match o.op with
 | .pick a b c=>QE2 P (ρ a) (ρ b) (ρ c) K
 | .nilCheck x=>oNil P (ρ x) K
 | .binOp b t x y _=>oBin P b t x y (ρ x) (ρ y) K
 | .unOp b _ x=>oUn P b (ρ x) K
 | .convert s d x=>QE7 P s d (ρ x) K
 | .makeInterface t x=>QF4 P t (ρ x) K
 | .makeFunc fn l r=>QE3 P fn (arr ρ l) (arr ρ r) K
 | .slice t x lo hi mx=>QfD P t (ρ x) (oarr ρ lo) (oarr ρ hi) (oarr ρ mx) K
 | .fieldAddr t x i=>QE4 P t (ρ x) i D K
 | .field t x i=>QBR P t (ρ x) i K
 | .indexAddr t x i=>oIdx P t (ρ x) (ρ i) K
 | .index t x i=>QrX P t (ρ x) (ρ i) K
 | .extract x i=>oExt P (ρ x) i K
 | .typeAssert x t a ok=>QyI P (ρ x) t a ok K
 | .build t ps=>QrZ P t (prs ρ ps) K
 | .load t x=>Qnx P t (ρ x) D K
 | .lookup t x i ok=>Qxk P t (ρ x) (ρ i) ok D K
 | .entry i=>QrY P (ρ i) D K
 | .call c=>match c.callee with
  | .builtin .len=>match c.args.toList with
   | [x]=>bif isMap P (c.argTypes.getD 0 0) then QpS P c.argTypes o.type (ρ x) D K else oLen P c.argTypes o.type (ρ x) K
   | _=>False
  | .builtin .cap=>match c.args.toList with
   | [x]=>oCap P c.argTypes o.type (ρ x) K
   | _=>False
  | .builtin .min=>oMin P c.argTypes o.type (arr ρ c.args) K
  | .builtin .max=>oMax P c.argTypes o.type (arr ρ c.args) K
  | _=>False
 | _=>False
def opX [Gd] (P:Program)(ρ:Operand→Value)(o:Oper)(h:Heap)(K:Value→Heap→Prop):Prop:=match o.op with
 | .convert s d x=>QF6 P s d (ρ x) h K
 | .panic x=>QKd P (ρ x) h K
 | .alloc t=>QF8 P t h K
 | .box t x=>oBox P t (ρ x) h K
 | .buildSlice t k ps=>Qn2 P t k (prs ρ ps) h K
 | .store t a v=>QrW P t (ρ a) (ρ v) h K
 | .makeMap t r=>QFZ P t (oarr ρ r) h K
 | .makeSlice t l c=>Qmk P t (ρ l) (ρ c) h K
 | .mapUpdate t m k v=>oUpd P t (ρ m) (ρ k) (ρ v) h K
 | .insert t m k v=>oUpd P t (ρ m) (ρ k) (ρ v) h K
 | .mapEntry t m k=>QF0 P t (ρ m) (ρ k) h K
 | .entryStore t m s v=>QDl P t (ρ m) (ρ s) (ρ v) h K
 | .range t x=>QoH P t (ρ x) h K
 | .next i s=>Qtv P (ρ i) s o.type h K
 | .call c=>match c.callee with
  | .value f=>QLc P (ρ f) (arr ρ c.args) h K
  | .invoke r m=>QyH P (ρ r) m (arr ρ c.args) h K
  | .builtin .append=>QbY P c.argTypes o.type (arr ρ c.args) h K
  | .builtin .copy=>QE6 P c.argTypes o.type (arr ρ c.args) h K
  | .builtin .delete=>QD5 P c.argTypes o.type (arr ρ c.args) h K
  | .builtin .clear=>QF7 P c.argTypes o.type (arr ρ c.args) h K
  | _=>False
 | _=>False
theorem Sp.sq {P:Program}{s:Sem Next}{K:Value→Prop}{D:Heap→Prop}(h:Sp P s K):Sq P D s K:=h.imp fun _ h=>⟨fun w _=>h.1 w,h.2⟩
theorem Qx9 {ρ:Operand→Value}(l:Array Operand):arr ρ l=l.map ρ:=by simp[arr,←Array.toList_map]
theorem QFS {ρ:Operand→Value}(l:Array (Nat×Operand)):prs ρ l=l.map fun p=>(p.1,ρ p.2):=by simp[prs,←Array.toList_map]
theorem Qnu {P:Program}{ρ:Operand→Value}{o:Oper}{D:Heap→Prop}{K:Value→Prop}(h:opQ P ρ o D K):Sq P D (execOp ρ o) K:=by
 obtain⟨dst,op,type,pos,after,guard⟩:=o
 unfold opQ at h
 cases op<;>simp only at h<;>try exact h.elim
 case pick=>exact Sp.sq h
 case nilCheck=>exact Sp.sq h
 case binOp=>exact Sp.sq h
 case unOp=>exact Sp.sq h
 case convert=>exact Sp.sq h
 case makeInterface=>exact Sp.sq h
 case makeFunc fn l r=>rw[Qx9,Qx9] at h;simp only[execOp];exact Sp.sq h
 case slice t x lo hi mx=>
  have:∀z:Option Operand,oarr ρ z=z.map ρ:=fun z=>by cases z<;>rfl
  rw[this,this,this] at h
  simp only[execOp]
  exact Sp.sq h
 case fieldAddr=>exact h
 case field=>exact Sp.sq h
 case indexAddr=>exact Sp.sq h
 case index=>exact Sp.sq h
 case extract=>exact Sp.sq h
 case typeAssert=>exact Sp.sq h
 case build t ps=>rw[QFS] at h;simp only[execOp];exact Sp.sq h
 case load=>exact h
 case lookup=>exact h
 case entry=>exact h
 case call c=>
  obtain⟨cal,args,ats⟩:=c
  have key:∀ {b:Builtin}{vs:Array Value}{s:Sem Value},cal=.builtin b→args.map ρ=vs→(builtin b ats type (args.map Qh8) vs=nv s)→Sq P D (nv s) K→Sq P D (execOp ρ { dst:=dst,op:=.call { callee:=cal,args:=args,argTypes:=ats },type:=type,pos:=pos,after:=after,guard:=guard }) K:=by
   intro b vs s hc hv hb hk
   subst hc
   have:=QGF (ρ:=ρ) (o:={ dst:=dst,op:=.call { callee:=.builtin b,args:=args,argTypes:=ats },type:=type,pos:=pos,after:=after,guard:=guard }) (b:=b) (l:=args.toList) (ats:=ats) (by simp)
   rw[this]
   simp only[←Array.toList_map,Array.toArray_toList]
   rw[hv,hb]
   exact hk
  have one:∀ {x:Operand},args.toList=[x]→args.map ρ=#[ρ x]:=fun {x} hl=>by
   have:args=#[x]:=by apply Array.ext';simpa using hl
   subst this;simp
  cases cal with
  | builtin b=>
   cases b<;>simp only at h<;>try exact h.elim
   ·split at h
    ·rename_i x hl
     exact key (b:=.cap) (s:=Builtin.cap_ ats type #[ρ x]) rfl (one hl) rfl (Sp.sq h)
    ·exact h.elim
   ·split at h
    ·rename_i x hl
     cases hm:isMap P (ats.getD 0 0)<;>rw[hm] at h
     ·exact key (b:=.len) (s:=Builtin.len_ ats type #[ρ x]) rfl (one hl) rfl (Sp.sq h)
     ·exact key (b:=.len) (s:=Builtin.len_ ats type #[ρ x]) rfl (one hl) rfl h
    ·exact h.elim
   ·exact key (b:=.max) (s:=Builtin.max_ ats type (arr ρ args)) rfl (Qx9 args).symm rfl (Sp.sq h)
   ·exact key (b:=.min) (s:=Builtin.min_ ats type (arr ρ args)) rfl (Qx9 args).symm rfl (Sp.sq h)
  | value f=>exact h.elim
  | invoke r m=>exact h.elim
theorem QrR [Gd]{P:Program}{ρ:Operand→Value}{o:Oper}{h:Heap}{K:Value→Heap→Prop}(hx:opX P ρ o h K):Sx P (execOp ρ o) h K:=by
 obtain⟨dst,op,type,pos,after,guard⟩:=o
 unfold opX at hx
 cases op<;>simp only at hx<;>try exact hx.elim
 case convert=>exact hx
 case panic=>exact hx
 case alloc=>exact hx
 case box=>exact hx
 case buildSlice t k ps=>rw[QFS] at hx;simp only[execOp];exact hx
 case store=>exact hx
 case makeMap t r=>
  cases r<;>exact hx
 case makeSlice=>exact hx
 case mapUpdate=>exact hx
 case insert=>exact hx
 case mapEntry=>exact hx
 case entryStore=>exact hx
 case range=>exact hx
 case next=>exact hx
 case call c=>
  obtain⟨cal,args,ats⟩:=c
  have key:∀ {b:Builtin}{s:Sem Value},cal=.builtin b→(builtin b ats type (args.map Qh8) (arr ρ args)=nv s)→Sx P (nv s) h K→Sx P (execOp ρ { dst:=dst,op:=.call { callee:=cal,args:=args,argTypes:=ats },type:=type,pos:=pos,after:=after,guard:=guard }) h K:=by
   intro b s hc hb hk
   subst hc
   have:=QGF (ρ:=ρ) (o:={ dst:=dst,op:=.call { callee:=.builtin b,args:=args,argTypes:=ats },type:=type,pos:=pos,after:=after,guard:=guard }) (b:=b) (l:=args.toList) (ats:=ats) (by simp)
   rw[this]
   rw[show (List.map Qh8 args.toList).toArray=args.map Qh8 by simp[←Array.toList_map],show (List.map ρ args.toList).toArray=arr ρ args from rfl,hb]
   exact hk
  cases cal with
  | value f=>
   rw[QI9 (f:=f) (l:=args.toList) (ats:=ats) (by simp)]
   exact hx
  | invoke r m=>
   rw[QGE (f:=r) (m:=m) (l:=args.toList) (ats:=ats) (by simp)]
   exact hx
  | builtin b=>
   cases b<;>simp only at hx<;>try exact hx.elim
   ·exact key (b:=.append) (s:=Builtin.append_ ats type (arr ρ args)) rfl rfl hx
   ·exact key (b:=.clear) (s:=Builtin.clear_ ats type (arr ρ args)) rfl rfl hx
   ·exact key (b:=.copy) (s:=Builtin.copy_ ats type (arr ρ args)) rfl rfl hx
   ·exact key (b:=.delete) (s:=Builtin.delete_ ats type (arr ρ args)) rfl rfl hx
end Go.Sh
