import Derived.Test.YtemffgbncjnmkaaGreatVl
import Derived.Lib.AppendZeros
set_option linter.unusedVariables false
set_option linter.unusedSectionVars false
set_option linter.unusedSimpArgs false
namespace Go.Va
open Go Go.Sh
variable [Vb]
variable {P:Program}
theorem QGe [Gd]{E:Env}{th:TH}{h0 h:Heap}{L:List HP}(r:Rep E th h0 h L){t kt et:TypeId}{d:KD}(hu:P.underlying t=some (.map kt et)){q:Option Value}(hq:q=none∨∃k n,q=some (.int k n))
  {K:FV→TH→Prop} (d0:d.u=0) (k:K (.map th.nx) (th.new (.map d []))):QFZ P t q h (Post E h0 L K):=by
 haveI:Und P t (.map kt et):=⟨hu⟩
 intro w hw
 have hrun:(Instr.makeMap t q).run P w=.ok (.map (some w.heap.size)) { w with heap:=w.heap.push (.map #[] 0) }:=by
  rcases hq with rfl | ⟨k,n,rfl⟩
  ·simp[Instr.makeMap,newObj,Sem.run]
  ·simp[Instr.makeMap,newObj,Sem.run,Und.run,asInt,asIntOf]
 rw[QA hrun]
 refine⟨⟨rfl,rfl,rfl,fun _=>Nat.le_refl _⟩,?_⟩
 rw[hw]
 have s:=r.st.new (A':=MapU d (.map (some h.size)) []) (h':=h.push (.map #[] 0)) (by simp) (fun b hb=>QpH b hb) ⟨⟨rfl,by simp,by simp,by simp⟩,h.size,rfl,⟨Nat.le_refl _,by simp⟩,by simp[Mk.ents,d0]⟩
 obtain⟨h1,h2⟩:=Rep.addM (d:=d) (a:=⟨h.size,0,none⟩) r.fr r.eh r.nx s
 exact⟨_,_,_,h1,by simp[den,Env.add],h2,k⟩
theorem QGb [Gd]{E:Env}{th:TH}{h0 h:Heap}{L:List HP}(r:Rep E th h0 h L){t kt et:TypeId}{d:KD}(hu:P.underlying t=some (.map kt et))(hd:kdO P kt=some d){x k v:FV}{a b c:Value}
  (ha:den E x=some a) (hb:den E k=some b) (hc:den E v=some c) {K:FV→TH→Prop} (hx:mupF d x k v th K):oUpd P t a b c h (Post E h0 L K):=by
 haveI:Und P t (.map kt et):=⟨hu⟩
 cases x<;>simp only[mupF] at hx<;>try (exact hx.elim)
 rename_i i
 cases hg:th.t.get i with
 | none=>rw[hg] at hx;exact hx.elim
 | some o=>
  rw[hg] at hx
  rcases o with⟨cs,kk⟩ | ⟨d',m⟩ | ⟨ii,cc,bb⟩ | ⟨rr⟩
  case row=>first | exact hx.elim | cases hx
  case mp=>first | exact hx.elim | cases hx
  case mf=>first | exact hx.elim | cases hx
  case im=>first | exact hx.elim | cases hx
  ·exact hx.elim
  ·simp only at hx
   obtain⟨hbb,hy⟩:=Q1 hx
   simp only[Bool.and_eq_true] at hbb
   have e:=QIa hbb.1
   subst e
   obtain⟨q,h1,h2,rfl⟩:=QyK hbb.2 hb
   obtain⟨ad,hp,rfl⟩:=QeF ha
   obtain⟨ad',l,g1,g2,s⟩:=r.toldM hg
   rw[hp] at g1;simp only[Option.some.injEq] at g1;subst g1
   rw[←QxY] at g2
   refine Mk.oUpd_own (Qr2 hd) h2 (Qy6 g2) s fun h' st' c2 e1 e2 s'=>?_
   have e3:st'=(List.range (Mk.ups l q c).length).map (d'.u+·)∧c2=d'.u+(Mk.ups l q c).length:=by
    cases hl:Mk.look l q with
    | none=>
     obtain⟨f1,f2,f3⟩:=e2 hl
     rw[f1,f2,f3];exact⟨by rw[List.range_succ,List.map_append];rfl,rfl⟩
    | some y=>
     obtain⟨f1,f2,f3⟩:=e1 (by rw[hl];rfl)
     rw[f1,f2,f3];exact⟨rfl,rfl⟩
   obtain⟨rfl,rfl⟩:=e3
   have hden:=QFy h1 hc g2
   rw[QxY] at hden
   have s2:St h0 h' (part E (i,.map d' (upM k v m))::((th.t.del i).all.map (part E)++(FzP E.z::L))):=s'.imp fun S ho=>⟨(ad,Mk.ups l q c),⟨hp,hden⟩,ho⟩
   exact Post.same (Qhv E) (Rep.put hg s2 r.fr r.eh) hy
  ·exact hx.elim
  ·exact hx.elim
theorem QFN [Gd]{E:Env}{th:TH}{h0 h:Heap}{L:List HP}(r:Rep E th h0 h L){t kt et:TypeId}(hu:P.underlying t=some (.map kt et)){x:FV}{a:Value}(ha:den E x=some a){K:FV→TH→Prop}(hx:rngF x th K) :
  QoH P t a h (Post E h0 L K):=by
 haveI:Und P t (.map kt et):=⟨hu⟩
 cases x<;>simp only[rngF] at hx<;>try (exact hx.elim)
 rename_i i
 cases hg:th.t.get i with
 | none=>rw[hg] at hx;exact hx.elim
 | some o=>
  rw[hg] at hx
  rcases o with⟨cs,kk⟩ | ⟨d,m⟩ | ⟨ii,cc,bb⟩ | ⟨rr⟩<;>try (exact hx.elim)
  simp only at hx
  obtain⟨ad,hp,rfl⟩:=QeF ha
  obtain⟨ad',l,g1,g2,hok,q,e,hb⟩:=r.readM hg
  rw[hp] at g1;simp only[Option.some.injEq] at g1;subst g1
  simp only[Value.map.injEq,Option.some.injEq] at e
  rw[←e] at hb
  intro w hw
  rw[←hw] at hb
  have hrun:(Instr.range t (.map (some ad.block))).run P w=.ok (.pointer (some ⟨w.heap.size,0,none⟩)) { w with heap:=w.heap.push (.mapIter (some ad.block) (d.u+l.length) #[] (d.u+l.length)) }:=by
   unfold Instr.range
   simp[Und.run,Qay (P:=P) hb (by simp),newObj,Sem.run]
  rw[QA hrun]
  refine⟨⟨rfl,rfl,rfl,fun _=>Nat.le_refl _⟩,?_⟩
  rw[hw]
  have s:=r.st.new (A':=ItB ⟨h.size,0,none⟩ ad.block (Nat.add d.u m.length) []) (h':=h.push (.mapIter (some ad.block) (d.u+l.length) #[] (d.u+l.length))) (by simp) (fun b hb=>QpH b hb) ⟨h.size,rfl,⟨Nat.le_refl _,by simp⟩,by simp[QmP g2]⟩
  have hle:=Env.le_add (E:=E) (i:=th.nx) (⟨h.size,0,none⟩:Addr) 0 (r.fr _ (Nat.le_refl _))
  obtain⟨h1,h2⟩:=Rep.addO (o:=.it i (Nat.add d.u m.length) []) (a:=⟨h.size,0,none⟩) r.fr r.eh r.nx s fun S hS=>⟨(⟨h.size,0,none⟩,ad),⟨by simp[Env.add],(hle.p.a i ad hp).1⟩,hS⟩
  exact⟨_,_,_,h1,by simp[den,Env.add,Addr.add],h2,hx⟩
theorem QHo [Gd]{ty:TypeId}{h:Heap}{i r c:Nat}{es:List MapEntry}{sn:List Nat}{K:Value→Heap→Prop}(hb:h[r]?=some (.map es.toArray c))(hi:h[i]?=some (.mapIter (some r) c sn.toArray c))(hborn:∀e∈es,e.born<c)
    (gdone:(∀e∈es,e.born∈sn)→K (.tuple #[.bool false]) h)
    (gnext:∀e∈es,e.born ∉ sn→K (.tuple #[.bool true,e.key,e.val]) (setB h i (.mapIter (some r) c (sn++[e.born]).toArray c))):Qtv P (.pointer (some ⟨i,0,none⟩)) false ty h K:=by
  intro w hw
  have hbw:w.heap[r]?=some (.map es.toArray c):=by rw[hw];exact hb
  have hiw:w.heap[i]?=some (.mapIter (some r) c sn.toArray c):=by rw[hw];exact hi
  have hlate:(!sn.toArray.isEmpty&&!es.toArray.isEmpty&&es.toArray.all (fun e=>decide (e.born ≥ c)))=false:=by
    cases he:es with
    | nil=>simp
    | cons e l=>
      have:=hborn e (by rw[he];simp)
      simp[show ¬c≤e.born from by omega]
  generalize hleft:(es.toArray.filter fun e=>!sn.toArray.contains e.born)=left
  have hold:left.filter (fun e=>decide (e.born<c))=left:=by
    rw[Array.filter_eq_self]
    intro e he
    rw[←hleft] at he
    have:=hborn e (by simpa using (Array.mem_filter.1 he).1)
    simpa using this
  have hnew:left.filter (fun e=>decide (e.born ≥ c))=#[]:=by
    rw[Array.filter_eq_empty_iff]
    intro e he
    rw[←hleft] at he
    have:=hborn e (by simpa using (Array.mem_filter.1 he).1)
    simp;omega
  have hcand:∀e∈left,e∈es∧e.born ∉ sn:=by
    intro e he
    rw[←hleft] at he
    obtain⟨h1,h2⟩:=Array.mem_filter.1 he
    exact⟨by simpa using h1,by simpa [Array.contains_eq_mem] using h2⟩
  have hdone:left=#[]→∀e∈es,e.born∈sn:=by
    intro hl e he
    by_cases hin:e.born∈sn
    · exact hin
    · exfalso
      have:e∈left:=by
        rw[←hleft,Array.mem_filter]
        exact⟨by simpa using he,by simp[Array.contains_eq_mem,hin]⟩
      rw[hl] at this
      simp at this
  have hgo:=Qay (P:=P) hiw (by simp)
  have hgm:=Qay (P:=P) hbw (by simp)
  generalize hcands:((if left.isEmpty then #[none] else #[])++left.map some:Array (Option MapEntry))=cands
  have hrun:∀n w',(choose (.mapNext cands.size)).run P w=.ok n w'→(Instr.next (.pointer (some ⟨i,0,none⟩)) false ty).run P w =
      (match cands[n]? with
       | some (some e)=>do
         setObj i (.mapIter (some r) c (sn.toArray.push e.born) c)
         pure (.tuple #[.bool true,e.key,e.val])
       | some none=>pure (.tuple #[.bool false])
       | none=>stuck "Next: no such candidate" : Sem Value).run P w':=by
    intro n w' hch
    unfold Instr.next
    simp only[Sem.run_bind,hgo,Result.andThen_ok,hgm,hlate,Bool.false_eq_true,if_false,hleft,hold,hnew,Array.append_empty,hcands,hch]
    rfl
  have hsz:0<cands.size:=by
    rw[←hcands]
    by_cases hl:left=#[]
    · subst hl;simp
    · have:0<left.size:=by
        rcases Nat.eq_zero_or_pos left.size with h | h
        · exact absurd (Array.eq_empty_of_size_eq_zero h) hl
        · exact h
      simp;omega
  obtain⟨n,w',hch,hsw,hhw,hn⟩:∃n w',(choose (.mapNext cands.size)).run P w=.ok n w'∧Qx w w'∧w'.heap=w.heap∧n<cands.size:=by
    by_cases hf:cands.size≤1
    · exact⟨0,w,by simp[choose,Sem.run,Question.forced,hf],.refl _,rfl,hsz⟩
    · exact⟨w.tape w.drawn (.mapNext cands.size) % cands.size,{ w with drawn:=w.drawn+1 },by simp only[choose,Sem.run,Question.forced,hf,Question.cut,decide_false,Bool.false_eq_true,if_false],⟨rfl,rfl,rfl,fun _=>by first | exact Nat.le_refl _ | exact Nat.le_succ _ | exact Nat.le_add_right _ _⟩,rfl,Nat.mod_lt _ hsz⟩
  have hr2:=hrun n w' hch
  obtain⟨cand,hcand'⟩:∃cand,cands[n]?=some cand:=⟨_,Array.getElem?_eq_getElem hn⟩
  rw[hcand'] at hr2
  have hmemc:cand∈cands:=Array.mem_of_getElem? hcand'
  rw[←hcands] at hmemc
  cases cand with
  | none=>
    have hl:left=#[]:=by
      by_cases hl:left=#[]
      · exact hl
      · exfalso
        have:left.isEmpty=false:=by simpa using hl
        simp[this] at hmemc
    simp only[Sem.run_pure] at hr2
    rw[QA hr2]
    exact⟨hsw,by rw[hhw,hw];exact gdone (hdone hl)⟩
  | some e=>
    have he:e∈left:=by
      rcases Array.mem_append.1 hmemc with h | h
      · split at h<;>simp at h
      · simpa using h
    obtain⟨h1,h2⟩:=hcand e he
    have hset:=Qf1 (P:=P) (w:=w') (o':=.mapIter (some r) c (sn.toArray.push e.born) c) (by rw[hhw];exact hiw) (by simp)
    rw[Sem.run_bind,hset,Result.andThen_ok] at hr2
    simp only[Sem.run_pure,hhw] at hr2
    rw[QA hr2]
    refine⟨⟨hsw.os,hsw.tape,hsw.output,hsw.drawn⟩,?_⟩
    show K _ (setB w.heap i _)
    rw[hw]
    have e2:(sn++[e.born]).toArray=sn.toArray.push e.born:=by simp
    rw[←e2]
    exact gnext e h1 h2
theorem QyW:∀ {l:List (Mk.MK×Value)}{u:Nat}{e:MapEntry},e∈Mk.ents l ((List.range l.length).map (u+·))↔∃n p,l[n]?=some p∧e=⟨Mk.kV p.1,p.2,u+n⟩:=by
 intro l u e
 unfold Mk.ents
 rw[List.mem_map]
 constructor
 ·rintro⟨⟨p,s⟩,h,rfl⟩
  obtain⟨n,hn⟩:=List.getElem?_of_mem h
  rw[List.getElem?_zip_eq_some] at hn
  obtain⟨h1,h2⟩:=hn
  have hlt:n<l.length:=(List.getElem?_eq_some_iff.1 h1).1
  rw[List.getElem?_map,List.getElem?_range hlt] at h2
  simp only[Option.map_some,Option.some.injEq] at h2
  exact⟨n,p,h1,by rw[←h2]⟩
 ·rintro⟨n,p,h,rfl⟩
  have hlt:n<l.length:=(List.getElem?_eq_some_iff.1 h).1
  refine⟨(p,u+n),List.mem_of_getElem? (i:=n) ?_,rfl⟩
  rw[List.getElem?_zip_eq_some]
  exact⟨h,by rw[List.getElem?_map,List.getElem?_range hlt];rfl⟩
theorem Qzj {b:List Nat}:∀ {n u:Nat},allN b n u=true↔∀k,k<n→u+k∈b
 | 0,u=>by simp[allN]
 | n+1,u=>by
  unfold allN
  cases hc:b.contains u with
  | true=>
   have hm:u∈b:=by simpa using hc
   simp only[cond_true]
   rw[Qzj]
   constructor
   ·intro h k hk
    match k with
    | 0=>exact hm
    | k+1=>have:=h k (by omega);rwa [show u.succ+k=u+(k+1) by omega] at this
   ·intro h k hk
    have:=h (k+1) (by omega)
    rwa [show u+(k+1)=u.succ+k by omega] at this
  | false=>
   have hm:u ∉ b:=by simpa using hc
   simp only[cond_false]
   exact⟨fun h=>(nomatch h),fun h=>absurd (h 0 (by omega)) hm⟩
theorem QBZ {j i c:Nat}{b:List Nat}{th:TH}{K:FV→TH→Prop}:∀ {m:List (FV×FV)}{u n:Nat}{p:FV×FV},nxtL j i c b th K m u→m[n]?=some p→u+n ∉ b→K (.tup [.bool true,p.1,p.2]) (th.set j (.it i c (b++[u+n])))
 | q::m,u,0,p,h,hp,hn=>by
  simp only[List.getElem?_cons_zero,Option.some.injEq] at hp;subst hp
  have hc:b.contains u=false:=by simpa using hn
  have:=h.1
  rw[hc] at this
  exact this
 | q::m,u,n+1,p,h,hp,hn=>by
  have e:u+(n+1)=u.succ+n:=by omega
  rw[e] at hn ⊢
  exact QBZ h.2 (by simpa using hp) hn
 | [],u,n,p,h,hp,hn=>by simp at hp
theorem QEo {E:Env}{d:KD}:∀ {m:List (FV×FV)}{l:List (Mk.MK×Value)}{n:Nat}{p:FV×FV},denM E d m=some l→m[n]?=some p→∃k v,l[n]?=some (k,v)∧den E p.1=some (Mk.kV k)∧den E p.2=some v
 | q::m,l,0,p,h,hp=>by
  simp only[List.getElem?_cons_zero,Option.some.injEq] at hp;subst hp
  obtain⟨k,v,l',h1,h2,h3,rfl⟩:=Qd6 h
  exact⟨k,v,rfl,(QtD h1).2 E,h2⟩
 | q::m,l,n+1,p,h,hp=>by
  obtain⟨k,v,l',h1,h2,h3,rfl⟩:=Qd6 h
  obtain⟨k',v',q1,q2,q3⟩:=QEo (m:=m) (l:=l') (n:=n) h3 (by simpa using hp)
  exact⟨k',v',by simpa using q1,q2,q3⟩
 | [],l,n,p,h,hp=>by simp at hp
theorem QF9 [Gd]{E:Env}{th:TH}{h0 h:Heap}{L:List HP}(r:Rep E th h0 h L){ty:TypeId}{x:FV}{a:Value}(ha:den E x=some a){K:FV→TH→Prop}(hx:nxtF x th K) :
  Qtv P a false ty h (Post E h0 L K):=by
 cases x<;>simp only[nxtF] at hx<;>try (exact hx.elim)
 rename_i j o
 cases o with
 | succ o=>exact hx.elim
 | zero=>
  simp only at hx
  cases hg:th.t.get j with
  | none=>rw[hg] at hx;exact hx.elim
  | some ob=>
   rw[hg] at hx
   rcases ob with⟨cs,kk⟩ | ⟨dd,mm⟩ | ⟨i,c,b⟩ | ⟨rr⟩<;>try (exact hx.elim)
   simp only at hx
   cases hg2:th.t.get i with
   | none=>rw[hg2] at hx;exact hx.elim
   | some ob=>
    rw[hg2] at hx
    rcases ob with⟨cs,kk⟩ | ⟨d,m⟩ | ⟨ii,cc,bb⟩ | ⟨rr⟩<;>try (exact hx.elim)
    simp only at hx
    obtain⟨hb1,hx⟩:=Q1 hx
    have hc:=Qm hb1
    subst hc
    obtain⟨i0,ad,h1,h2,hi⟩:=r.readI hg
    obtain⟨ad',l,g1,g2,hok,q,e,hb⟩:=r.readM hg2
    rw[h2] at g1;simp only[Option.some.injEq] at g1;subst g1
    simp only[Value.map.injEq,Option.some.injEq] at e
    rw[←e] at hb
    simp only[den,h1,Option.some.injEq] at ha;subst ha
    intro w hw
    have hi0:=hi
    rw[←hw] at hb hi
    show Qd9 P _ w ((nv (Instr.next (.pointer (some ⟨i0,0,none⟩)) false ty)).run P w)
    subst hw
    have hlen:=QmP g2
    have hborn:∀e∈Mk.ents l ((List.range l.length).map (d.u+·)),e.born<d.u+l.length:=fun e he=>by
     obtain⟨n,p,hn,rfl⟩:=QyW.1 he
     have:n<l.length:=(List.getElem?_eq_some_iff.1 hn).1
     show d.u+n<d.u+l.length
     omega
    have hcl:Nat.add d.u m.length=d.u+l.length:=by show d.u+m.length=_;omega
    refine QHo hb (by rw[←hcl];exact hi) hborn (fun hall=>?_) (fun e he hn=>?_) w rfl
    ·have ha:allN b m.length d.u=true:=Qzj.2 fun k hk=>by
      have hk':k<l.length:=by omega
      exact hall _ (QyW.2 ⟨k,l[k],List.getElem?_eq_getElem hk',rfl⟩)
     rw[ha] at hx
     exact Post.same (x:=.tup [.bool false]) (by simp[den,denL]) r hx
    ·obtain⟨n,p,hnp,rfl⟩:=QyW.1 he
     have hlt:n<m.length:=by have:=(List.getElem?_eq_some_iff.1 hnp).1;omega
     have ha:allN b m.length d.u=false:=by
      cases hc:allN b m.length d.u with
      | false=>rfl
      | true=>exact absurd (Qzj.1 hc n hlt) hn
     rw[ha] at hx
     have hk:=QBZ (p:=m[n]) hx (List.getElem?_eq_getElem hlt) hn
     obtain⟨k,v,q1,q2,q3⟩:=QEo g2 (List.getElem?_eq_getElem hlt)
     rw[hnp] at q1;simp only[Option.some.injEq] at q1;subst q1
     obtain⟨a',m',e1,e2,s⟩:=r.toldI hg
     rw[h1] at e1;simp only[Option.some.injEq] at e1;subst e1
     rw[h2] at e2;simp only[Option.some.injEq] at e2;subst e2
     have s2:St h0 (setB w.heap i0 (.mapIter (some ad.block) (d.u+l.length) (b++[d.u+n]).toArray (d.u+l.length))) (ItB ⟨i0,0,none⟩ ad.block (Nat.add d.u m.length) (b++[d.u+n])::((th.t.del j).all.map (part E)++(FzP E.z::L))):=St.step s fun S' hA' hS'=>by
      obtain⟨i',ei,hSi,_⟩:=hA'
      simp only[Addr.mk.injEq,and_true] at ei
      subst ei
      exact⟨by rw[QeJ];exact Nat.le_refl _,fun b _ hb=>Qda (fun e=>hb (e ▸ hSi)),S',⟨i0,rfl,hSi,by rw[hcl];exact Qe6 (lt_of_some hi0)⟩,fun b hb=>.inl hb⟩
     have s3:St h0 (setB w.heap i0 (.mapIter (some ad.block) (d.u+l.length) (b++[d.u+n]).toArray (d.u+l.length))) (part E (j,.it i (Nat.add d.u m.length) (b++[d.u+n]))::((th.t.del j).all.map (part E)++(FzP E.z::L))):=s2.imp fun S ho=>⟨(⟨i0,0,none⟩,ad),⟨h1,h2⟩,ho⟩
     exact Post.same (x:=.tup [.bool true,(m[n]).1,(m[n]).2]) (by simp[den,denL,q2,q3]) (Rep.put hg s3 r.fr r.eh) hk
theorem QB4 {t:Nat}:∀ {l:List IM}{p:IM},lkI t l=some p→p∈l∧p.t=t
 | q::r,p,h=>by
  simp only[lkI] at h
  cases hb:Nat.beq q.t t with
  | true=>rw[hb] at h;simp only[cond_true,Option.some.injEq] at h;subst h;exact⟨.head _,Qm hb⟩
  | false=>rw[hb] at h;obtain⟨h1,h2⟩:=QB4 h;exact⟨.tail _ h1,h2⟩
theorem QGy {name:String}{t:Nat}{p:IM}(h:invE P name t=some p):p.t=t∧∃i m ptr e,P.info? t=some i∧i.methods.find? (·.name == name)=some m∧m.path.toList=[]∧m.func=some (p.f,ptr)∧P.underlying t=some (.pointer e) ∧
  ((ptr=true∧p.d=false)∨(ptr=false∧p.d=true∧p.k=1∧p.a=false∧agO P e=some false)):=by
 unfold invE at h
 cases hi:P.info? t with
 | none=>rw[hi] at h;cases h
 | some i=>
  rw[hi] at h
  simp only at h
  cases hm:i.methods.find? (·.name == name) with
  | none=>rw[hm] at h;cases h
  | some m=>
   rw[hm] at h
   simp only at h
   cases hp:m.path.toList with
   | cons _ _=>rw[hp] at h;cases h
   | nil=>
    rw[hp] at h
    simp only at h
    cases hf:m.func with
    | none=>rw[hf] at h;cases h
    | some q=>
     rw[hf] at h
     simp only at h
     cases hu:P.underlying t with
     | none=>rw[hu] at h;cases h
     | some d=>
      rw[hu] at h
      cases d<;>try (cases h;done)
      rename_i e
      obtain⟨f,ptr⟩:=q
      cases ptr with
      | true=>
       simp only[Option.some.injEq] at h
       subst h
       exact⟨rfl,i,m,true,e,rfl,hm,hp,hf,rfl,.inl ⟨rfl,rfl⟩⟩
      | false=>
       simp only at h
       obtain⟨b,hb,h⟩:=bind_some h
       cases b with
       | true=>cases h
       | false=>
        simp only[Option.some.injEq] at h
        subst h
        exact⟨rfl,i,m,false,e,rfl,hm,hp,hf,rfl,.inr ⟨rfl,rfl,rfl,rfl,hb⟩⟩
theorem QER {t:TypeId}{name:String}{i:TypeInfo}{m:Method}{f:FuncId}{ptr:Bool}(hi:P.info? t=some i)(hm:i.methods.find? (·.name == name)=some m)(hp:m.path.toList=[])(hf:m.func=some (f,ptr)){v x:Value}{l:Array Value}{w:World}
  (hx:∀s,(receiverAt t (.val v) ptr (some s)).run P w=.ok x w):(Qkf (.iface t v) name l).run P w=(callFunc f (#[x]++l)).run P w:=by
 have hp':m.path=#[]:=by
  cases hpp:m.path;rw[hpp] at hp;simp only at hp;rw[hp]
 have h0:(#[(Value.iface t v)]++l)[0]?=some (.iface t v):=by
  rw[Array.getElem?_append_left (by simp)];rfl
 have h1:(#[(Value.iface t v)]++l).extract 1 (#[(Value.iface t v)]++l).size=l:=by
  apply Array.ext'
  simp
 obtain⟨k,hk⟩:∃k,P.types.size+Made.depth=k+1:=⟨P.types.size+Made.depth - 1,by
  have:0<Made.depth:=by decide
  omega⟩
 have hmet:(method (k+1) t v name).run P w=.ok (f,x) w:=by
  simp[method,typeInfo,hi,hm,hp',hf,follow,hx]
 simp only[Qkf,invoke,h0,h1,callMethod]
 rw[Sem.run_bind]
 simp only[run_program,Result.andThen_ok]
 rw[hk,Sem.run_bind,hmet,Result.andThen_ok]
theorem QKp [Gd]{cl:FV→List FV→TH→(FV→TH→Prop)→Prop}(hcl:∀f l th K,cl f l th K→∀E h0 h L fv vs,Rep E th h0 h L→den E f=some fv→denL E l=some vs→Sx P (Qf9 fv vs.toArray) h (Post E h0 L K))
  {E:Env}{th:TH}{h0 h:Heap}{L:List HP} (r:Rep E th h0 h L) {name:String}{t:TypeId}{v:FV}{l:List FV}{a:Value}{vs:List Value} (ha:den E (.ifc t v)=some a) (hl:denL E l=some vs) {K:FV→TH→Prop}{p:IM} (hp:lkI t (invT P name)=some p)
  (hx:match p.d with
   | false=>cl (.fn (.func p.f) [] []) (v::l) th K
   | true=>match ldF th.t p.k p.a v with
    | some u=>cl (.fn (.func p.f) [] []) (u::l) th K
    | none=>False):QyH P a name vs.toArray h (Post E h0 L K):=by
 obtain⟨hm,ht⟩:=QB4 hp
 unfold invT at hm
 rw[List.mem_filterMap] at hm
 obtain⟨t',_,hm⟩:=hm
 obtain⟨e0,i,m,ptr,e,h1,h2,h3,h4,h5,h6⟩:=QGy hm
 rw[e0] at ht;subst ht
 simp only[den] at ha
 cases hv:den E v with
 | none=>rw[hv] at ha;cases ha
 | some vv=>
  rw[hv] at ha;simp only[Option.some.injEq] at ha;subst ha
  haveI:Und P t' (.pointer e):=⟨h5⟩
  have key:∀u x,den E u=some x→(∀w:World,w.heap=h→∀s,(receiverAt t' (.val vv) ptr (some s)).run P w=.ok x w)→cl (.fn (.func p.f) [] []) (u::l) th K→QyH P (.iface t' vv) name vs.toArray h (Post E h0 L K):=fun u x hu hr hc w hw=>by
   rw[QER h1 h2 h3 h4 (fun s=>hr w hw s)]
   have:=hcl _ _ _ _ hc E h0 h L (.func (.func p.f) #[] #[]) (x::vs) r (by simp[den,denL]) (by simp only[denL,hu,hl]) w hw
   have e:(Qf9 (.func (.func p.f) #[] #[]) (x::vs).toArray).run P w=(callFunc p.f (#[x]++vs.toArray)).run P w:=by
    simp[Qf9,Deferred.ofValue,invoke]
   rw[e] at this;exact this
  rcases h6 with⟨rfl,hd⟩ | ⟨rfl,hd,hk,hpa,hag⟩
  ·rw[hd] at hx
   exact key v vv hv (fun w hw s=>by simp[receiverAt,Und.run,Place.get]) hx
  ·rw[hd,hk,hpa] at hx
   simp only at hx
   haveI:=Qjr hag
   cases hld:ldF th.t 1 false v with
   | none=>rw[hld] at hx;exact hx.elim
   | some u=>
    rw[hld] at hx
    cases v<;>try (simp[ldF] at hld;done)
    rename_i j o
    obtain⟨ad,had,rfl⟩:=Qca hv
    have cell:∃x,den E u=some x∧cellAt h (ad.add o)=some x:=by
     have gen:∀cs:List FV,(∃a vs,E.p j=some a∧denL E cs=some vs∧cs.all oneF=true∧Rd h (.pointer (some a)) vs)→ldG 1 false o cs=some u→∃x,den E u=some x∧cellAt h (ad.add o)=some x:=by
      rintro cs ⟨a,vs,q1,q2,q3,q4⟩ hh
      rw[q1] at had;simp only[Option.some.injEq] at had;subst had
      obtain⟨x,q5,q6⟩:=Qji q2 (QeW hh)
      exact⟨x,q6,Qtr q4 o x q5⟩
     simp only[ldF] at hld
     cases hg:th.t.get j with
     | none=>rw[hg] at hld;cases hld
     | some ob=>
      rw[hg] at hld
      rcases ob with⟨cs,kk⟩ | ⟨dd,mm⟩ | ⟨ii,cc,bb⟩ | ⟨rr⟩
      ·exact gen cs (r.read hg) hld
      ·cases hld
      ·cases hld
      ·exact gen rr (r.readR hg) hld
      ·cases hld
      ·cases hld
      ·cases hld
      ·cases hld
    obtain⟨x,hx1,hx2⟩:=cell
    refine key u x hx1 (fun w hw s=>?_) hx
    have hlv:(loadVar e (ad.add o)).run P w=.ok x w:=QrJ (by rw[hw];exact hx2)
    have hwn:(Builtin.ssaWrapNilChk_ #[t'] t' #[.pointer (some (ad.add o)),strVal "",strVal s]).run P w=.ok (.pointer (some (ad.add o))) w:=rfl
    simp[receiverAt,Und.run,Place.get,hwn,asAddr,hlv]
theorem QGV [Gd]{E:Env}{th:TH}{h0 h:Heap}{L:List HP}(r:Rep E th h0 h L){t t' e ty:TypeId}{kk:IntKind}{z:List FV}{i:TypeInfo}(hu:P.underlying t=some (.slice e))(hu':P.underlying t'=some (.int kk))(hz:zrO P e=some z)(hi:P.info? e=some i)
  (hp:0<z.length) {n:Nat} (hn:0<n) (hb:n * i.bytes≤140737488355328) (hb2:n≤4611686018427387904) {K:FV→TH→Prop} (k:K (.sl th.nx 0 0 n (.hid 0)) (th.new (.cells (repF z n) z.length))) :
  QbY P #[t,t'] ty #[.slice none 0 0,.int .i64 n] h (Post E h0 L K):=by
 obtain⟨i',zv,h1,h2,h3,h4,h5,h6⟩:=Qe5 hz
 rw[hi] at h1;simp only[Option.some.injEq] at h1;subst h1
 intro w hw
 have hr1:=Go.Lib.run_append_nil_zeros (P:=P) w t t' ty e i zv .i64 kk hu hu' hi h2 n hn (by omega) (by omega) (by omega)
 rw[QA hr1]
 refine⟨⟨rfl,rfl,rfl,fun _=>by first | exact Nat.le_refl _ | exact Nat.le_succ _ | exact Nat.le_add_right _ _⟩,?_⟩
 show Post E h0 L K _ (w.heap.push _)
 have hge:=grownCap_ge w n 0 e
 have hzl:zv.cells.toList.length=z.length:=QS (Qcf E h3)
 have hrd:=QpD (Qcf E h3) (by omega) n
 have e1:Builtin.zeroCells zv.cells n++Builtin.zeroCells zv.cells (grownCap w n 0 e - n)=(((List.range (n * zv.cells.toList.length)).map fun j=>zv.cells.toList.toArray[j % zv.cells.toList.length]!)++(Builtin.zeroCells zv.cells (grownCap w n 0 e - n)).toList).toArray:=by
  apply Array.ext'
  simp[Builtin.zeroCells]
 rw[e1,hw]
 refine QpI r hp hrd (QpE h4 n) ?_ hge k
 have e2:(Builtin.zeroCells zv.cells (grownCap w n 0 e - n)).toList.length=(grownCap w n 0 e - n) * i.size:=by rw[Array.length_toList,Qc8,h6]
 rw[List.length_map,List.length_range,e2,hzl,h5,←Nat.add_mul]
 congr 1;omega
end Go.Va
