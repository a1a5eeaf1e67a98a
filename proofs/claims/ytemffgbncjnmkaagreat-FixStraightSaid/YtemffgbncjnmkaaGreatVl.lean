import Derived.Test.YtemffgbncjnmkaaGreatVj
import Derived.Deep.AppendSrc
set_option linter.unusedVariables false
set_option linter.unusedSectionVars false
set_option linter.unusedSimpArgs false
namespace Go.Va
open Go Go.Sh
variable [Vb]
variable {P:Program}
theorem Qtr {h:Heap}{a:Addr}{vs:List Value}(r:Rd h (.pointer (some a)) vs):∀(j:Nat)(y:Value),vs[j]?=some y→cellAt h (a.add j)=some y:=fun j y hy=>by
 obtain⟨a',ha',hc⟩:=r.at hy
 simp only[padd,Value.pointer.injEq,Option.some.injEq] at ha'
 rw[ha'];exact hc
structure App (E:Env)(h:Heap)(k m:Nat)(xs:List FV)(u:Value)(us:List Value):Prop where
 sl:IsSl u m
 len:us.length=m * k
 den:denL E xs=some us
 one:xs.all oneF=true
 nz:0<m→∃a c,u=.slice (some a) m c
 rd:Rd h (Qc1 u) us
theorem QI0 {E:Env}{cs:List LD}{ks:List CK}(h1:wtL cs ks)(h2:Q5 E.rd cs ks):denL E (lvs (.t cs) ks 0)=some (LD.vs ks cs)∧(lvs (.t cs) ks 0).all oneF=true:=by
 obtain⟨vs,e1,e2,e3,e4⟩:=QtB (E:=E) (d:=.t cs) rfl h1 h2 ks 0 (fun j k h=>by simpa using h)
 have:vs=LD.vs ks cs:=by
  have hl:=(QaW h1).1
  apply List.ext_getElem?
  intro j
  by_cases hj:j<ks.length
  ·have h7:vs[j]?=some vs[j]:=List.getElem?_eq_getElem (by omega)
   have:=e4 j _ h7
   rw[Nat.zero_add] at this
   rw[h7];exact this.symm
  ·rw[List.getElem?_eq_none (by omega),List.getElem?_eq_none (by omega)]
 exact⟨by rw[e1,this],e2⟩
theorem QEl {E:Env}{ks:List CK}:∀ {es:List LD},wtE es ks→QI E.rd es ks→denL E (dsC ks es)=some (LD.vsE ks es)∧(dsC ks es).all oneF=true
 | [],_,_=>⟨rfl,rfl⟩
 | e::es,h1,h2=>by
  simp only[wtE,QI] at h1 h2
  have h3:=h1.1
  have h4:=h2.1
  cases e<;>simp only[wtT] at h3
  simp only[Qbz] at h4
  obtain⟨g1,g2⟩:=QI0 h3 h4
  obtain⟨g3,g4⟩:=QEl h1.2 h2.2
  refine⟨?_,by simp only[dsC,List.all_append,g2,g4,Bool.and_self]⟩
  simp only[dsC,LD.vsE,List.flatMap_cons]
  exact Qc7 g1 g3
theorem QEy {E:Env}{th:TH}{h0 h:Heap}{L:List HP}(r:Rep E th h0 h L){k m:Nat}{x:FV}{u:Value}{xs:List FV}(hu:den E x=some u)(hx:appC th.t k x=some (m,xs)):∃us,App E h k m xs u us:=by
 cases x<;>try (simp[appC] at hx;done)
 case nsl=>
  simp only[appC,Option.some.injEq,Prod.mk.injEq] at hx
  obtain⟨rfl,rfl⟩:=hx
  simp only[den,Option.some.injEq] at hu;subst hu
  exact⟨[],⟨⟨_,_,rfl⟩,by simp,rfl,rfl,fun h=>by omega,.nil _ _⟩⟩
 case ds t d=>
  simp only[appC] at hx
  cases hl:lyG t with
  | none=>rw[hl] at hx;cases hx
  | some ks=>
   rw[hl] at hx
   simp only at hx
   cases hb:Nat.beq k ks.length with
   | false=>rw[hb] at hx;cases hx
   | true=>
    rw[hb] at hx
    simp only[cond_true,Option.some.injEq,Prod.mk.injEq] at hx
    obtain⟨rfl,rfl⟩:=hx
    have ek:=Qm hb;subst ek
    obtain⟨f,rfl⟩:=QgG hu
    obtain⟨f1,f2⟩:=f
    rcases d with x1 | x1 | x1 | _ | ⟨x1,x2⟩ | ⟨ad,cap,es⟩ | x1<;>simp only[wt] at f1
    ·exact⟨[],⟨⟨_,_,rfl⟩,by simp[LD.len,LD.es],rfl,rfl,fun h=>by simp[LD.len,LD.es] at h,.nil _ _⟩⟩
    ·simp only[lies] at f2
     rw[QaN hl] at f1 f2
     obtain⟨g1,g2⟩:=QEl f1.2.2.2 f2.2
     exact⟨_,⟨⟨_,_,rfl⟩,QbS f1.2.2.2,g1,g2,fun _=>⟨_,_,rfl⟩,f2.1 h r.fz⟩⟩
 case sl j off offz len cap=>
  simp only[appC] at hx
  cases hb:Nat.beq len 0 with
  | true=>
   rw[hb] at hx
   simp only[cond_true,Option.some.injEq,Prod.mk.injEq] at hx
   obtain⟨rfl,rfl⟩:=hx
   have:=Qm hb;subst this
   obtain⟨a,c,_,rfl,_⟩:=QeE hu
   exact⟨[],⟨⟨_,_,rfl⟩,by simp,rfl,rfl,fun h=>by omega,.nil _ _⟩⟩
  | false=>
   rw[hb] at hx
   have hl:=QlU hb
   obtain⟨a,c,hp,rfl⟩:=Qy5 hu (by omega)
   simp only[cond_false] at hx
   have key:∀cs:List FV,(∃a vs,E.p j=some a∧denL E cs=some vs∧cs.all oneF=true∧Rd h (.pointer (some a)) vs)→appG k off len cs=some (m,xs)→∃us,App E h k m xs (.slice (some (a.add off)) len c) us:=by
    intro cs hr hx
    unfold appG at hx
    cases ht:Qbb (len * k) (Qaz off cs) with
    | none=>rw[ht] at hx;cases hx
    | some l=>
     rw[ht] at hx
     simp only[Option.some.injEq,Prod.mk.injEq] at hx
     obtain⟨rfl,rfl⟩:=hx
     obtain⟨h5,h6⟩:=Qcd ht
     rw[Qbo] at h5 h6
     obtain⟨a',vs,h1,h2,h3,h4⟩:=hr
     rw[hp] at h1;simp only[Option.some.injEq] at h1;subst h1
     have h7:=QfV (len * k) (QeM off h2)
     rw[←h5] at h7
     refine⟨_,⟨⟨_,_,rfl⟩,?_,h7,by rw[h5];exact QmX h3 _ _,fun _=>⟨_,_,rfl⟩,?_⟩⟩
     ·have:=QS h7
      rw[this,h5,List.length_take,Nat.min_eq_left h6]
     ·have:=(h4.drop off).take (len * k)
      exact this
   cases hg:th.t.get j with
   | none=>rw[hg] at hx;cases hx
   | some ob=>
    rw[hg] at hx
    rcases ob with⟨cs,kk⟩ | ⟨dd,mm⟩ | ⟨ii,cc,bb⟩ | ⟨rr⟩
    ·exact key cs (r.read hg) hx
    ·cases hx
    ·cases hx
    ·exact key rr (r.readR hg) hx
    ·cases hx
    ·cases hx
    ·cases hx
    ·cases hx
structure Sr0 (P:Program)(h:Heap)(k m:Nat)(u:Value)(us:List Value):Prop where
 lenO:∀w:World,(Builtin.lenOf u).run P w=.ok m w
 cut:∀n,n≤m→∀w:World,w.heap=h→(Builtin.firstCells k n u).run P w=.ok (us.take (n * k)).toArray w
 len:us.length=m * k
 one:∀y∈us,one y=true
structure Sr (P:Program)(tx:TypeId)(h:Heap)(k m:Nat)(u:Value)(us:List Value):Prop where
 kind:(∃e',P.underlying tx=some (.slice e'))∨P.underlying tx=some .string
 s:Sr0 P h k m u us
theorem Sr0.fst {h:Heap}{k m:Nat}{u:Value}{us:List Value}(s:Sr0 P h k m u us)(w:World)(hw:w.heap=h):(Builtin.firstCells k m u).run P w=.ok us.toArray w:=by
 have:=s.cut m (Nat.le_refl _) w hw
 rwa [←s.len,List.take_length] at this
theorem one_cell {v:Value}(h:one v=true):v.oneCell'=true:=by cases v<;>first | rfl | cases h
theorem Sr.src {tx:TypeId}{h:Heap}{k m:Nat}{u:Value}{us:List Value}(s:Sr P tx h k m u us){w:World}(hw:w.heap=h):Src P k tx u m us w:=
 ⟨s.kind,s.s.lenO,s.s.fst w hw,s.s.fst w.drew (by rw[←hw];rfl),s.s.len,fun y hy=>one_cell (s.s.one y hy)⟩
theorem App.sr {E:Env}{h:Heap}{k m:Nat}{xs:List FV}{u:Value}{us:List Value}(A:App E h k m xs u us):Sr0 P h k m u us:=by
 obtain⟨xa,xc,rfl⟩:=id A.sl
 refine⟨fun _=>rfl,fun n hn w hw=>?_,A.len,Qkm A.den A.one⟩
 have hlen:(us.take (n * k)).length=n * k:=by
  rw[List.length_take,A.len];exact Nat.min_eq_left (Nat.mul_le_mul_right _ hn)
 cases xa with
 | some a=>
  refine run_firstCells_some w k n a m xc _ hlen fun j y hy=>?_
  rw[List.getElem?_take] at hy
  split at hy
  ·rw[Qee,hw];exact Qtr A.rd j y hy
  ·cases hy
 | none=>
  have hus:us=[]:=by
   rcases A.rd with h | ⟨_,_,hp,_⟩
   ·exact h
   ·simp[Qc1] at hp
  subst hus
  simpa using run_firstCells_none (P:=P) w k n m xc
structure AppG (P:Program)(tx:TypeId)(E:Env)(h:Heap)(k m:Nat)(xs:List FV)(u:Value)(us:List Value):Prop where
 sr:Sr P tx h k m u us
 den:denL E xs=some us
 one:xs.all oneF=true
theorem App.g {E:Env}{h:Heap}{k m:Nat}{xs:List FV}{u:Value}{us:List Value}(A:App E h k m xs u us){t e:TypeId}(hu:P.underlying t=some (.slice e)):AppG P t E h k m xs u us:=⟨⟨.inl ⟨e,hu⟩,A.sr⟩,A.den,A.one⟩
theorem QwB [Gd]{E:Env}{th:TH}{h0 h:Heap}{L:List HP}(r:Rep E th h0 h L){t tx e ty:TypeId}{i:TypeInfo}{z:Value}{k:Nat}(hu:P.underlying t=some (.slice e))(hi:P.info? e=some i)(hz:i.zero=some z)(hk:i.size=k)(hzk:z.cells.size=k)(hk0:0<k)
  {a:Addr}{len cap:Nat}{olds:List FV}{os:List Value} (hod:denL E olds=some os) (hoo:olds.all oneF=true) (hol:os.length=len * k) (hor:∀(j:Nat) (y:Value),os[j]?=some y→cellAt h (a.add j)=some y)
  {m:Nat}{xs:List FV}{u:Value}{us:List Value} (A:AppG P tx E h k m xs u us) (hm:0<m) (hg:cap<len+m) (hb:(len+m) * i.bytes≤140737488355328) (hb2:len+m≤4611686018427387904)
  {K:FV→TH→Prop} (kk:K (.sl th.nx 0 0 (len+m) (.hid 0)) (th.new (.cells (olds++xs) k))):QbY P #[t,tx] ty #[.slice (some a) len cap,u] h (Post E h0 L K):=by
 intro w hw
 have hr1:=run_append_grow_src (P:=P) w t tx ty e i z hu hi hz (some a) len cap os (run_firstCells_some w.drew i.size len a len cap os (by rw[hk];exact hol) (fun j y hy=>by show w.cell? _=_;rw[Qee,hw];exact hor j y hy)) u m us (by rw[hk];exact A.sr.src hw) hg (by omega) (growslice_fits hg hb)
 rw[QA hr1]
 refine⟨⟨rfl,rfl,rfl,fun _=>by first | exact Nat.le_refl _ | exact Nat.le_succ _ | exact Nat.le_add_right _ _⟩,?_⟩
 show Post E h0 L K _ (w.heap.push _)
 have e1:(os++us).toArray++Builtin.zeroCells z.cells (grownCap w (len+m) cap e - (len+m))=((os++us)++(Builtin.zeroCells z.cells (grownCap w (len+m) cap e - (len+m))).toList).toArray:=by
  apply Array.ext';simp
 rw[e1,hw]
 have hge:=grownCap_ge w (len+m) cap e
 refine QpI r hk0 (Qc7 hod A.den) (by simp[hoo,A.one]) ?_ hge kk
 rw[List.length_append,hol,A.sr.s.len,Array.length_toList,Qc8,hzk,←Nat.add_mul,←Nat.add_mul]
 congr 1;omega
theorem QJH [Gd]{E:Env}{th:TH}{h0 h:Heap}{L:List HP}(r:Rep E th h0 h L){t tx e ty:TypeId}{i:TypeInfo}{z:Value}{k:Nat}(hu:P.underlying t=some (.slice e))(hi:P.info? e=some i)(hz:i.zero=some z)(hk:i.size=k)(hzk:z.cells.size=k)(hk0:0<k)
  {m:Nat}{xs:List FV}{u:Value}{us:List Value} (A:AppG P tx E h k m xs u us) (hm:0<m) (hb:m * i.bytes≤140737488355328) (hb2:m≤4611686018427387904)
  {K:FV→TH→Prop} (kk:K (.sl th.nx 0 0 m (.hid 0)) (th.new (.cells xs k))):QbY P #[t,tx] ty #[.slice none 0 0,u] h (Post E h0 L K):=by
 intro w hw
 have hr1:=run_append_grow_src (P:=P) w t tx ty e i z hu hi hz none 0 0 [] (run_firstCells_none w.drew i.size 0 0 0) u m us (by rw[hk];exact A.sr.src hw) (by omega) (by omega) (growslice_fits (old:=0) (by omega) (by rw[Nat.zero_add];exact hb))
 rw[QA hr1]
 refine⟨⟨rfl,rfl,rfl,fun _=>by first | exact Nat.le_refl _ | exact Nat.le_succ _ | exact Nat.le_add_right _ _⟩,?_⟩
 show Post E h0 L K _ (w.heap.push _)
 simp only[Nat.zero_add,List.nil_append]
 have e1:us.toArray++Builtin.zeroCells z.cells (grownCap w m 0 e - m)=(us++(Builtin.zeroCells z.cells (grownCap w m 0 e - m)).toList).toArray:=by
  apply Array.ext';simp
 rw[e1,hw]
 have hge:=grownCap_ge w m 0 e
 refine QpI r hk0 A.den A.one ?_ hge kk
 rw[A.sr.s.len,Array.length_toList,Qc8,hzk,←Nat.add_mul]
 congr 1;omega
theorem QwA [Gd]{h0 h:Heap}{L':List HP}{t tx e ty:TypeId}{i:TypeInfo}{k:Nat}(hu:P.underlying t=some (.slice e))(hi:P.info? e=some i)(hk:i.size=k)
  {a:Addr}{cs:List Value} (s:St h0 h (Qap (.pointer (some a)) cs::L')) {E:Env}{off len cap m:Nat}{xs:List FV}{u:Value}{us:List Value} (A:AppG P tx E h k m xs u us) (hfit:len+m≤cap) (hin:off+len * k+us.length≤cs.length)
  {K:Value→Heap→Prop} (g:∀h',St h0 h' (Qap (.pointer (some a)) (setAt cs (off+len * k) us)::L')→K (.slice (some (a.add off)) (len+m) cap) h'):QbY P #[t,tx] ty #[.slice (some (a.add off)) len cap,u] h K:=by
 intro w hw
 have h1:=Qkm A.den A.one
 have hf:=A.sr.s.fst w hw
 have hlo:=A.sr.s.lenO w
 obtain⟨_,S,hA,hS,_⟩:=id s
 obtain⟨bb,o,T,l,hp,hbk,hSb,hrun,hown⟩:=Qap.set (P:=P) hA (fun b hb=>(hS b hb).2) (off+len * k) us hin h1
 have ha:(a.add off).add (len * k)=⟨bb,o,none⟩:=by
  rw[add_add]
  simpa [padd] using hp
 have hr1:(Builtin.append_ #[t,tx] ty #[.slice (some (a.add off)) len cap,u]).run P w=.ok (.slice (some (a.add off)) (len+m) cap) { w with heap:=setB h bb (.cells (setAt l.toList o us).toArray T (0,0)) }:=by
  have h2:=hrun w hw
  rcases A.sr.kind with⟨e',hk'⟩ | hk'<;>simp[Builtin.append_,run_underlying hu,run_underlying hk',sizeOf,typeInfo,hi,hk,hlo,hfit,hf,ha,h2]
 rw[QA hr1]
 refine⟨⟨rfl,rfl,rfl,fun _=>by first | exact Nat.le_refl _ | exact Nat.le_succ _ | exact Nat.le_add_right _ _⟩,g _ ?_⟩
 refine St.step s fun S' hA' hS'=>?_
 obtain⟨b',o',T',l',hp',hb',hSb',_,hown2⟩:=Qap.set (P:=P) hA' (fun b hb=>(hS' b hb).2) (off+len * k) us hin h1
 rw[hp] at hp'
 simp only[Value.pointer.injEq,Option.some.injEq,Addr.mk.injEq,and_true] at hp'
 obtain⟨rfl,rfl⟩:=hp'
 rw[hbk] at hb'
 simp only[Option.some.injEq,Obj.cells.injEq,and_true] at hb'
 obtain⟨rfl,rfl⟩:=hb'
 exact⟨by rw[QeJ];exact Nat.le_refl _,fun i _ hi=>Qda (fun e=>hi (e ▸ hSb')),S',hown2,fun i hi=>.inl hi⟩
theorem Qwz [Gd]{E:Env}{th:TH}{h0 h:Heap}{L:List HP}(r:Rep E th h0 h L){t tx e ty:TypeId}{i:TypeInfo}{k:Nat}(hu:P.underlying t=some (.slice e))(hi:P.info? e=some i)(hk:i.size=k)
  {a:Option Addr}{len cap:Nat}{xs:List FV}{u:Value}{us:List Value} (A:AppG P tx E h k 0 xs u us) (hle:len≤cap) {s:FV} (hs:den E s=some (.slice a len cap)) {K:FV→TH→Prop} (kk:K s th):QbY P #[t,tx] ty #[.slice a len cap,u] h (Post E h0 L K):=by
 intro w hw
 have hus:us=[]:=List.length_eq_zero_iff.1 (by rw[A.sr.s.len];omega)
 subst hus
 have hf:=A.sr.s.fst w hw
 have hlo:=A.sr.s.lenO w
 have hr1:(Builtin.append_ #[t,tx] ty #[.slice a len cap,u]).run P w=.ok (.slice a len cap) w:=by
  cases a with
  | none=>rcases A.sr.kind with⟨e',hk'⟩ | hk'<;>simp[Builtin.append_,run_underlying hu,run_underlying hk',sizeOf,typeInfo,hi,hk,hlo,hle,hf]
  | some a=>rcases A.sr.kind with⟨e',hk'⟩ | hk'<;>simp[Builtin.append_,run_underlying hu,run_underlying hk',sizeOf,typeInfo,hi,hk,hlo,hle,hf,storeCells]
 rw[QA hr1]
 exact⟨QBE,by rw[hw];exact Post.same hs r kk⟩
end Go.Va
namespace Go.Va
open Go Go.Sh
variable [Vb]
variable {P:Program}
theorem Q1 {b:Bool}{p:Prop}(h:bif b then p else False):b=true∧p:=by cases b with
 | true=>exact⟨rfl,h⟩
 | false=>exact h.elim
theorem QJI [Gd]{E:Env}{th:TH}{h0 h:Heap}{L:List HP}(r:Rep E th h0 h L){t tx e ty:TypeId}{i:TypeInfo}{z:Value}{k:Nat}(hu:P.underlying t=some (.slice e))(hi:P.info? e=some i)(hz:i.zero=some z)(hk:i.size=k)(hzk:z.cells.size=k)(hk0:0<k)
  {s:FV}{v u:Value}{m:Nat}{xs:List FV}{us:List Value} (hs:den E s=some v) (A:AppG P tx E h k m xs u us) {K:FV→TH→Prop} (hx:appX th k i.bytes s m xs K):QbY P #[t,tx] ty #[v,u] h (Post E h0 L K):=by
 cases s<;>try (exact hx.elim)
 case nsl=>
  simp only[den,Option.some.injEq] at hs;subst hs
  cases m with
  | zero=>
   exact Qwz (s:=.nsl) r hu hi hk A (Nat.le_refl _) rfl hx
  | succ m=>
   simp only[appX] at hx
   obtain⟨hb,hx⟩:=Q1 hx
   simp only[Bool.and_eq_true] at hb
   exact QJH r hu hi hz hk hzk hk0 A (by omega) (Qag hb.1) (Qag hb.2) hx
 case sl id off offz len cap=>
  cases m with
  | zero=>
   obtain⟨a,c,hp,rfl,hc⟩:=QeE hs
   cases cap with
   | lit c'=>
    simp only at hc;subst hc
    simp only[appX] at hx
    obtain⟨hb,hx⟩:=Q1 hx
    exact Qwz r hu hi hk A (Qag hb) hs hx
   | hid j=>
    obtain⟨h1,rfl⟩:=hc
    exact Qwz r hu hi hk A (by omega) hs hx
  | succ m=>
   have hm:0<m+1:=by omega
   generalize hM:m+1=M at *
   have hx:appS th k i.bytes id off offz len cap M xs K:=by subst hM;exact hx
   unfold appS at hx
   obtain⟨hb,hx⟩:=Q1 hx
   simp only[Bool.and_eq_true] at hb
   have hb1:=Qag hb.1
   have hb2:=Qag hb.2
   have hul:=QS A.den
   have hxl:us.length=M * k:=A.sr.s.len
   cases cap with
   | lit c=>
    simp only[appL] at hx
    have hv:∃a,E.p id=some a∧v=.slice (some (a.add off)) len c:=by
     simp only[den] at hs
     cases hp:E.p id with
     | none=>rw[hp] at hs;cases hs
     | some a=>rw[hp] at hs;simp only[Option.some.injEq] at hs;exact⟨a,rfl,hs.symm⟩
    obtain⟨a,hp,rfl⟩:=hv
    cases hfit:Nat.ble (len+M) c with
    | true=>
     rw[hfit] at hx
     simp only[cond_true] at hx
     cases hg:th.t.get id with
     | none=>rw[hg] at hx;exact hx.elim
     | some ob=>
      rcases ob with⟨cs,kk⟩ | ⟨dd,mm⟩ | ⟨ii,cc,bb⟩ | ⟨rr⟩
      case map=>rw[hg] at hx;first | exact hx.elim | cases hx
      case it=>rw[hg] at hx;first | exact hx.elim | cases hx
      case ro=>rw[hg] at hx;first | exact hx.elim | cases hx
      case row=>rw[hg] at hx;first | exact hx.elim | cases hx
      case mp=>rw[hg] at hx;first | exact hx.elim | cases hx
      case mf=>rw[hg] at hx;first | exact hx.elim | cases hx
      case im=>rw[hg] at hx;first | exact hx.elim | cases hx
      rw[hg] at hx
      simp only at hx
      cases hsp:splO xs (off+len * k) cs with
      | none=>rw[hsp] at hx;exact hx.elim
      | some cs'=>
       rw[hsp] at hx
       simp only at hx
       obtain⟨a',vs,post,hc,s⟩:=r.told hg
       rw[hc.1] at hp;simp only[Option.some.injEq] at hp;subst hp
       obtain⟨h1,h2⟩:=Qhd hsp
       have hvl:=QS hc.2.1
       refine QwA hu hi hk s A (Qag hfit) (by rw[List.length_append];omega) fun h' s'=>?_
       rw[QpC _ _ _ _ (by omega)] at s'
       exact Post.same (by simp only[den,hc.1]) (r.store hg (hc.put (by rw[h1];exact Qhw _ hc.2.1 A.den) (by rw[h1];exact Ql9 hc.2.2.1 A.one) (Qfy _ _ _)) s') hx
    | false=>
     rw[hfit] at hx
     simp only[cond_false] at hx
     have hgr:c<len+M:=by
      rcases Nat.lt_or_ge c (len+M) with h | h
      ·exact h
      ·rw[Nat.ble_eq_true_of_le h] at hfit;cases hfit
     cases len with
     | zero=>
      simp only at hx
      have:=QwB (olds:=[]) (os:=[]) r hu hi hz hk hzk hk0 (a:=a.add off) rfl rfl (by simp) (fun j y hy=>by simp at hy) A hm hgr hb1 hb2 (K:=K) (ty:=ty) (by simpa using hx)
      exact this
     | succ len=>
      simp only at hx
      cases hg:th.t.get id with
      | none=>rw[hg] at hx;exact hx.elim
      | some ob=>
       rcases ob with⟨cs,kk⟩ | ⟨dd,mm⟩ | ⟨ii,cc,bb⟩ | ⟨rr⟩
       case map=>rw[hg] at hx;first | exact hx.elim | cases hx
       case it=>rw[hg] at hx;first | exact hx.elim | cases hx
       case ro=>rw[hg] at hx;first | exact hx.elim | cases hx
       case row=>rw[hg] at hx;first | exact hx.elim | cases hx
       case mp=>rw[hg] at hx;first | exact hx.elim | cases hx
       case mf=>rw[hg] at hx;first | exact hx.elim | cases hx
       case im=>rw[hg] at hx;first | exact hx.elim | cases hx
       rw[hg] at hx
       simp only at hx
       cases ht:Qbb ((len+1) * k) (Qaz off cs) with
       | none=>rw[ht] at hx;exact hx.elim
       | some old=>
        rw[ht] at hx
        simp only at hx
        obtain⟨h5,h6⟩:=Qcd ht
        rw[Qbo] at h5 h6
        obtain⟨a',vs,h1,h2,h3,h4⟩:=r.read hg
        rw[hp] at h1;simp only[Option.some.injEq] at h1;subst h1
        have h7:=QfV ((len+1) * k) (QeM off h2)
        rw[←h5] at h7
        refine QwB r hu hi hz hk hzk hk0 (a:=a.add off) h7 (by rw[h5];exact QmX h3 _ _) (by rw[QS h7,h5,List.length_take,Nat.min_eq_left h6]) (fun j y hy=>Qtr ((h4.drop off).take ((len+1) * k)) j y hy) A hm hgr hb1 hb2 hx
   | hid j=>
    simp only[appH] at hx
    cases hg:th.t.get id with
    | none=>rw[hg] at hx;exact hx.elim
    | some ob=>
     rcases ob with⟨cs,kk⟩ | ⟨dd,mm⟩ | ⟨ii,cc,bb⟩ | ⟨rr⟩
     case map=>rw[hg] at hx;first | exact hx.elim | cases hx
     case it=>rw[hg] at hx;first | exact hx.elim | cases hx
     case ro=>rw[hg] at hx;first | exact hx.elim | cases hx
     case row=>rw[hg] at hx;first | exact hx.elim | cases hx
     case mp=>rw[hg] at hx;first | exact hx.elim | cases hx
     case mf=>rw[hg] at hx;first | exact hx.elim | cases hx
     case im=>rw[hg] at hx;first | exact hx.elim | cases hx
     rw[hg] at hx
     simp only at hx
     obtain⟨hb3,hx⟩:=Q1 hx
     simp only[Bool.and_eq_true] at hb3
     have e1:=Qm hb3.1
     have e2:=Qm hb3.2
     subst e1
     obtain⟨a',vs,post,hc,s⟩:=r.told hg
     have hvl:=QS hc.2.1
     have htot:=hc.2.2.2.2 (by omega)
     obtain⟨a,c,hp,hv,hcap⟩:=QeE hs
     simp only at hcap
     obtain⟨hle,rfl⟩:=hcap
     rw[hc.1] at hp;simp only[Option.some.injEq] at hp;subst hp
     cases hsp:splO xs (off+len * kk) cs with
     | some cs'=>
      rw[hsp] at hx
      simp only at hx
      obtain⟨h1,h2⟩:=Qhd hsp
      have hroom:j+len+M≤E.c id:=by
       have h3:(j+len+M) * kk≤E.c id * kk:=by
        rw[←htot,Nat.add_mul,Nat.add_mul,←e2];omega
       exact Nat.le_of_mul_le_mul_right h3 hk0
      simp only at hv
      rw[if_neg (by omega)] at hv
      subst hv
      refine QwA hu hi hk s A (by omega) (by rw[List.length_append];omega) fun h' s'=>?_
      rw[QpC _ _ _ _ (by omega)] at s'
      refine Post.same ?_ (r.store hg (hc.put (by rw[h1];exact Qhw _ hc.2.1 A.den) (by rw[h1];exact Ql9 hc.2.2.1 A.one) (Qfy _ _ _)) s') hx
      simp only[den,hc.1]
      rw[if_pos (by omega),if_neg (by omega)]
     | none=>
      rw[hsp] at hx
      simp only at hx
      obtain⟨hb4,hx⟩:=Q1 hx
      have e3:=Qm hb4
      have hdr:=QeM off hc.2.1
      have hdl:=QS hdr
      have hol:(vs.drop off).length=len * kk:=by rw[List.length_drop];omega
      have hone:(Qaz off cs).all oneF=true:=by
       rw[Qbo,List.all_eq_true]
       exact fun y hy=>List.all_eq_true.1 hc.2.2.1 y (List.mem_of_mem_drop hy)
      have rdel:=r.del hg
      have Adel:AppG P tx E h kk M xs u us:=A
      subst hv
      by_cases hroom:len+M≤E.c id - j
      ·simp only
       rw[if_neg (by omega)]
       have s2:=s
       have hpl:us.length≤post.length:=by
        have h3:(j+len+M) * kk≤E.c id * kk:=Nat.mul_le_mul_right _ (by omega)
        rw[←htot,Nat.add_mul,Nat.add_mul,←e2] at h3
        omega
       refine QwA hu hi hk s A hroom (by rw[List.length_append];omega) fun h' s'=>?_
       have e4:off+len * kk=vs.length:=by omega
       rw[e4,QhK us vs post hpl] at s'
       have hsplit:vs++us++post.drop us.length=vs.take off++((vs.drop off++us)++post.drop us.length):=by
        rw[←List.append_assoc,←List.append_assoc,List.take_append_drop]
       rw[hsplit] at s'
       have s3:=St.cellsDrop s'
       have hto:(vs.take off).length=off:=by rw[List.length_take];omega
       rw[hto] at s3
       obtain⟨g1,g2⟩:=Rep.add (th:=th.del id) (cs:=Qaz off cs++xs) (k:=kk) (c:=E.c id - j) (a:=a'.add off) (vs:=vs.drop off++us) (post:=post.drop us.length) r.fr r.eh rdel.nx s3
        (by rw[Qbo];exact Qc7 hdr A.den) (by rw[List.all_append,hone,A.one];rfl) (fun h=>by omega) (fun _=>by
         rw[List.length_append,hol,List.length_drop,hxl,Nat.sub_mul,←htot,←e2]
         omega)
       exact⟨_,_,_,g1,QCJ hroom,g2,hx⟩
      ·have hor:∀(i:Nat) (y:Value),(vs.drop off)[i]?=some y→cellAt h ((a'.add (if E.c id=j then offz else off)).add i)=some y:=fun i y hy=>by
        by_cases hz0:E.c id=j
        ·exfalso
         have hl0:len=0:=by omega
         have:(vs.drop off).length=0:=by rw[hol,hl0,Nat.zero_mul]
         rw[List.length_eq_zero_iff.1 this] at hy
         simp at hy
        ·rw[if_neg hz0]
         have h4:=s.rd.take vs.length
         rw[List.take_left] at h4
         exact Qtr (h4.drop off) i y hy
       exact QwB rdel hu hi hz hk hzk hk0 (olds:=Qaz off cs) (by rw[Qbo];exact hdr) hone hol hor A hm (by omega) hb1 hb2 hx
end Go.Va
