import Derived.Test.YtemffgbncjnmkaaGreatSh
import Derived.WalkSpells
import Derived.WalkLawsBesides
set_option linter.unusedVariables false
set_option linter.unusedSimpArgs false
set_option linter.unusedSectionVars false
namespace Go.Sh
abbrev Vals:=Nat→Option Value
def setm (m:Vals)(i:Nat)(v:Value):Vals:=fun j=>if j=i then some v else m j
theorem Qc9 (m:Vals)(i:Nat)(v:Value):setm m i v i=some v:=by simp[setm]
theorem QaC {m:Vals}{i j:Nat}{v:Value}(h:j≠i):setm m i v j=m j:=by simp[setm,h]
structure Agr (ops:Array Oper)(f0:Nat→Value)(m:Vals)(f:Nat→Value):Prop where
 done:∀(j:Nat) (o:Oper) (d:Nat) (v:Value),ops[j]?=some o→o.dst=some d→m j=some v→f d=v
 rest:∀t,(∀(j:Nat) (o:Oper),ops[j]?=some o→o.dst=some t→m j=none)→f t=f0 t
def Qa8 (o:Oper):List Nat:=(o.after.toList.filter fun e=>Region.binds .any e).map (·.on)
def Ql0 (size n:Nat):Array Bool:=((List.range size).map fun i=>decide (i<n)).toArray
def comB (ops:Array Oper)(n:Nat):Bool:=
 decide (n<ops.size)&&Region.sinkB .any ops n&&Region.chainB .any ops n&&Region.seqB .any ops (ops.size - n) n (Ql0 ops.size n) &&
 (List.range ops.size).all (fun i=>(List.range ops.size).all fun j=>i == j||match (ops[i]?).bind (·.dst),(ops[j]?).bind (·.dst) with | some a,some b=>a != b | _,_=>true) &&
 (List.range n).all (fun i=>match ops[i]? with | some o=>(Qa8 o).all fun j=>decide (j<i) | none=>true)
section com
variable {P:Program}{ops:Array Oper}{Q:Exit→Act→World→Prop}{ds:List Deferred}
theorem QJu (s n N:Nat) [Gd]{f0:Nat→Value}{w0:World}{A:Vals→Heap→Prop}{L:Array Bool→Act→World→Prop}(hs:Region.sinkB .any ops n=true)(hc:Region.chainB .any ops n=true)(hn:n<ops.size)
  (hdist:∀(i j:Nat) (oi oj:Oper) (d:Nat),ops[i]?=some oi→ops[j]?=some oj→oi.dst=some d→oj.dst=some d→i=j)
  (hinc:∀(i:Nat) (o:Oper),i<n→ops[i]?=some o→∀j∈Qa8 o,j<i)
  (spec:∀(i:Nat) (o:Oper),ops[i]?=some o→i<n→∀(m:Vals) (f:Nat→Value) (w:World),Agr ops f0 m f→A m w.heap→Qx w0 w→m i=none→(∀j∈Qa8 o,(m j).isSome) →
   wpOp P ops Q i (fun a' w'=>∃v,a'=(mkD ds N f).put o.dst v∧Qx w0 w'∧A (setm m i v) w'.heap) (mkD ds N f) w)
  (hdst:∀(i:Nat) (o:Oper) (d:Nat),ops[i]?=some o→o.dst=some d→d<N)
  (fin:∀(m:Vals) (f:Nat→Value) (w:World),(∀i,i<n→(m i).isSome)→Agr ops f0 m f→A m w.heap→Qx w0 w→L (Ql0 ops.size n) (mkD ds N f) w) :
  ∀(fuel:Nat) (listed:Array Bool) (m:Vals) (f:Nat→Value) (w:World),HeadInv .any ops n listed→(∀j,j<n→listed.getD j false=(m j).isSome)→(∀j,n≤j→m j=none) →
   ((List.range n).countP fun j=>!(m j).isSome)=fuel→Agr ops f0 m f→A m w.heap→Qx w0 w →
   QBk P .any ops Q (fun _=>True) n L fuel listed (mkD ds N f) w:=by
 intro fuel
 induction fuel with
 | zero=>
  intro listed m f w inv hl hm hcnt hag hA hS
  have hall:∀i,i<n→(m i).isSome:=by
   intro i hi
   have:=List.countP_eq_zero.1 hcnt i (by simpa using hi)
   cases h:m i with
   | none=>rw[h] at this;simp at this
   | some v=>rfl
  have e:listed=Ql0 ops.size n:=by
   apply Array.ext
   ·simp[inv.size,Ql0]
   ·intro i h1 h2
    have hi:i<ops.size:=by rw[←inv.size];exact h1
    rcases Nat.lt_or_ge i n with h | h
    ·have:=hl i h
     rw[hall i h] at this
     simp only[Array.getD_eq_getD_getElem?,Array.getElem?_eq_getElem h1,Option.getD_some] at this
     simp[Ql0,this,h]
    ·have:=inv.tail i h hi
     simp only[Array.getD_eq_getD_getElem?,Array.getElem?_eq_getElem h1,Option.getD_some] at this
     simp[Ql0,this,Nat.not_lt.2 h]
  subst e
  exact fin m f w hall hag hA hS
 | succ fuel ih=>
  intro listed m f w inv hl hm hcnt hag hA hS
  obtain⟨i0,hi0,hu0⟩:∃i,i<n∧m i=none:=by
   have h1:0<(List.range n).countP fun j=>!(m j).isSome:=by omega
   obtain⟨i,hi,hx⟩:=List.countP_pos_iff.1 h1
   refine⟨i,by simpa using hi,?_⟩
   cases h:m i with
   | none=>rfl
   | some v=>rw[h] at hx;simp at hx
  have hun0:listed.getD i0 true=false:=getD_in (by rw[inv.size];omega) (by rw[hl i0 hi0,hu0];rfl)
  have hex:∃i,i∈Region.ready .any ops listed:=by
   have key:∀k,k<n→m k=none→∃i,i∈Region.ready .any ops listed:=by
    intro k
    induction k using Nat.strongRecOn with
    | _ k ihk=>
     intro hk hu
     obtain⟨o,ho⟩:∃o,ops[k]?=some o:=⟨_,Array.getElem?_eq_getElem (by omega)⟩
     by_cases hd:∀j∈Qa8 o,(m j).isSome
     ·refine⟨k,mem_ready.2 ⟨getD_in (by rw[inv.size];omega) (by rw[hl k hk,hu];rfl),o,ho,fun e he hb=>?_⟩⟩
      have hj:e.on∈Qa8 o:=by
       unfold Qa8
       exact List.mem_map.2 ⟨e,List.mem_filter.2 ⟨by simpa using he,hb⟩,rfl⟩
      have hlt:=hinc k o hk ho _ hj
      rw[hl e.on (by omega)]
      exact hd _ hj
     ·simp only[Classical.not_forall] at hd
      obtain⟨j,hj,hnj⟩:=hd
      have hlt:=hinc k o hk ho _ hj
      exact ihk j hlt (by omega) (by
       cases h:m j with
       | none=>rfl
       | some v=>rw[h] at hnj;simp at hnj)
   exact key i0 hi0 hu0
  refine⟨fun h=>(by obtain⟨i,hi⟩:=hex;rw[h] at hi;cases hi),fun i hi=>?_⟩
  have hin:i<n:=by
   rcases Nat.lt_or_ge i n with h | h
   ·exact h
   ·exact absurd hi (tail_waits hs hc hn inv _ i0 rfl hi0 hun0 i h)
  obtain⟨hunl,o,ho,hall⟩:=mem_ready.1 hi
  have hmi:m i=none:=by
   have h1:=getD_both hunl
   rw[hl i hin] at h1
   cases h:m i with
   | none=>rfl
   | some v=>rw[h] at h1;simp at h1
  have hdeps:∀j∈Qa8 o,(m j).isSome:=by
   intro j hj
   obtain⟨e,he,rfl⟩:=List.mem_map.1 hj
   obtain⟨he1,he2⟩:=List.mem_filter.1 he
   have:=hall e (by simpa using he1) he2
   have hlt:=hinc i o hin ho _ hj
   rw[hl e.on (by omega)] at this
   exact this
  refine⟨hin,wpOp_mono (fun a' w' h=>⟨trivial,?_⟩) (spec i o ho hin m f w hag hA hS hmi hdeps)⟩
  obtain⟨v,rfl,hS',hA'⟩:=h
  have hag':∃f',(mkD ds N f).put o.dst v=mkD ds N f'∧Agr ops f0 (setm m i v) f':=by
   cases hd:o.dst with
   | none=>
    refine⟨f,Qn3 N f v,⟨fun j oj d x hj hdj hx=>?_,fun t ht=>hag.rest t fun j oj hj hdj=>?_⟩⟩
    ·by_cases hji:j=i
     ·subst hji
      rw[ho] at hj
      simp only[Option.some.injEq] at hj
      subst hj
      rw[hd] at hdj;cases hdj
     ·rw[QaC hji] at hx
      exact hag.done j oj d x hj hdj hx
    ·by_cases hji:j=i
     ·subst hji;exact hmi
     ·have:=ht j oj hj hdj
      rwa [QaC hji] at this
   | some d=>
    refine⟨upd f d v,Qr0 N f d v,⟨fun j oj d' x hj hdj hx=>?_,fun t ht=>?_⟩⟩
    ·by_cases hji:j=i
     ·subst hji
      rw[ho] at hj
      simp only[Option.some.injEq] at hj
      subst hj
      rw[hd] at hdj
      simp only[Option.some.injEq] at hdj
      subst hdj
      rw[Qc9] at hx
      simp only[Option.some.injEq] at hx
      subst hx
      simp[upd]
     ·rw[QaC hji] at hx
      have hne:d'≠d:=fun e=>hji (hdist j i oj o d' hj ho hdj (by rw[hd,e]))
      have:Nat.beq d' d=false:=by simpa [←Bool.not_eq_true,Nat.beq_eq] using hne
      simp only[upd,this,cond_false]
      exact hag.done j oj d' x hj hdj hx
    ·have hne:t≠d:=by
      intro e
      have:=ht i o ho (by rw[hd,e])
      rw[Qc9] at this;cases this
     have hb:Nat.beq t d=false:=by simpa [←Bool.not_eq_true,Nat.beq_eq] using hne
     simp only[upd,hb,cond_false]
     refine hag.rest t fun j oj hj hdj=>?_
     by_cases hji:j=i
     ·subst hji;exact hmi
     ·have:=ht j oj hj hdj
      rwa [QaC hji] at this
  obtain⟨f',hf',hag'⟩:=hag'
  rw[hf']
  refine ih _ (setm m i v) f' w' (inv.set hi hin) ?_ ?_ ?_ hag' hA' hS'
  ·intro j hj
   by_cases hji:j=i
   ·subst hji
    rw[Qc9]
    simp[Array.getD_eq_getD_getElem?,inv.size,show j<ops.size by omega]
   ·rw[QaC hji,getD_set_ne false (Ne.symm hji)]
    exact hl j hj
  ·intro j hj
   rw[QaC (by omega)];exact hm j hj
  ·have h1:∀l:List Nat,l.Nodup→i∈l→(l.countP fun j=>!(m j).isSome)=(l.countP fun j=>!(setm m i v j).isSome)+1:=by
    intro l
    induction l with
    | nil=>intro _ h;cases h
    | cons x l ihl=>
     intro hnd hmem
     rw[List.nodup_cons] at hnd
     simp only[List.countP_cons]
     by_cases hx:x=i
     ·subst hx
      have h2:(l.countP fun j=>!(m j).isSome)=(l.countP fun j=>!(setm m x v j).isSome):=by
       apply List.countP_congr
       intro j hj
       have:j≠x:=fun e=>hnd.1 (e ▸ hj)
       rw[QaC this]
      rw[h2,Qc9,hmi]
      simp
     ·have:=ihl hnd.2 (by
       rcases List.mem_cons.1 hmem with h | h
       ·exact absurd h.symm hx
       ·exact h)
      rw[this,QaC hx]
      omega
   have:=h1 (List.range n) List.nodup_range (by simpa using hin)
   omega
theorem QET [Gd]{id:Nat}{N:Nat}{f:Nat→Value}{w:World}{l:List Oper}(n:Nat)(hm:P.follows .mixedOrders=true)(hB:comB l.toArray n=true)
  (hN:(l.all fun o=>match o.dst with | some d=>decide (d<N) | none=>true)=true) {A:Vals→Heap→Prop} (h0:A (fun _=>none) w.heap)
  (spec:∀(i:Nat) (o:Oper),l[i]?=some o→i<n→∀(m:Vals) (g:Nat→Value) (w':World),Agr l.toArray f m g→A m w'.heap→Qx w w'→m i=none→(∀j∈Qa8 o,(m j).isSome) →
   wpOp P l.toArray Q i (fun a' w''=>∃v,a'=(mkD ds N g).put o.dst v∧Qx w w''∧A (setm m i v) w''.heap) (mkD ds N g) w')
  (fin:∀(m:Vals) (g:Nat→Value) (w':World),(∀i,i<n→(m i).isSome)→Agr l.toArray f m g→A m w'.heap→Qx w w'→wpList P l.toArray Q (l.drop n) (mkD ds N g) w') :
  (Code.region id l.toArray true).wp P Q (mkD ds N f) w:=by
 simp only[comB,Bool.and_eq_true,decide_eq_true_eq] at hB
 obtain⟨⟨⟨⟨⟨hn,hs⟩,hc⟩,hseq⟩,hd⟩,hi⟩:=hB
 have hdist:∀(i j:Nat) (oi oj:Oper) (d:Nat),l.toArray[i]?=some oi→l.toArray[j]?=some oj→oi.dst=some d→oj.dst=some d→i=j:=by
  intro i j oi oj d h1 h2 h3 h4
  have hi':=(Array.getElem?_eq_some_iff.1 h1).1
  have hj':=(Array.getElem?_eq_some_iff.1 h2).1
  have:=List.all_eq_true.1 (List.all_eq_true.1 hd i (by simpa using hi')) j (by simpa using hj')
  simp only[h1,h2,Option.bind_some,h3,h4,bne_self_eq_false,Bool.or_false,beq_iff_eq] at this
  exact this
 have hinc:∀(i:Nat) (o:Oper),i<n→l.toArray[i]?=some o→∀j∈Qa8 o,j<i:=by
  intro i o h1 h2 j hj
  have:=List.all_eq_true.1 hi i (by simpa using h1)
  simp only[h2] at this
  simpa using List.all_eq_true.1 this j hj
 have hdst:∀(i:Nat) (o:Oper) (d:Nat),l.toArray[i]?=some o→o.dst=some d→d<N:=by
  intro i o d h1 h2
  have h3:o∈l:=List.mem_of_getElem? (by simpa using h1)
  have:=List.all_eq_true.1 hN o h3
  simpa [h2] using this
 have inv0:HeadInv .any l.toArray n (Array.replicate l.toArray.size false):=
  ⟨by simp,fun j oj _ hl=>(by rw[getD_replicate_false] at hl;cases hl),fun t _ ht=>getD_in (by simpa using ht) (getD_replicate_false _ _)⟩
 have hdl:(l.drop n).length=l.toArray.size - n:=by simp
 let w1:World:={ w with drawn:=w.drawn+1 }
 have hw1:Qx w w1:=⟨rfl,rfl,rfl,fun _=>by first | exact Nat.le_refl _ | exact Nat.le_succ _ | exact Nat.le_add_right _ _⟩
 have H:=QJu (P:=P) (Q:=Q) (ops:=l.toArray) l.toArray.size n N (f0:=f) (w0:=w) (A:=A) (L:=fun listed' a' w'=>Region.seqB .any l.toArray (l.toArray.size - n) n listed'=true∧wpList P l.toArray Q (l.drop n) a' w')
  hs hc hn hdist hinc (fun i o h1 h2=>spec i o (by simpa using h1) h2) hdst (fun m g w' h1 h2 h3 h4=>⟨hseq,fin m g w' h1 h2 h3 h4⟩)
  n (Array.replicate l.toArray.size false) (fun _=>none) f w1 inv0 (fun j _=>by rw[getD_replicate_false];rfl) (fun _ _=>rfl) (by simp[List.countP_eq_length]) ⟨fun _ _ _ _ _ _ h=>(by cases h),fun _ _=>rfl⟩ h0 hw1
 refine wp_region_any hm ?_
 have:=QwI (Q:=Q) (g:=l.toArray.size - n) (fun listed a' w' hL=>by
  have:=wpAny_of_seq (md:=.any) (Q':=Q) (l.drop n) n listed a' w' (fun j=>by simp[List.getElem?_drop]) (by rw[hdl];exact hL.1) hL.2
  rwa [hdl] at this) _ _ _ _ H
 rw[show n+(l.toArray.size - n)=l.toArray.size by omega] at this
 exact this
end com
end Go.Sh
namespace Go.Sh
def cellAt (h:Heap)(a:Addr):Option Value:=
 match h[a.block]? with
 | some (.cells c _ _)=>if a.spot.isSome then none else c[a.off]?
 | _=>none
theorem Qee (w:World)(a:Addr):w.cell? a=cellAt w.heap a:=rfl
theorem QFp {h h':Heap}(he:Ext h h'){a:Addr}{v:Value}(hv:cellAt h a=some v):cellAt h' a=some v:=by
 unfold cellAt at *
 rcases Nat.lt_or_ge a.block h.size with hb | hb
 ·rw[he.2 _ hb];exact hv
 ·simp[Array.getElem?_eq_none hb] at hv
theorem QzL {h:Heap}{a:Addr}{v:Value}(hv:cellAt h a=some v):a.block<h.size:=by
 rcases Nat.lt_or_ge a.block h.size with hb | hb
 ·exact hb
 ·simp[cellAt,Array.getElem?_eq_none hb] at hv
structure HP where
 own:Heap→(Nat→Prop)→Prop
 loc:∀h h' S,own h S→(∀b,S b→h'[b]?=h[b]?)→own h' S
def Sep (h:Heap):List HP→(Nat→Prop)→Prop
 | [],_=>True
 | A::L,U=>∃S:Nat→Prop,A.own h S∧(∀b,S b→U b)∧Sep h L (fun b=>U b∧¬S b)
theorem Sep.mono {h:Heap}:∀ {L:List HP}{U U':Nat→Prop},(∀b,U b→U' b)→Sep h L U→Sep h L U'
 | [],_,_,_,_=>trivial
 | _::_,_,_,hu,⟨S,hA,hS,hL⟩=>⟨S,hA,fun b hb=>hu b (hS b hb),Sep.mono (fun b hb=>⟨hu b hb.1,hb.2⟩) hL⟩
theorem Sep.loc {h h':Heap}:∀ {L:List HP}{U:Nat→Prop},Sep h L U→(∀b,U b→h'[b]?=h[b]?)→Sep h' L U
 | [],_,_,_=>trivial
 | A::_,_,⟨S,hA,hS,hL⟩,he=>⟨S,A.loc _ _ _ hA fun b hb=>he b (hS b hb),hS,Sep.loc hL fun b hb=>he b hb.1⟩
theorem Sep.swap {h:Heap}{A B:HP}{L:List HP}{U:Nat→Prop}:Sep h (A::B::L) U→Sep h (B::A::L) U:=by
 rintro⟨S,hA,hS,T,hB,hT,hL⟩
 refine⟨T,hB,fun b hb=>(hT b hb).1,S,hA,fun b hb=>⟨hS b hb,fun ht=>(hT b ht).2 hb⟩,Sep.mono (fun b hb=>⟨⟨hb.1.1,hb.2⟩,hb.1.2⟩) hL⟩
theorem Sep.perm {h:Heap}{L L':List HP}(p:L.Perm L'):∀ {U:Nat→Prop},Sep h L U→Sep h L' U:=by
 induction p with
 | nil=>exact fun h=>h
 | cons x _ ih=>rintro U ⟨S,hA,hS,hL⟩;exact⟨S,hA,hS,ih hL⟩
 | swap x y l=>exact fun h=>Sep.swap h
 | trans _ _ ih1 ih2=>exact fun h=>ih2 (ih1 h)
theorem Sep.append {h:Heap}:∀ {L L':List HP}{U V:Nat→Prop},Sep h L U→Sep h L' V→(∀b,U b→¬V b)→Sep h (L++L') (fun b=>U b∨V b)
 | [],_,_,_,_,h',_=>Sep.mono (fun _ hb=>.inr hb) h'
 | _::_,_,_,_,⟨S,hA,hS,hL⟩,h',hd=>⟨S,hA,fun b hb=>.inl (hS b hb),
   Sep.mono (fun b hb=>hb.elim (fun hu=>⟨.inl hu.1,hu.2⟩) (fun hv=>⟨.inr hv,fun hs=>hd b (hS b hs) hv⟩)) (Sep.append hL h' fun b hb=>hd b hb.1)⟩
theorem Sep.split {h:Heap}:∀ {L L':List HP}{U:Nat→Prop},Sep h (L++L') U→∃V:Nat→Prop,(∀b,V b→U b)∧Sep h L V∧Sep h L' (fun b=>U b∧¬V b)
 | [],_,U,hs=>⟨fun _=>False,fun _ h=>h.elim,trivial,Sep.mono (fun _ hb=>⟨hb,fun h=>h⟩) hs⟩
 | A::L,L',U,⟨S,hA,hS,hL⟩=>by
  obtain⟨V,hV,h1,h2⟩:=Sep.split (L:=L) (L':=L') hL
  refine⟨fun b=>S b∨V b,fun b hb=>hb.elim (hS b) fun h=>(hV b h).1,⟨S,hA,fun b hb=>.inl hb,?_⟩,Sep.mono (fun b hb=>⟨hb.1.1,fun h=>h.elim hb.1.2 hb.2⟩) h2⟩
  exact Sep.mono (fun b hb=>⟨.inr hb,(hV b hb).2⟩) h1
def St (h0 h:Heap)(L:List HP):Prop:=Ext h0 h∧Sep h L (fun b=>h0.size≤b∧b<h.size)
theorem St.ext {h0 h:Heap}{L:List HP}(s:St h0 h L):Ext h0 h:=s.1
theorem St.nil (h:Heap):St h h []:=⟨Ext.refl h,trivial⟩
theorem St.perm {h0 h:Heap}{L L':List HP}(s:St h0 h L)(p:L.Perm L'):St h0 h L':=⟨s.1,Sep.perm p s.2⟩
theorem St.imp {h0 h:Heap}{A A':HP}{L:List HP}(s:St h0 h (A::L))(f:∀S,A.own h S→A'.own h S):St h0 h (A'::L):=by
 obtain⟨he,S,hA,r⟩:=s
 exact⟨he,S,f S hA,r⟩
theorem St.drop {h0 h:Heap}{A:HP}{L:List HP}(s:St h0 h (A::L)):St h0 h L:=by
 obtain⟨he,S,_,_,r⟩:=s
 exact⟨he,Sep.mono (fun b hb=>hb.1) r⟩
theorem St.swap {h0 h:Heap}{A B:HP}{L:List HP}(s:St h0 h (A::B::L)):St h0 h (B::A::L):=⟨s.1,Sep.swap s.2⟩
theorem St.pick {h0 h:Heap}{L:List HP}(i:Nat)(hi:i<L.length)(s:St h0 h L):St h0 h (L[i]::L.eraseIdx i):=
 s.perm (by
  have:∀(L:List HP) (i:Nat) (hi:i<L.length),L.Perm (L[i]::L.eraseIdx i):=by
   intro L
   induction L with
   | nil=>intro i hi;cases hi
   | cons x l ih=>
    intro i hi
    cases i with
    | zero=>exact .refl _
    | succ i=>exact (List.Perm.cons x (ih i (by simpa using hi))).trans (.swap _ _ _)
  exact this L i hi)
theorem St.split {h0 h:Heap}{L L':List HP}(s:St h0 h (L++L')):St h0 h L:=⟨s.1,by
 obtain⟨V,hV,h1,_⟩:=Sep.split s.2
 exact Sep.mono hV h1⟩
theorem St.get {h0 h:Heap}{A:HP}{L:List HP}(s:St h0 h (A::L)):∃S,A.own h S∧∀b,S b→h0.size≤b∧b<h.size:=by
 obtain⟨_,S,hA,hS,_⟩:=s
 exact⟨S,hA,hS⟩
theorem St.call {h0 h h':Heap}{L L':List HP}(s:St h0 h L)(t:St h h' L'):St h0 h' (L'++L):=by
 refine⟨s.1.trans t.1,?_⟩
 have h1:Sep h' L (fun b=>h0.size≤b∧b<h.size):=Sep.loc s.2 fun b hb=>t.1.2 b hb.2
 exact Sep.mono (fun b hb=>hb.elim (fun hb=>⟨Nat.le_trans s.1.1 hb.1,hb.2⟩) (fun hb=>⟨hb.1,Nat.lt_of_lt_of_le hb.2 t.1.1⟩))
  (Sep.append t.2 h1 fun b hb hb'=>by omega)
theorem St.step {h0 h h':Heap}{A A':HP}{L:List HP}(s:St h0 h (A::L))
  (f:∀S,A.own h S→(∀b,S b→h0.size≤b∧b<h.size)→h.size≤h'.size∧(∀b,b<h.size→¬S b→h'[b]?=h[b]?)∧∃S',A'.own h' S'∧∀b,S' b→S b∨(h.size≤b∧b<h'.size)) :
  St h0 h' (A'::L):=by
 obtain⟨he,S,hA,hS,hL⟩:=s
 obtain⟨hsz,hk,S',hA',hS'⟩:=f S hA hS
 refine⟨⟨Nat.le_trans he.1 hsz,fun b hb=>?_⟩,S',hA',fun b hb=>?_,?_⟩
 ·rw[hk b (Nat.lt_of_lt_of_le hb he.1) fun h=>by have:=(hS b h).1;omega]
  exact he.2 b hb
 ·rcases hS' b hb with h1 | h1
  ·exact⟨(hS b h1).1,Nat.lt_of_lt_of_le (hS b h1).2 hsz⟩
  ·exact⟨Nat.le_trans he.1 h1.1,h1.2⟩
 ·have h1:=Sep.loc (h':=h') hL fun b hb=>hk b hb.1.2 hb.2
  refine Sep.mono (fun b hb=>⟨⟨hb.1.1,Nat.lt_of_lt_of_le hb.1.2 hsz⟩,fun h=>?_⟩) h1
  rcases hS' b h with h2 | h2
  ·exact hb.2 h2
  ·omega
theorem St.new {h0 h h':Heap}{A':HP}{L:List HP}(s:St h0 h L)(hsz:h.size≤h'.size)(hk:∀b,b<h.size→h'[b]?=h[b]?)
  (hA:A'.own h' (fun b=>h.size≤b∧b<h'.size)):St h0 h' (A'::L):=
 St.call (L':=[A']) s ⟨⟨hsz,hk⟩,fun b=>h.size≤b∧b<h'.size,hA,fun _ h=>h,trivial⟩
def HP.ex {α:Type}(A:α→HP):HP:=⟨fun h S=>∃x,(A x).own h S,fun h h' S ⟨x,hx⟩ he=>⟨x,(A x).loc h h' S hx he⟩⟩
set_option linter.unusedVariables false in
def HP.pure (p:Prop)(A:HP):HP:=⟨fun h S=>p∧A.own h S,fun h h' S hx he=>⟨hx.1,A.loc h h' S hx.2 he⟩⟩
theorem St.ex {α:Type}{h0 h:Heap}{A:α→HP}{L:List HP}(s:St h0 h (HP.ex A::L)):∃x,St h0 h (A x::L):=by
 obtain⟨he,S,⟨x,hx⟩,r⟩:=s
 exact⟨x,he,S,hx,r⟩
theorem St.toEx {α:Type}{h0 h:Heap}{A:α→HP}{L:List HP}(x:α)(s:St h0 h (A x::L)):St h0 h (HP.ex A::L):=s.imp fun _ h=>⟨x,h⟩
theorem St.pure {p:Prop}{h0 h:Heap}{A:HP}{L:List HP}(s:St h0 h (HP.pure p A::L)):p∧St h0 h (A::L):=by
 obtain⟨he,S,⟨hp,hx⟩,r⟩:=s
 exact⟨hp,he,S,hx,r⟩
def HP.all (L:List HP):HP:=⟨fun h S=>Sep h L S,fun _ _ _ hs he=>Sep.loc hs he⟩
theorem Sep.open {h:Heap}{M L:List HP}{U:Nat→Prop}(s:Sep h (HP.all M::L) U):Sep h (M++L) U:=by
 obtain⟨S,hM,hS,hL⟩:=s
 exact Sep.mono (fun b hb=>hb.elim (fun h=>hS b h) (fun h=>h.1)) (Sep.append hM hL fun b hb hb'=>hb'.2 hb)
theorem St.open {h0 h:Heap}{M L:List HP}(s:St h0 h (HP.all M::L)):St h0 h (M++L):=⟨s.1,Sep.open s.2⟩
def padd (p:Value)(n:Nat):Value:=
 match p with
 | .pointer (some a)=>.pointer (some (a.add n))
 | p=>p
def Qc1:Value→Value
 | .slice a _ _=>.pointer a
 | v=>v
theorem Addr.add_none (b o n:Nat):(⟨b,o,none⟩:Addr).add n=⟨b,o+n,none⟩:=by
 unfold Addr.add;split<;>simp_all
theorem QFW (p:Value)(m n:Nat):padd (padd p m) n=padd p (m+n):=by
 unfold padd
 cases p with
 | pointer a=>
  cases a with
  | none=>rfl
  | some a=>
   simp only[Addr.add]
   by_cases hm:m=0
   ·subst hm;simp
   ·by_cases hn:n=0
    ·subst hn;simp[hm]
    ·simp[hm,hn,Nat.add_assoc]
 | _=>rfl
def Rd (h:Heap)(p:Value)(cs:List Value):Prop:=
 cs=[]∨∃b o,p=.pointer (some ⟨b,o,none⟩)∧∀(j:Nat) (x:Value),cs[j]?=some x→cellAt h ⟨b,o+j,none⟩=some x
theorem Rd.nil (h:Heap)(p:Value):Rd h p []:=.inl rfl
theorem Rd.ext {h h':Heap}{p:Value}{cs:List Value}(r:Rd h p cs)(he:Ext h h'):Rd h' p cs:=
 r.imp id fun⟨b,o,hp,hc⟩=>⟨b,o,hp,fun j x hx=>QFp he (hc j x hx)⟩
theorem Rd.at {h:Heap}{p:Value}{cs:List Value}(r:Rd h p cs){j:Nat}{x:Value}(hx:cs[j]?=some x) :
  ∃a,padd p j=.pointer (some a)∧cellAt h a=some x:=by
 rcases r with rfl | ⟨b,o,rfl,hc⟩
 ·simp at hx
 ·exact⟨⟨b,o+j,none⟩,by simp[padd,Addr.add_none],hc j x hx⟩
theorem Rd.drop {h:Heap}{p:Value}{cs:List Value}(r:Rd h p cs)(n:Nat):Rd h (padd p n) (cs.drop n):=by
 rcases r with rfl | ⟨b,o,rfl,hc⟩
 ·simp[Rd]
 ·refine .inr ⟨b,o+n,by simp[padd,Addr.add_none],fun j x hx=>?_⟩
  rw[List.getElem?_drop] at hx
  simpa [Nat.add_assoc] using hc _ _ hx
theorem Rd.take {h:Heap}{p:Value}{cs:List Value}(r:Rd h p cs)(n:Nat):Rd h p (cs.take n):=by
 rcases r with rfl | ⟨b,o,rfl,hc⟩
 ·simp[Rd]
 ·refine .inr ⟨b,o,rfl,fun j x hx=>?_⟩
  rw[List.getElem?_take] at hx
  split at hx
  ·exact hc _ _ hx
  ·cases hx
theorem Rd.block {h:Heap}{p:Value}{cs:List Value}(r:Rd h p cs)(hne:cs≠[]):∃b o,p=.pointer (some ⟨b,o,none⟩)∧b<h.size:=by
 rcases r with rfl | ⟨b,o,rfl,hc⟩
 ·exact absurd rfl hne
 ·cases cs with
  | nil=>exact absurd rfl hne
  | cons x l=>exact⟨b,o,rfl,QzL (hc 0 x rfl)⟩
def Qap (p:Value)(cs:List Value):HP:=
  ⟨fun h S=>∃b o T pre post,p=.pointer (some ⟨b,o,none⟩)∧S b∧h[b]?=some (.cells (pre++cs++post).toArray T (0,0))∧o=pre.length,
   fun h h' S ⟨b,o,T,pre,post,hp,hS,hb,ho⟩ he=>⟨b,o,T,pre,post,hp,hS,(he b hS).trans hb,ho⟩⟩
theorem Qap.rd {h:Heap}{p:Value}{cs:List Value}{S:Nat→Prop}(hc:(Qap p cs).own h S):Rd h p cs:=by
 obtain⟨b,o,T,pre,post,rfl,_,hb,rfl⟩:=hc
 refine .inr ⟨b,_,rfl,fun j x hx=>?_⟩
 have hj:j<cs.length:=(List.getElem?_eq_some_iff.1 hx).1
 simp only[cellAt,hb,Option.isSome_none,Bool.false_eq_true,if_false,List.getElem?_toArray]
 rw[List.append_assoc,List.getElem?_append_right (by omega),Nat.add_sub_cancel_left,List.getElem?_append_left hj]
 exact hx
theorem St.rd {h0 h:Heap}{p:Value}{cs:List Value}{L:List HP}(s:St h0 h (Qap p cs::L)):Rd h p cs:=by
 obtain⟨S,hA,_⟩:=s.get
 exact Qap.rd hA
class Und (P:Program)(t:TypeId)(d:outParam TypeDesc):Prop where
 eq:P.underlying t=some d
theorem Und.run {P:Program}{t:TypeId}{d:TypeDesc} [u:Und P t d] (w:World):(underlying t).run P w=.ok d w:=run_underlying u.eq w
class Inf (P:Program)(t:TypeId)(k b:outParam Nat)(z:outParam Value):Prop where
 info:∃i,P.info? t=some i∧i.size=k∧i.bytes=b∧i.zero=some z
theorem Inf.zer {P:Program}{t:TypeId}{k b:Nat}{z:Value} [u:Inf P t k b z] (w:World):(zeroValue t).run P w=.ok z w:=by
 obtain⟨i,hi,_,_,hz⟩:=u.info
 simp[zeroValue,typeInfo,hi,hz]
class Siz (P:Program)(t:TypeId)(k:outParam Nat):Prop where
 run:∀w,(sizeOf t).run P w=.ok k w
class IsA (P:Program)(t:TypeId)(b:outParam Bool):Prop where
 run:∀w,(isAgg t).run P w=.ok b w
section pure
variable {P:Program}
theorem Sp.of {s:Sem Next}{K:Value→Prop}{v:Value}(hr:∀w,s.run P w=.ok (.value v) w)(hk:K v):Sp P s K:=⟨v,hr,hk⟩
theorem QA {s:Sem Value}{w w':World}{v:Value}(h:s.run P w=.ok v w'):(nv s).run P w=.ok (.value v) w':=by
 simp[nv,h]
theorem Sp.iff {s:Sem Value}{K:Value→Prop}{v:Value}(hr:∀w,s.run P w=.ok v w):Sp P (nv s) K↔K v:=by
 constructor
 ·rintro⟨u,hu,hk⟩
  have h1:=hu default
  rw[QA (hr default)] at h1
  injection h1 with h2 _
  injection h2 with h3
  rw[h3];exact hk
 ·exact fun hk=>⟨v,fun w=>QA (hr w),hk⟩
theorem Qbk {op:BinOp}{t:TypeId}{x y:Operand}{k:IntKind}{a b:Int}{v:Value}{K:Value→Prop}
  (hr:∀w,(binOp op t (.int k a) (.int k b)).run P w=.ok v w):oBin P op t x y (.int k a) (.int k b) K↔K v:=by
 refine Sp.iff fun w=>?_
 have:(eqGuard op t x y (.int k a) (.int k b)).run P w=.ok () w:=by cases op<;>simp[eqGuard]
 simp[this,hr]
@[simp] theorem QBT {t:TypeId}{x y:Operand}{k:IntKind}{a b:Int}{K:Value→Prop}:oBin P .lss t x y (.int k a) (.int k b) K↔K (.bool (decide (a<b))):=
 Qbk fun w=>by simp[binOp,Op.intCmp]
@[simp] theorem QBU {t:TypeId}{x y:Operand}{k:IntKind}{a b:Int}{K:Value→Prop}:oBin P .leq t x y (.int k a) (.int k b) K↔K (.bool (decide (a≤b))):=
 Qbk fun w=>by simp[binOp,Op.intCmp]
@[simp] theorem QBV {t:TypeId}{x y:Operand}{k:IntKind}{a b:Int}{K:Value→Prop}:oBin P .gtr t x y (.int k a) (.int k b) K↔K (.bool (decide (b<a))):=
 Qbk fun w=>by simp[binOp,Op.intCmp]
@[simp] theorem QBW {t:TypeId}{x y:Operand}{k:IntKind}{a b:Int}{K:Value→Prop}:oBin P .geq t x y (.int k a) (.int k b) K↔K (.bool (decide (b≤a))):=
 Qbk fun w=>by simp[binOp,Op.intCmp]
@[simp] theorem QBX {t:TypeId}{x y:Operand}{k:IntKind}{a b:Int}{K:Value→Prop}:oBin P .eql t x y (.int k a) (.int k b) K↔K (.bool (decide (a=b))):=
 Qbk fun w=>by simp[binOp,Op.intCmp];rfl
@[simp] theorem QBS {t:TypeId}{x y:Operand}{k:IntKind}{a b:Int}{K:Value→Prop}:oBin P .neq t x y (.int k a) (.int k b) K↔K (.bool (decide (a≠b))):=
 Qbk fun w=>by simp[binOp,Op.intCmp,bne];rfl
@[simp] theorem QBY {t:TypeId}{x y:Operand}{k:IntKind}{a b:Int}{K:Value→Prop}:oBin P .add t x y (.int k a) (.int k b) K↔K (.int k (k.wrap (a+b))):=
 Qbk fun w=>by simp[binOp,Op.intArith]
@[simp] theorem QvQ {t:TypeId}{x y:Operand}{k:IntKind}{a b:Int}{K:Value→Prop}:oBin P .sub t x y (.int k a) (.int k b) K↔K (.int k (k.wrap (a - b))):=
 Qbk fun w=>by simp[binOp,Op.intArith]
@[simp] theorem Qml {t:TypeId}{x y:Operand}{k:IntKind}{a b:Int}{K:Value→Prop}:oBin P .mul t x y (.int k a) (.int k b) K↔K (.int k (k.wrap (a * b))):=
 Qbk fun w=>by simp[binOp,Op.intArith]
theorem QvR {t:TypeId}{x y:Operand}{k:IntKind}{a b:Int}{K:Value→Prop}(hb:b≠0):oBin P .rem t x y (.int k a) (.int k b) K↔K (.int k (a.tmod b)):=
 Qbk fun w=>by simp[binOp,Op.intDiv,hb]
theorem QpU {t:TypeId}{x y:Operand}{k:IntKind}{a b:Int}{K:Value→Prop}(hb:b≠0):oBin P .quo t x y (.int k a) (.int k b) K↔K (.int k (k.wrap (a.tdiv b))):=
 Qbk fun w=>by simp[binOp,Op.intDiv,hb]
theorem QcD {op:BinOp}{t:TypeId}{x y:Operand}{a b:ByteArray}{v:Value}{K:Value→Prop}
  (hr:∀w,(Op.stringOp op a b).run P w=.ok v w):oBin P op t x y (.string a) (.string b) K↔K v:=by
 refine Sp.iff fun w=>?_
 have:(eqGuard op t x y (.string a) (.string b)).run P w=.ok () w:=by cases op<;>simp[eqGuard]
 have h2:binOp op t (.string a) (.string b)=Op.stringOp op a b:=by cases op<;>rfl
 simp[this,h2,hr]
abbrev Str:=List UInt8
def str (l:Str):Value:=.string ⟨l.toArray⟩
theorem toList_mk (l:Str):(⟨l.toArray⟩:ByteArray).toList=l:=by rw[ByteArray.toList_eq]
@[simp] theorem QhW {t:TypeId}{x y:Operand}{a b:Str}{K:Value→Prop}:oBin P .eql t x y (str a) (str b) K↔K (.bool (decide (a=b))):=
 QcD fun w=>by
  have:(a == b)=decide (a=b):=by rw[Bool.eq_iff_iff];simp
  simp[Op.stringOp,this]
@[simp] theorem QhV {t:TypeId}{x y:Operand}{a b:Str}{K:Value→Prop}:oBin P .neq t x y (str a) (str b) K↔K (.bool (decide (a≠b))):=
 QcD fun w=>by
  have:(!(a == b))=decide (a≠b):=by rw[Bool.eq_iff_iff];simp
  simp[Op.stringOp,this]
@[simp] theorem QD2 {a:Bool}{K:Value→Prop}:oUn P .not (.bool a) K↔K (.bool !a):=Sp.iff fun w=>by simp[Op.unary]
@[simp] theorem QD3 {k:IntKind}{a:Int}{K:Value→Prop}:oUn P .neg (.int k a) K↔K (.int k (k.wrap (0 - a))):=Sp.iff fun w=>by simp[Op.unary,Op.intArith]
@[simp] theorem QE1 {c:Bool}{a b:Value}{K:Value→Prop}:QE2 P (.bool c) a b K↔K (if c then a else b):=by
 constructor
 ·rintro⟨u,hu,hk⟩
  have h1:=hu default
  simp only[Qyu,asBool] at h1
  rw[Sem.run_bind] at h1
  simp at h1
  rw[h1];exact hk
 ·exact fun hk=>⟨_,fun w=>by simp[Qyu,asBool],hk⟩
theorem Qzz {s d:TypeId}{ds:TypeDesc}{k k':IntKind} [Und P s ds] [Und P d (.int k)]{a:Int}{K:Value→Prop}:QE7 P s d (.int k' a) K↔K (.int k (k.wrap a)):=
 Sp.iff fun w=>by simp[convert,Und.run,Conv.intToInt]
@[simp] theorem QLv {a b:Value}{K:Value→Prop}:oExt P (.tuple #[a,b]) 0 K↔K a:=Sp.iff fun w=>by simp[Instr.extract]
@[simp] theorem QLu {a b:Value}{K:Value→Prop}:oExt P (.tuple #[a,b]) 1 K↔K b:=Sp.iff fun w=>by simp[Instr.extract]
@[simp] theorem QKZ {a b c:Value}{K:Value→Prop}:oExt P (.tuple #[a,b,c]) 0 K↔K a:=Sp.iff fun w=>by simp[Instr.extract]
@[simp] theorem QKY {a b c:Value}{K:Value→Prop}:oExt P (.tuple #[a,b,c]) 1 K↔K b:=Sp.iff fun w=>by simp[Instr.extract]
@[simp] theorem QKX {a b c:Value}{K:Value→Prop}:oExt P (.tuple #[a,b,c]) 2 K↔K c:=Sp.iff fun w=>by simp[Instr.extract]
@[simp] theorem QLw {a:Value}{K:Value→Prop}:oExt P (.tuple #[a]) 0 K↔K a:=Sp.iff fun w=>by simp[Instr.extract]
@[simp] theorem QF5 {fn:Fn}{l r:Array Value}{K:Value→Prop}:QE3 P fn l r K↔K (.func fn l r):=Sp.iff fun w=>by simp[Instr.makeFunc]
@[simp] theorem QpR {a:Addr}{K:Value→Prop}:oNil P (.pointer (some a)) K↔K (.pointer (some a)):=by
 constructor
 ·rintro⟨u,hu,hk⟩
  have h1:=hu default
  simp[QB0] at h1
  rw[h1];exact hk
 ·exact fun hk=>⟨_,fun w=>by simp[QB0],hk⟩
def IsSl (v:Value)(n:Nat):Prop:=∃a c,v=.slice a n c
theorem Qtw {t ty:TypeId}{e:TypeId} [Und P t (.slice e)]{v:Value}{n:Nat}{K:Value→Prop}(hv:IsSl v n):oLen P #[t] ty v K↔K (.int .i64 n):=by
 obtain⟨a,c,rfl⟩:=hv
 exact Sp.iff fun w=>by simp[Builtin.len_,Und.run,goInt]
theorem QvP {t ty:TypeId} [Und P t .string]{s:Str}{K:Value→Prop}:oLen P #[t] ty (str s) K↔K (.int .i64 s.length):=
 Sp.iff fun w=>by
  have:(⟨s.toArray⟩:ByteArray).size=s.length:=List.size_toArray
  simp[Builtin.len_,Und.run,goInt,str,this]
theorem QpT {t:TypeId} [Und P t .string]{s:Str}{ik:IntKind}{i:Int}{K:Value→Prop}(h0:0≤i){c:UInt8}(hc:s[i.toNat]?=some c) :
  QrX P t (str s) (.int ik i) K↔K (.int .u8 c.toNat):=by
 refine Sp.iff fun w=>?_
 have h2:(⟨s.toArray⟩:ByteArray)[i.toNat]?=some c:=by
  have hl:i.toNat<s.length:=(List.getElem?_eq_some_iff.1 hc).1
  have h3:i.toNat<(⟨s.toArray⟩:ByteArray).size:=by
   have:(⟨s.toArray⟩:ByteArray).size=s.length:=List.size_toArray
   omega
  rw[getElem?_pos (c:=(⟨s.toArray⟩:ByteArray)) (i:=i.toNat) h3,←hc,List.getElem?_eq_getElem hl]
  rfl
 simp[Instr.index,asIntOf,Und.run,str,h0,h2]
end pure
end Go.Sh
