import Derived.Test.YtmdppkbekmpopaaGreatCq
import Derived.Shelf.SlIter.Sorted
import Derived.ChangeArms
import Derived.Shelf.SortM.Plain
import Derived.Shelf.SortM.SortNone
set_option linter.unusedVariables false
set_option linter.unusedSimpArgs false
set_option linter.unusedSectionVars false
namespace Go.Sh
open Go.Proofs Go.Shelf Go.Sort
variable {P:Program}{ρ ρ':Ren}
def anyE:Value→Option (DataW Unit×List MemPlace):=fun _=>some (.nil,[])
theorem QEi {k:TypeId}(hk:P.underlying k=some .string):∀(m:List (Str×Value)) (st:List Nat),m.length=st.length→(∀p∈m,p.1.length≤maxLen) →
  (ents m st).map (Go.WideElems.rg P k anyE)=m.map fun p=>((.string p.1:Lit),(.nil:DataW Unit))
 | [],st,_,_=>by simp[ents]
 | p::m,[],h,_=>by simp at h
 | p::m,s::st,h,hl=>by
  have ih:=QEi hk m st (by simpa using h) (fun q hq=>hl q (by simp[hq]))
  unfold ents at ih ⊢
  simp only[List.zip_cons_cons,List.map_cons,ih]
  congr 1
  have h1:keyOf P k (str p.1)=some (.string p.1):=by
   have:=Go.WideMaps.keyOf_string_mk (P:=P) (k:=k) hk (s:=⟨p.1.toArray⟩) (by show p.1.toArray.size≤maxLen;rw[List.size_toArray];exact hl p (by simp))
   simpa [str] using this
  simp[Go.WideElems.rg,Go.WideElems.rd,h1,anyE]
theorem QEj {k:TypeId}(hk:P.underlying k=some .string):∀(m:List (Str×Value)) (st:List Nat),(∀p∈m,p.1.length≤maxLen) →
  ∀x∈ents m st,∃y,Go.WideElems.rd P k anyE x=some y
 | [],st,_=>by simp[ents]
 | p::m,[],_=>by simp[ents]
 | p::m,s::st,hl=>by
  have ih:=QEj hk m st (fun q hq=>hl q (by simp[hq]))
  unfold ents at ih ⊢
  simp only[List.zip_cons_cons,List.map_cons,List.mem_cons,forall_eq_or_imp]
  refine⟨?_,ih⟩
  have h1:keyOf P k (str p.1)=some (.string p.1):=by
   have:=Go.WideMaps.keyOf_string_mk (P:=P) (k:=k) hk (s:=⟨p.1.toArray⟩) (by show p.1.toArray.size≤maxLen;rw[List.size_toArray];exact hl p (by simp))
   simpa [str] using this
  exact⟨(.string p.1,.nil),by simp[Go.WideElems.rd,h1,anyE]⟩
theorem Qsx:∀(m:List (Str×Value)) (st:List Nat),m.length=st.length→(ents m st).map (·.born)=st
 | [],[],_=>by simp[ents]
 | [],_::_,h=>by simp at h
 | p::m,[],h=>by simp at h
 | p::m,s::st,h=>by
  have ih:=Qsx m st (by simpa using h)
  unfold ents at ih ⊢
  simp only[List.zip_cons_cons,List.map_cons,ih]
theorem QCz:∀(m:List (Str×Value)) (st:List Nat),m.length=st.length→(ents m st).map (·.key)=m.map fun p=>str p.1
 | [],[],_=>by simp[ents]
 | [],_::_,h=>by simp at h
 | p::m,[],h=>by simp at h
 | p::m,s::st,h=>by
  have ih:=QCz m st (by simpa using h)
  unfold ents at ih ⊢
  simp only[List.zip_cons_cons,List.map_cons,ih]
theorem QCy (m:List (Str×Value))(st:List Nat)(h:m.length=st.length):(ents m st).length=m.length:=by
 simp[ents,h]
variable {c r:Nat}{m:List (Str×Value)}{st:List Nat}
theorem QEX {k:TypeId}(hk:P.underlying k=some .string){w:World}(ok:Qga m st c)(hb:w.heap[r]?=some (.map (ents m st).toArray c))
  (hl:∀p∈m,p.1.length≤maxLen) (hm:m.length≤maxLen) :
  w.ownsMap P k anyE r m.length (.map ((m.map fun p=>((.string p.1:Lit),(.nil:DataW Unit))).foldr DataW.insert [])):=by
 refine⟨_,c,hb,⟨?_,⟨?_,?_,?_⟩,?_⟩,?_,?_⟩
 ·rw[List.size_toArray,QCy m st ok.len];exact hm
 ·intro x hx
  have:x.born∈(ents m st).map (·.born):=List.mem_map.2 ⟨x,by simpa using hx,rfl⟩
  rw[Qsx m st ok.len] at this
  exact ok.lt _ this
 ·show ((ents m st).map (·.born)).Nodup
  rw[Qsx m st ok.len]
  exact ok.born
 ·show ((ents m st).map (·.key)).Nodup
  rw[QCz m st ok.len]
  have:=ok.keys
  rw[List.Nodup,List.pairwise_map] at this ⊢
  exact this.imp fun h e=>h (QIE e)
 ·exact QEj hk m st hl
 ·rw[List.size_toArray,QCy m st ok.len];exact nr
 ·show _=DataW.map (((ents m st).map (Go.WideElems.rg P k anyE)).foldr DataW.insert [])
  rw[QEi hk m st ok.len hl]
theorem strKeys_perm (m:List (Str×Value)):(strKeys (.map ((m.map fun p=>((.string p.1:Lit),(.nil:DataW Unit))).foldr DataW.insert []))).Perm (m.map (·.1)):=by
 have h:=(Go.WideShapes.sorted_perm (m.map fun p=>((.string p.1:Lit),(.nil:DataW Unit)))).map (fun p:Lit×DataW Unit=>strOf p.1)
 show (List.map (fun p:Lit×DataW Unit=>strOf p.1) _).Perm _
 refine h.trans ?_
 rw[List.map_map]
 exact .of_eq (List.map_congr_left fun p _=>rfl)
abbrev QA5 (d:List Str):List Str:=d.mergeSort fun x y=>decide (x≤y)
theorem QFI [Gd] (hg:¬Gd.g)(L6:SlLaysZ.n6 P ρ)(hS:AnyZ.SortsIn P ρ Fence.wide 5)(e9:∀args w,(callFunc (ρ.f 9) args).run P w=.ok (.enter (ρ.f 9) args) w)(L10:SlLaysZ.n10 P ρ')(eg:∀args w,(callFunc (ρ'.f 10) args).run P w=.ok (.enter (ρ'.f 10) args) w)
  {h:Heap}{Bm:Nat} (hbox:cellAt h ⟨Bm,0,none⟩=some (.map (some r))) (ok:Qga m st c) (hb:h[r]?=some (.map (ents m st).toArray c))
  (hl:∀p∈m,p.1.length≤maxLen) (hm:m.length≤1000000) :
  HC P (ρ.f 6) #[.func (.func (ρ'.f 10)) #[] #[.pointer (some ⟨Bm,0,none⟩)]] h fun u h'=>∃ks:List Str,ks.Perm (m.map (·.1))∧St h h' [Row 1 u ks.length ((QA5 ks).map str)]:=by
 have hmx:(1000000:Nat)≤maxLen:=by decide
 refine HC.of_ret fun w hw=>?_
 have hsz:Maps.size (.map ((m.map fun p=>((.string p.1:Lit),(.nil:DataW Unit))).foldr DataW.insert []))≤1000000:=by
  have:=(Go.WideShapes.sorted_perm (m.map fun p=>((.string p.1:Lit),(.nil:DataW Unit)))).length_eq
  simp only[Maps.size]
  rw[this]
  simpa using hm
 have hown:=QEX (P:=P) (k:=ρ'.t 26) L10.t26 (w:=w) ok (by rw[hw];exact hb) hl om
 have hBm:Bm<w.heap.size:=by rw[hw];exact QzL hbox
 have hseq:=AnyZ.keys_gives L10 Fence.wide 3 trivial rfl om Bm r m.length _ w hBm (by rw[Qee,hw];exact hbox) hown
 have hcol:=AnyZ.sorted_in L6 Fence.wide 6 trivial trivial trivial trivial rfl om hS e9 (ρ'.f 10) #[.pointer (some ⟨Bm,0,none⟩)] trivial eg _ _ om om w hseq
 refine (callsIn_wide.1 hcol).mono ?_
 rintro e w' ⟨v,ss,rfl,hP,hrow,hnil,hbl⟩
 refine⟨v,rfl,⟨hbl.os,hbl.tape,hbl.output,fun g=>absurd g hg⟩,ss,List.Perm.trans hP (strKeys_perm m),?_⟩
 obtain⟨hlen,hrow⟩:=hrow
 have e1:(ss.mergeSort fun x y=>decide (x≤y)).map encStr=(QA5 ss).map str:=rfl
 have el:(QA5 ss).length=ss.length:=List.length_mergeSort _
 have hbk:∀b,b<h.size→w'.heap[b]?=h[b]?:=fun b hb=>by
  rw[←hw] at hb ⊢
  exact hbl.block b hb
 have hsize:h.size≤w'.heap.size:=by rw[←hw];exact hbl.size
 rcases hrow with⟨rfl,hn⟩ | ⟨g,cap,cur,rfl,hbase,hcell,hcap,_,hcur,htake⟩
 ·have:ss=[]:=by simpa using hn
  subst this
  exact⟨⟨hsize,hbk⟩,fun _=>False,⟨by simp,.inl ⟨rfl,rfl⟩⟩,fun _ h=>h.elim,trivial⟩
 ·refine (St.nil h).new hsize hbk ⟨by simp[el],.inr ⟨⟨g,0,none⟩,cap,cur.toList.drop ss.length,rfl,hcap,?_,?_⟩⟩
  ·rw[List.length_drop,Array.length_toList,hcur];omega
  ·refine⟨g,0,ρ.t 26,[],[],rfl,⟨by rw[←hw];exact hbase,lt_of_some hcell⟩,?_,rfl⟩
   rw[hcell]
   congr 2
   rw[Nat.mul_one] at htake
   rw[List.nil_append,List.append_nil,←e1,←htake,List.take_append_drop]
end Go.Sh
set_option linter.unusedSectionVars false
noncomputable section
namespace Go.Va
open Go Go.Sh Go.ChangeShapes Go.WideShapes Go.ChangeAt Go.RowKit
variable [Vb]
section
variable {α:Type}{enc:α→List Value}{k:Nat}
theorem QGD (hk:∀x,(enc x).length=k):∀l:List α,(l.flatMap enc).length=l.length * k
 | []=>by simp
 | x::l=>by rw[List.flatMap_cons,List.length_append,QGD hk l,hk,List.length_cons,Nat.add_mul];omega
theorem QEg (hk:∀x,(enc x).length=k):∀(l:List α) (i:Nat),(l.flatMap enc).drop (i * k)=(l.drop i).flatMap enc
 | l,0=>by simp
 | [],i+1=>by simp
 | x::l,i+1=>by
  rw[List.flatMap_cons,List.drop_succ_cons,←QEg hk l i,Nat.add_mul,Nat.one_mul,Nat.add_comm,←List.drop_drop,List.drop_left' (hk x)]
variable {i:Nat}{l:List α}
theorem QI8 (hk:∀x,(enc x).length=k){a:α}(hi:l[i]?=some a):((l.flatMap enc).drop (i * k)).take k=enc a:=by
 obtain⟨hlt,rfl⟩:=List.getElem?_eq_some_iff.1 hi
 rw[QEg hk,List.drop_eq_getElem_cons hlt,List.flatMap_cons,List.take_left' (hk _)]
theorem QKw (hk:∀x,(enc x).length=k){off:Nat}{a:α}{x:Value}(hi:l[i]?=some a)(hx:(enc a)[off]?=some x):(l.flatMap enc)[i * k+off]?=some x:=by
 have hoff:off<k:=by rw[←hk a];exact (List.getElem?_eq_some_iff.1 hx).1
 rw[←List.getElem?_drop,←hx,←QI8 hk hi,List.getElem?_take,if_pos hoff]
end
mutual
def bk:LD→Nat
 | .s s=>s.length
 | .p _ cs=>bkL cs
 | .l _ _ es=>bkL es
 | .t cs=>bkL cs
 | .n _=>0
 | .b _=>0
 | .nul=>0
def bkL:List LD→Nat
 | []=>0
 | d::r=>bk d+bkL r
end
mutual
def wd {H:Type}:DataW H→Nat
 | .lit l=>(match l with
  | .string b=>b.length
  | _=>0)
 | .slice es _=>wdL es
 | .agg ps=>wdL ps
 | .nil=>0
 | .ptr _=>0
 | .iface _ _=>0
 | .map _=>0
 | .held _=>0
def wdL {H:Type}:List (DataW H)→Nat
 | []=>0
 | d::r=>wd d+wdL r
end
theorem QWe {H:Type}:∀ {ds:List LD}{xs:List (DataW H×List MemPlace)},ds.length=xs.length→(∀(i:Nat) (d:LD) (x:DataW H×List MemPlace),ds[i]?=some d→xs[i]?=some x→bk d≤wd x.1)→bkL ds≤wdL (xs.map (·.1))
 | [],[],_,_=>nr
 | d::ds,x::xs,hl,h=>by
  have h1:=h 0 d x rfl rfl
  have h2:=QWe (ds:=ds) (xs:=xs) (by simpa using hl) fun i d' x' hd hx=>h (i+1) d' x' (by simpa using hd) (by simpa using hx)
  simp only[bkL,List.map_cons,wdL];omega
 | [],_::_,hl,_=>by simp at hl
 | _::_,[],hl,_=>by simp at hl
theorem QVI:∀a b:List LD,bkL (a++b)=bkL a+bkL b
 | [],b=>by simp[bkL]
 | d::a,b=>by rw[List.cons_append,bkL,bkL,QVI a b,Nat.add_assoc]
structure Opk (P:Program)(t:TypeId)(ks:List CK):Prop where
 len:P.cellsOf t=ks.length
 run:∀ {H:Type}{enc:TypeId×Value→H}{w:World}{base:Nat}{sp:Nat→Bool}{held:Bool}{fuel:Nat}{cs:List Value}{x:DataW H×List MemPlace},
  DataW.trod enc P w base sp held fuel t cs=some x→∃ds:List LD,cs=LD.vs ks ds∧wtL ds ks∧Q5 (env0 w.heap).rd ds ks∧bkL ds≤wd x.1
variable {P:Program}{t:TypeId}
variable {k:IntKind}
theorem QJT {n:Int}(h:(Lit.int k n).wf=true):loK k≤n∧n≤hiK k:=by
 cases k<;>simp[Lit.wf,IntKind.min,IntKind.max,IntKind.signed,IntKind.bits] at h<;>exact⟨h.1,h.2⟩
theorem QIS (ht:P.underlying t=some (.int k))(hl:P.cellsOf t=1):Opk P t [.i k]:=⟨hl,fun h=>by
 obtain⟨n,rfl,rfl,hw⟩:=DataW.trod_int ht h
 exact⟨[.n n],rfl,by simp only[wtL,wt];exact⟨QJT hw,trivial⟩,by simp only[Q5,lies];exact⟨trivial,trivial⟩,zo⟩⟩
theorem QWh (ht:P.underlying t=some .bool)(hl:P.cellsOf t=1):Opk P t [.b]:=⟨hl,fun h=>by
 obtain⟨n,rfl,rfl⟩:=DataW.trod_bool ht h
 exact⟨[.b n],rfl,by simp only[wtL,wt];exact⟨trivial,trivial⟩,by simp only[Q5,lies];exact⟨trivial,trivial⟩,zo⟩⟩
theorem QWr (ht:P.underlying t=some .string)(hl:P.cellsOf t=1):Opk P t [.s]:=⟨hl,fun h=>by
 obtain⟨⟨⟨n⟩⟩,rfl,rfl,hw⟩:=DataW.trod_string ht h
 have hw:n.length≤maxLen:=by simpa [ByteArray.size] using hw
 have e:maxL=maxLen:=by unfold maxL;decide
 exact⟨[.s n],rfl,by simp only[wtL,wt,e];exact⟨hw,trivial⟩,by simp only[Q5,lies];exact⟨trivial,trivial⟩,nr⟩⟩
theorem QDK {ι:Type}{ks:List CK}{f:ι→List LD}(h:∀i,wtL (f i) ks):∀l:List ι,wtE (l.map fun i=>.t (f i)) ks
 | []=>by simp[wtE]
 | i::l=>by simp only[List.map_cons,wtE,wtT];exact⟨h i,QDK h l⟩
theorem QzD {ι:Type}{R:Addr→List Value→Prop}{ks:List CK}{f:ι→List LD}(h:∀i,Q5 R (f i) ks):∀l:List ι,QI R (l.map fun i=>.t (f i)) ks
 | []=>by simp[QI]
 | i::l=>by simp only[List.map_cons,QI,Qbz];exact⟨h i,QzD h l⟩
variable {ks:List CK}
theorem Qzy {e n:TypeId}(ht:P.underlying t=some (.slice e))(hl:P.cellsOf t=1)(hk:ks≠[])(ly:Vb.ly[n]?=some ks)(o:Opk P e ks):Opk P t [.l n]:=⟨hl,fun {H enc w base sp held fuel cs x} h=>by
 rcases DataW.trod_slice ht h with⟨rfl,rfl⟩ | ⟨a,len,cap,elems,rest,m,_,rfl,rfl,hb,hl,hm,hlen,hel,_⟩
 ·exact⟨[.nul],rfl,by simp only[wtL,wt];exact⟨trivial,trivial⟩,by simp only[Q5,lies];exact⟨trivial,trivial⟩,zo⟩
 have each:∀i:Fin len,∃ds:List LD,wtL ds ks∧Q5 (env0 w.heap).rd ds ks∧(∀x,elems[i.val]?=some x→bkL ds≤wd x.1)∧∀j,j<ks.length→w.cell? ((a.add (i.val * ks.length)).add j)=(LD.vs ks ds)[j]?:=by
  intro i
  have hi:=hel i.val i.isLt
  rw[o.len,List.getElem?_eq_getElem (by rw[hlen];exact i.isLt),Option.bind_eq_some_iff] at hi
  obtain⟨ci,h1,h2⟩:=hi
  obtain⟨_,h3,h4⟩:=World.cells?_some h1
  obtain⟨ds,rfl,h6,h7,h8⟩:=o.run h2
  refine⟨ds,h6,h7,fun x hx=>?_,h4⟩
  rw[List.getElem?_eq_getElem (by rw[hlen];exact i.isLt),sj] at hx
  rw[←hx];exact h8
 obtain⟨f,hf⟩:=Classical.axiomOfChoice each
 have hpos:0<ks.length:=by cases ks<;>simp_all
 have hvl:∀i:Fin len,(LD.vs ks (f i)).length=ks.length:=fun i=>(QaW (hf i).1).1
 have e:maxL=maxLen:=by unfold maxL;decide
 have hes:((List.finRange len).map fun i=>LD.t (f i)).length=len:=by rw[List.length_map,List.length_finRange]
 refine⟨[.l a cap ((List.finRange len).map fun i=>.t (f i))],?_,?_,?_,?_⟩
 ·simp only[LD.vs,LD.v,hes]
 ·simp only[wtL,wt]
  rw[ly]
  exact⟨⟨by rw[hes];exact hl,by rw[hes,e];omega,hk,QDK (fun i=>(hf i).1) _⟩,trivial⟩
 ·simp only[Q5,lies]
  rw[ly]
  refine⟨⟨?_,QzD (fun i=>(hf i).2.1) _⟩,trivial⟩
  intro g hg
  have hvs:LD.vsE ks ((List.finRange len).map fun i=>LD.t (f i))=(List.finRange len).flatMap fun i=>LD.vs ks (f i):=by
   simp[LD.vsE,List.flatMap_map,LD.cs]
  rw[hvs]
  rcases Nat.eq_zero_or_pos len with h0 | h0
  ·subst h0;exact .inl (by simp[List.finRange])
  have hsp:a.spot=none:=by
   have h1:=(hf ⟨0,h0⟩).2.2.2 0 hpos
   have h2:(LD.vs ks (f ⟨0,h0⟩))[0]?=some ((LD.vs ks (f ⟨0,h0⟩))[0]'(by rw[hvl];exact hpos)):=List.getElem?_eq_getElem _
   rw[h2] at h1
   simp only[Nat.zero_mul,Addr.add] at h1
   simpa using World.cell?_spot h1
  obtain⟨b,off,spot⟩:=a
  simp only at hsp
  subst hsp
  refine .inr ⟨b,off,rfl,fun j x hx=>?_⟩
  have hjl:=(List.getElem?_eq_some_iff.1 hx).1
  rw[QGD (enc:=fun i:Fin len=>LD.vs ks (f i)) hvl,List.length_finRange] at hjl
  have hq:j / ks.length<len:=(Nat.div_lt_iff_lt_mul hpos).2 hjl
  have hr:j % ks.length<ks.length:=Nat.mod_lt _ hpos
  have hcell:=(hf ⟨j / ks.length,hq⟩).2.2.2 (j % ks.length) hr
  have hsome:(LD.vs ks (f ⟨j / ks.length,hq⟩))[j % ks.length]?=some ((LD.vs ks (f ⟨j / ks.length,hq⟩))[j % ks.length]'(by rw[hvl];exact hr)):=List.getElem?_eq_getElem _
  have hget:=QKw (enc:=fun i:Fin len=>LD.vs ks (f i)) hvl (l:=List.finRange len) (i:=j / ks.length) (a:=⟨j / ks.length,hq⟩) (by simp[List.finRange,hq]) hsome
  rw[Nat.div_add_mod' j ks.length] at hget
  rw[hget] at hx
  rw[hsome,hx] at hcell
  rw[WideShapes.add_plain,WideShapes.add_plain] at hcell
  rw[show off+j / ks.length * ks.length+j % ks.length=off+j by rw[Nat.add_assoc,Nat.div_add_mod']] at hcell
  rw[Qee] at hcell
  have hg1:∀(b:Nat) (o:Obj),w.heap[b]?=some o→g[b]?=some o:=hg.1
  unfold cellAt at hcell ⊢
  cases hb:w.heap[b]? with
  | none=>simp[hb] at hcell
  | some o=>simp only[hb,hg1 b o hb] at hcell ⊢;exact hcell
 ·have hb:bkL ((List.finRange len).map fun i=>LD.t (f i))≤wdL (elems.map (·.1)):=QWe (by rw[hes,hlen]) fun i d x hd hx=>by
   rw[List.getElem?_map,Option.map_eq_some_iff] at hd
   obtain⟨k,hk,rfl⟩:=hd
   have:k.val=i:=by
    have h1:=(List.getElem?_eq_some_iff.1 hk).2
    rw[←h1];simp
   exact (hf k).2.2.1 x (by rw[this];exact hx)
  show bkL _+0≤wdL _
  exact hb⟩
inductive OpkF [Vb] (P:Program):List Field→Nat→List CK→Prop where
 | nil (o:Nat):OpkF P [] o []
 | cons (f:Field) (r:List Field) (o:Nat) (ks ks':List CK):f.offset=o→Opk P f.type ks→OpkF P r (o+ks.length) ks'→OpkF P (f::r) o (ks++ks')
theorem QUM {H:Type}{enc:TypeId×Value→H}{w:World}{base:Nat}{sp:Nat→Bool}{held:Bool}{n:Nat}{cs:List Value}:∀ {fs:List Field}{o:Nat}{ks:List CK},OpkF P fs o ks→∀ {xs:List (DataW H×List MemPlace)},xs.length=fs.length→cs.length=o+ks.length →
  (∀(i:Nat) (f:Field),fs[i]?=some f→DataW.trod enc P w base sp held n f.type ((cs.drop f.offset).take (P.cellsOf f.type))=xs[i]?)→∃ds:List LD,cs.drop o=LD.vs ks ds∧wtL ds ks∧Q5 (env0 w.heap).rd ds ks∧bkL ds≤wdL (xs.map (·.1))
 | [],o,_,.nil _,xs,_,hc,_=>⟨[],by simp only[LD.vs];exact List.drop_eq_nil_of_le (by simp only[List.length_nil] at hc;omega),by simp only[wtL],by simp only[Q5],zo⟩
 | f::r,o,_,.cons _ _ _ ks ks' ho hk hr,xs,hl,hc,hf=>by
  match xs,hl with
  | x::xs,hl=>
  have h1:=hf 0 f rfl
  simp only[List.getElem?_cons_zero] at h1
  obtain⟨ds,e1,w1,l1,b1⟩:=hk.run h1
  rw[ho,hk.len] at e1
  rw[List.length_append] at hc
  obtain⟨ds',e2,w2,l2,b2⟩:=QUM (cs:=cs) hr (xs:=xs) (by simpa using hl) om fun i g hg=>by
   have:=hf (i+1) g (by simpa using hg)
   simpa using this
  have hlen:=(QaW w1).2
  refine⟨ds++ds',?_,QcE w1 w2,Qmq hlen l1 l2,by rw[QVI];exact Nat.add_le_add b1 b2⟩
  rw[Qjv hlen,←e1,←e2,←List.drop_drop,List.take_append_drop]
theorem QOr {fs:Array Field}(ht:P.underlying t=some (.struct fs))(hl:P.cellsOf t=ks.length)(h:OpkF P fs.toList 0 ks):Opk P t ks:=⟨hl,fun {H enc w base sp held fuel cs x} hx=>by
 obtain⟨xs,n,_,rfl,hc,hxl,hf⟩:=DataW.trod_struct ht hx
 obtain⟨ds,e,w1,l1,b1⟩:=QUM h (xs:=xs) (cs:=cs) (by rw[hxl];simp) (by rw[hc,hl];omega) fun i f hi=>hf i f (by simpa using hi)
 exact⟨ds,by simpa using e,w1,l1,b1⟩⟩
end Go.Va
namespace Go.Va
open Go Go.Sh Go.ChangeShapes Go.WideShapes Go.ChangeAt Go.RowKit
variable [Vb]
section
variable {P:Program}{t:TypeId}{ks:List CK}{H:Type}{enc:TypeId×Value→H}{W:World}{base:Nat}{sp:Nat→Bool}{held:Bool}{v:Value}{d:DataW H}{ps:List MemPlace}{r:Reach}{b0:Nat}
variable {k:CK}
theorem QUL (o:Opk P t [k])(hv:v.cells=#[v])(hd:DataW.Trod enc P W base sp held t v d ps):∃x:LD,wt x k∧lies (env0 W.heap).rd x k∧den (env0 W.heap) (leaf k x)=some v∧bk x≤wd d:=by
 obtain⟨fuel,hf⟩:=hd
 obtain⟨ds,e,h1,h2,h3⟩:=o.run hf
 rw[hv] at e
 match ds,h1,h2,e with
 | [x],h1,h2,e=>
  simp only[wtL] at h1
  simp only[Q5] at h2
  refine⟨x,h1.1,h2.1,?_,by simpa [bkL] using h3⟩
  rw[Qg2 ⟨h1.1,h2.1⟩]
  have:[v]=[LD.v k x]:=e
  rw[(List.cons.inj this).1]
theorem QIR (o:Opk P t [k])(hv:v.cells=#[v])(hd:DataW.Trod enc P W base sp held t v d ps):∃x:LD,wt x k∧lies (env0 W.heap).rd x k∧den (env0 W.heap) (leaf k x)=some v:=by
 obtain⟨x,h1,h2,h3,_⟩:=QUL o hv hd
 exact⟨x,h1,h2,h3⟩
end
variable {P:Program}
end Go.Va
set_option maxRecDepth 100000
namespace Go.Proofs.YtmdppkbekmpopaaGreat
open Go Go.Sh Go.Va Go.Shelf Go.Sort
variable {P:Program}{ρ ρ':Ren}
def Q6:QF:=fun xs Ks=>∃fd,xs=[.t fd]∧fd.length≤1000000∧nthK Ks 0 [.t fd,.t (rowS (Qfr (fd.map keyE)))]
def Qjq (k t:Nat)(ag:Bool)(q:QF):Ctr:=⟨⟨[.f (.func k) [] [.p 0 0]],[.c [.m 1 t ag] 0,.m t ag]⟩,[⟨[.s 2 1],[.c [.m 1 t ag] 0,.m t ag,.r 1]⟩],q⟩
def QmQ (q:QF):Ctr:=Qjq 164 26 true q
theorem Qyb:∀ {l:List Str},(∀s∈l,s.length≤maxL)→wtE (rowS l) [.s]
 | [],_=>by simp[rowS,wtE]
 | s::l,h=>by
  have h1:=Qyb (l:=l) fun x hx=>h x (.tail _ hx)
  have h2:=h s (.head _)
  show wtE (.t [.s s]::rowS l) [.s]
  simp only[wtE,wtT,wtL,wt]
  exact⟨⟨h2,trivial⟩,h1⟩
theorem wt_r {l:List Str}(hl:l.length≤maxL)(h:∀s∈l,s.length≤maxL):wt (.t (rowS l)) (.r 1):=by
 simp only[wt,ly1]
 exact⟨by rw[rowS,List.length_map];exact hl,by simp,Qyb h⟩
theorem QEa {R:Addr→List Value→Prop}:∀l:List Str,QI R (rowS l) [.s]
 | []=>by simp[rowS,QI]
 | s::l=>by
  have h1:=QEa (R:=R) l
  show QI R (.t [.s s]::rowS l) [.s]
  simp only[QI,Qbz,Q5,lies]
  exact⟨⟨trivial,trivial⟩,h1⟩
theorem QDO:∀l:List Str,LD.vsE [.s] (rowS l)=l.map str
 | []=>rfl
 | s::l=>by
  have h1:=QDO l
  show LD.vsE [.s] (.t [.s s]::rowS l)=_
  rw[LD.vsE,List.flatMap_cons,←LD.vsE,h1]
  rfl
theorem QBG (l:List Str):(rowS l).length=l.length:=by rw[rowS,List.length_map]
theorem QyL {kr:List CK}:∀ {es:List LD},wtE es (.s::kr)→∀e∈es,(keyE e).length≤maxL
 | x::r,h,e,he=>by
  simp only[wtE] at h
  rcases List.mem_cons.1 he with he | he
  ·obtain⟨h1,_⟩:=h
   rw[he]
   cases x<;>simp only[wtT] at h1
   rename_i cs
   obtain⟨d,r',rfl,hd,_⟩:=QG0 h1
   obtain⟨s,rfl,hs⟩:=wt_s hd
   exact hs
  ·exact QyL h.2 e he
theorem QIF {ρ2:Ren}(L:SlLaysM.n6 P ρ2)(h9:ρ.f 9=ρ2.f 6)(m:Nat):AnyZ.SortsIn P ρ Fence.wide m:=by
 rw[AnyZ.SortsIn,h9]
 exact⟨fun b o cap d w h1 h2 h3=>callsIn_wide.2 (AnyM.slices_Sort_string L b o cap d w h1 h2 h3),fun p cap w=>callsIn_wide.2 (AnyM.slices_Sort_string_none L p cap w)⟩
theorem QHc (L6:SlLaysZ.n6 P ρ)(hS:AnyZ.SortsIn P ρ Fence.wide 5)(e9:∀args w,(callFunc (ρ.f 9) args).run P w=.ok (.enter (ρ.f 9) args) w)(L10:SlLaysZ.n10 P ρ')(eg:∀args w,(callFunc (ρ'.f 10) args).run P w=.ok (.enter (ρ'.f 10) args) w)(eh:∀args w,(callFunc (ρ.f 6) args).run P w=.ok (.enter (ρ.f 6) args) w){t:Nat}{ag:Bool}{kr:List CK}(lyt:(Vb.ly:List (List CK))[t]?=some (.s::kr)) :
  ∀G:Gd,G.Q→@QOk _ G P (ρ.f 6) (Qjq (ρ'.f 10) t ag Q6):=by
 rintro G hg xs Ks hw ⟨fd,rfl,hn,hk⟩ F h0 h L us r hd w hwh
 have g0:(thS (Qjq (ρ'.f 10) t ag Q6).i [.t fd]).t.get 0=some (.cells [.map 1] 0):=kx
 have g1:(thS (Qjq (ρ'.f 10) t ag Q6).i [.t fd]).t.get 1=some (.mp t ag fd):=kx
 obtain⟨a,us',post,hc,s⟩:=r.told g0
 have ho:=(hc.2.2.2.1 rfl).2
 obtain⟨b0,us2,q1,q2,rfl⟩:=QR hc.2.1
 obtain⟨ad,hp,rfl⟩:=QeF q1
 obtain⟨S0,⟨bk,off,T,pre,po,ea,_,hb,hoff⟩,_⟩:=s.get
 simp only[Value.pointer.injEq,sj] at ea
 subst ea
 have ho:off=0:=ho
 subst ho
 have hpre:pre=[]:=List.length_eq_zero_iff.1 hoff.symm
 subst hpre
 have hcell:cellAt h ⟨bk,0,none⟩=some (.map (some ad.block)):=by simp[cellAt,hb]
 obtain⟨ad',ks,hm,s2⟩:=r.toldP g1
 have e1:ad'=ad:=by have:=hm.p;rw[hp] at this;simpa using this.symm
 subst e1
 have ek:ks=kr:=by have:=hm.ly;rw[lyt] at this;simpa using this.symm
 subst ek
 obtain⟨st,s2⟩:=s2.ex
 obtain⟨c,s2⟩:=s2.ex
 obtain⟨hok,q,eq,hbm⟩:=s2.mapRd
 simp only[Value.map.injEq,sj] at eq
 rw[←eq] at hbm
 have hkeys:(fd.map (entM ag ks)).map (·.1)=fd.map keyE:=by rw[List.map_map];rfl
 have hus:us=[.func (.func (ρ'.f 10)) #[] #[.pointer (some ⟨bk,0,none⟩)]]:=by
  have hd':denL F [.fn (.func (ρ'.f 10)) [] [.ptr 0 0]]=some us:=hd
  simp only[denL,den,hc.1,sj] at hd'
  rw[←hd'];rfl
 subst hus
 rw[eh]
 refine⟨Qx.refl w,?_⟩
 rw[hwh]
 refine HC.mono (QFI hg.1 L6 hS e9 L10 eg hcell hok hbm (fun p hp'=>?_) (by rw[List.length_map];exact hn)) fun u h'=>?_
 ·obtain⟨e,he,rfl⟩:=List.mem_map.1 hp'
  have:=QyL hm.wt e he
  exact this
 ·rintro⟨l0,hperm,st'⟩
  rw[hkeys] at hperm
  have hnd:(fd.map keyE).Nodup:=by rw[←hkeys];exact hok.keys
  have hsl:QA5 l0=Qfr (fd.map keyE):=QEN (QvA (hperm.nodup_iff.2 hnd)) (QvA hnd) fun x=>by
   rw[Qnm]
   exact Qnm.trans hperm.mem_iff
  have hl0:l0.length=(Qfr (fd.map keyE)).length:=by rw[←hsl];exact (List.length_mergeSort _).symm
  rw[hsl,hl0] at st'
  generalize hl:Qfr (fd.map keyE)=l at hk st' hsl hl0
  have hlen:∀x∈l,x.length≤maxL:=fun x hx=>by
   rw[←hl] at hx
   obtain⟨e,he,rfl⟩:=List.mem_map.1 (Qnm.1 hx)
   exact QyL hm.wt e he
  have hll:l.length=fd.length:=by rw[←hl0,hperm.length_eq,List.length_map]
  have s3:=r.st.call st'
  have s4:St h0 h' (Row 1 u (rowS l).length (LD.vsE [.s] (rowS l))::((thS (Qjq (ρ'.f 10) t ag Q6).i [.t fd]).t.all.map (Go.Va.part F)++(FzP F.z::L))):=by
   rw[QBG,QDO]
   exact s3
  obtain⟨hle,hr2,hd2⟩:=Rep.addW (t:=1) (es:=rowS l) (ks:=[.s]) r.fr r.eh r.nx ly1 (by simp) (Qyb hlen) (QEa l) (by rw[QBG,hll];exact Nat.le_trans hn (by decide)) s4
  refine⟨0,_,[.t fd,.t (rowS l)],_,[u],rfl,?_,hk,⟨fun j a _ hj=>⟨(hle.p.a j a hj).1,(hle.p.a j a hj).2,hle.p.s j a hj⟩,rfl,fun q hq=>hq⟩,hr2,?_,rfl⟩
  ·have h1:wtL [.t fd] [.r t]:=hw
   simp only[wtL] at h1
   show wtL [.t fd,.t (rowS l)] [.r t,.r 1]
   simp only[wtL]
   exact⟨h1.1,wt_r (by rw[hll];exact Nat.le_trans hn (by decide)) hlen,trivial⟩
  ·show denL _ [.os 1 2]=some [u]
   simp only[denL]
   rw[show den (F.addR (thS (Qjq (ρ'.f 10) t ag Q6).i [.t fd]).nx u) (.os 1 2)=some u from hd2]
end Go.Proofs.YtmdppkbekmpopaaGreat
