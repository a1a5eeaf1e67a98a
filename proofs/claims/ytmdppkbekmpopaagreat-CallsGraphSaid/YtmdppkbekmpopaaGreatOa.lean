import Derived.Test.YtmdppkbekmpopaaGreatCl4
import Derived.ChangeArms
import Derived.Shelf.SortM.Plain
import Derived.Shelf.SortM.SortNone
import Derived.KernelRfl
set_option linter.unusedVariables false
set_option linter.unusedSectionVars false
set_option linter.unusedSimpArgs false
noncomputable section
namespace Go.Va
open Go Go.Sh Go.ChangeShapes Go.WideShapes Go.ChangeAt Go.RowKit
variable [Vb]
section
variable {α:Type}{enc:α→List Value}{k:Nat}
theorem QGD (hk:∀x,(enc x).length=k):∀l:List α,(l.flatMap enc).length=l.length * k
 | []=>by simp
 | x::l=>by rw[List.flatMap_cons,List.length_append,QGD hk l,hk,List.length_cons,Nat.add_mul];omega
theorem QEg (hk:∀x,(enc x).length=k):∀(l:List α)(i:Nat),(l.flatMap enc).drop (i * k)=(l.drop i).flatMap enc
 | l,0=>by simp
 | [],i+1=>by simp
 | x::l,i+1=>by
  rw[List.flatMap_cons,List.drop_succ_cons,←QEg hk l i,Nat.add_mul,Nat.one_mul,Nat.add_comm,←List.drop_drop,List.drop_left' (hk x)]
theorem QI8 (hk:∀x,(enc x).length=k){l:List α}{i:Nat}{a:α}(hi:l[i]?=some a):((l.flatMap enc).drop (i * k)).take k=enc a:=by
 obtain⟨hlt,rfl⟩:=List.getElem?_eq_some_iff.1 hi
 rw[QEg hk,List.drop_eq_getElem_cons hlt,List.flatMap_cons,List.take_left' (hk _)]
theorem QKw (hk:∀x,(enc x).length=k){l:List α}{i off:Nat}{a:α}{x:Value}(hi:l[i]?=some a)(hx:(enc a)[off]?=some x):(l.flatMap enc)[i * k+off]?=some x:=by
 have hoff:off<k:=by rw[←hk a];exact (List.getElem?_eq_some_iff.1 hx).1
 rw[←List.getElem?_drop,←hx,←QI8 hk hi,List.getElem?_take,if_pos hoff]
end
structure Opk (P:Program)(t:TypeId)(ks:List CK):Prop where
 len:P.cellsOf t=ks.length
 run:∀ {H:Type}{enc:TypeId×Value→H}{w:World}{base:Nat}{sp:Nat→Bool}{held:Bool}{fuel:Nat}{cs:List Value}{x:DataW H×List MemPlace},
  DataW.trod enc P w base sp held fuel t cs=some x→∃ds:List LD,cs=LD.vs ks ds∧wtL ds ks∧Q5 (env0 w.heap).rd ds ks
variable {P:Program}{t:TypeId}
theorem QJT {k:IntKind}{n:Int}(h:(Lit.int k n).wf=true):loK k≤n∧n≤hiK k:=by
 cases k<;>simp[Lit.wf,IntKind.min,IntKind.max,IntKind.signed,IntKind.bits] at h<;>exact⟨h.1,h.2⟩
theorem QIS {k:IntKind}(ht:P.underlying t=some (.int k))(hl:P.cellsOf t=1):Opk P t [.i k]:=⟨hl,fun h=>by
 obtain⟨n,rfl,rfl,hw⟩:=DataW.trod_int ht h
 exact⟨[.n n],rfl,by simp only[wtL,wt];exact⟨QJT hw,trivial⟩,by simp only[Q5,lies];exact⟨trivial,trivial⟩⟩⟩
theorem QDK {ι:Type}{ks:List CK}{f:ι→List LD}(h:∀i,wtL (f i) ks):∀l:List ι,wtE (l.map fun i=>.t (f i)) ks
 | []=>by simp[wtE]
 | i::l=>by simp only[List.map_cons,wtE,wtT];exact⟨h i,QDK h l⟩
theorem QzD {ι:Type}{R:Addr→List Value→Prop}{ks:List CK}{f:ι→List LD}(h:∀i,Q5 R (f i) ks):∀l:List ι,QI R (l.map fun i=>.t (f i)) ks
 | []=>by simp[QI]
 | i::l=>by simp only[List.map_cons,QI,Qbz];exact⟨h i,QzD h l⟩
theorem Qzy {e n:TypeId}{ks:List CK}(ht:P.underlying t=some (.slice e))(hl:P.cellsOf t=1)(hk:ks≠[])(ly:Vb.ly[n]?=some ks)(o:Opk P e ks):Opk P t [.l n]:=⟨hl,fun {H enc w base sp held fuel cs x} h=>by
 rcases DataW.trod_slice ht h with⟨rfl,rfl⟩ | ⟨a,len,cap,elems,rest,m,_,rfl,rfl,hb,hl,hm,hlen,hel,_⟩
 ·exact⟨[.nul],rfl,by simp only[wtL,wt];exact⟨trivial,trivial⟩,by simp only[Q5,lies];exact⟨trivial,trivial⟩⟩
 have each:∀i:Fin len,∃ds:List LD,wtL ds ks∧Q5 (env0 w.heap).rd ds ks∧∀j,j<ks.length→w.cell? ((a.add (i.val * ks.length)).add j)=(LD.vs ks ds)[j]?:=by
  intro i
  have hi:=hel i.val i.isLt
  rw[o.len,List.getElem?_eq_getElem (by rw[hlen];exact i.isLt),Option.bind_eq_some_iff] at hi
  obtain⟨ci,h1,h2⟩:=hi
  obtain⟨_,h3,h4⟩:=World.cells?_some h1
  obtain⟨ds,rfl,h6,h7⟩:=o.run h2
  exact⟨ds,h6,h7,h4⟩
 obtain⟨f,hf⟩:=Classical.axiomOfChoice each
 have hpos:0<ks.length:=by cases ks<;>simp_all
 have hvl:∀i:Fin len,(LD.vs ks (f i)).length=ks.length:=fun i=>(QaW (hf i).1).1
 have e:maxL=maxLen:=by unfold maxL;decide
 have hes:((List.finRange len).map fun i=>LD.t (f i)).length=len:=by rw[List.length_map,List.length_finRange]
 refine⟨[.l a cap ((List.finRange len).map fun i=>.t (f i))],?_,?_,?_⟩
 ·simp only[LD.vs,LD.v,hes]
 ·simp only[wtL,wt]
  rw[ly]
  exact⟨⟨by rw[hes];exact hl,by rw[hes,e];omega,hk,QDK (fun i=>(hf i).1) _⟩,trivial⟩
 ·simp only[Q5,lies]
  rw[ly]
  refine⟨⟨?_,QzD (fun i=>(hf i).2.1) _⟩,trivial⟩
  intro g hg
  have hvs:LD.vsE ks ((List.finRange len).map fun i=>LD.t (f i))=(List.finRange len).flatMap fun i=>LD.vs ks (f i):=by
   simp[LD.vsE,List.flatMap_map,LD.cs]
  rw[hvs]
  rcases Nat.eq_zero_or_pos len with h0 | h0
  ·subst h0;exact .inl (by simp[List.finRange])
  have hsp:a.spot=none:=by
   have h1:=(hf ⟨0,h0⟩).2.2 0 hpos
   have h2:(LD.vs ks (f ⟨0,h0⟩))[0]?=some ((LD.vs ks (f ⟨0,h0⟩))[0]'(by rw[hvl];exact hpos)):=List.getElem?_eq_getElem _
   rw[h2] at h1
   simp only[Nat.zero_mul,Addr.add] at h1
   simpa using World.cell?_spot h1
  obtain⟨b,off,spot⟩:=a
  simp only at hsp
  subst hsp
  refine .inr ⟨b,off,rfl,fun j x hx=>?_⟩
  have hjl:=(List.getElem?_eq_some_iff.1 hx).1
  rw[QGD (enc:=fun i:Fin len=>LD.vs ks (f i)) hvl,List.length_finRange] at hjl
  have hq:j / ks.length<len:=(Nat.div_lt_iff_lt_mul hpos).2 hjl
  have hr:j % ks.length<ks.length:=Nat.mod_lt _ hpos
  have hcell:=(hf ⟨j / ks.length,hq⟩).2.2 (j % ks.length) hr
  have hsome:(LD.vs ks (f ⟨j / ks.length,hq⟩))[j % ks.length]?=some ((LD.vs ks (f ⟨j / ks.length,hq⟩))[j % ks.length]'(by rw[hvl];exact hr)):=List.getElem?_eq_getElem _
  have hget:=QKw (enc:=fun i:Fin len=>LD.vs ks (f i)) hvl (l:=List.finRange len) (i:=j / ks.length) (a:=⟨j / ks.length,hq⟩) (by simp[List.finRange,hq]) hsome
  rw[Nat.div_add_mod' j ks.length] at hget
  rw[hget] at hx
  rw[hsome,hx] at hcell
  rw[WideShapes.add_plain,WideShapes.add_plain] at hcell
  rw[show off+j / ks.length * ks.length+j % ks.length=off+j by rw[Nat.add_assoc,Nat.div_add_mod']] at hcell
  rw[Qee] at hcell
  have hg1:∀(b:Nat) (o:Obj),w.heap[b]?=some o→g[b]?=some o:=hg.1
  unfold cellAt at hcell ⊢
  cases hb:w.heap[b]? with
  | none=>simp[hb] at hcell
  | some o=>simp only[hb,hg1 b o hb] at hcell ⊢;exact hcell⟩
end Go.Va
namespace Go.Va
open Go Go.Sh Go.ChangeShapes Go.WideShapes Go.ChangeAt Go.RowKit
variable [Vb]
section
variable {P:Program}{t:TypeId}{ks:List CK}{H:Type}{enc:TypeId×Value→H}{W:World}{base:Nat}{sp:Nat→Bool}{held:Bool}{v:Value}{d:DataW H}{ps:List MemPlace}{r:Reach}{b0:Nat}
theorem QIR {k:CK}(o:Opk P t [k])(hv:v.cells=#[v])(hd:DataW.Trod enc P W base sp held t v d ps):∃x:LD,wt x k∧lies (env0 W.heap).rd x k∧den (env0 W.heap) (leaf k x)=some v:=by
 obtain⟨fuel,hf⟩:=hd
 obtain⟨ds,e,h1,h2⟩:=o.run hf
 rw[hv] at e
 match ds,h1,h2,e with
 | [x],h1,h2,e=>
  simp only[wtL] at h1
  simp only[Q5] at h2
  refine⟨x,h1.1,h2.1,?_⟩
  rw[Qg2 ⟨h1.1,h2.1⟩]
  have:[v]=[LD.v k x]:=e
  rw[(List.cons.inj this).1]
end
variable {P:Program}
end Go.Va
set_option maxRecDepth 100000
namespace Go.Proofs.YtmdppkbekmpopaaGreat
open Go Go.Sh Go.Va Go.Shelf Go.Sort
variable {P:Program}{ρ ρ':Ren}
def Q6:QF:=fun xs Ks=>∃fd,xs=[.t fd]∧fd.length≤1000000∧nthK Ks 0 [.t fd,.t (rowS (Qfr (fd.map keyE)))]
def Qjq (k:Nat)(q:QF):Ctr:=⟨⟨[.f (.func k) [] [.p 0 0]],[.c [.m 1 26 true] 0,.m 26 true]⟩,[⟨[.s 2 1],[.c [.m 1 26 true] 0,.m 26 true,.r 1]⟩],q⟩
def QmQ (q:QF):Ctr:=Qjq 164 q
theorem Qyb:∀ {l:List Str},(∀s∈l,s.length≤maxL)→wtE (rowS l) [.s]
 | [],_=>by simp[rowS,wtE]
 | s::l,h=>by
  have h1:=Qyb (l:=l) fun x hx=>h x (.tail _ hx)
  have h2:=h s (.head _)
  show wtE (.t [.s s]::rowS l) [.s]
  simp only[wtE,wtT,wtL,wt]
  exact⟨⟨h2,trivial⟩,h1⟩
theorem wt_r {l:List Str}(hl:l.length≤maxL)(h:∀s∈l,s.length≤maxL):wt (.t (rowS l)) (.r 1):=by
 simp only[wt,ly1]
 exact⟨by rw[rowS,List.length_map];exact hl,by simp,Qyb h⟩
theorem QEa {R:Addr→List Value→Prop}:∀l:List Str,QI R (rowS l) [.s]
 | []=>by simp[rowS,QI]
 | s::l=>by
  have h1:=QEa (R:=R) l
  show QI R (.t [.s s]::rowS l) [.s]
  simp only[QI,Qbz,Q5,lies]
  exact⟨⟨trivial,trivial⟩,h1⟩
theorem QDO:∀l:List Str,LD.vsE [.s] (rowS l)=l.map str
 | []=>rfl
 | s::l=>by
  have h1:=QDO l
  show LD.vsE [.s] (.t [.s s]::rowS l)=_
  rw[LD.vsE,List.flatMap_cons,←LD.vsE,h1]
  rfl
theorem QBG (l:List Str):(rowS l).length=l.length:=by rw[rowS,List.length_map]
theorem ly26:(Vb.ly:List (List CK))[26]?=some [.s]:=rfl
theorem QyL:∀ {es:List LD},wtE es [.s]→∀e∈es,(keyE e).length≤maxL
 | x::r,h,e,he=>by
  simp only[wtE] at h
  rcases List.mem_cons.1 he with he | he
  ·obtain⟨h1,_⟩:=h
   rw[he]
   cases x<;>simp only[wtT] at h1
   rename_i cs
   obtain⟨d,r',rfl,hd,_⟩:=QG0 h1
   obtain⟨s,rfl,hs⟩:=wt_s hd
   exact hs
  ·exact QyL h.2 e he
theorem QIF {ρ2:Ren}(L:SlLaysM.n6 P ρ2)(h9:ρ.f 9=ρ2.f 6)(m:Nat):AnyZ.SortsIn P ρ Fence.wide m:=by
 rw[AnyZ.SortsIn,h9]
 exact⟨fun b o cap d w h1 h2 h3=>callsIn_wide.2 (AnyM.slices_Sort_string L b o cap d w h1 h2 h3),fun p cap w=>callsIn_wide.2 (AnyM.slices_Sort_string_none L p cap w)⟩
theorem QHc (L6:SlLaysZ.n6 P ρ)(hS:AnyZ.SortsIn P ρ Fence.wide 5)(e9:∀args w,(callFunc (ρ.f 9) args).run P w=.ok (.enter (ρ.f 9) args) w)(L10:SlLaysZ.n10 P ρ')(eg:∀args w,(callFunc (ρ'.f 10) args).run P w=.ok (.enter (ρ'.f 10) args) w)(eh:∀args w,(callFunc (ρ.f 6) args).run P w=.ok (.enter (ρ.f 6) args) w) :
  ∀G:Gd,G.Q→@QOk _ G P (ρ.f 6) (Qjq (ρ'.f 10) Q6):=by
 rintro G hg xs Ks hw ⟨fd,rfl,hn,hk⟩ F h0 h L us r hd w hwh
 have g0:(thS (Qjq (ρ'.f 10) Q6).i [.t fd]).t.get 0=some (.cells [.map 1] 0):=by kernel_rfl
 have g1:(thS (Qjq (ρ'.f 10) Q6).i [.t fd]).t.get 1=some (.mp 26 true fd):=by kernel_rfl
 obtain⟨a,us',post,hc,s⟩:=r.told g0
 have ho:=(hc.2.2.2.1 rfl).2
 obtain⟨b0,us2,q1,q2,rfl⟩:=QR hc.2.1
 obtain⟨ad,hp,rfl⟩:=QeF q1
 obtain⟨S0,⟨bk,off,T,pre,po,ea,_,hb,hoff⟩,_⟩:=s.get
 simp only[Value.pointer.injEq,Option.some.injEq] at ea
 subst ea
 have ho:off=0:=ho
 subst ho
 have hpre:pre=[]:=List.length_eq_zero_iff.1 hoff.symm
 subst hpre
 have hcell:cellAt h ⟨bk,0,none⟩=some (.map (some ad.block)):=by simp[cellAt,hb]
 obtain⟨ad',ks,hm,s2⟩:=r.toldP g1
 have e1:ad'=ad:=by have:=hm.p;rw[hp] at this;simpa using this.symm
 subst e1
 have ek:ks=[]:=by have:=hm.ly;rw[ly26] at this;simpa using this.symm
 subst ek
 obtain⟨st,s2⟩:=s2.ex
 obtain⟨c,s2⟩:=s2.ex
 obtain⟨hok,q,eq,hbm⟩:=s2.mapRd
 simp only[Value.map.injEq,Option.some.injEq] at eq
 rw[←eq] at hbm
 have hkeys:(fd.map (entM true [])).map (·.1)=fd.map keyE:=by rw[List.map_map];rfl
 have hus:us=[.func (.func (ρ'.f 10)) #[] #[.pointer (some ⟨bk,0,none⟩)]]:=by
  have hd':denL F [.fn (.func (ρ'.f 10)) [] [.ptr 0 0]]=some us:=hd
  simp only[denL,den,hc.1,Option.some.injEq] at hd'
  rw[←hd'];rfl
 subst hus
 rw[eh]
 refine⟨Qx.refl w,?_⟩
 rw[hwh]
 refine HC.mono (QFI hg.1 L6 hS e9 L10 eg hcell hok hbm (fun p hp'=>?_) (by rw[List.length_map];exact hn)) fun u h'=>?_
 ·obtain⟨e,he,rfl⟩:=List.mem_map.1 hp'
  have:=QyL hm.wt e he
  exact this
 ·rintro⟨l0,hperm,st'⟩
  rw[hkeys] at hperm
  have hnd:(fd.map keyE).Nodup:=by rw[←hkeys];exact hok.keys
  have hsl:QA5 l0=Qfr (fd.map keyE):=QEN (QvA (hperm.nodup_iff.2 hnd)) (QvA hnd) fun x=>by
   rw[Qnm]
   exact Qnm.trans hperm.mem_iff
  have hl0:l0.length=(Qfr (fd.map keyE)).length:=by rw[←hsl];exact (List.length_mergeSort _).symm
  rw[hsl,hl0] at st'
  generalize hl:Qfr (fd.map keyE)=l at hk st' hsl hl0
  have hlen:∀x∈l,x.length≤maxL:=fun x hx=>by
   rw[←hl] at hx
   obtain⟨e,he,rfl⟩:=List.mem_map.1 (Qnm.1 hx)
   exact QyL hm.wt e he
  have hll:l.length=fd.length:=by rw[←hl0,hperm.length_eq,List.length_map]
  have s3:=r.st.call st'
  have s4:St h0 h' (Row 1 u (rowS l).length (LD.vsE [.s] (rowS l))::((thS (Qjq (ρ'.f 10) Q6).i [.t fd]).t.all.map (Go.Va.part F)++(FzP F.z::L))):=by
   rw[QBG,QDO]
   exact s3
  obtain⟨hle,hr2,hd2⟩:=Rep.addW (t:=1) (es:=rowS l) (ks:=[.s]) r.fr r.eh r.nx ly1 (by simp) (Qyb hlen) (QEa l) (by rw[QBG,hll];exact Nat.le_trans hn (by decide)) s4
  refine⟨0,_,[.t fd,.t (rowS l)],_,[u],rfl,?_,hk,⟨fun j a _ hj=>⟨(hle.p.a j a hj).1,(hle.p.a j a hj).2,hle.p.s j a hj⟩,rfl,fun q hq=>hq⟩,hr2,?_,rfl⟩
  ·have h1:wtL [.t fd] [.r 26]:=hw
   simp only[wtL] at h1
   show wtL [.t fd,.t (rowS l)] [.r 26,.r 1]
   simp only[wtL]
   exact⟨h1.1,wt_r (by rw[hll];exact Nat.le_trans hn (by decide)) hlen,trivial⟩
  ·show denL _ [.os 1 2]=some [u]
   simp only[denL]
   rw[show den (F.addR (thS (Qjq (ρ'.f 10) Q6).i [.t fd]).nx u) (.os 1 2)=some u from hd2]
end Go.Proofs.YtmdppkbekmpopaaGreat
namespace Go.Proofs.YtmdppkbekmpopaaGreat
open Go Go.Sh Go.Va
def QkM:Nat:=8
def Qoy:List (Nat×RP):=(nf [0,1])
def QAT:FC:=cdF Tryz.prog Qoy QkM Tryz.f124
def QqA:FFn:=.f 1 QkM 3 [.t 2] (evC QAT)
end Go.Proofs.YtmdppkbekmpopaaGreat
set_option maxHeartbeats 4000000
namespace Go.Proofs.YtmdppkbekmpopaaGreat
open Go Go.Sh Go.Va
theorem Qud:KOk Tryz.prog 81 Qlb:=.f _ QjJ 2 Qgk _ Tryz.func81 Tryz.call81 (by kernel_rfl)
theorem QvZ:KOk Tryz.prog 128 Qmt:=.f _ QkY 1 QgV _ Tryz.func128 Tryz.call128 (by kernel_rfl)
theorem Que:KOk Tryz.prog 83 Qlc:=.f _ QjK 1 Qgl _ Tryz.func83 Tryz.call83 (by kernel_rfl)
theorem Quc:KOk Tryz.prog 130 Qla:=.f _ QjI 2 Qgj _ Tryz.func130 Tryz.call130 (by kernel_rfl)
theorem QvY:KOk Tryz.prog 129 Qms:=.f _ QkX 2 QgU _ Tryz.func129 Tryz.call129 (by kernel_rfl)
theorem Quf:KOk Tryz.prog 132 Qld:=.f _ QjL 3 Qgm _ Tryz.func132 Tryz.call132 (by kernel_rfl)
theorem Qug:KOk Tryz.prog 131 Qle:=.f _ QjM 3 Qgn _ Tryz.func131 Tryz.call131 (by kernel_rfl)
theorem QDq:KOk Tryz.prog 17 Qu6:=.f _ QrO 1 Qn5 _ Tryz.func17 Tryz.call17 (by kernel_rfl)
theorem QDo:KOk Tryz.prog 80 Qu4:=.f _ QrN 1 Qn4 _ Tryz.func80 Tryz.call80 (by kernel_rfl)
theorem QyN:KOk Tryz.prog 34 QoN:=.f _ Qnt 1 Qjd _ Tryz.func34 Tryz.call34 (by kernel_rfl)
theorem Qsa:KOk Tryz.prog 133 QjX:=.f _ Qdv 3 QbZ _ Tryz.func133 Tryz.call133 (by kernel_rfl)
theorem Qub:KOk Tryz.prog 82 Qk9:=.f _ QjH 3 Qgi _ Tryz.func82 Tryz.call82 (by kernel_rfl)
theorem QDp:KOk Tryz.prog 33 Qu5:=.f _ QhN 2 Qe8 _ Tryz.func33 Tryz.call33 (by kernel_rfl)
theorem QAh:KOk Tryz.prog 134 Qqs:=.f _ Qou 1 QkI _ Tryz.func134 Tryz.call134 (by kernel_rfl)
theorem QCh:KOk Tryz.prog 135 Qr5:=.f _ Qql 1 Qmn _ Tryz.func135 Tryz.call135 (by kernel_rfl)
theorem QFe:KOk Tryz.prog 136 Qxw:=.f _ Qjt 2 Qf4 _ Tryz.func136 Tryz.call136 (by kernel_rfl)
theorem QDr:KOk Tryz.prog 137 Qu7:=.f _ QhO 1 Qe9 _ Tryz.func137 Tryz.call137 (by kernel_rfl)
theorem QAg:KOk Tryz.prog 90 Qqr:=.f _ Qf2 1 QdJ _ Tryz.func90 Tryz.call90 (by kernel_rfl)
theorem QAi:KOk Tryz.prog 84 Qqt:=.f _ QaX 1 Qai _ Tryz.func84 Tryz.call84 (by kernel_rfl)
theorem Qsi:KOk Tryz.prog 88 Qj5:=.f _ QiK 2 QfL _ Tryz.func88 Tryz.call88 (by kernel_rfl)
theorem Qv1:KOk Tryz.prog 92 Qmv:=.f _ Qk0 2 QgX _ Tryz.func92 Tryz.call92 (by kernel_rfl)
theorem Qsc:KOk Tryz.prog 85 QjZ:=.f _ QiF 2 QfG _ Tryz.func85 Tryz.call85 (by kernel_rfl)
theorem Qsb:KOk Tryz.prog 86 QjY:=.f _ QiE 2 QfF _ Tryz.func86 Tryz.call86 (by kernel_rfl)
theorem Qra:KOk Tryz.prog 87 QiR:=.f _ QhQ 1 Qfj _ Tryz.func87 Tryz.call87 (by kernel_rfl)
theorem Qsg:KOk Tryz.prog 89 Qj3:=.f _ QiI 1 QfJ _ Tryz.func89 Tryz.call89 (by kernel_rfl)
theorem Qsf:KOk Tryz.prog 93 Qj2:=.f _ QiH 1 QfI _ Tryz.func93 Tryz.call93 (by kernel_rfl)
theorem Qsh:KOk Tryz.prog 91 Qj4:=.f _ QiJ 4 QfK _ Tryz.func91 Tryz.call91 (by kernel_rfl)
theorem Qv0:KOk Tryz.prog 233 Qmu:=.f _ QkZ 1 QgW _ Tryz.func233 Tryz.call233 (by kernel_rfl)
theorem Qse:KOk Tryz.prog 204 Qj1:=.f _ Qdw 1 Qb0 _ Tryz.func204 Tryz.call204 (by kernel_rfl)
theorem Quh:KOk Tryz.prog 166 Qlf:=.f _ QdV 1 Qcn _ Tryz.func166 Tryz.call166 (by kernel_rfl)
theorem Qui:KOk Tryz.prog 234 Qlg:=.f _ QdW 1 Qco _ Tryz.func234 Tryz.call234 (by kernel_rfl)
theorem Quj:KOk Tryz.prog 205 Qlh:=.f _ QdX 1 Qcp _ Tryz.func205 Tryz.call205 (by kernel_rfl)
theorem Qsj:KOk Tryz.prog 167 Qj6:=.f _ Qdx 1 Qb1 _ Tryz.func167 Tryz.call167 (by kernel_rfl)
theorem Qsk:KOk Tryz.prog 169 Qj7:=.f _ Qdy 1 Qb2 _ Tryz.func169 Tryz.call169 (by kernel_rfl)
theorem Qrb:KOk Tryz.prog 168 QiS:=.f _ QhR 1 Qfk _ Tryz.func168 Tryz.call168 (by kernel_rfl)
theorem Qq9:KOk Tryz.prog 94 QiQ:=.f _ Qc2 1 QbC _ Tryz.func94 Tryz.call94 (by kernel_rfl)
theorem Qsd:KOk Tryz.prog 138 Qj0:=.f _ QiG 1 QfH _ Tryz.func138 Tryz.call138 (by kernel_rfl)
theorem Qq8:KOk Tryz.prog 170 QiP:=.f _ QhP 2 Qfi _ Tryz.func170 Tryz.call170 (by kernel_rfl)
theorem QDs:KOk Tryz.prog 37 Qu8:=.f _ Qep 1 QcG _ Tryz.func37 Tryz.call37 (by kernel_rfl)
theorem QyO:KOk Tryz.prog 35 QoO:=.f _ Qfs 1 Qde _ Tryz.func35 Tryz.call35 (by kernel_rfl)
theorem QCj:KOk Tryz.prog 165 Qr7:=.f _ QgK 2 Qeu _ Tryz.func165 Tryz.call165 (by kernel_rfl)
theorem Qxz:KOk Tryz.prog 171 QnF:=.f _ Qmd 2 QhZ _ Tryz.func171 Tryz.call171 (by kernel_rfl)
theorem QCk:KOk Tryz.prog 172 Qr8:=.f _ Qqm 2 Qmo _ Tryz.func172 Tryz.call172 (by kernel_rfl)
theorem QAk:KOk Tryz.prog 173 Qqv:=.f _ Qov 2 QkJ _ Tryz.func173 Tryz.call173 (by kernel_rfl)
theorem QCi:KOk Tryz.prog 139 Qr6:=.f _ QgJ 2 Qet _ Tryz.func139 Tryz.call139 (by kernel_rfl)
theorem QAj:KOk Tryz.prog 95 Qqu:=.f _ Qf3 2 QdK _ Tryz.func95 Tryz.call95 (by kernel_rfl)
theorem QxA:KOk Tryz.prog 38 QnG:=.f _ QcC 2 Qa7 _ Tryz.func38 Tryz.call38 (by kernel_rfl)
theorem QDt:KOk Tryz.prog 49 Qu9:=.f _ QhS 2 Qfa _ Tryz.func49 Tryz.call49 (by kernel_rfl)
theorem Quk:KOk Tryz.prog 125 Qli:=.f _ QjN 2 Qgo _ Tryz.func125 Tryz.call125 (by kernel_rfl)
theorem Qul:KOk Tryz.prog 126 Qlj:=.f _ QjO 2 Qgp _ Tryz.func126 Tryz.call126 (by kernel_rfl)
theorem Qum:KOk Tryz.prog 127 Qlk:=.f _ QjP 2 Qgq _ Tryz.func127 Tryz.call127 (by kernel_rfl)
theorem Qsl:KOk Tryz.prog 79 Qj8:=.f _ QbB 2 QaE _ Tryz.func79 Tryz.call79 (by kernel_rfl)
theorem QAl:KOk Tryz.prog 32 Qqw:=.f _ Qow 1 QkK _ Tryz.func32 Tryz.call32 (by kernel_rfl)
theorem QAm:KOk Tryz.prog 12 Qqx:=.f _ QbU 1 QaK _ Tryz.func12 Tryz.call12 (by kernel_rfl)
theorem QAn:KOk Tryz.prog 36 Qqy:=.f _ QbV 1 QaL _ Tryz.func36 Tryz.call36 (by kernel_rfl)
theorem Qv2:KOk Tryz.prog 163 Qmw:=.f _ Qk1 1 QgY _ Tryz.func163 Tryz.call163 (by kernel_rfl)
theorem Qxx:KOk Tryz.prog 203 QnD:=.f _ Qmc 1 QhY _ Tryz.func203 Tryz.call203 (by kernel_rfl)
theorem QAf:KOk Tryz.prog 232 Qqq:=.f _ Qot 2 QkH _ Tryz.func232 Tryz.call232 (by kernel_rfl)
theorem Qun:KOk Tryz.prog 121 Qll:=.f _ QdY 1 Qcq _ Tryz.func121 Tryz.call121 (by kernel_rfl)
theorem Qrc:KOk Tryz.prog 74 QiT:=.f _ QhT 1 Qfl _ Tryz.func74 Tryz.call74 (by kernel_rfl)
theorem QoP:KOk Tryz.prog 75 Qhi:=.f _ QcF 3 Qba _ Tryz.func75 Tryz.call75 (by kernel_rfl)
theorem QxB:KOk Tryz.prog 76 QnH:=.f _ Qme 2 Qh0 _ Tryz.func76 Tryz.call76 (by kernel_rfl)
theorem Qke:KOk Tryz.prog 77 QeL:=.f _ Qeq 2 QcK _ Tryz.func77 Tryz.call77 (by kernel_rfl)
theorem Qn6:KOk Tryz.prog 122 QgA:=.f _ Qgc 2 Qec _ Tryz.func122 Tryz.call122 (by kernel_rfl)
theorem QoQ:KOk Tryz.prog 123 Qhj:=.f _ Qgv 2 Qev _ Tryz.func123 Tryz.call123 (by kernel_rfl)
theorem QmA:KOk Tryz.prog 78 QfS:=.f _ Qft 1 Qdi _ Tryz.func78 Tryz.call78 (by kernel_rfl)
theorem QAp:KOk Tryz.prog 124 QqA:=.f _ Qoy 1 QkM _ Tryz.func124 Tryz.call124 (by kernel_rfl)
theorem QAo:KOk Tryz.prog 31 Qqz:=.f _ Qox 1 QkL _ Tryz.func31 Tryz.call31 (by kernel_rfl)
theorem QAt:KOk Tryz.prog 11 QqE:=.f _ QbW 1 QaM _ Tryz.func11 Tryz.call11 (by kernel_rfl)
theorem QCf:KOk Tryz.prog 15 Qr3:=.f _ Qqk 2 Qmm _ Tryz.func15 Tryz.call15 (by kernel_rfl)
theorem QCg:KOk Tryz.prog 9 Qr4:=.f _ QgI 2 Qes _ Tryz.func9 Tryz.call9 (by kernel_rfl)
theorem QoR:KOk Tryz.prog 13 Qje:=.f _ Qfu 2 Qdf _ Tryz.func13 Tryz.call13 (by kernel_rfl)
theorem Qxy:KOk Tryz.prog 16 QnE:=.f _ QcB 1 Qa6 _ Tryz.func16 Tryz.call16 (by kernel_rfl)
theorem QyM:KOk Tryz.prog 10 QoM:=.f _ Qns 2 Qjc _ Tryz.func10 Tryz.call10 (by kernel_rfl)
theorem QAq:KOk Tryz.prog 8 QqB:=.f _ Qoz 0 QkN _ Tryz.func8 Tryz.call8 (by kernel_rfl)
theorem QAu:KOk Tryz.prog 28 QqF:=.f _ QoC 1 QkQ _ Tryz.func28 Tryz.call28 (by kernel_rfl)
theorem QAs:KOk Tryz.prog 29 QqD:=.f _ QoB 2 QkP _ Tryz.func29 Tryz.call29 (by kernel_rfl)
theorem QAr:KOk Tryz.prog 30 QqC:=.f _ QoA 2 QkO _ Tryz.func30 Tryz.call30 (by kernel_rfl)
theorem QCl:KOk Tryz.prog 69 Qr9:=.f _ Qqn 1 Qmp _ Tryz.func69 Tryz.call69 (by kernel_rfl)
theorem Qv4:KOk Tryz.prog 70 Qmy:=.f _ Qk3 2 Qg0 _ Tryz.func70 Tryz.call70 (by kernel_rfl)
theorem Qsq:KOk Tryz.prog 71 Qkd:=.f _ QiO 1 QfP _ Tryz.func71 Tryz.call71 (by kernel_rfl)
theorem QxE:KOk Tryz.prog 72 QnK:=.f _ Qmh 3 Qh3 _ Tryz.func72 Tryz.call72 (by kernel_rfl)
theorem QxD:KOk Tryz.prog 73 QnJ:=.f _ Qmg 3 Qh2 _ Tryz.func73 Tryz.call73 (by kernel_rfl)
theorem Qua:KOk Tryz.prog 113 Qk8:=.f _ QjG 2 Qgh _ Tryz.func113 Tryz.call113 (by kernel_rfl)
theorem Qt9:KOk Tryz.prog 114 Qk7:=.f _ QjF 2 Qgg _ Tryz.func114 Tryz.call114 (by kernel_rfl)
theorem Qv3:KOk Tryz.prog 115 Qmx:=.f _ Qk2 1 QgZ _ Tryz.func115 Tryz.call115 (by kernel_rfl)
theorem Qv5:KOk Tryz.prog 116 Qmz:=.f _ Qk4 1 Qg1 _ Tryz.func116 Tryz.call116 (by kernel_rfl)
theorem QvX:KOk Tryz.prog 117 Qmr:=.f _ QkW 1 QgT _ Tryz.func117 Tryz.call117 (by kernel_rfl)
theorem QoU:KOk Tryz.prog 118 Qhm:=.f _ Qgy 1 Qey _ Tryz.func118 Tryz.call118 (by kernel_rfl)
theorem Qp0:KOk Tryz.prog 119 Qh7:=.f _ Qhh 1 QeT _ Tryz.func119 Tryz.call119 (by kernel_rfl)
theorem QoT:KOk Tryz.prog 120 Qhl:=.f _ Qgx 2 Qex _ Tryz.func120 Tryz.call120 (by kernel_rfl)
theorem Qnd:KOk Tryz.prog 158 Qgd:=.f _ QfA 5 QdF _ Tryz.func158 Tryz.call158 (by kernel_rfl)
theorem QxC:KOk Tryz.prog 159 QnI:=.f _ Qmf 1 Qh1 _ Tryz.func159 Tryz.call159 (by kernel_rfl)
theorem Qg3:KOk Tryz.prog 160 Qdu:=.f _ Qc6 2 QbQ _ Tryz.func160 Tryz.call160 (by kernel_rfl)
theorem QoS:KOk Tryz.prog 161 Qhk:=.f _ Qgw 3 Qew _ Tryz.func161 Tryz.call161 (by kernel_rfl)
theorem Qrd:KOk Tryz.prog 162 QiU:=.f _ QhU 2 Qfm _ Tryz.func162 Tryz.call162 (by kernel_rfl)
theorem Qiq:KOk Tryz.prog 192 Qef:=.f _ QdU 4 Qcu _ Tryz.func192 Tryz.call192 (by kernel_rfl)
theorem Quo:KOk Tryz.prog 201 Qlm:=.f _ QjQ 1 Qgr _ Tryz.func201 Tryz.call201 (by kernel_rfl)
theorem Qeg:KOk Tryz.prog 202 QbK:=QI4 Tryz.func202 (by kernel_rfl) (by kernel_rfl) (by kernel_rfl) (by kernel_rfl)
theorem Quq:KOk Tryz.prog 277 Qlo:=.f _ QjS 1 Qgt _ Tryz.func277 Tryz.call277 (by kernel_rfl)
theorem Qsp:KOk Tryz.prog 278 Qkc:=.f _ QiN 3 QfO _ Tryz.func278 Tryz.call278 (by kernel_rfl)
theorem Qsn:KOk Tryz.prog 279 Qka:=.f _ QiL 3 QfM _ Tryz.func279 Tryz.call279 (by kernel_rfl)
theorem Qup:KOk Tryz.prog 280 Qln:=.f _ QjR 1 Qgs _ Tryz.func280 Tryz.call280 (by kernel_rfl)
theorem Qso:KOk Tryz.prog 281 Qkb:=.f _ QiM 2 QfN _ Tryz.func281 Tryz.call281 (by kernel_rfl)
theorem Qsm:KOk Tryz.prog 3 Qj9:=.f _ Qdz 1 Qb3 _ Tryz.func3 Tryz.call3 (by kernel_rfl)
theorem QpJ:LpOk Tryz.prog 133 24 QbZ 3 Qho:=Qad (pls:=Qdv) Tryz.func133 rfl (by kernel_rfl)
theorem Qz2:LpOk Tryz.prog 33 43 Qe8 6 QoX:=Qad (pls:=QhN) Tryz.func33 rfl (by kernel_rfl)
theorem QBJ:LpOk Tryz.prog 136 17 Qf4 2 QqG:=Qad (pls:=Qjt) Tryz.func136 rfl (by kernel_rfl)
theorem Qz3:LpOk Tryz.prog 137 18 Qe9 3 QoY:=Qad (pls:=QhO) Tryz.func137 rfl (by kernel_rfl)
theorem Qw3:LpOk Tryz.prog 90 20 QdJ 3 QmB:=Qad (pls:=Qf2) Tryz.func90 rfl (by kernel_rfl)
theorem Qw4:LpOk Tryz.prog 84 229 Qai 5 QmC:=Qad (pls:=QaX) Tryz.func84 rfl (by kernel_rfl)
theorem QvI:LpOk Tryz.prog 84 229 Qai 18 Qlr:=Qad (pls:=QaX) Tryz.func84 rfl (by kernel_rfl)
theorem QvH:LpOk Tryz.prog 84 229 Qai 21 Qlq:=Qad (pls:=QaX) Tryz.func84 rfl (by kernel_rfl)
theorem QvG:LpOk Tryz.prog 84 229 Qai 29 Qlp:=Qad (pls:=QaX) Tryz.func84 rfl (by kernel_rfl)
theorem QpK:LpOk Tryz.prog 204 36 Qb0 2 Qhp:=Qad (pls:=Qdw) Tryz.func204 rfl (by kernel_rfl)
theorem Qq3:LpOk Tryz.prog 166 32 Qcn 2 Qia:=Qad (pls:=QdV) Tryz.func166 rfl (by kernel_rfl)
theorem QpL:LpOk Tryz.prog 234 178 Qco 25 Qhq:=Qad (pls:=QdW) Tryz.func234 rfl (by kernel_rfl)
theorem Qq4:LpOk Tryz.prog 205 14 Qcp 2 Qib:=Qad (pls:=QdX) Tryz.func205 rfl (by kernel_rfl)
theorem QpM:LpOk Tryz.prog 167 14 Qb1 2 Qhr:=Qad (pls:=Qdx) Tryz.func167 rfl (by kernel_rfl)
theorem QpN:LpOk Tryz.prog 169 22 Qb2 4 Qhs:=Qad (pls:=Qdy) Tryz.func169 rfl (by kernel_rfl)
theorem QoD:LpOk Tryz.prog 94 32 QbC 2 QgC:=Qad (pls:=Qc2) Tryz.func94 rfl (by kernel_rfl)
theorem Qyx:LpOk Tryz.prog 37 128 QcG 10 QnN:=Qad (pls:=Qep) Tryz.func37 rfl (by kernel_rfl)
theorem Qyw:LpOk Tryz.prog 37 128 QcG 17 QnM:=Qad (pls:=Qep) Tryz.func37 rfl (by kernel_rfl)
theorem QvJ:LpOk Tryz.prog 35 166 Qde 6 Qls:=Qad (pls:=Qfs) Tryz.func35 rfl (by kernel_rfl)
theorem Qyy:LpOk Tryz.prog 165 31 Qeu 3 QnO:=Qad (pls:=QgK) Tryz.func165 rfl (by kernel_rfl)
theorem Qw6:LpOk Tryz.prog 139 194 Qet 29 QmE:=Qad (pls:=QgJ) Tryz.func139 rfl (by kernel_rfl)
theorem Qw5:LpOk Tryz.prog 95 64 QdK 3 QmD:=Qad (pls:=Qf3) Tryz.func95 rfl (by kernel_rfl)
theorem Qt3:LpOk Tryz.prog 38 65 Qa7 5 Qkk:=Qad (pls:=QcC) Tryz.func38 rfl (by kernel_rfl)
theorem Qt2:LpOk Tryz.prog 38 65 Qa7 8 Qkj:=Qad (pls:=QcC) Tryz.func38 rfl (by kernel_rfl)
theorem Qz4:LpOk Tryz.prog 49 44 Qfa 2 QoZ:=Qad (pls:=QhS) Tryz.func49 rfl (by kernel_rfl)
theorem QpO:LpOk Tryz.prog 79 111 QaE 1 Qht:=Qad (pls:=QbB) Tryz.func79 rfl (by kernel_rfl)
theorem QoE:LpOk Tryz.prog 79 111 QaE 19 QgD:=Qad (pls:=QbB) Tryz.func79 rfl (by kernel_rfl)
theorem Qw8:LpOk Tryz.prog 12 72 QaK 3 QmG:=Qad (pls:=QbU) Tryz.func12 rfl (by kernel_rfl)
theorem Qw7:LpOk Tryz.prog 12 72 QaK 7 QmF:=Qad (pls:=QbU) Tryz.func12 rfl (by kernel_rfl)
theorem QvK:LpOk Tryz.prog 12 72 QaK 12 Qlt:=Qad (pls:=QbU) Tryz.func12 rfl (by kernel_rfl)
theorem Qxa:LpOk Tryz.prog 36 46 QaL 3 QmI:=Qad (pls:=QbV) Tryz.func36 rfl (by kernel_rfl)
theorem Qw9:LpOk Tryz.prog 36 46 QaL 7 QmH:=Qad (pls:=QbV) Tryz.func36 rfl (by kernel_rfl)
theorem QvL:LpOk Tryz.prog 36 46 QaL 10 Qlu:=Qad (pls:=QbV) Tryz.func36 rfl (by kernel_rfl)
theorem Qq5:LpOk Tryz.prog 121 27 Qcq 3 Qic:=Qad (pls:=QdY) Tryz.func121 rfl (by kernel_rfl)
theorem Qnc:LpOk Tryz.prog 75 36 Qba 2 QfU:=Qad (pls:=QcF) Tryz.func75 rfl (by kernel_rfl)
theorem Qxc:LpOk Tryz.prog 11 65 QaM 3 QmK:=Qad (pls:=QbW) Tryz.func11 rfl (by kernel_rfl)
theorem Qxb:LpOk Tryz.prog 11 65 QaM 9 QmJ:=Qad (pls:=QbW) Tryz.func11 rfl (by kernel_rfl)
theorem QvN:LpOk Tryz.prog 11 65 QaM 13 Qlw:=Qad (pls:=QbW) Tryz.func11 rfl (by kernel_rfl)
theorem Qyv:LpOk Tryz.prog 9 22 Qes 4 QnL:=Qad (pls:=QgI) Tryz.func9 rfl (by kernel_rfl)
theorem QvM:LpOk Tryz.prog 13 26 Qdf 4 Qlv:=Qad (pls:=Qfu) Tryz.func13 rfl (by kernel_rfl)
theorem Qt1:LpOk Tryz.prog 16 102 Qa6 3 Qki:=Qad (pls:=QcB) Tryz.func16 rfl (by kernel_rfl)
theorem QrQ:LpOk Tryz.prog 16 102 Qa6 14 QiV:=Qad (pls:=QcB) Tryz.func16 rfl (by kernel_rfl)
theorem QoF:LpOk Tryz.prog 3 72 Qb3 10 QgE:=Qad (pls:=Qdz) Tryz.func3 rfl (by kernel_rfl)
theorem tbg {P:Program}{t:Tr FFn}{i:Nat}{g:FFn}(h:t.get i=some g)(k:QC P t):KOk P i g:=QC.get k h
theorem lsn {P:Program}{i:Nat}:∀S∈([]:List LCt),LsI P i S:=fun _ h=>nomatch h
theorem lsc {P:Program}{i:Nat}{a:LCt}{l:List LCt}(h:LsI P i a)(t:∀S∈l,LsI P i S):∀S∈a::l,LsI P i S:=fun S hS=>by
 rcases List.mem_cons.1 hS with e | e
 ·rw[e];exact h
 ·exact t S e
theorem QEU {P:Program} [Gd]{i:Nat}{I:SPt}{O:List SPt}{q q':QF}(h:∀xs Ks,q xs Ks→q' xs Ks)(hq:QOk P i ⟨I,O,q'⟩):QOk P i ⟨I,O,q⟩:=fun xs Ks hw hx=>hq xs Ks hw (h xs Ks hx)
theorem Qa3:KOk Tryz.prog 81 (.q (Qas Qe)):=by
 have ht:∀i g,Qiu.get i=some g→KOk Tryz.prog i g:=fun _ _ h=>tbg h trivial
 exact kq rfl (q_of ht Qud (ls:=[]) lsn rfl fun xs Ks _ h=>by
     obtain⟨n,b,i,m,rfl,h1,h2,h3,h4,h5⟩:=h
     exact QtN (Ks:=nthK Ks) h1 h2 h3 h4 h5)
theorem Qmi:KOk Tryz.prog 128 (.q (Qel QM)):=by
 have ht:∀i g,(Qjy Qe).get i=some g→KOk Tryz.prog i g:=fun _ _ h=>tbg h Qa3
 exact kq rfl (q_of ht QvZ (ls:=[]) lsn rfl fun xs Ks _ h=>by
     obtain⟨b,i,n,rfl,h1⟩:=h
     exact Qvo (Ks:=nthK Ks) h1)
theorem Qek:KOk Tryz.prog 83 (.q (Qcb Qi)):=by
 have ht:∀i g,(Qiv Qe).get i=some g→KOk Tryz.prog i g:=fun _ _ h=>tbg h Qa3
 exact kq rfl (q_of ht Que (ls:=[]) lsn rfl fun xs Ks _ h=>by
     obtain⟨b,i,n,rfl,h1⟩:=h
     exact QtO (Ks:=nthK Ks) h1)
theorem Qgf:KOk Tryz.prog 130 (.q (QcQ Qn)):=by
 have ht:∀i g,(Qit Qe).get i=some g→KOk Tryz.prog i g:=fun _ _ h=>tbg h Qa3
 exact kq rfl (q_of ht Quc (ls:=[]) lsn rfl fun xs Ks _ h=>by
     obtain⟨k,b,i,n,rfl,_,h⟩:=h
     exact QtM (Ks:=nthK Ks) h)
theorem QjC:∀k,(∀G:Gd,G.Q→@QOk _ G Tryz.prog 129 (Qby (Qej k)))
 | 0=>fun G _ xs Ks _ h=>by
   obtain⟨k,b,i,n,_,h1,h2⟩:=h
   first | (exfalso;omega) | exact absurd h1.sz (Nat.not_lt_zero _)
 | k+1=>by
  have ih:=QjC  k
  have r_seat_maker_sum:=ih
  have ht:∀i g,(Qjx Qe QM Qi (Qej k)).get i=some g→KOk Tryz.prog i g:=fun _ _ h=>tbg h ⟨⟨Qa3,Qek⟩,⟨Qmi,(kq rfl r_seat_maker_sum)⟩⟩
  exact q_of ht QvY (ls:=[]) lsn rfl fun xs Ks _ h=>by
     obtain⟨k,b,i,n,rfl,h1,h2⟩:=h
     exact Qvn (Ks:=nthK Ks) h1 h2
theorem QgS:KOk Tryz.prog 129 (.q (Qby Qj)):=kq rfl fun G hg=>QEU (q':=Qej 3) (fun xs Ks h=>by obtain⟨d,b,i,n,e,hd,h⟩:=h;exact⟨d,b,i,n,e,⟨hd.1,hd.2,by omega⟩,h⟩) (QjC 3 G hg)
theorem QiB:∀k,(∀G:Gd,G.Q→@QOk _ G Tryz.prog 132 (QcR (QdT k)))
 | 0=>fun G _ xs Ks _ h=>by
   obtain⟨k,d,b,i,n,_,h1,h2⟩:=h
   first | (exfalso;omega) | exact absurd h1.sz (Nat.not_lt_zero _)
 | k+1=>by
  have ih:=QiB  k
  have r_seat_maker_cond:=ih
  have ht:∀i g,(Qiw Qe Qi Qn Qj (QdT k)).get i=some g→KOk Tryz.prog i g:=fun _ _ h=>tbg h ⟨⟨Qa3,Qek⟩,⟨QgS,⟨Qgf,(kq rfl r_seat_maker_cond)⟩⟩⟩
  exact q_of ht Quf (ls:=[]) lsn rfl fun xs Ks _ h=>by
     obtain⟨k,d,b,i,n,rfl,h1,h2⟩:=h
     exact QtP (Ks:=nthK Ks) h1 h2
theorem Qt5:KOk Tryz.prog 132 (.q (QcR QB)):=kq rfl fun G hg=>QEU (q':=QdT 2) (fun xs Ks h=>by obtain⟨k,d,b,i,n,e,hd,h⟩:=h;exact⟨k,d,b,i,n,e,⟨hd.1,hd.2,by omega⟩,h⟩) (QiB 2 G hg)
theorem Qt6:KOk Tryz.prog 131 (.q (QfW Qaj)):=by
 have ht:∀i g,(Qix Qn Qj).get i=some g→KOk Tryz.prog i g:=fun _ _ h=>tbg h ⟨QgS,Qgf⟩
 exact kq rfl (q_of ht Qug (ls:=[]) lsn rfl fun xs Ks _ h=>by
     obtain⟨c,k,b,i,n,rfl,_,h⟩:=h
     exact QtQ (Ks:=nthK Ks) h)
theorem Qu2:KOk Tryz.prog 17 (.q (Qie QX)):=by
 have ht:∀i g,Qqj.get i=some g→KOk Tryz.prog i g:=fun _ _ h=>tbg h trivial
 exact kq rfl (q_of ht QDq (ls:=[]) lsn rfl fun xs Ks _ h=>by
     obtain⟨k,rfl,h1,h2⟩:=h
     exact QDa (Ks:=nthK Ks) h1 h2)
theorem QDh:KOk Tryz.prog 80 (.q (QmR Qaq)):=by
 have ht:∀i g,Qqi.get i=some g→KOk Tryz.prog i g:=fun _ _ h=>tbg h trivial
 exact kq rfl (q_of ht QDo (ls:=[]) lsn rfl fun xs Ks _ h=>by
     obtain⟨k,rfl,h1,h2⟩:=h
     exact QC8 (Ks:=nthK Ks) h1 h2)
theorem QyE:KOk Tryz.prog 34 (.q (Qif Q7)):=by
 have ht:∀i g,Ql5.get i=some g→KOk Tryz.prog i g:=fun _ _ h=>tbg h trivial
 exact kq rfl (q_of ht QyN (ls:=[]) lsn rfl fun xs Ks _ h=>by
     obtain⟨k,rfl,h1⟩:=h
     exact Qyh (Ks:=nthK Ks) h1)
end Go.Proofs.YtmdppkbekmpopaaGreat
