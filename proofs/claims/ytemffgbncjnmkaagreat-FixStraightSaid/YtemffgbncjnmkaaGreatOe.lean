import Derived.Test.YtemffgbncjnmkaaGreatLj
set_option linter.unusedVariables false
set_option linter.unusedSimpArgs false
set_option maxRecDepth 100000
noncomputable section
namespace Go.Proofs.YtemffgbncjnmkaaGreat
open Go Go.Sh Go.Va
def QUL (q:QF):Ctr:=⟨⟨[.h (.l 0),.h (.l 22)],[]⟩,[⟨[.h (.b)],[]⟩],q⟩
def QN8 (q:QF):LCt:=⟨8,[0,1,5,6,7,8],[(some 0,[5,6])],⟨⟨[.h (.l 0),.h (.l 22),.h (.s),.h (.i .i64),.h (.i .i64),.h (.i .i64)],[]⟩,[⟨[.h (.s),.h (.i .i64)],[]⟩],q⟩⟩
def QTL (QMo Qac QNn:QF):Tr FFn:=(.node 7 (.node 5 (.leaf 4 .t) (.node 6 (.leaf 5 (.q (QTo QMo))) (.leaf 6 (.q (QmU Qac))))) (.node 8 (.leaf 7 (.q (QMv QNn))) (.node 25 (.leaf 8 Q1s) (.leaf 25 QXY))))
def QVh:=fun (o:LD) (n:LD) (Ks:Nat→List LD→Prop) (q QMo Qac QNn ql_8:QF)=>QG (QTL QMo Qac QNn) [QN8 ql_8] QVb (QUL q) [o,n] Ks
def Qacy:=fun (o:LD) (n:LD) (s:Str) (a:Int) (b:Int) (i:Int) (R:List LD→Prop) (Ks:Nat→List LD→Prop) (q QMo Qac QNn:QF)=>Qaa (QTL QMo Qac QNn) [] QNZ QZN (QN8 q) [o,n,.s s,.n a,.n b,.n i] R Ks
theorem Q2V (o n:LD)(Ks:Nat→List LD→Prop)(q QMo Qac QNn ql_8:QF):QVh o n Ks q QMo Qac QNn ql_8=((bif (decide (12<(Int.ofNat o.len))) then Ks 0 [.b true] else (bif (decide ((Int.ofNat n.len)<(Int.ofNat o.len))) then Ks 0 [.b true] else ql_8 [o,n,.s (List.map UInt8.ofNat [102,110,32,102,40,41,32,123,32,118,97,114,32,97,59,32,118,97,114,32,98,59,32,97,32,61,32,51,59,32]),.n (3:Int),.n (0:Int),.n (0:Int)] [apK [.s,.i .i64] fun (z8:Str)(z9:Int)=>(((decide ((Int.ofNat (z8.length+11))≤9223372036854775807))=true∧Qac [.s (z8++(List.map UInt8.ofNat [114,101,116,117,114,110,32,97,59,32,125]))] [apK [.s,.l 9,.l 9,.l 8,.i .i64,.i .i64] fun (aa:Str)(ab ac ad:LD)(ae af:Int)=>(QNn [.s aa,ab,ac,ad] [apK [.l 18,.b,.i .i64,.i .i64,.i .i64] fun (ag:LD)(ah:Bool)(ai aj ak:Int)=>((bif (decide (af=0)) then (bif (decide (z9<z9)) then ((ah=ah∧(ai=ai∧(aj=aj∧True)))∧(bif ((!ah)&&((decide (ai=0))&&(decide (aj=0)))) then Ks 0 [.b true] else Ks 0 [.b false])) else ((ah=ah∧(ai=ai∧(aj=aj∧True)))∧(bif (ah&&((decide (ai=z9))&&(decide (aj=z9)))) then Ks 0 [.b true] else Ks 0 [.b false]))) else Ks 0 [.b false]):Prop)]:Prop)]):Prop)]))):=by kernel_rfl
theorem QacA (o n:LD)(s:Str)(a b i:Int)(R:List LD→Prop)(Ks:Nat→List LD→Prop)(q QMo Qac QNn:QF):Qacy o n s a b i R Ks q QMo Qac QNn=((bif (decide (i<(Int.ofNat o.len))) then (((decide (0≤i))&&(decide (i<(Int.ofNat n.len))))=true∧(bif (decide (((n.at 1 i).f 0).i<0)) then QMo [.n (0 - (((n.at 1 i).f 0).i+1))] [apK [.s] fun (aa:Str)=>((((decide (0≤i))&&(decide (i<(Int.ofNat o.len))))=true∧(bif (decide ((((o.at 1 i).f 0).i % 5)=0)) then ((decide ((Int.ofNat (s.length+8))≤9223372036854775807))=true∧((decide ((Int.ofNat ((s++(List.map UInt8.ofNat [97,32,61,32,97,32,43,32])).length+aa.length))≤9223372036854775807))=true∧((decide ((Int.ofNat (((s++(List.map UInt8.ofNat [97,32,61,32,97,32,43,32]))++aa).length+2))≤9223372036854775807))=true∧R [o,n,.s (((s++(List.map UInt8.ofNat [97,32,61,32,97,32,43,32]))++aa)++(List.map UInt8.ofNat [59,32])),.n (IntKind.i64.wrap (a+(0 - (((n.at 1 i).f 0).i+1)))),.n b,.n (IntKind.i64.wrap (i+1))]))) else (bif (decide ((((o.at 1 i).f 0).i % 5)=1)) then ((decide ((Int.ofNat (s.length+4))≤9223372036854775807))=true∧((decide ((Int.ofNat ((s++(List.map UInt8.ofNat [97,32,61,32])).length+aa.length))≤9223372036854775807))=true∧((decide ((Int.ofNat (((s++(List.map UInt8.ofNat [97,32,61,32]))++aa).length+6))≤9223372036854775807))=true∧R [o,n,.s (((s++(List.map UInt8.ofNat [97,32,61,32]))++aa)++(List.map UInt8.ofNat [32,45,32,98,59,32])),.n (IntKind.i64.wrap ((0 - (((n.at 1 i).f 0).i+1)) - b)),.n b,.n (IntKind.i64.wrap (i+1))]))) else (bif (decide ((((o.at 1 i).f 0).i % 5)=2)) then ((decide ((Int.ofNat (s.length+7))≤9223372036854775807))=true∧R [o,n,.s (s++(List.map UInt8.ofNat [98,32,61,32,97,59,32])),.n a,.n a,.n (IntKind.i64.wrap (i+1))]) else (bif (decide ((((o.at 1 i).f 0).i % 5)=3)) then ((decide ((Int.ofNat (s.length+9))≤9223372036854775807))=true∧((decide ((Int.ofNat ((s++(List.map UInt8.ofNat [98,32,61,32,98,32,47,32,40])).length+aa.length))≤9223372036854775807))=true∧((decide ((Int.ofNat (((s++(List.map UInt8.ofNat [98,32,61,32,98,32,47,32,40]))++aa).length+7))≤9223372036854775807))=true∧((!(decide (((0 - (((n.at 1 i).f 0).i+1))+1)=0)))=true∧R [o,n,.s (((s++(List.map UInt8.ofNat [98,32,61,32,98,32,47,32,40]))++aa)++(List.map UInt8.ofNat [32,43,32,49,41,59,32])),.n a,.n (IntKind.i64.wrap (Int.tdiv b ((0 - (((n.at 1 i).f 0).i+1))+1))),.n (IntKind.i64.wrap (i+1))])))) else ((decide ((Int.ofNat (s.length+5))≤9223372036854775807))=true∧((decide ((Int.ofNat ((s++(List.map UInt8.ofNat [97,32,61,32,45])).length+aa.length))≤9223372036854775807))=true∧((decide ((Int.ofNat (((s++(List.map UInt8.ofNat [97,32,61,32,45]))++aa).length+2))≤9223372036854775807))=true∧R [o,n,.s (((s++(List.map UInt8.ofNat [97,32,61,32,45]))++aa)++(List.map UInt8.ofNat [59,32])),.n (((n.at 1 i).f 0).i+1),.n b,.n (IntKind.i64.wrap (i+1))])))))))):Prop)] else QMo [.n ((n.at 1 i).f 0).i] [apK [.s] fun (aa:Str)=>((((decide (0≤i))&&(decide (i<(Int.ofNat o.len))))=true∧(bif (decide ((((o.at 1 i).f 0).i % 5)=0)) then ((decide ((Int.ofNat (s.length+8))≤9223372036854775807))=true∧((decide ((Int.ofNat ((s++(List.map UInt8.ofNat [97,32,61,32,97,32,43,32])).length+aa.length))≤9223372036854775807))=true∧((decide ((Int.ofNat (((s++(List.map UInt8.ofNat [97,32,61,32,97,32,43,32]))++aa).length+2))≤9223372036854775807))=true∧R [o,n,.s (((s++(List.map UInt8.ofNat [97,32,61,32,97,32,43,32]))++aa)++(List.map UInt8.ofNat [59,32])),.n (IntKind.i64.wrap (a+((n.at 1 i).f 0).i)),.n b,.n (IntKind.i64.wrap (i+1))]))) else (bif (decide ((((o.at 1 i).f 0).i % 5)=1)) then ((decide ((Int.ofNat (s.length+4))≤9223372036854775807))=true∧((decide ((Int.ofNat ((s++(List.map UInt8.ofNat [97,32,61,32])).length+aa.length))≤9223372036854775807))=true∧((decide ((Int.ofNat (((s++(List.map UInt8.ofNat [97,32,61,32]))++aa).length+6))≤9223372036854775807))=true∧R [o,n,.s (((s++(List.map UInt8.ofNat [97,32,61,32]))++aa)++(List.map UInt8.ofNat [32,45,32,98,59,32])),.n (IntKind.i64.wrap (((n.at 1 i).f 0).i - b)),.n b,.n (IntKind.i64.wrap (i+1))]))) else (bif (decide ((((o.at 1 i).f 0).i % 5)=2)) then ((decide ((Int.ofNat (s.length+7))≤9223372036854775807))=true∧R [o,n,.s (s++(List.map UInt8.ofNat [98,32,61,32,97,59,32])),.n a,.n a,.n (IntKind.i64.wrap (i+1))]) else (bif (decide ((((o.at 1 i).f 0).i % 5)=3)) then ((decide ((Int.ofNat (s.length+9))≤9223372036854775807))=true∧((decide ((Int.ofNat ((s++(List.map UInt8.ofNat [98,32,61,32,98,32,47,32,40])).length+aa.length))≤9223372036854775807))=true∧((decide ((Int.ofNat (((s++(List.map UInt8.ofNat [98,32,61,32,98,32,47,32,40]))++aa).length+7))≤9223372036854775807))=true∧((!(decide ((((n.at 1 i).f 0).i+1)=0)))=true∧R [o,n,.s (((s++(List.map UInt8.ofNat [98,32,61,32,98,32,47,32,40]))++aa)++(List.map UInt8.ofNat [32,43,32,49,41,59,32])),.n a,.n (IntKind.i64.wrap (Int.tdiv b (((n.at 1 i).f 0).i+1))),.n (IntKind.i64.wrap (i+1))])))) else ((decide ((Int.ofNat (s.length+5))≤9223372036854775807))=true∧((decide ((Int.ofNat ((s++(List.map UInt8.ofNat [97,32,61,32,45])).length+aa.length))≤9223372036854775807))=true∧((decide ((Int.ofNat (((s++(List.map UInt8.ofNat [97,32,61,32,45]))++aa).length+2))≤9223372036854775807))=true∧R [o,n,.s (((s++(List.map UInt8.ofNat [97,32,61,32,45]))++aa)++(List.map UInt8.ofNat [59,32])),.n (0 - ((n.at 1 i).f 0).i),.n b,.n (IntKind.i64.wrap (i+1))])))))))):Prop)])) else Ks 0 [.s s,.n a])):=by kernel_rfl
end Go.Proofs.YtemffgbncjnmkaaGreat
set_option maxHeartbeats 1000000
namespace Go.Proofs.YtemffgbncjnmkaaGreat
open Go Go.Sh Go.Va
theorem ly22:Vb.ly[22]?=some [.i .i16]:=rfl
def Q2J:QF:=fun xs Ks=>∃o n,xs=[o,n]∧wt o (.l 0)∧wt n (.l 22)∧nthK Ks 0 [.b true]
def stF (L:Ops):Int×Int:=rnO L (3,0)
def Qacv (j:Nat):QF:=fun xs Ks=>∃o n,∃L:Ops,xs=[o,n,.s (preT++txO L),.n (stF L).1,.n (stF L).2,.n ((L.length:Nat):Int)]∧okO L∧wt o (.l 0)∧wt n (.l 22)∧o.len≤12∧o.len≤n.len∧L.length≤o.len∧o.len - L.length<j∧∀L:Ops,okO L→L.length≤12→nthK Ks 0 [.s (preT++txO L),.n (stF L).1]
theorem QacW {L:Ops}{p:Nat×Int}:txO (L++[p])=txO L++opT p.1 (dg p.2):=by simp[txO]
theorem QacX {L:Ops}{p:Nat×Int}:stF (L++[p])=opR p.1 p.2 (stF L):=by simp[stF,rnO]
theorem bdF {L:Ops}(h:okO L)(hl:L.length≤12):bd 13 (stF L):=by
 have hb:=bdO (n:=1) (s:=(3,0)) h ⟨by omega,by omega,by omega,by omega⟩ (by omega)
 obtain⟨a,b,c,d⟩:=hb
 refine⟨?_,?_,?_,?_⟩<;>simp only[stF]<;>omega
theorem QacS (k:Int):(dg k).length≤5:=QYi 5 _
theorem QacU {k:Int}{f:TelK [.s]}(h0:0≤k)(h1:k≤32767)(h:f (dg k)):QMo [.n k] [apK [.s] f]:=⟨5,k,rfl,h0,by show k.toNat<100000;omega,by omega,by omega,fun _=>h⟩
section
variable {o n:LD}{L:Ops}{Ks:List (List LD→Prop)}{j:Nat}{i k a b:Int}{s:Str}{op:Nat}
theorem nx8 (hL:okO L)(ho:wt o (.l 0))(hn:wt n (.l 22))(h12:o.len≤12)(hon:o.len≤n.len)(hl:L.length<o.len)(hj:o.len - L.length<j+1)(hK:∀L:Ops,okO L→L.length≤12→nthK Ks 0 [.s (preT++txO L),.n (stF L).1])
  (h0:0≤k) (h1:k≤32767) (hs:s=preT++(txO L++opT op (dg k))) (ha:a=(opR op k (stF L)).1) (hb:b=(opR op k (stF L)).2) (hi:i=(L.length:Int)+1):Qacv j [o,n,.s s,.n a,.n b,.n i] Ks:=by
 subst hs ha hb hi
 refine⟨o,n,L++[(op,k)],?_,fun p hp=>?_,ho,hn,h12,hon,by rw[List.length_append,List.length_singleton];omega,by rw[List.length_append,List.length_singleton];omega,hK⟩
 ·rw[QacW,QacX,List.length_append,List.length_singleton];rfl
 ·rcases List.mem_append.1 hp with h | h
  ·exact hL p h
  ·rw[List.mem_singleton.1 h];exact⟨h0,h1⟩
theorem Qacz {q q2 q3:QF}(h:Qacv (j+1) [o,n,.s s,.n a,.n b,.n i] Ks):Qacy o n s a b i (fun ys=>Qacv j ys Ks) (nthK Ks) q QMo q2 q3:=by
 obtain⟨o',n',L,e,hL,ho,hn,h12,hon,hl,hj,hK⟩:=h
 simp only[List.cons.injEq,LD.n.injEq,LD.s.injEq,and_true] at e
 obtain⟨rfl,rfl,rfl,rfl,rfl,rfl⟩:=e
 refine Eq.mpr (QacA ..) ?_
 have l0:=Q69 L
 have lp:preT.length=30:=rfl
 obtain⟨a1,a2,b1,b2⟩:=bdF hL (by omega)
 have ei:IntKind.i64.wrap ((L.length:Int)+1)=(L.length:Int)+1:=QJ (by omega) (by omega)
 refine bifD (fun hc=>⟨decB (by omega) (by show (L.length:Int)<(n.len:Int);have:(L.length:Int)<(o.len:Int):=hc;omega),?_⟩) fun hc=>hK L hL (by omega)
 have hlt:(L.length:Int)<(o.len:Int):=hc
 have dO:((decide ((0:Int)≤(L.length:Int)))&&(decide ((L.length:Int)<Int.ofNat o.len)))=true:=decB (by omega) hlt
 obtain⟨v,ev,v0,v1⟩:=wt_i (QHQ (j:=0) (QHP (sz:=1) (j:=(L.length:Int)) hn ly22 (by omega) (by omega)) rfl)
 have v0':-32768≤v:=v0
 have v1':v≤32767:=v1
 have evv:((n.at 1 (L.length:Int)).f 0).i=v:=by rw[show (n.at 1 (L.length:Int)).f 0=.n v from ev];rfl
 rw[evv,ei]
 generalize ((o.at 1 (L.length:Int)).f 0).i % 5=m
 have D:∀x:Nat,x≤1000→(decide (Int.ofNat x≤9223372036854775807))=true:=fun x hx=>decD (by show (x:Int)≤_;omega)
 refine bifD (fun hv=>?_) fun hv=>?_
 ·have dl:=QacS (0 - (v+1))
  refine QacU (by omega) (by omega) ⟨dO,?_⟩
  generalize hz:dg (0 - (v+1))=z at *
  have hz':=hz.symm
  refine bifD (fun _=>?_) fun _=>bifD (fun _=>?_) fun _=>bifD (fun _=>?_) fun _=>bifD (fun _=>?_) fun _=>?_
  ·refine⟨D _ (by simp;omega),D _ (by simp;omega),D _ (by simp;omega),?_⟩
   exact nx8 (op:=0) (k:=0 - (v+1)) hL ho hn h12 hon (by omega) hj hK (by omega) (by omega) (by rw[hz];simp[opT,b8]) (QJ (by omega) (by omega)) rfl rfl
  ·refine⟨D _ (by simp;omega),D _ (by simp;omega),D _ (by simp;omega),?_⟩
   exact nx8 (op:=1) (k:=0 - (v+1)) hL ho hn h12 hon (by omega) hj hK (by omega) (by omega) (by rw[hz];simp[opT,b8]) (QJ (by omega) (by omega)) rfl rfl
  ·refine⟨D _ (by simp;omega),?_⟩
   exact nx8 (op:=2) (k:=0 - (v+1)) hL ho hn h12 hon (by omega) hj hK (by omega) (by omega) (by simp[opT,b8]) rfl rfl rfl
  ·have h2:=Int.natAbs_tdiv_le_natAbs (stF L).2 (0 - (v+1)+1)
   refine⟨D _ (by simp;omega),D _ (by simp;omega),D _ (by simp;omega),decN (by omega),?_⟩
   exact nx8 (op:=3) (k:=0 - (v+1)) hL ho hn h12 hon (by omega) hj hK (by omega) (by omega) (by rw[hz];simp[opT,b8]) rfl (QJ (by omega) (by omega)) rfl
  ·refine⟨D _ (by simp;omega),D _ (by simp;omega),D _ (by simp;omega),?_⟩
   exact nx8 (op:=4) (k:=0 - (v+1)) hL ho hn h12 hon (by omega) hj hK (by omega) (by omega) (by rw[hz];simp[opT,b8]) (by show v+1=0 - (0 - (v+1));omega) rfl rfl
 ·have dl:=QacS v
  refine QacU (by omega) (by omega) ⟨dO,?_⟩
  generalize hz:dg v=z at *
  refine bifD (fun _=>?_) fun _=>bifD (fun _=>?_) fun _=>bifD (fun _=>?_) fun _=>bifD (fun _=>?_) fun _=>?_
  ·refine⟨D _ (by simp;omega),D _ (by simp;omega),D _ (by simp;omega),?_⟩
   exact nx8 (op:=0) (k:=v) hL ho hn h12 hon (by omega) hj hK (by omega) (by omega) (by rw[hz];simp[opT,b8]) (QJ (by omega) (by omega)) rfl rfl
  ·refine⟨D _ (by simp;omega),D _ (by simp;omega),D _ (by simp;omega),?_⟩
   exact nx8 (op:=1) (k:=v) hL ho hn h12 hon (by omega) hj hK (by omega) (by omega) (by rw[hz];simp[opT,b8]) (QJ (by omega) (by omega)) rfl rfl
  ·refine⟨D _ (by simp;omega),?_⟩
   exact nx8 (op:=2) (k:=v) hL ho hn h12 hon (by omega) hj hK (by omega) (by omega) (by simp[opT,b8]) rfl rfl rfl
  ·have h2:=Int.natAbs_tdiv_le_natAbs (stF L).2 (v+1)
   refine⟨D _ (by simp;omega),D _ (by simp;omega),D _ (by simp;omega),decN (by omega),?_⟩
   exact nx8 (op:=3) (k:=v) hL ho hn h12 hon (by omega) hj hK (by omega) (by omega) (by rw[hz];simp[opT,b8]) rfl (QJ (by omega) (by omega)) rfl
  ·refine⟨D _ (by simp;omega),D _ (by simp;omega),D _ (by simp;omega),?_⟩
   exact nx8 (op:=4) (k:=v) hL ho hn h12 hon (by omega) hj hK (by omega) (by omega) (by rw[hz];simp[opT,b8]) rfl rfl rfl
end
theorem wt_l {d:LD}{t:Nat}(h:wt d (.l t)):d=.nul∨∃a c es,d=.l a c es:=by
 cases d<;>simp only[wt] at h
 ·exact .inl rfl
 ·exact .inr ⟨_,_,_,rfl⟩
theorem Qacc {L:Ops}{f:TelK [.s,.l 9,.l 9,.l 8,.i .i64,.i .i64]}(hL:okO L)(hl:L.length≤12)
  (h:∀pa lo bo:LD,isP pa→(∃va vc,lo=.l va vc [.t [.s wA,.b false],.t [.s wB,.b false]])→(∃ba bc es,bo=.l ba bc es∧isSs (((wA,Ex.num (b8 [51]))::ssO L).map (fun p=>St1.asg p.1 p.2)++[St1.ret (.var wA)]) 0 es)→f (b8 [102]) pa lo bo (0:Int) (0:Int)) :
  Qac [.s ((preT++txO L)++sufT)] [apK [.s,.l 9,.l 9,.l 8,.i .i64,.i .i64] f]:=by
 have l0:=Q69 L
 have l1:=QaaB L
 have lp:preT.length=30:=rfl
 have ls:sufT.length=11:=rfl
 have kp:preK.length=11:=rfl
 have kt:QSY.length=4:=rfl
 have ks:sufK.length=4:=rfl
 refine⟨_,fuO L+12+25,_,b8 [102],[wA,wB],_,rfl,?_,?_,by rw[List.append_assoc];exact Qab4 hL,QabW hL hl,fun pa lo bo h1 h2 h3 hw=>h pa lo bo ?_ ?_ ?_⟩
 ·rw[List.length_append,List.length_append];omega
 ·simp only[List.length_append];omega
 ·simp only[wtL] at hw
  rcases wt_l hw.2.1 with e | ⟨a,c,es,e⟩
  ·exact .inl e
  ·rw[e] at h1;exact .inr ⟨a,c,by rw[e];exact congrArg _ h1⟩
 ·simp only[wtL] at hw
  rcases wt_l hw.2.2.1 with e | ⟨a,c,es,e⟩
  ·rw[e] at h2;cases h2
  ·rw[e] at h2;exact⟨a,c,by rw[e];exact congrArg _ h2⟩
 ·simp only[wtL] at hw
  rcases wt_l hw.2.2.2.1 with e | ⟨a,c,es,e⟩
  ·rw[e] at h3
   obtain⟨fs,r,h,_⟩:=h3
   cases h
  ·rw[e] at h3;exact⟨a,c,es,e,h3⟩
theorem Q2w {o n:LD}{Ks:Nat→List LD→Prop}{q:QF}(ho:wt o (.l 0))(hn:wt n (.l 22))(hk:Ks 0 [.b true]):QVh o n Ks q QMo Qac QNn (fun xs Ks=>∃j,Qacv j xs Ks):=by
 refine Eq.mpr (Q2V ..) ?_
 refine bifD (fun _=>hk) fun h12=>bifD (fun _=>hk) fun hon=>?_
 have h12':¬(12:Int)<(o.len:Int):=h12
 have hon':¬(n.len:Int)<(o.len:Int):=hon
 refine⟨_,o,n,[],rfl,(fun p hp=>nomatch hp),ho,hn,by omega,by omega,Nat.zero_le _,Nat.lt_succ_self _,fun L hL hl _=>?_⟩
 have l0:=Q69 L
 have lp:preT.length=30:=rfl
 refine⟨decD (by show (((preT++txO L).length+11:Nat):Int)≤_;rw[List.length_append];omega),?_⟩
 refine Qacc hL hl fun pa lo bo hpa ⟨va,vc,hlo⟩ hbo=>?_
 obtain⟨T,T0,T1,hT⟩:=Qab5 hL hl
 have hsl:(ssO L).length=L.length:=by simp[ssO]
 refine⟨_,pa,lo,bo,va,vc,(wA,Ex.num (b8 [51]))::ssO L,.var wA,T,rfl,hpa,hlo,hbo,by simp,by rw[List.length_cons,hsl];omega,T0,?_,fun I m _=>?_⟩
 ·rw[List.length_cons,hsl];exact hT
 ·rw[List.length_cons,hsl]
  have e:(T (L.length+1+1)).2.2=(stF L).1:=T1
  rw[e]
  show bif decide ((0:Int)=0) then (bif decide ((stF L).1<(stF L).1) then _ else (_∧(bif (true&&(decide ((stF L).1=(stF L).1)&&decide ((stF L).1=(stF L).1))) then Ks 0 [.b true] else _))) else _
  rw[decide_eq_true rfl,decide_eq_false (show ¬(stF L).1<(stF L).1 by omega),decide_eq_true rfl]
  exact⟨⟨rfl,rfl,rfl,trivial⟩,hk⟩
end Go.Proofs.YtemffgbncjnmkaaGreat
set_option maxHeartbeats 4000000
namespace Go.Proofs.YtemffgbncjnmkaaGreat
open Go Go.Sh Go.Va
theorem QT7:∀i g,(QTL QMo Qac QNn).get i=some g→KOk Tryz.prog i g:=fun _ _ h=>tbg h ⟨⟨j4t,⟨QaaV,QDk⟩⟩,⟨Q9V,⟨Q6j,Q3S⟩⟩⟩
theorem Q0N:LsI Tryz.prog 3 (QN8 fun xs Ks=>∃j,Qacv j xs Ks):=Qae (S:=QN8 fun _ _=>False) QT7 Q0A (ls:=[]) lsn rfl (q:=fun j=>Qacv j)
 (fun xs Ks h=>by
   obtain⟨o,n,L,_,h1,h2,h3,h4,h5,h6,h7,h8⟩:=h
   first | omega | exact absurd h1.2.2.2 (Nat.not_lt_zero _) | exact absurd h1.1.2.2.2 (Nat.not_lt_zero _))
 (fun j xs Ks _ h=>by
   obtain⟨_,_,_,rfl,_⟩:=id h
   exact Qacz h)
theorem Q2P:KOk Tryz.prog 3 (.q (QUL Q2J)):=kq rfl (q_of QT7 Q2T (ls:=[QN8 fun xs Ks=>∃j,Qacv j xs Ks]) (lsc Q0N lsn) rfl fun xs Ks _ h=>by
     obtain⟨o,n,rfl,h1,h2,h3⟩:=h
     exact Q2w (Ks:=nthK Ks) h1 h2 h3)
end Go.Proofs.YtemffgbncjnmkaaGreat
