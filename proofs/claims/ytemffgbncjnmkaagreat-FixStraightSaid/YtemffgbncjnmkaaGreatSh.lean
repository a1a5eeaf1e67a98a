import Derived.WalkKit
import Derived.Deep.Quiet
import Derived.StillTail
namespace Go.Sh
abbrev Heap:=Array Obj
class Gd where
 g:Prop
 pn:Value→Heap→Prop:=fun _ _=>False
structure Qpp (g:Prop)(w w':World):Prop where
 os:w'.os=w.os
 tape:w'.tape=w.tape
 output:w'.output=w.output
 drawn:g→w.drawn≤w'.drawn
abbrev Qx [Gd] (w w':World):Prop:=Qpp Gd.g w w'
theorem Qpp.trans {g:Prop}{a b c:World}(h:Qpp g a b)(k:Qpp g b c):Qpp g a c:=
 ⟨k.os.trans h.os,k.tape.trans h.tape,k.output.trans h.output,fun x=>Nat.le_trans (h.drawn x) (k.drawn x)⟩
theorem Qx.refl [Gd] (w:World):Qx w w:=⟨rfl,rfl,rfl,fun _=>Nat.le_refl _⟩
theorem Qx.trans [Gd]{a b c:World}(h:Qx a b)(k:Qx b c):Qx a c:=
 ⟨k.os.trans h.os,k.tape.trans h.tape,k.output.trans h.output,fun g=>Nat.le_trans (h.drawn g) (k.drawn g)⟩
def QgN [Gd] (w:World)(K:Value→Heap→Prop)(e:Ending)(w':World):Prop:=
 (∃v,e=.returned v∧Qx w w'∧K v w'.heap)∨∃x,e=.panicked [{ v:=x,recovered:=false }]∧Qx w w'∧Gd.pn x w'.heap
def HC [Gd] (P:Program)(f:FuncId)(args:Array Value)(h:Heap)(K:Value→Heap→Prop):Prop:=
 ∀w:World,w.heap=h→Calls P f args w (QgN w K)
@[reducible] def Gd.no (G:Gd):Gd:=⟨G.g,fun _ _=>False⟩
def HCn [G:Gd] (P:Program)(f:FuncId)(args:Array Value)(h:Heap)(K:Value→Heap→Prop):Prop:=@HC G.no P f args h K
theorem Qx.no [G:Gd]{w w':World}(h:@Qx G.no w w'):Qx w w':=h
theorem QgN.ret [Gd]{w w':World}{K:Value→Heap→Prop}{v:Value}(hs:Qx w w')(hk:K v w'.heap):QgN w K (.returned v) w':=.inl ⟨v,rfl,hs,hk⟩
theorem HC.of_ret [Gd]{P:Program}{f:FuncId}{args:Array Value}{h:Heap}{K:Value→Heap→Prop}
  (hc:∀w:World,w.heap=h→Calls P f args w fun e w'=>∃v,e=.returned v∧Qx w w'∧K v w'.heap):HC P f args h K:=
 fun w hw=>(hc w hw).mono fun _ _ h=>.inl h
theorem HCn.calls [Gd]{P:Program}{f:FuncId}{args:Array Value}{h:Heap}{K:Value→Heap→Prop}(hc:HCn P f args h K) :
  ∀w:World,w.heap=h→Calls P f args w fun e w'=>∃v,e=.returned v∧Qx w w'∧K v w'.heap:=
 fun w hw=>(hc w hw).mono fun _ _ h=>h.elim (fun⟨v,he,hs,hv⟩=>⟨v,he,hs.no,hv⟩) fun⟨_,_,_,h⟩=>h.elim
theorem HC.calls [Gd] (hn:∀x h,¬Gd.pn x h){P:Program}{f:FuncId}{args:Array Value}{h:Heap}{K:Value→Heap→Prop}(hc:HC P f args h K) :
  ∀w:World,w.heap=h→Calls P f args w fun e w'=>∃v,e=.returned v∧Qx w w'∧K v w'.heap:=
 fun w hw=>(hc w hw).mono fun _ _ h=>h.elim id fun⟨_,_,_,h⟩=>(hn _ _ h).elim
theorem HCn.hc [Gd]{P:Program}{f:FuncId}{args:Array Value}{h:Heap}{K:Value→Heap→Prop}(hc:HCn P f args h K):HC P f args h K:=
 HC.of_ret hc.calls
theorem HC.mono [Gd]{P:Program}{f:FuncId}{args:Array Value}{h:Heap}{K K':Value→Heap→Prop}
  (hc:HC P f args h K) (hk:∀v h',K v h'→K' v h'):HC P f args h K':=
 fun w hw=>(hc w hw).mono fun _ _ h=>h.imp (fun⟨v,he,hs,hv⟩=>⟨v,he,hs,hk _ _ hv⟩) id
def Qd9 [Gd] (P:Program)(K:Value→Heap→Prop)(w:World):Result Next→Prop
 | .ok (.value v) w'=>Qx w w'∧K v w'.heap
 | .ok .skip w'=>Qx w w'∧K undef w'.heap
 | .ok (.enter f args) w'=>Qx w w'∧HC P f args w'.heap K
 | .halt (.panic x) w'=>Qx w w'∧Gd.pn x w'.heap
 | _=>False
def Sx [Gd] (P:Program)(s:Sem Next)(h:Heap)(K:Value→Heap→Prop):Prop:=
 ∀w:World,w.heap=h→Qd9 P K w (s.run P w)
def Sp (P:Program)(s:Sem Next)(K:Value→Prop):Prop:=
 ∃v,(∀w,s.run P w=.ok (.value v) w)∧K v
def Sq (P:Program)(D:Heap→Prop)(s:Sem Next)(K:Value→Prop):Prop:=
 ∃v,(∀w:World,D w.heap→s.run P w=.ok (.value v) w)∧K v
def nv (s:Sem Value):Sem Next:=do pure (.value (←s))
def nu (s:Sem Unit):Sem Next:=do s;pure .skip
def cond (v:Value)(A B:Prop):Prop:=
 match v with
 | .bool true=>A
 | .bool false=>B
 | _=>False
def upd (f:Nat→Value)(i:Nat)(v:Value):Nat→Value:=fun j=>bif Nat.beq j i then v else f j
def mkD (ds:List Deferred)(n:Nat)(f:Nat→Value):Act:=⟨((List.range n).map f).toArray,ds⟩
abbrev mk (n:Nat)(f:Nat→Value):Act:=mkD [] n f
class PnOk [Gd] (ds:List Deferred)(Q:Exit→Act→World→Prop)(w0:outParam World)(A:outParam (Nat→(Nat→Value)→Prop)):Prop where
 pn:∀x n f w,A n f→Qx w0 w→Gd.pn x w.heap→Q (.panic [{ v:=x,recovered:=false }]) (mkD ds n f) w
variable {ds:List Deferred}
def evf (n:Nat)(f:Nat→Value):Operand→Value
 | .tmp t=>bif Nat.blt t n then f t else undef
 | .const v=>v
 | .global g=>.pointer (some ⟨g,0,none⟩)
 | .func f=>.func (.func f) #[] #[]
theorem QoK (n:Nat)(f:Nat→Value):(mkD ds n f).eval=evf n f:=by
 funext x
 cases x with
 | tmp t=>
  simp only[Act.eval,evf,mkD]
  by_cases h:t<n
  ·have:Nat.blt t n=true:=by simpa [Nat.blt_eq] using h
   simp[h,this]
  ·have:Nat.blt t n=false:=by simpa [←Bool.not_eq_true,Nat.blt_eq] using h
   simp[h,this]
 | const v=>rfl
 | global g=>rfl
 | func f=>rfl
theorem Qr0 (n:Nat)(f:Nat→Value)(d:Nat)(v:Value):(mkD ds n f).put (some d) v=mkD ds n (upd f d v):=by
 simp only[Act.put,mkD]
 congr 1
 apply Array.ext
 ·simp
 ·intro i h1 h2
  simp at h1
  simp only[List.getElem_toArray,List.getElem_map,List.getElem_range,upd]
  by_cases hd:d=i
  ·subst hd;simp
  ·have:Nat.beq i d=false:=by simpa [←Bool.not_eq_true,Nat.beq_eq] using fun h=>hd h.symm
   simp[hd,this]
theorem Qn3 (n:Nat)(f:Nat→Value)(v:Value):(mkD ds n f).put none v=mkD ds n f:=rfl
theorem QGf (n:Nat)(f:Nat→Value)(d:Nat)(h:d<n):(mkD ds n f).tmps[d]?=some (f d):=by
 simp[mkD,h]
theorem QD8 (n:Nat)(f:Nat→Value)(d:Nat)(h:Nat.blt d n=true):(mkD ds n f).tmps.getD d undef=f d:=by
 have h':d<n:=by simpa [Nat.blt_eq] using h
 simp[mkD,h']
section list
variable {P:Program}{ops:Array Oper}{Q:Exit→Act→World→Prop}{n:Nat}{f:Nat→Value}{w:World}{rest:List Oper}{o:Oper}{h:Heap}
theorem Qdt (hg:Region.wanted o (yielded ops (mkD ds n f).tmps)=true)
  (h:o.upon P (mkD ds n f) (wpList P ops Q rest) Q ((execOp (evf n f) o).run P w)):wpList P ops Q (o::rest) (mkD ds n f) w:=by
 unfold wpList
 rw[if_pos hg]
 refine .inl ?_
 unfold Oper.wp
 rw[QoK]
 exact h
theorem Qjs {a:Act}(hg:o.guard=none):Region.wanted o (yielded ops a.tmps)=true:=by simp[Region.wanted,hg]
theorem Qzm {j d:Nat}{b want:Bool}(hg:o.guard=some (j,want))(hd:(ops[j]?).bind (·.dst)=some d)(hn:Nat.blt d n=true)(hv:f d=.bool b) :
  Region.wanted o (yielded ops (mkD ds n f).tmps)=(b == want):=by
 have hn':d<n:=by simpa [Nat.blt_eq] using hn
 simp[Region.wanted,hg,yielded,hd,QGf n f d hn',hv]
theorem QEG {j d:Nat}{want:Bool}(hg:o.guard=some (j,want))(hd:(ops[j]?).bind (·.dst)=some d)(hn:Nat.blt d n=true)(hv:f d=.bool want) :
  Region.wanted o (yielded ops (mkD ds n f).tmps)=true:=by rw[Qzm hg hd hn hv];simp
theorem QFw {j d:Nat}{want:Bool}(hg:o.guard=some (j,want))(hd:(ops[j]?).bind (·.dst)=some d)(hn:Nat.blt d n=true)(hv:f d=.bool (!want)) :
  Region.wanted o (yielded ops (mkD ds n f).tmps)=false:=by rw[Qzm hg hd hn hv];cases want<;>rfl
theorem QBn {j d:Nat}{want:Bool}(hg:o.guard=some (j,want))(hd:(ops[j]?).bind (·.dst)=some d)(hn:Nat.blt d n=true)(hv:f d=undef) :
  Region.wanted o (yielded ops (mkD ds n f).tmps)=false:=by
 have hn':d<n:=by simpa [Nat.blt_eq] using hn
 simp[Region.wanted,hg,yielded,hd,QGf n f d hn',hv,undef]
theorem QacY {d:Nat}{K:Value→Prop}{s:Sem Next}(he:execOp (evf n f) o=s)(hs:Sp P s K)(hg:Region.wanted o (yielded ops (mkD ds n f).tmps)=true)(hd:o.dst=some d)
  (k:∀v,K v→wpList P ops Q rest (mkD ds n (upd f d v)) w):wpList P ops Q (o::rest) (mkD ds n f) w:=by
 subst he
 obtain⟨v,hr,hk⟩:=hs
 refine Qdt hg ?_
 rw[hr w,Oper.upon_value,hd,Qr0]
 exact k v hk
theorem QEM {d:Nat}{K:Value→Prop}{s:Sem Next}(he:execOp (evf n f) o=s)(hs:Sq P (Eq h) s K)(hw:w.heap=h)(hg:Region.wanted o (yielded ops (mkD ds n f).tmps)=true)(hd:o.dst=some d)
  (k:∀v,K v→wpList P ops Q rest (mkD ds n (upd f d v)) w):wpList P ops Q (o::rest) (mkD ds n f) w:=by
 subst he
 obtain⟨v,hr,hk⟩:=hs
 refine Qdt hg ?_
 rw[hr w hw.symm,Oper.upon_value,hd,Qr0]
 exact k v hk
theorem Ql1 [Gd]{a:Act}{next:Act→World→Prop}{K:Value→Heap→Prop}{r:Result Next}(hs:Qd9 P K w r)
  (k:∀v w',Qx w w'→K v w'.heap→next (a.put o.dst v) w') {w0:World}{A:Nat→(Nat→Value)→Prop}{n:Nat}{f:Nat→Value} (ha:a=mkD ds n f) (hp:PnOk ds Q w0 A) (h0:Qx w0 w) (hA:A n f):o.upon P a next Q r:=by
 match r,hs with
 | .ok (.value v) w',hs=>exact k v w' hs.1 hs.2
 | .ok .skip w',hs=>exact k undef w' hs.1 hs.2
 | .ok (.enter f args) w',hs=>
  show Calls P f args w' _
  refine (hs.2 w' rfl).mono fun e w'' he=>?_
  rcases he with⟨v,rfl,hs',hv⟩ | ⟨x,rfl,hs',hx⟩
  ·exact k v w'' (hs.1.trans hs') hv
  ·subst ha;exact hp.pn x n _ w'' hA (h0.trans (hs.1.trans hs')) hx
 | .halt (.panic x) w',hs=>subst ha;exact hp.pn x n _ w' hA (h0.trans hs.1) hs.2
theorem QEL [Gd]{d:Nat}{K:Value→Heap→Prop}{s:Sem Next}(he:execOp (evf n f) o=s)(hs:Sx P s h K)(hw:w.heap=h)(hg:Region.wanted o (yielded ops (mkD ds n f).tmps)=true)(hd:o.dst=some d)
  (k:∀v h' w',w'.heap=h'→Qx w w'→K v h'→wpList P ops Q rest (mkD ds n (upd f d v)) w') {w0:World}{A:Nat→(Nat→Value)→Prop} [hpn:PnOk ds Q w0 A] (hs0:Qx w0 w:=by assumption) (hA0:A n f:=by first | exact True.intro | exact⟨rfl,rfl,rfl,trivial⟩ | exact⟨rfl,rfl,rfl,rfl,rfl,rfl,rfl,rfl,rfl,trivial⟩):wpList P ops Q (o::rest) (mkD ds n f) w:=by
 subst he
 refine Qdt hg (Ql1 (hs w hw) (fun v w' h1 h2=>?_) rfl hpn hs0 hA0)
 rw[hd,Qr0]
 exact k v _ w' rfl h1 h2
theorem QHV [Gd]{K:Value→Heap→Prop}{s:Sem Next}(he:execOp (evf n f) o=s)(hs:Sx P s h K)(hw:w.heap=h)(hg:Region.wanted o (yielded ops (mkD ds n f).tmps)=true)(hd:o.dst=none)
  (k:∀v h' w',w'.heap=h'→Qx w w'→K v h'→wpList P ops Q rest (mkD ds n f) w') {w0:World}{A:Nat→(Nat→Value)→Prop} [hpn:PnOk ds Q w0 A] (hs0:Qx w0 w:=by assumption) (hA0:A n f:=by first | exact True.intro | exact⟨rfl,rfl,rfl,trivial⟩ | exact⟨rfl,rfl,rfl,rfl,rfl,rfl,rfl,rfl,rfl,trivial⟩):wpList P ops Q (o::rest) (mkD ds n f) w:=by
 subst he
 refine Qdt hg (Ql1 (hs w hw) (fun v w' h1 h2=>?_) rfl hpn hs0 hA0)
 rw[hd]
 exact k v _ w' rfl h1 h2
theorem QBB {d:Nat}(hg:Region.wanted o (yielded ops (mkD ds n f).tmps)=false)(hd:o.dst=some d)
  (k:wpList P ops Q rest (mkD ds n (upd f d undef)) w):wpList P ops Q (o::rest) (mkD ds n f) w:=by
 unfold wpList
 rw[if_neg (by simp[hg]),hd,Qr0]
 exact k
theorem Qzq (hg:Region.wanted o (yielded ops (mkD ds n f).tmps)=false)(hd:o.dst=none)
  (k:wpList P ops Q rest (mkD ds n f) w):wpList P ops Q (o::rest) (mkD ds n f) w:=by
 unfold wpList
 rw[if_neg (by simp[hg]),hd]
 exact k
theorem QDX {a:Act}(k:Q .normal a w):wpList P ops Q [] a w:=k
end list
section quiet
variable {P:Program}{ops:Array Oper}{Q:Act→Prop}{n:Nat}{f:Nat→Value}{w0:World}{rest:List Oper}{o:Oper}{D:Heap→Prop}
end quiet
structure Qfb (Q:Exit→Act→World→Prop):Prop where
 ok:∀c d v a w,Q (.panic c) (Act.put a d v) w→Q (.panic c) a w
section mix
variable {P:Program}{ops:Array Oper}{Q:Exit→Act→World→Prop}{md:Region.Mode}{C:World→Prop}
def QBk (P:Program)(md:Region.Mode)(ops:Array Oper)(Q:Exit→Act→World→Prop)(C:World→Prop)(n:Nat)(L:Array Bool→Act→World→Prop):Nat→Array Bool→Act→World→Prop
 | 0,listed,a,w=>L listed a w
 | fuel+1,listed,a,w=>Region.ready md ops listed≠[] ∧
  ∀i∈Region.ready md ops listed,i<n∧wpOp P ops Q i (fun a' w'=>C w'∧QBk P md ops Q C n L fuel (listed.setIfInBounds i true) a' w') a w
variable {L:Array Bool→Act→World→Prop}{n:Nat}
theorem QwI {g:Nat}(hL:∀listed a w,L listed a w→wpAny P md ops Q g listed a w):∀(fuel:Nat)(listed:Array Bool)(a:Act)(w:World),
  QBk P md ops Q C n L fuel listed a w→wpAny P md ops Q (fuel+g) listed a w
 | 0,_,_,_,h=>by rw[Nat.zero_add];exact hL _ _ _ h
 | fuel+1,listed,a,w,h=>by
  rw[show fuel+1+g=(fuel+g)+1 from by omega]
  exact⟨fun h0=>absurd h0 h.1,fun i hi=>wpOp_mono (fun a' w' h'=>QwI hL fuel _ a' w' h'.2) (h.2 i hi).2⟩
def QEF (P:Program)(ops:Array Oper)(C:World→Prop)(o:Oper)(v:Value)(a:Act):Prop:=
 (Region.wanted o (yielded ops a.tmps)=true∧∀w,C w→(execOp a.eval o).run P w=.ok (.value v) w) ∨
 (Region.wanted o (yielded ops a.tmps)=false∧v=undef)
theorem QEF.wpOp {i:Nat}{o:Oper}{v:Value}{a:Act}(hi:ops[i]?=some o)(hy:QEF P ops C o v a)
  {K:Act→World→Prop}{w:World} (hC:C w) (h:K (a.put o.dst v) w):wpOp P ops Q i K a w:=by
 unfold Go.wpOp
 simp only[hi]
 rcases hy with⟨hw,hv⟩ | ⟨hw,rfl⟩
 ·simp only[hw,if_true,Oper.wp,hv w hC,Oper.upon];exact .inl h
 ·simp only[hw,Bool.false_eq_true,if_false];exact h
def Ext (h h':Heap):Prop:=h.size≤h'.size∧∀b,b<h.size→h'[b]?=h[b]?
theorem Ext.refl (h:Heap):Ext h h:=⟨Nat.le_refl _,fun _ _=>rfl⟩
theorem Ext.trans {a b c:Heap}(h:Ext a b)(k:Ext b c):Ext a c:=
 ⟨Nat.le_trans h.1 k.1,fun i hi=>(k.2 i (Nat.lt_of_lt_of_le hi h.1)).trans (h.2 i hi)⟩
section exp
variable {f:Nat→Value}{w:World}{o:Oper}{h:Heap}{m i fuel:Nat}{listed listed':Array Bool}
end exp
variable {D:Heap→Prop}{T:Act→World→Prop}{f:Nat→Value}{w:World}{rest:List (Bool×Oper)}{o:Oper}{h:Heap}{m:Nat}
end mix
section mixf
variable {P:Program}{ops:Array Oper}{Q:Exit→Act→World→Prop}{md:Region.Mode}{C:Array Bool→World→Prop}
variable {L:Array Bool→Act→World→Prop}{n:Nat}
def CF (qs:List Nat)(h:Heap)(listed:Array Bool)(w:World):Prop:=(∀(k q:Nat),qs[k]?=some q→2≤q→listed.getD k false=false)→w.heap=h
theorem CF.read {qs:List Nat}{h:Heap}{i q:Nat}(hq:qs[i]?=some q)(hlt:q<2)(listed:Array Bool)(w:World):CF qs h (listed.setIfInBounds i true) w↔CF qs h listed w:=by
 unfold CF
 have key:∀(k q':Nat),qs[k]?=some q'→2≤q'→(listed.setIfInBounds i true).getD k false=listed.getD k false:=fun k q' hk hq'=>by
  refine getD_set_ne false (fun e=>?_)
  subst e
  rw[hq] at hk
  simp only[Option.some.injEq] at hk
  omega
 constructor
 ·exact fun hc hall=>hc fun k q' hk hq'=>by rw[key k q' hk hq'];exact hall k q' hk hq'
 ·exact fun hc hall=>hc fun k q' hk hq'=>by have:=hall k q' hk hq';rwa [key k q' hk hq'] at this
variable {T:Act→World→Prop}{f:Nat→Value}{w:World}{rest:List (Nat×Oper)}{o:Oper}{h h0:Heap}{m:Nat}
end mixf
section code
variable {P:Program}{Q:Exit→Act→World→Prop}{n:Nat}{f:Nat→Value}{w:World}
theorem Qw1 {id:Nat}{l:List Oper}{a:Act}(h:wpList P l.toArray Q l a w):(Code.region id l.toArray false).wp P Q a w:=wp_region_lit h
def loop {α:Type}(x0:α)(h0:Heap)(body:α→Heap→(α→Heap→Prop)→Prop):Prop:=
 ∃(I:Nat→α→Heap→Prop) (m0:Nat),I m0 x0 h0∧∀m x h,I m x h→body x h fun x' h'=>∃m',m'<m∧I m' x' h'
theorem QHA [Gd]{g:FuncId}{fn:Func}{c:Code}{args:Array Value}{h:Heap}{K:Value→Heap→Prop}(hf:P.funcs[g]?=some fn)(hb:fn.body=some c)
  (hn:fn.ntmps=n) (ha:args++Array.replicate (n - args.size) undef=(mk n f).tmps)
  (hw:∀w:World,w.heap=h→c.wp P (bodyPost P fn (QgN w K)) (mk n f) w):HC P g args h K:=by
 intro w hh
 refine calls_of_wp hf hb ?_
 rw[hn,ha]
 exact hw w hh
theorem QHj {fn:Func}{R:Ending→World→Prop}{v:Value}(hr:(results fn (mk n f).tmps).run P w=.ok v w)(hR:R (.returned v) w) :
  bodyPost P fn R .ret (mk n f) w:=⟨rfl,v,hr,hR⟩
theorem QHk {fn:Func}{R:Ending→World→Prop}{v:Value}(hr:(results fn (mk n f).tmps).run P w=.ok v w)(hR:R (.returned v) w) :
  bodyPost P fn R .normal (mk n f) w:=⟨rfl,v,hr,hR⟩
def rone (tmps:Array Value):ResultVar→Sem Value
 | .tmp t=>pure (tmps.getD t undef)
 | .cell a t=>do loadVar t (←asAddr (tmps.getD a undef))
theorem QrL {fn:Func}{rs:List ResultVar}(h:fn.results=rs.toArray)(tmps:Array Value) :
  results fn tmps=(do let vs ←rs.mapM (rone tmps);pure (match vs with | [v]=>v | vs=>.tuple vs.toArray)):=by
 have e:results fn tmps=(do let vs ←fn.results.mapM (rone tmps);pure (if h:vs.size=1 then vs[0] else .tuple vs)):=by
  unfold results
  congr 1
 rw[e,h,List.mapM_toArray,map_eq_pure_bind,bind_assoc]
 congr 1
 funext vs
 simp only[pure_bind]
 congr 1
 match vs with
 | []=>rfl
 | [v]=>rfl
 | _::_::_=>rfl
def ovr:List (Nat×Value)→(Nat→Value)→Nat→Value
 | [],f,j=>f j
 | (i,v)::r,f,j=>bif Nat.beq j i then v else ovr r f j
theorem blkN {id:Nat}{a:Act}(h:Q .normal a w):Exit.inBlock id Q .normal a w:=h
theorem blkR {id:Nat}{a:Act}(h:Q .ret a w):Exit.inBlock id Q .ret a w:=h
theorem blkE {id:Nat}{a:Act}(h:Q .normal a w):Exit.inBlock id Q (.exit id) a w:=by simpa [Exit.inBlock] using h
theorem blkX {id id':Nat}{a:Act}(hne:Nat.beq id' id=false)(h:Q (.exit id') a w):Exit.inBlock id Q (.exit id') a w:=by
 have:id'≠id:=fun e=>by subst e;simp at hne
 simpa [Exit.inBlock,this] using h
instance QFU [Gd]{fn:Func}{w0:World}{K:Value→Heap→Prop}:PnOk [] (bodyPost P fn (QgN w0 K)) w0 (fun _ _=>True):=⟨fun x _ _ _ _ hs hp=>⟨rfl,.inr ⟨x,rfl,hs,hp⟩⟩⟩
instance Qhg [Gd]{y:Act→World→Prop}{w0:World}{A:Nat→(Nat→Value)→Prop} [h:PnOk ds Q w0 A]:PnOk ds (Exit.then y Q) w0 A:=⟨fun x n f w h1 h2 h3=>h.pn x n f w h1 h2 h3⟩
instance QHl [Gd]{id:Nat}{w0:World}{A:Nat→(Nat→Value)→Prop} [h:PnOk ds Q w0 A]:PnOk ds (Exit.inBlock id Q) w0 A:=⟨fun x n f w h1 h2 h3=>h.pn x n f w h1 h2 h3⟩
theorem QfB {y:Act→World→Prop}(h:Qfb Q):Qfb (Exit.then y Q):=⟨h.ok⟩
theorem QDg {id:Nat}(h:Qfb Q):Qfb (Exit.inBlock id Q):=⟨h.ok⟩
theorem QBI {fn:Func}{R:Ending→World→Prop}:Qfb (bodyPost P fn R):=⟨fun _ d _ _ _ h=>by
 cases d<;>exact h⟩
theorem QkD {ops:Array Oper}:∀(l r:List Oper)(a:Act)(w:World),wpList P ops (Exit.then (wpList P ops Q r) Q) l a w→wpList P ops Q (l++r) a w
 | [],_,_,_,h=>h
 | o::l,r,a,w,h=>by
  unfold wpList at h
  show wpList P ops Q (o::(l++r)) a w
  unfold wpList
  split
  ·rename_i hw
   rw[if_pos hw] at h
   refine h.imp (fun h=>?_) (fun h=>⟨h.1,?_⟩)
   ·have:∀ {K K':Act→World→Prop},(∀a w,K a w→K' a w)→o.wp P a w K (Exit.then (wpList P ops Q r) Q)→o.wp P a w K' Q:=by
     intro K K' hK hh
     unfold Oper.wp at *
     generalize (execOp a.eval o).run P w=rr at *
     cases rr with
     | ok n w'=>
      cases n<;>simp only[Oper.upon] at hh ⊢ <;>
       first
        | exact hK _ _ hh
        | exact Calls.mono hh (fun e w'' he=>by cases e<;>first | exact hK _ _ he | exact he)
        | exact Rows.mono hh (fun _ _ he=>hK _ _ he)
     | halt x w'=>cases x<;>simp only[Oper.upon] at hh ⊢<;>exact hh
    exact this (fun a w=>QkD l r a w) h
   ·obtain⟨a',w',h'⟩:=h.2
    exact⟨a',w',h'⟩
  ·rename_i hw
   rw[if_neg hw] at h
   exact QkD l r _ w h
end code
section ops
variable (P:Program)
def drawn (h:Heap)(B:(Heap→Prop)→Prop):Prop:=∃D:Heap→Prop,D h∧B D
def any (D:Heap→Prop)(K:Heap→Prop):Prop:=∀h,D h→K h
def Qf9 (f:Value)(args:Array Value):Sem Next:=do let d ←Deferred.ofValue f args;invoke d.target d.args
def Qkf (recv:Value)(name:String)(args:Array Value):Sem Next:=invoke (.fn (.method name) #[]) (#[recv]++args)
def Qyu (c a b:Value):Sem Next:=do pure (.value (if ←asBool c then a else b))
def QB0 (x:Value):Sem Next:=
 match x with
 | .pointer none | .nilIface | .nilFunc=>runtimePanic .nilDeref
 | .func (.method name) first captured=>
  match (first[0]?:Option Value) with
  | some .nilIface=>runtimePanic .nilDeref
  | some (.iface t w)=>do
   if (←nilAhead ((←program).types.size+Made.depth) t w name) != some false then
    unsupported (.noEntry "op/nilCheck.the method's receiver behind this interface value is a nil pointer, or cannot be seen to be none, and the arguments act or may panic (ledger 612)")
   pure (.value (.func (.method name) first captured))
  | _=>pure (.value (.func (.method name) first captured))
 | x=>pure (.value x)
theorem QI9 {ρ:Operand→Value}{o:Oper}{f:Operand}{l:List Operand}{ats:Array TypeId}(h:o.op=.call { callee:=.value f,args:=l.toArray,argTypes:=ats }) :
  execOp ρ o=Qf9 (ρ f) (l.map ρ).toArray:=by
 simp[execOp,h,resolve,Qf9]
theorem QGE {ρ:Operand→Value}{o:Oper}{f:Operand}{m:String}{l:List Operand}{ats:Array TypeId}(h:o.op=.call { callee:=.invoke f m,args:=l.toArray,argTypes:=ats }) :
  execOp ρ o=Qkf (ρ f) m (l.map ρ).toArray:=by
 simp[execOp,h,resolve,Qkf]
def Qh8:Operand→Bool
 | .const _=>true
 | _=>false
theorem QGF {ρ:Operand→Value}{o:Oper}{b:Builtin}{l:List Operand}{ats:Array TypeId}(h:o.op=.call { callee:=.builtin b,args:=l.toArray,argTypes:=ats }) :
  execOp ρ o=builtin b ats o.type (l.map Qh8).toArray (l.map ρ).toArray:=by
 simp only[execOp,h,resolve,pure_bind,invoke,List.map_toArray]
 congr 2
def QE2 (c a b:Value)(K:Value→Prop):Prop:=Sp P (Qyu c a b) K
def oNil (x:Value)(K:Value→Prop):Prop:=Sp P (QB0 x) K
def oBin (op:BinOp)(t:TypeId)(x y:Operand)(a b:Value)(K:Value→Prop):Prop:=Sp P (nv (do eqGuard op t x y a b;binOp op t a b)) K
def oUn (op:UnOp)(a:Value)(K:Value→Prop):Prop:=Sp P (nv (Op.unary op a)) K
def QE7 (s d:TypeId)(a:Value)(K:Value→Prop):Prop:=Sp P (nv (convert s d a)) K
def QF6 [Gd] (s d:TypeId)(a:Value)(h:Heap)(K:Value→Heap→Prop):Prop:=Sx P (nv (convert s d a)) h K
def QKd [Gd] (a:Value)(h:Heap)(K:Value→Heap→Prop):Prop:=Sx P (nv (Instr.panic a)) h K
def QF4 (t:TypeId)(a:Value)(K:Value→Prop):Prop:=Sp P (nv (Instr.makeInterface t a)) K
def QE3 (fn:Fn)(l r:Array Value)(K:Value→Prop):Prop:=Sp P (nv (Instr.makeFunc fn l r)) K
def QfD (t:TypeId)(a:Value)(lo hi mx:Option Value)(K:Value→Prop):Prop:=Sp P (nv (Instr.sliceAt t a lo hi mx)) K
def QE4 (t:TypeId)(a:Value)(f:Nat)(D:Heap→Prop)(K:Value→Prop):Prop:=Sq P D (nv (Instr.fieldAt t a f)) K
def QBR (t:TypeId)(a:Value)(f:Nat)(K:Value→Prop):Prop:=Sp P (nv (Instr.field t a f)) K
def oIdx (t:TypeId)(a i:Value)(K:Value→Prop):Prop:=Sp P (nv (Instr.indexAt t a i)) K
def QrX (t:TypeId)(a i:Value)(K:Value→Prop):Prop:=Sp P (nv (Instr.index t a i)) K
def oExt (a:Value)(i:Nat)(K:Value→Prop):Prop:=Sp P (nv (Instr.extract a i)) K
def QyI (x:Value)(t asserted:TypeId)(ok:Bool)(K:Value→Prop):Prop:=Sp P (nv (Instr.typeAssert x t asserted ok)) K
def QrZ (t:TypeId)(l:Array (Nat×Value))(K:Value→Prop):Prop:=Sp P (nv (Instr.build t l)) K
def Qnx (t:TypeId)(a:Value)(D:Heap→Prop)(K:Value→Prop):Prop:=Sq P D (nv (Instr.loadAt t a)) K
def Qxk (t:TypeId)(m k:Value)(ok:Bool)(D:Heap→Prop)(K:Value→Prop):Prop:=Sq P D (nv (Instr.lookup t m k ok)) K
def QrY (i:Value)(D:Heap→Prop)(K:Value→Prop):Prop:=Sq P D (nv (Instr.entry i)) K
def oLen (ats:Array TypeId)(t:TypeId)(a:Value)(K:Value→Prop):Prop:=Sp P (nv (Builtin.len_ ats t #[a])) K
def QpS (ats:Array TypeId)(t:TypeId)(a:Value)(D:Heap→Prop)(K:Value→Prop):Prop:=Sq P D (nv (Builtin.len_ ats t #[a])) K
def oCap (ats:Array TypeId)(t:TypeId)(a:Value)(K:Value→Prop):Prop:=Sp P (nv (Builtin.cap_ ats t #[a])) K
def oMin (ats:Array TypeId)(t:TypeId)(l:Array Value)(K:Value→Prop):Prop:=Sp P (nv (Builtin.min_ ats t l)) K
def oMax (ats:Array TypeId)(t:TypeId)(l:Array Value)(K:Value→Prop):Prop:=Sp P (nv (Builtin.max_ ats t l)) K
def QF8 [Gd] (t:TypeId)(h:Heap)(K:Value→Heap→Prop):Prop:=Sx P (nv (Instr.alloc t true (.tuple #[]))) h K
def oBox [Gd] (t:TypeId)(a:Value)(h:Heap)(K:Value→Heap→Prop):Prop:=Sx P (nv (Instr.box t a)) h K
def Qn2 [Gd] (t:TypeId)(k:Nat)(l:Array (Nat×Value))(h:Heap)(K:Value→Heap→Prop):Prop:=Sx P (nv (Instr.buildSlice t k l)) h K
def QrW [Gd] (t:TypeId)(a v:Value)(h:Heap)(K:Value→Heap→Prop):Prop:=Sx P (nu (Instr.storeAt t a v)) h K
def QFZ [Gd] (t:TypeId)(r:Option Value)(h:Heap)(K:Value→Heap→Prop):Prop:=Sx P (nv (Instr.makeMap t r)) h K
def Qmk [Gd] (t:TypeId)(l c:Value)(h:Heap)(K:Value→Heap→Prop):Prop:=Sx P (nv (Instr.makeSlice t l c)) h K
def oUpd [Gd] (t:TypeId)(m k v:Value)(h:Heap)(K:Value→Heap→Prop):Prop:=Sx P (nu (Instr.mapUpdate t m k v)) h K
def QF0 [Gd] (t:TypeId)(m k:Value)(h:Heap)(K:Value→Heap→Prop):Prop:=Sx P (nv (Instr.mapEntry t m k)) h K
def QDl [Gd] (t:TypeId)(m s v:Value)(h:Heap)(K:Value→Heap→Prop):Prop:=Sx P (nu (Instr.entryStore t m s v)) h K
def QoH [Gd] (t:TypeId)(a:Value)(h:Heap)(K:Value→Heap→Prop):Prop:=Sx P (nv (Instr.range t a)) h K
def Qtv [Gd] (i:Value)(s:Bool)(t:TypeId)(h:Heap)(K:Value→Heap→Prop):Prop:=Sx P (nv (Instr.next i s t)) h K
def QbY [Gd] (ats:Array TypeId)(t:TypeId)(l:Array Value)(h:Heap)(K:Value→Heap→Prop):Prop:=Sx P (nv (Builtin.append_ ats t l)) h K
def QE6 [Gd] (ats:Array TypeId)(t:TypeId)(l:Array Value)(h:Heap)(K:Value→Heap→Prop):Prop:=Sx P (nv (Builtin.copy_ ats t l)) h K
def QD5 [Gd] (ats:Array TypeId)(t:TypeId)(l:Array Value)(h:Heap)(K:Value→Heap→Prop):Prop:=Sx P (nv (Builtin.delete_ ats t l)) h K
def QF7 [Gd] (ats:Array TypeId)(t:TypeId)(l:Array Value)(h:Heap)(K:Value→Heap→Prop):Prop:=Sx P (nv (Builtin.clear_ ats t l)) h K
def QLc [Gd] (f:Value)(l:Array Value)(h:Heap)(K:Value→Heap→Prop):Prop:=Sx P (Qf9 f l) h K
def QyH [Gd] (r:Value)(m:String)(l:Array Value)(h:Heap)(K:Value→Heap→Prop):Prop:=Sx P (Qkf r m l) h K
end ops
section short
variable {P:Program}{ops:Array Oper}{Q:Exit→Act→World→Prop}{n:Nat}{f:Nat→Value}{w:World}{rest:List Oper}{o:Oper}{h:Heap}
theorem sP {d:Nat}{K:Value→Prop}{s:Sem Next}(he:execOp (evf n f) o=s)(hs:Sp P s K)(hg:o.guard=none)(hd:o.dst=some d)
  (k:∀v,K v→wpList P ops Q rest (mkD ds n (upd f d v)) w):wpList P ops Q (o::rest) (mkD ds n f) w:=QacY he hs (Qjs hg) hd k
theorem sQ {d:Nat}{K:Value→Prop}{s:Sem Next}(he:execOp (evf n f) o=s)(hs:Sq P (Eq h) s K)(hw:w.heap=h)(hg:o.guard=none)(hd:o.dst=some d)
  (k:∀v,K v→wpList P ops Q rest (mkD ds n (upd f d v)) w):wpList P ops Q (o::rest) (mkD ds n f) w:=QEM he hs hw (Qjs hg) hd k
theorem sX [Gd]{d:Nat}{K:Value→Heap→Prop}{s:Sem Next}(he:execOp (evf n f) o=s)(hs:Sx P s h K)(hw:w.heap=h)(hg:o.guard=none)(hd:o.dst=some d){w0:World}{A:Nat→(Nat→Value)→Prop} [hpn:PnOk ds Q w0 A] (hs0:Qx w0 w)
  (k:∀v h' w',w'.heap=h'→Qx w0 w'→K v h'→wpList P ops Q rest (mkD ds n (upd f d v)) w')
  (hA0:A n f:=by first | exact True.intro | exact⟨rfl,rfl,rfl,trivial⟩ | exact⟨rfl,rfl,rfl,rfl,rfl,rfl,rfl,rfl,rfl,trivial⟩):wpList P ops Q (o::rest) (mkD ds n f) w:=
 QEL he hs hw (Qjs hg) hd (fun v h' w' h1 h2 h3=>k v h' w' h1 (hs0.trans h2) h3) hs0 hA0
end short
end Go.Sh
