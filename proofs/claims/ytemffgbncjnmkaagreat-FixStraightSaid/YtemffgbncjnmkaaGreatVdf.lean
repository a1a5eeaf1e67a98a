import Derived.Test.YtemffgbncjnmkaaGreatVt
import Derived.Recover
import Derived.WideLaws
set_option linter.unusedVariables false
set_option linter.unusedSectionVars false
set_option linter.unusedSimpArgs false
namespace Go.Va
open Go Go.Sh
variable [Vb]
variable {P:Program}
def _root_.Go.Sh.Gd.Q (G:Gd):Prop:=¬G.g∧∀x h,¬G.pn x h
def QGY (P:Program)(g k:Nat):Prop:=∀(G:Gd) (cap:Array Value) (h:Heap),cap.size=k→∀w:World,w.heap=h→@CallsD P g cap .returning w fun e u' w'=>(∃v,e=.returned v)∧u'=.returning∧@Qx G w w'∧w'.heap=h
def QFn (ops:List Oper):Option (List Oper×Oper×Nat):=match ops.reverse with
 | o::r=>match o.op with
  | .defer c=>match c.callee,c.args.toList with
   | .value x,[]=>(match x,o.guard,o.dst with
    | .tmp t,none,none=>some (r.reverse,o,t)
    | _,_,_=>none)
   | _,_=>none
  | _=>none
 | []=>none
theorem QHF {ops l:List Oper}{o:Oper}{t:Nat}(h:QFn ops=some (l,o,t)):ops=l++[o]∧o.guard=none∧o.dst=none∧∃tys,o.op=.defer { callee:=.value (.tmp t),args:=#[],argTypes:=tys }:=by
 unfold QFn at h
 split at h
 ·rename_i o' r hr
  split at h
  ·rename_i c hop
   split at h
   ·rename_i x hc ha
    split at h
    ·rename_i t' hg hd
     simp only[Option.some.injEq,Prod.mk.injEq] at h
     obtain⟨rfl,rfl,rfl⟩:=h
     refine⟨?_,hg,hd,c.argTypes,?_⟩
     ·have:=congrArg List.reverse hr
      simpa using this
     ·rw[hop]
      obtain⟨a,b,d⟩:=c
      simp only at hc ha
      subst hc
      have:b=#[]:=by simpa using congrArg List.toArray ha
      subst this
      rfl
    ·cases h
   ·cases h
  ·cases h
 ·cases h
def cD (P:Program)(n m:Nat)(pls:List (Nat×RP))(g k:Nat):Code→Option FC
 | .seq a b=>match (match a with
   | .region _ ops false=>(match QFn ops.toList with
    | some p=>(match cOL P n ops p.1,cC P n m pls b with
     | some cs,some y=>some (some (.seq (.seqr false m cs) (.seq (.chk p.2.2 g k) y)))
     | _,_=>some none)
    | none=>none)
   | _=>none:Option (Option FC)) with
  | some r=>r
  | none=>match cC P n m pls a,cD P n m pls g k b with
   | some x,some y=>bif isBad x then none else some (.seq x y)
   | _,_=>none
 | _=>none
def cFd (P:Program)(pls:List (Nat×RP))(np m g k:Nat)(fn:Func):Option FSn:=match fn.body with
 | some c=>match cRV P fn.ntmps fn.results.toList with
  | some rs=>match cD P fn.ntmps m pls g k c with
   | some x=>bif Nat.ble np fn.ntmps&&(List.range np).all (fun i=>(bitN m i).not) then some (.f np m (Nat.succ (Nat.log2 fn.ntmps)) rs x) else none
   | none=>none
  | none=>none
 | none=>none
abbrev clD (g:Nat)(cap:Array Value):List Deferred:=[{ target:=.fn (.func g) cap,args:=#[] }]
section code
variable [Gd] {cl:Cl}{n:Nat}{h0:Heap}{L:List HP}{w0:World}
theorem QGG (hpn:∀x h,¬Gd.pn x h)(hcl:ClOk P cl){m:Nat}{pls:List (Nat×RP)}{g k:Nat}:∀(c:Code)(fc:FC),cD P n m pls g k c=some fc→∀(lf:LF)(fr:Fr)(th:TH)(kN:KF)(kE:Nat→KF)(kR:KF)(E:Env)(f:Nat→Value)(w:World)(Q:Exit→Act→World→Prop),
  evC fc cl lf fr th kN kE kR→AgF E n fr f→Clean m fr→Rep E th h0 w.heap L→Qx w0 w→Qfb Q →
  (∀y∈QaT c,∀S∈lf.ls,fidN y=S.l→LcOk P n y S)→(∀i,KT [] m n h0 L w0 E (kE i) (Q (.exit i)))→KT [] m n h0 L w0 E kR (Q .ret) →
  (∀cap:Array Value,cap.size=k→KT (clD g cap) m n h0 L w0 E kN (Q .normal)∧(∀i,KT (clD g cap) m n h0 L w0 E (kE i) (Q (.exit i)))∧KT (clD g cap) m n h0 L w0 E kR (Q .ret))→c.wp P Q (mk n f) w
 | .seq a b,fc,hc,lf,fr,th,kN,kE,kR,E,f,w,Q,hx,ha,hcn,r,hs,hpk,hlp,hE,hR,hD=>by
  have pn:∀ds,PnOk ds Q w0 (fun _ _=>True):=fun ds=>⟨fun x n f w _ _ h=>absurd h (hpn x _)⟩
  simp only[cD] at hc
  split at hc
  ·rename_i q hq
   split at hq
   ·rename_i id ops
    split at hq
    ·rename_i p hp
     obtain⟨l,o,t⟩:=p
     obtain⟨ho,hg,hd,tys,hop⟩:=QHF hp
     split at hq
     ·rename_i cs y h1 h2
      simp only[Option.some.injEq] at hq
      subst hq
      simp only[Option.some.injEq] at hc
      subst hc
      refine wp_seq ?_
      have e:ops=ops.toList.toArray:=by simp
      rw[e]
      refine Qw1 ?_
      rw[←e,ho]
      refine QkD _ _ _ _ ?_
      have hdd:∀c∈cs,∀d,c.dst=some d→bitN m d=false→d∈Qbh m cs:=fun c hc d hcd hb=>QpP hb hc hcd
      have hk:Qte ([]:HEnv) m (Qbh m cs):=fun k v h=>by cases h
      haveI:=pn []
      refine Qsu (ds:=[]) hcl Qhg (fun d hd=>Qe7 hd) hcn l cs [] th E f w h1 hx ha hk hdd r hs fun F fr' th' f' w' a1 a2 a2' a3 a4 a5=>?_
      show wpList P ops _ [o] (mk n f') w'
      simp only[evC,cSeq,cChk] at a5
      cases hv:fr'.get t with
      | none=>rw[hv] at a5;exact a5.elim
      | some v=>
       rw[hv] at a5
       cases v<;>try (exact a5.elim)
       rename_i ff aa bb
       cases ff<;>try (exact a5.elim)
       rename_i gi
       simp only at a5
       obtain⟨hb,a6⟩:=Q1 a5
       simp only[Bool.and_eq_true] at hb
       obtain⟨hb1,hb2,hb3⟩:=hb
       have hb1:=Qm hb1
       have hb2:=Qm hb2
       have hb3:=Qm hb3
       subst hb1
       have haa:aa=[]:=List.eq_nil_of_length_eq_zero hb2
       subst haa
       obtain⟨htn,hden⟩:=a2 t _ hv
       obtain⟨x,z,d1,d2,d3⟩:=Qo7 hden
       simp only[denL,Option.some.injEq] at d1
       subst d1
       have hcap:z.toArray.size=k:=by rw[List.size_toArray,QS d2];exact hb3
       have hev:evf n f' (.tmp t)=.func (.func gi) #[] z.toArray:=by
        have:Nat.blt t n=true:=Qs6 htn
        simp only[evf,this,cond_true];rw[d3]
       refine Qdt (o:=o) (by simp[Region.wanted,hg]) ?_
       have hrun:(execOp (evf n f') o).run P w'=.ok (.defer { target:=.fn (.func gi) z.toArray,args:=#[] }) w':=by
        simp[execOp,hop,resolve,hev,Deferred.ofValue]
       rw[hrun,Oper.upon_defer,hd]
       obtain⟨k1,k2,k3⟩:=hD z.toArray hcap
       show b.wp P _ (mkD (clD gi z.toArray) n f') w'
       exact QeD (ds:=clD gi z.toArray) hcl b y h2 lf fr' th' kN kE kR F f' w' Q a6 a2 a2' a3 a4 (pn _) hpk (fun y hy=>hlp y (List.mem_append_right _ hy)) (k1.mono a1) (fun i=>(k2 i).mono a1) (k3.mono a1)
     ·simp only[Option.some.injEq] at hq;subst hq;cases hc
    ·cases hq
   ·cases hq
  ·cases h1:cC P n m pls a with
   | none=>rw[h1] at hc;cases hc
   | some x=>
    cases h2:cD P n m pls g k b with
    | none=>rw[h1,h2] at hc;cases hc
    | some y=>
     rw[h1,h2] at hc
     simp only at hc
     cases hb:isBad x with
     | true=>rw[hb] at hc;cases hc
     | false=>
      rw[hb] at hc;simp only[cond_false,Option.some.injEq] at hc;subst hc
      refine wp_seq ?_
      haveI:=pn []
      refine QeD (ds:=[]) hcl a x h1 lf fr th _ kE kR E f w (Exit.then (b.wp P Q) Q) hx ha hcn r hs Qhg (QfB hpk) (fun y hy=>hlp y (List.mem_append_left _ hy)) (fun F fr' th' f' w' a1 a2 a2' a3 a4 a5=>?_) (fun i=>hE i) hR
      exact QGG hpn hcl b y h2 lf fr' th' kN kE kR F f' w' Q a5 a2 a2' a3 a4 hpk (fun y hy=>hlp y (List.mem_append_right _ hy)) (fun i=>(hE i).mono a1) (hR.mono a1) fun cap hcap=>⟨(hD cap hcap).1.mono a1,fun i=>((hD cap hcap).2.1 i).mono a1,(hD cap hcap).2.2.mono a1⟩
end code
end Go.Va
