import Derived.Test.YtmdppkbekmpopaaGreatSh
set_option linter.unusedVariables false
set_option linter.unusedSimpArgs false
set_option linter.unusedSectionVars false
namespace Go.Sh
def isMap (P:Program)(t:TypeId):Bool:=match P.underlying t with
 | some (.map _ _)=>true
 | _=>false
def arr (ρ:Operand→Value)(l:Array Operand):Array Value:=(l.toList.map ρ).toArray
def oarr (ρ:Operand→Value):Option Operand→Option Value
 | some x=>some (ρ x)
 | none=>none
def prs (ρ:Operand→Value)(l:Array (Nat×Operand)):Array (Nat×Value):=(l.toList.map fun p=>(p.1,ρ p.2)).toArray
def opQ (P:Program)(ρ:Operand→Value)(o:Oper)(D:Heap→Prop)(K:Value→Prop):Prop:=match o.op with
 | .pick a b c=>QE2 P (ρ a) (ρ b) (ρ c) K
 | .nilCheck x=>oNil P (ρ x) K
 | .binOp b t x y _=>oBin P b t x y (ρ x) (ρ y) K
 | .unOp b _ x=>oUn P b (ρ x) K
 | .convert s d x=>QE7 P s d (ρ x) K
 | .makeInterface t x=>QF4 P t (ρ x) K
 | .makeFunc fn l r=>QE3 P fn (arr ρ l) (arr ρ r) K
 | .slice t x lo hi mx=>QfD P t (ρ x) (oarr ρ lo) (oarr ρ hi) (oarr ρ mx) K
 | .fieldAddr t x i=>QE4 P t (ρ x) i D K
 | .field t x i=>QBR P t (ρ x) i K
 | .indexAddr t x i=>oIdx P t (ρ x) (ρ i) K
 | .index t x i=>QrX P t (ρ x) (ρ i) K
 | .extract x i=>oExt P (ρ x) i K
 | .typeAssert x t a ok=>QyI P (ρ x) t a ok K
 | .build t ps=>QrZ P t (prs ρ ps) K
 | .load t x=>Qnx P t (ρ x) D K
 | .lookup t x i ok=>Qxk P t (ρ x) (ρ i) ok D K
 | .entry i=>QrY P (ρ i) D K
 | .call c=>match c.callee with
  | .builtin .len=>match c.args.toList with
   | [x]=>bif isMap P (c.argTypes.getD 0 0) then QpS P c.argTypes o.type (ρ x) D K else oLen P c.argTypes o.type (ρ x) K
   | _=>False
  | .builtin .cap=>match c.args.toList with
   | [x]=>oCap P c.argTypes o.type (ρ x) K
   | _=>False
  | .builtin .min=>oMin P c.argTypes o.type (arr ρ c.args) K
  | .builtin .max=>oMax P c.argTypes o.type (arr ρ c.args) K
  | _=>False
 | _=>False
def opX [Gd] (P:Program)(ρ:Operand→Value)(o:Oper)(h:Heap)(K:Value→Heap→Prop):Prop:=match o.op with
 | .convert s d x=>QF6 P s d (ρ x) h K
 | .panic x=>QKd P (ρ x) h K
 | .alloc t=>QF8 P t h K
 | .box t x=>oBox P t (ρ x) h K
 | .buildSlice t k ps=>Qn2 P t k (prs ρ ps) h K
 | .store t a v=>QrW P t (ρ a) (ρ v) h K
 | .makeMap t r=>QFZ P t (oarr ρ r) h K
 | .makeSlice t l c=>Qmk P t (ρ l) (ρ c) h K
 | .mapUpdate t m k v=>oUpd P t (ρ m) (ρ k) (ρ v) h K
 | .insert t m k v=>oUpd P t (ρ m) (ρ k) (ρ v) h K
 | .mapEntry t m k=>QF0 P t (ρ m) (ρ k) h K
 | .entryStore t m s v=>QDl P t (ρ m) (ρ s) (ρ v) h K
 | .range t x=>QoH P t (ρ x) h K
 | .next i s=>Qtv P (ρ i) s o.type h K
 | .call c=>match c.callee with
  | .value f=>QLc P (ρ f) (arr ρ c.args) h K
  | .invoke r m=>QyH P (ρ r) m (arr ρ c.args) h K
  | .builtin .append=>QbY P c.argTypes o.type (arr ρ c.args) h K
  | .builtin .copy=>QE6 P c.argTypes o.type (arr ρ c.args) h K
  | .builtin .delete=>QD5 P c.argTypes o.type (arr ρ c.args) h K
  | .builtin .clear=>QF7 P c.argTypes o.type (arr ρ c.args) h K
  | _=>False
 | _=>False
variable {D:Heap→Prop}{K:Value→Prop}{P:Program}
theorem Sp.sq {s:Sem Next}(h:Sp P s K):Sq P D s K:=h.imp fun _ h=>⟨fun w _=>h.1 w,h.2⟩
variable {ρ:Operand→Value}
theorem Qx9 (l:Array Operand):arr ρ l=l.map ρ:=by simp[arr,←Array.toList_map]
theorem QFS (l:Array (Nat×Operand)):prs ρ l=l.map fun p=>(p.1,ρ p.2):=by simp[prs,←Array.toList_map]
variable {o:Oper}
theorem Qnu (h:opQ P ρ o D K):Sq P D (execOp ρ o) K:=by
 obtain⟨dst,op,type,pos,after,guard⟩:=o
 unfold opQ at h
 cases op<;>simp only at h<;>try exact h.elim
 case pick=>exact Sp.sq h
 case nilCheck=>exact Sp.sq h
 case binOp=>exact Sp.sq h
 case unOp=>exact Sp.sq h
 case convert=>exact Sp.sq h
 case makeInterface=>exact Sp.sq h
 case makeFunc fn l r=>rw[Qx9,Qx9] at h;simp only[execOp];exact Sp.sq h
 case slice t x lo hi mx=>
  have:∀z:Option Operand,oarr ρ z=z.map ρ:=fun z=>by cases z<;>rfl
  rw[this,this,this] at h
  simp only[execOp]
  exact Sp.sq h
 case fieldAddr=>exact h
 case field=>exact Sp.sq h
 case indexAddr=>exact Sp.sq h
 case index=>exact Sp.sq h
 case extract=>exact Sp.sq h
 case typeAssert=>exact Sp.sq h
 case build t ps=>rw[QFS] at h;simp only[execOp];exact Sp.sq h
 case load=>exact h
 case lookup=>exact h
 case entry=>exact h
 case call c=>
  obtain⟨cal,args,ats⟩:=c
  have key:∀ {b:Builtin}{vs:Array Value}{s:Sem Value},cal=.builtin b→args.map ρ=vs→(builtin b ats type (args.map Qh8) vs=nv s)→Sq P D (nv s) K→Sq P D (execOp ρ { dst:=dst,op:=.call { callee:=cal,args:=args,argTypes:=ats },type:=type,pos:=pos,after:=after,guard:=guard }) K:=by
   intro b vs s hc hv hb hk
   subst hc
   have:=QGF (ρ:=ρ) (o:={ dst:=dst,op:=.call { callee:=.builtin b,args:=args,argTypes:=ats },type:=type,pos:=pos,after:=after,guard:=guard }) (b:=b) (l:=args.toList) (ats:=ats) (by simp)
   rw[this]
   simp only[←Array.toList_map,Array.toArray_toList]
   rw[hv,hb]
   exact hk
  have one:∀ {x:Operand},args.toList=[x]→args.map ρ=#[ρ x]:=fun {x} hl=>by
   have:args=#[x]:=by apply Array.ext';simpa using hl
   subst this;simp
  cases cal with
  | builtin b=>
   cases b<;>simp only at h<;>try exact h.elim
   ·split at h
    ·rename_i x hl
     exact key (b:=.cap) (s:=Builtin.cap_ ats type #[ρ x]) rfl (one hl) rfl (Sp.sq h)
    ·exact h.elim
   ·split at h
    ·rename_i x hl
     cases hm:isMap P (ats.getD 0 0)<;>rw[hm] at h
     ·exact key (b:=.len) (s:=Builtin.len_ ats type #[ρ x]) rfl (one hl) rfl (Sp.sq h)
     ·exact key (b:=.len) (s:=Builtin.len_ ats type #[ρ x]) rfl (one hl) rfl h
    ·exact h.elim
   ·exact key (b:=.max) (s:=Builtin.max_ ats type (arr ρ args)) rfl (Qx9 args).symm rfl (Sp.sq h)
   ·exact key (b:=.min) (s:=Builtin.min_ ats type (arr ρ args)) rfl (Qx9 args).symm rfl (Sp.sq h)
  | value f=>exact h.elim
  | invoke r m=>exact h.elim
theorem QrR [Gd]{h:Heap}{K:Value→Heap→Prop}(hx:opX P ρ o h K):Sx P (execOp ρ o) h K:=by
 obtain⟨dst,op,type,pos,after,guard⟩:=o
 unfold opX at hx
 cases op<;>simp only at hx<;>try exact hx.elim
 case convert=>exact hx
 case panic=>exact hx
 case alloc=>exact hx
 case box=>exact hx
 case buildSlice t k ps=>rw[QFS] at hx;simp only[execOp];exact hx
 case store=>exact hx
 case makeMap t r=>
  cases r<;>exact hx
 case makeSlice=>exact hx
 case mapUpdate=>exact hx
 case insert=>exact hx
 case mapEntry=>exact hx
 case entryStore=>exact hx
 case range=>exact hx
 case next=>exact hx
 case call c=>
  obtain⟨cal,args,ats⟩:=c
  have key:∀ {b:Builtin}{s:Sem Value},cal=.builtin b→(builtin b ats type (args.map Qh8) (arr ρ args)=nv s)→Sx P (nv s) h K→Sx P (execOp ρ { dst:=dst,op:=.call { callee:=cal,args:=args,argTypes:=ats },type:=type,pos:=pos,after:=after,guard:=guard }) h K:=by
   intro b s hc hb hk
   subst hc
   have:=QGF (ρ:=ρ) (o:={ dst:=dst,op:=.call { callee:=.builtin b,args:=args,argTypes:=ats },type:=type,pos:=pos,after:=after,guard:=guard }) (b:=b) (l:=args.toList) (ats:=ats) (by simp)
   rw[this]
   rw[show (List.map Qh8 args.toList).toArray=args.map Qh8 by simp[←Array.toList_map],show (List.map ρ args.toList).toArray=arr ρ args from rfl,hb]
   exact hk
  cases cal with
  | value f=>
   rw[QI9 (f:=f) (l:=args.toList) (ats:=ats) (by simp)]
   exact hx
  | invoke r m=>
   rw[QGE (f:=r) (m:=m) (l:=args.toList) (ats:=ats) (by simp)]
   exact hx
  | builtin b=>
   cases b<;>simp only at hx<;>try exact hx.elim
   ·exact key (b:=.append) (s:=Builtin.append_ ats type (arr ρ args)) rfl rfl hx
   ·exact key (b:=.clear) (s:=Builtin.clear_ ats type (arr ρ args)) rfl rfl hx
   ·exact key (b:=.copy) (s:=Builtin.copy_ ats type (arr ρ args)) rfl rfl hx
   ·exact key (b:=.delete) (s:=Builtin.delete_ ats type (arr ρ args)) rfl rfl hx
end Go.Sh
