import Derived.Test.YtemffgbncjnmkaaGreatOp
set_option linter.unusedVariables false
set_option linter.unusedSectionVars false
set_option linter.unusedSimpArgs false
namespace Go.Va
open Go Go.Sh
inductive Tr (α:Type) where
 | nil
 | leaf (k:Nat) (v:α)
 | node (m:Nat) (l r:Tr α)
def mid (lo hi:Nat):Nat:=
 (fun p=>(fun m=>bif Nat.blt lo m&&Nat.ble m hi then m else hi) (Nat.shiftLeft (Nat.shiftRight hi p) p)) (Nat.log2 (Nat.xor lo hi))
noncomputable def Tr.get {α:Type}(k:Nat)(t:Tr α):Option α:=Tr.rec (motive:=fun _=>Option α) none (fun j v=>Bool.rec none (some v) (Nat.beq j k)) (fun m _ _ a b=>Bool.rec b a (Nat.blt k m)) t
noncomputable def Tr.put {α:Type}(k:Nat)(w:α)(t:Tr α):Tr α:=Tr.rec (motive:=fun _=>Tr α) (.leaf k w)
 (fun j v=>Bool.rec (Bool.rec (.node (mid k j) (.leaf k w) (.leaf j v)) (.node (mid j k) (.leaf j v) (.leaf k w)) (Nat.blt j k)) (.leaf k w) (Nat.beq j k))
 (fun m l r a b=>Bool.rec (.node m l b) (.node m a r) (Nat.blt k m)) t
noncomputable def Tr.del {α:Type}(k:Nat)(t:Tr α):Tr α:=Tr.rec (motive:=fun _=>Tr α) .nil (fun j v=>Bool.rec (.leaf j v) .nil (Nat.beq j k)) (fun m l r a b=>Bool.rec (.node m l b) (.node m a r) (Nat.blt k m)) t
theorem brec {α:Type}(b:Bool)(x y:α):(Bool.rec x y b:α)=bif b then y else x:=by cases b<;>rfl
theorem Tr.get_nil {α:Type}(k:Nat):(Tr.nil:Tr α).get k=none:=rfl
theorem Tr.get_leaf {α:Type}(k j:Nat)(v:α):(Tr.leaf j v).get k=bif Nat.beq j k then some v else none:=brec _ _ _
theorem Tr.get_node {α:Type}(k m:Nat)(l r:Tr α):(Tr.node m l r).get k=bif Nat.blt k m then l.get k else r.get k:=brec _ _ _
theorem Tr.put_nil {α:Type}(k:Nat)(w:α):(Tr.nil:Tr α).put k w=.leaf k w:=rfl
theorem Tr.put_leaf {α:Type}(k:Nat)(w:α)(j:Nat)(v:α):(Tr.leaf j v).put k w=bif Nat.beq j k then .leaf k w else bif Nat.blt j k then .node (mid j k) (.leaf j v) (.leaf k w) else .node (mid k j) (.leaf k w) (.leaf j v):=by
 show (Bool.rec (Bool.rec _ _ _) _ _:Tr α)=_
 rw[brec,brec]
theorem Tr.put_node {α:Type}(k:Nat)(w:α)(m:Nat)(l r:Tr α):(Tr.node m l r).put k w=bif Nat.blt k m then .node m (l.put k w) r else .node m l (r.put k w):=brec _ _ _
theorem Tr.del_nil {α:Type}(k:Nat):(Tr.nil:Tr α).del k=.nil:=rfl
theorem Tr.del_leaf {α:Type}(k j:Nat)(v:α):(Tr.leaf j v).del k=bif Nat.beq j k then .nil else .leaf j v:=brec _ _ _
theorem Tr.del_node {α:Type}(k m:Nat)(l r:Tr α):(Tr.node m l r).del k=bif Nat.blt k m then .node m (l.del k) r else .node m l (r.del k):=brec _ _ _
noncomputable def skel {α:Type}(n:Nat):Nat→Tr α:=Nat.rec (motive:=fun _=>Nat→Tr α) (fun _=>.nil) (fun k ih lo=>.node (Nat.add lo (Nat.shiftLeft 1 k)) (ih lo) (ih (Nat.add lo (Nat.shiftLeft 1 k)))) n
def Tr.all {α:Type}:Tr α→List (Nat×α)
 | .nil=>[]
 | .leaf k v=>[(k,v)]
 | .node _ l r=>l.all++r.all
theorem QvC {α:Type}:∀(n lo:Nat),(skel n lo:Tr α).all=[]
 | 0,_=>rfl
 | n+1,lo=>by
  show ((skel n lo:Tr α).all++(skel n (Nat.add lo (Nat.shiftLeft 1 n)):Tr α).all)=[]
  rw[QvC n lo,QvC n];rfl
theorem QvB {α:Type}:∀(n lo k:Nat),(skel n lo:Tr α).get k=none
 | 0,_,_=>rfl
 | n+1,lo,k=>by
  show (Tr.node (Nat.add lo (Nat.shiftLeft 1 n)) (skel n lo:Tr α) (skel n (Nat.add lo (Nat.shiftLeft 1 n)))).get k=none
  rw[Tr.get_node,QvB n lo,QvB n]
  cases Nat.blt k (Nat.add lo (Nat.shiftLeft 1 n))<;>rfl
theorem Qm {a b:Nat}(h:Nat.beq a b=true):a=b:=by simpa [Nat.beq_eq] using h
theorem QlU {a b:Nat}(h:Nat.beq a b=false):a≠b:=fun e=>by simp[e,Nat.beq_refl] at h
theorem QaQ {a b:Nat}(h:Nat.blt a b=true):a<b:=by simpa [Nat.blt_eq] using h
theorem Qqh {a b:Nat}(h:Nat.blt a b=false):b≤a:=by
 rcases Nat.lt_or_ge a b with h1 | h1
 ·have:Nat.blt a b=true:=by simpa [Nat.blt_eq] using h1
  rw[this] at h;cases h
 ·exact h1
theorem Qs6 {a b:Nat}(h:a<b):Nat.blt a b=true:=by simpa [Nat.blt_eq] using h
theorem Qag {a b:Nat}(h:Nat.ble a b=true):a≤b:=Nat.le_of_ble_eq_true h
theorem Qct {a b:Nat}(h:a≠b):Nat.beq a b=false:=by
 cases hb:Nat.beq a b with
 | false=>rfl
 | true=>exact absurd (Qm hb) h
theorem QGg {lo hi:Nat}(h:lo<hi):lo<mid lo hi∧mid lo hi≤hi:=by
 unfold mid
 simp only
 generalize Nat.shiftLeft _ _=m
 cases hc:Nat.blt lo m&&Nat.ble m hi with
 | true=>
  simp only[Bool.and_eq_true] at hc
  exact⟨QaQ hc.1,Qag hc.2⟩
 | false=>exact⟨h,Nat.le_refl _⟩
theorem Tr.get_put {α:Type}(k:Nat)(w:α)(i:Nat):∀t:Tr α,(t.put k w).get i=bif Nat.beq k i then some w else t.get i
 | .nil=>by
  simp only[Tr.put_nil,Tr.put_leaf,Tr.put_node,Tr.get_nil,Tr.get_leaf,Tr.get_node]
 | .leaf j v=>by
  simp only[Tr.put_nil,Tr.put_leaf,Tr.put_node]
  cases h1:Nat.beq j k with
  | true=>have:=Qm h1;subst this;simp only[cond_true,Tr.get_nil,Tr.get_leaf,Tr.get_node];cases Nat.beq j i<;>rfl
  | false=>
   have hne:=QlU h1
   simp only[cond_false]
   cases h2:Nat.blt j k with
   | true=>
    obtain⟨a,b⟩:=QGg (QaQ h2)
    simp only[cond_true,Tr.get_nil,Tr.get_leaf,Tr.get_node]
    cases h3:Nat.blt i (mid j k) with
    | true=>
     have h4:=QaQ h3
     rw[Qct (a:=k) (b:=i) (by omega)];rfl
    | false=>
     have h4:=Qqh h3
     rw[Qct (a:=j) (b:=i) (by omega)];rfl
   | false=>
    have h2':=Qqh h2
    obtain⟨a,b⟩:=QGg (lo:=k) (hi:=j) (by omega)
    simp only[cond_false,Tr.get_nil,Tr.get_leaf,Tr.get_node]
    cases h3:Nat.blt i (mid k j) with
    | true=>
     have h4:=QaQ h3
     rw[Qct (a:=j) (b:=i) (by omega)];rfl
    | false=>
     have h4:=Qqh h3
     rw[Qct (a:=k) (b:=i) (by omega)];rfl
 | .node m l r=>by
  simp only[Tr.put_nil,Tr.put_leaf,Tr.put_node]
  cases h1:Nat.blt k m with
  | true=>
   simp only[cond_true,Tr.get_nil,Tr.get_leaf,Tr.get_node]
   rw[Tr.get_put k w i l]
   cases h2:Nat.blt i m with
   | true=>rfl
   | false=>rw[Qct (a:=k) (b:=i) (by have:=QaQ h1;have:=Qqh h2;omega)];rfl
  | false=>
   simp only[cond_false,Tr.get_nil,Tr.get_leaf,Tr.get_node]
   rw[Tr.get_put k w i r]
   cases h2:Nat.blt i m with
   | false=>rfl
   | true=>rw[Qct (a:=k) (b:=i) (by have:=Qqh h1;have:=QaQ h2;omega)];rfl
theorem Tr.get_eq {α:Type}(k:Nat)(w:α)(t:Tr α):(t.put k w).get k=some w:=by rw[Tr.get_put,Nat.beq_refl];rfl
theorem Tr.get_ne {α:Type}{k i:Nat}(w:α)(t:Tr α)(h:i≠k):(t.put k w).get i=t.get i:=by rw[Tr.get_put,Qct (Ne.symm h)];rfl
theorem Tr.perm {α:Type}{k:Nat}{v:α}:∀ {t:Tr α},t.get k=some v→t.all.Perm ((k,v)::(t.del k).all)∧∀w,(t.put k w).all.Perm ((k,w)::(t.del k).all)
 | .leaf j u,h=>by
  simp only[Tr.get_nil,Tr.get_leaf,Tr.get_node] at h
  cases h1:Nat.beq j k with
  | true=>
   rw[h1] at h;have:=Qm h1;subst this
   simp only[cond_true,Option.some.injEq] at h;subst h
   simp[Tr.put_nil,Tr.put_leaf,Tr.put_node,Tr.del_nil,Tr.del_leaf,Tr.del_node,Tr.all,Nat.beq_refl]
  | false=>rw[h1] at h;cases h
 | .node m l r,h=>by
  simp only[Tr.get_nil,Tr.get_leaf,Tr.get_node] at h
  cases h1:Nat.blt k m with
  | true=>
   rw[h1] at h
   obtain⟨a,b⟩:=Tr.perm (t:=l) h
   simp only[Tr.put_nil,Tr.put_leaf,Tr.put_node,Tr.del_nil,Tr.del_leaf,Tr.del_node,h1,cond_true,Tr.all]
   exact⟨a.append_right _,fun w=>(b w).append_right _⟩
  | false=>
   rw[h1] at h
   obtain⟨a,b⟩:=Tr.perm (t:=r) h
   simp only[Tr.put_nil,Tr.put_leaf,Tr.put_node,Tr.del_nil,Tr.del_leaf,Tr.del_node,h1,cond_false,Tr.all]
   exact⟨(a.append_left _).trans List.perm_middle,fun w=>((b w).append_left _).trans List.perm_middle⟩
theorem Tr.perm_new {α:Type}{k:Nat}(w:α):∀ {t:Tr α},t.get k=none→(t.put k w).all.Perm ((k,w)::t.all)
 | .nil,h=>.refl _
 | .leaf j u,h=>by
  simp only[Tr.get_nil,Tr.get_leaf,Tr.get_node] at h
  cases h1:Nat.beq j k with
  | true=>rw[h1] at h;cases h
  | false=>
   simp only[Tr.put_nil,Tr.put_leaf,Tr.put_node,h1,cond_false]
   cases Nat.blt j k with
   | true=>simp only[cond_true,Tr.all];exact .swap _ _ _
   | false=>simp only[cond_false,Tr.all];exact .refl _
 | .node m l r,h=>by
  simp only[Tr.get_nil,Tr.get_leaf,Tr.get_node] at h
  cases h1:Nat.blt k m with
  | true=>
   rw[h1] at h
   simp only[Tr.put_nil,Tr.put_leaf,Tr.put_node,h1,cond_true,Tr.all]
   exact (Tr.perm_new w (t:=l) h).append_right _
  | false=>
   rw[h1] at h
   simp only[Tr.put_nil,Tr.put_leaf,Tr.put_node,h1,cond_false,Tr.all]
   exact ((Tr.perm_new w (t:=r) h).append_left _).trans List.perm_middle
inductive CK where
 | i (k:IntKind)
 | b
 | s
 | p (t:Nat)
 | l (t:Nat)
 | r (t:Nat)
inductive LD where
 | n (x:Int)
 | b (x:Bool)
 | s (x:Str)
 | nul
 | p (a:Addr) (cs:List LD)
 | l (a:Addr) (cap:Nat) (es:List LD)
 | t (cs:List LD)
def LD.i:LD→Int
 | .n x=>x
 | _=>0
def LD.bo:LD→Bool
 | .b x=>x
 | _=>false
def LD.st:LD→Str
 | .s x=>x
 | _=>[]
def LD.cs:LD→List LD
 | .p _ c=>c
 | .t c=>c
 | _=>[]
def LD.es:LD→List LD
 | .l _ _ e=>e
 | _=>[]
def LD.cap:LD→Nat
 | .l _ c _=>c
 | _=>0
def LD.ad:LD→Addr
 | .p a _=>a
 | .l a _ _=>a
 | _=>⟨0,0,none⟩
def LD.is:LD→Bool
 | .p _ _=>true
 | .l _ _ _=>true
 | _=>false
def LD.f (d:LD)(j:Nat):LD:=d.cs.getD j .nul
def LD.len (d:LD):Nat:=d.es.length
def LD.at (d:LD)(sz:Nat)(j:Int):LD:=.p (d.ad.add (j.toNat * sz)) (d.es.getD j.toNat .nul).cs
class Vb where
 ly:List (List CK)
 o:Obj
def maxL:Nat:=9223372036854775807
def loK:IntKind→Int
 | .i8=>.negSucc 127 | .i16=>.negSucc 32767 | .i32=>.negSucc 2147483647 | .i64=>.negSucc 9223372036854775807 | _=>.ofNat 0
def hiK:IntKind→Int
 | .i8=>.ofNat 127 | .i16=>.ofNat 32767 | .i32=>.ofNat 2147483647 | .i64=>.ofNat 9223372036854775807 | .u8=>.ofNat 255 | .u16=>.ofNat 65535 | .u32=>.ofNat 4294967295 | .u64=>.ofNat 18446744073709551615
def LD.v:CK→LD→Value
 | .i k,d=>.int k d.i
 | .b,d=>.bool d.bo
 | .s,d=>str d.st
 | .p _,d=>.pointer (match d with
  | .p a _=>some a
  | _=>none)
 | .l _,d=>match d with
  | .l a cap es=>.slice (some a) es.length cap
  | _=>.slice none 0 0
 | .r _,_=>.pointer none
def LD.vs:List CK→List LD→List Value
 | k::ks,c::cs=>LD.v k c::LD.vs ks cs
 | _,_=>[]
mutual
def wt [Vb]:LD→CK→Prop
 | .n x,.i k=>loK k≤x∧x≤hiK k
 | .b _,.b=>True
 | .s x,.s=>x.length≤maxL
 | .nul,.p _=>True
 | .nul,.l _=>True
 | .p _ cs,.p t=>match Vb.ly[t]? with
  | some ks=>wtL cs ks
  | none=>False
 | .l _ cap es,.l t=>match Vb.ly[t]? with
  | some ks=>es.length≤cap∧es.length≤maxL∧ks≠[]∧wtE es ks
  | none=>False
 | .t es,.r t=>match Vb.ly[t]? with
  | some ks=>es.length≤maxL∧ks≠[]∧wtE es ks
  | none=>False
 | _,_=>False
def wtL [Vb]:List LD→List CK→Prop
 | [],[]=>True
 | c::cs,k::ks=>wt c k∧wtL cs ks
 | _,_=>False
def wtE [Vb]:List LD→List CK→Prop
 | [],_=>True
 | e::es,ks=>wtT e ks∧wtE es ks
def wtT [Vb]:LD→List CK→Prop
 | .t cs,ks=>wtL cs ks
 | _,_=>False
end
def LD.vsE (ks:List CK)(es:List LD):List Value:=es.flatMap fun e=>LD.vs ks e.cs
mutual
def lies [Vb] (R:Addr→List Value→Prop):LD→CK→Prop
 | .p a cs,.p t=>match Vb.ly[t]? with
  | some ks=>R a (LD.vs ks cs)∧Q5 R cs ks
  | none=>True
 | .l a _ es,.l t=>match Vb.ly[t]? with
  | some ks=>R a (LD.vsE ks es)∧QI R es ks
  | none=>True
 | .t es,.r t=>match Vb.ly[t]? with
  | some ks=>QI R es ks
  | none=>True
 | _,_=>True
def Q5 [Vb] (R:Addr→List Value→Prop):List LD→List CK→Prop
 | c::cs,k::ks=>lies R c k∧Q5 R cs ks
 | _,_=>True
def QI [Vb] (R:Addr→List Value→Prop):List LD→List CK→Prop
 | [],_=>True
 | e::es,ks=>Qbz R e ks∧QI R es ks
def Qbz [Vb] (R:Addr→List Value→Prop):LD→List CK→Prop
 | .t cs,ks=>Q5 R cs ks
 | _,_=>True
end
mutual
theorem Qr1 [Vb]{R S:Addr→List Value→Prop}(h:∀a l,R a l→S a l):∀ {d:LD}{k:CK},lies R d k→lies S d k
 | .p a cs,.p t,e=>by
  simp only[lies] at e ⊢
  cases hl:Vb.ly[t]? with
  | none=>trivial
  | some ks=>rw[hl] at e;exact⟨h _ _ e.1,Qf5 h e.2⟩
 | .l a c es,.l t,e=>by
  simp only[lies] at e ⊢
  cases hl:Vb.ly[t]? with
  | none=>trivial
  | some ks=>rw[hl] at e;exact⟨h _ _ e.1,Qam h e.2⟩
 | .n _,_,_=>by simp only[lies]
 | .b _,_,_=>by simp only[lies]
 | .s _,_,_=>by simp only[lies]
 | .nul,_,_=>by simp only[lies]
 | .t es,.r t,e=>by
  simp only[lies] at e ⊢
  cases hl:Vb.ly[t]? with
  | none=>trivial
  | some ks=>rw[hl] at e;exact Qam h e
 | .t _,.i _,_=>by simp only[lies]
 | .t _,.b,_=>by simp only[lies]
 | .t _,.s,_=>by simp only[lies]
 | .t _,.p _,_=>by simp only[lies]
 | .t _,.l _,_=>by simp only[lies]
 | .p _ _,.r _,_=>by simp only[lies]
 | .l _ _ _,.r _,_=>by simp only[lies]
 | .p _ _,.i _,_=>by simp only[lies]
 | .p _ _,.b,_=>by simp only[lies]
 | .p _ _,.s,_=>by simp only[lies]
 | .p _ _,.l _,_=>by simp only[lies]
 | .l _ _ _,.i _,_=>by simp only[lies]
 | .l _ _ _,.b,_=>by simp only[lies]
 | .l _ _ _,.s,_=>by simp only[lies]
 | .l _ _ _,.p _,_=>by simp only[lies]
theorem Qf5 [Vb]{R S:Addr→List Value→Prop}(h:∀a l,R a l→S a l):∀ {d:List LD}{k:List CK},Q5 R d k→Q5 S d k
 | [],_,_=>by simp only[Q5]
 | c::cs,[],_=>by simp only[Q5]
 | c::cs,k::ks,e=>by simp only[Q5] at e ⊢;exact⟨Qr1 h e.1,Qf5 h e.2⟩
theorem Qam [Vb]{R S:Addr→List Value→Prop}(h:∀a l,R a l→S a l):∀ {d:List LD}{k:List CK},QI R d k→QI S d k
 | [],_,_=>by simp only[QI]
 | c::cs,ks,e=>by simp only[QI] at e ⊢;exact⟨Qxp h e.1,Qam h e.2⟩
theorem Qxp [Vb]{R S:Addr→List Value→Prop}(h:∀a l,R a l→S a l):∀ {d:LD}{k:List CK},Qbz R d k→Qbz S d k
 | .t cs,ks,e=>by simp only[Qbz] at e ⊢;exact Qf5 h e
 | .n _,_,_=>by simp only[Qbz]
 | .b _,_,_=>by simp only[Qbz]
 | .s _,_,_=>by simp only[Qbz]
 | .nul,_,_=>by simp only[Qbz]
 | .p _ _,_,_=>by simp only[Qbz]
 | .l _ _ _,_,_=>by simp only[Qbz]
end
inductive FCap where
 | lit (c:Nat)
 | hid (i:Nat)
inductive SE where
 | c (n:Int)
 | o (x:Int)
 | add (a b:SE)
 | sub (a b:SE)
 | mul (a b:SE)
 | quo (a b:SE)
 | rem (a b:SE)
 | div (a b:SE)
 | mod (a b:SE)
 | wrap (k:IntKind) (a:SE)
 | mn (a b:SE)
 | mx (a b:SE)
def SE.ev:SE→Int
 | .c n=>n
 | .o n=>n
 | .add a b=>a.ev+b.ev
 | .sub a b=>a.ev - b.ev
 | .mul a b=>a.ev * b.ev
 | .quo a b=>Int.tdiv a.ev b.ev
 | .rem a b=>Int.tmod a.ev b.ev
 | .div a b=>a.ev / b.ev
 | .mod a b=>a.ev % b.ev
 | .wrap k a=>k.wrap a.ev
 | .mn a b=>min a.ev b.ev
 | .mx a b=>max a.ev b.ev
inductive SC where
 | o (b:Bool)
 | lt (a b:SE)
 | le (a b:SE)
 | eq (a b:SE)
 | no (c:SC)
 | and (c d:SC)
 | sq (i j:Str)
 | sk (i:Str) (l:List Nat)
def SC.ev:SC→Bool
 | .o b=>b
 | .lt a b=>decide (a.ev<b.ev)
 | .le a b=>decide (a.ev≤b.ev)
 | .eq a b=>decide (a.ev=b.ev)
 | .no c=>!c.ev
 | .and c d=>c.ev&&d.ev
 | .sq i j=>decide (i=j)
 | .sk i l=>decide (i=l.map UInt8.ofNat)
inductive SB where
 | k (n:Nat)
 | v (n:SE) (lo hi:Int)
inductive FV where
 | bool (b:Bool)
 | int (k:IntKind) (n:Int)
 | sy (k:IntKind) (n:SE) (lo hi:Int)
 | sb (b:SC)
 | sstr (s:Str)
 | sx (l:List SB)
 | str (l:List Nat)
 | nilp
 | ptr (id off:Nat)
 | nsl
 | sl (id off offz len:Nat) (cap:FCap)
 | nilm
 | map (id:Nat)
 | nilf
 | fn (f:Fn) (a b:List FV)
 | nili
 | ifc (t:TypeId) (v:FV)
 | agg (cs:List FV)
 | tup (vs:List FV)
 | dp (t:Nat) (d:LD)
 | dn (t:Nat) (d:LD) (off:Nat)
 | ds (t:Nat) (d:LD)
 | obl (c:SC) (x:FV)
 | alt (n:SE) (l:List FV)
 | os (t i:Nat)
 | oe (t i:Nat) (k:Int) (off:Nat)
inductive Fr where
 | base (m:Nat) (t:Tr FV)
 | cons (d:Nat) (x:FV) (r:Fr)
def bitN (m k:Nat):Bool:=Nat.beq (Nat.land (Nat.shiftRight m k) 1) 1
noncomputable def Fr.get (k:Nat)(f:Fr):Option FV:=Fr.rec (motive:=fun _=>Option FV) (fun m t=>Bool.rec (t.get k) none (bitN m k)) (fun d x _ ih=>Bool.rec ih (some x) (Nat.beq d k)) f
def Fr.put (d:Nat)(x:FV)(f:Fr):Fr:=.cons d x f
noncomputable def flT (m:Nat)(f:Fr):Tr FV:=Fr.rec (motive:=fun _=>Tr FV) (fun j t=>Bool.rec .nil t (Nat.beq j m)) (fun d x _ ih=>Bool.rec (ih.put d x) ih (bitN m d)) f
noncomputable def Fr.fl (m:Nat)(f:Fr):Fr:=.base m (flT m f)
theorem Fr.get_base (k m:Nat)(t:Tr FV):(Fr.base m t).get k=bif bitN m k then none else t.get k:=brec _ _ _
theorem Fr.get_cons (k d:Nat)(x:FV)(r:Fr):(Fr.cons d x r).get k=bif Nat.beq d k then some x else r.get k:=brec _ _ _
theorem Fr.get_skel (k m n lo:Nat):(Fr.base m (skel n lo)).get k=none:=by rw[Fr.get_base,QvB];cases bitN m k<;>rfl
theorem Fr.get_nil (k m:Nat):(Fr.base m .nil).get k=none:=by rw[Fr.get_base,Tr.get_nil];cases bitN m k<;>rfl
theorem Fr.get_eq (k:Nat)(w:FV)(f:Fr):(f.put k w).get k=some w:=by rw[Fr.put,Fr.get_cons,Nat.beq_refl];rfl
theorem Fr.get_ne {k i:Nat}(w:FV)(f:Fr)(h:i≠k):(f.put k w).get i=f.get i:=by rw[Fr.put,Fr.get_cons,Qct (Ne.symm h)];rfl
theorem QHC (m j:Nat)(t:Tr FV):flT m (.base j t)=bif Nat.beq j m then t else .nil:=brec _ _ _
theorem QHB (m d:Nat)(x:FV)(r:Fr):flT m (.cons d x r)=bif bitN m d then flT m r else (flT m r).put d x:=brec _ _ _
theorem QyR {m k:Nat}(h:bitN m k=false){y:FV}:∀(f:Fr),(flT m f).get k=some y→f.get k=some y
 | .base j t,hy=>by
  rw[QHC] at hy
  cases hj:Nat.beq j m with
  | false=>rw[hj,cond_false,Tr.get_nil] at hy;cases hy
  | true=>
   rw[hj,cond_true] at hy
   rw[Fr.get_base,Qm hj,h];exact hy
 | .cons d x r,hy=>by
  rw[QHB] at hy
  rw[Fr.get_cons]
  cases hd:bitN m d with
  | true=>
   have hne:d≠k:=fun e=>by rw[e,h] at hd;cases hd
   rw[hd,cond_true] at hy
   rw[Qct hne]
   exact QyR h r hy
  | false=>
   rw[hd,cond_false,Tr.get_put] at hy
   cases hk:Nat.beq d k with
   | true=>rw[hk] at hy;exact hy
   | false=>rw[hk,cond_false] at hy;exact QyR h r hy
theorem Fr.fl_get {m:Nat}{f:Fr}{k:Nat}{x:FV}(h:(f.fl m).get k=some x):f.get k=some x:=by
 rw[Fr.fl,Fr.get_base] at h
 cases hm:bitN m k with
 | true=>rw[hm] at h;cases h
 | false=>rw[hm,cond_false] at h;exact QyR hm f h
structure Env where
 p:Nat→Option Addr
 c:Nat→Nat
 r:Nat→Bool
 h:Heap
 z:List (Nat×Obj)
 s:Nat→Value
def Env.fz (E:Env)(h:Heap):Prop:=(∀(b:Nat) (o:Obj),E.h[b]?=some o→h[b]?=some o)∧∀q∈E.z,h[q.1]?=some q.2
def Env.rd (E:Env)(a:Addr)(l:List Value):Prop:=∀h,E.fz h→Rd h (.pointer (some a)) l
structure Env.Le0 (E F:Env):Prop where
 a:∀i a,E.p i=some a→F.p i=some a∧F.c i=E.c i
 h:F.h=E.h
 z:∀q∈E.z,q∈F.z
 s:∀i a,E.p i=some a→F.s i=E.s i
theorem Env.Le0.rd {E F:Env}(h:E.Le0 F){a:Addr}{l:List Value}(r:E.rd a l):F.rd a l:=fun g hg=>r g ⟨fun b o hb=>hg.1 b o (by rw[h.h];exact hb),fun q hq=>hg.2 q (h.z q hq)⟩
structure Env.Le (E F:Env):Prop where
 p:E.Le0 F
 r:∀i,E.r i=true→F.p i=E.p i∧F.r i=true
theorem Env.Le0.refl (E:Env):E.Le0 E:=⟨fun _ _ h=>⟨h,rfl⟩,rfl,fun _ h=>h,fun _ _ _=>rfl⟩
theorem Env.Le0.trans {E F G:Env}(h:E.Le0 F)(k:F.Le0 G):E.Le0 G:=
 ⟨fun i a ha=>⟨(k.a i a (h.a i a ha).1).1,by rw[(k.a i a (h.a i a ha).1).2,(h.a i a ha).2]⟩,k.h.trans h.h,fun q hq=>k.z q (h.z q hq),fun i a ha=>(k.s i a (h.a i a ha).1).trans (h.s i a ha)⟩
theorem Env.Le.refl (E:Env):E.Le E:=⟨.refl E,fun _ h=>⟨rfl,h⟩⟩
theorem Env.Le.trans {E F G:Env}(h:E.Le F)(k:F.Le G):E.Le G:=
 ⟨h.p.trans k.p,fun i hi=>⟨by rw[(k.r i (h.r i hi).2).1,(h.r i hi).1],(k.r i (h.r i hi).2).2⟩⟩
def Fz [Vb] (E:Env)(d:LD)(k:CK):Prop:=wt d k∧lies E.rd d k
theorem Fz.mono [Vb]{E F:Env}(h:E.Le0 F){d:LD}{k:CK}(f:Fz E d k):Fz F d k:=⟨f.1,Qr1 (fun _ _=>h.rd) f.2⟩
def Q0 (l:List Nat):Bool:=l.all fun n=>Nat.blt n 256
variable [Vb]
def sbU:SB→UInt8
 | .k n=>UInt8.ofNat n
 | .v n _ _=>UInt8.ofNat n.ev.toNat
def sbOk:SB→Bool
 | .k n=>Nat.blt n 256
 | .v n lo hi=>decide (0≤lo∧lo≤n.ev∧n.ev≤hi∧hi<256)
def Qbq (l:List SB):Bool:=l.all sbOk
def szT (t:Nat):Nat:=match Vb.ly[t]? with
 | some ks=>ks.length
 | none=>0
def oneF:FV→Bool
 | .agg _=>false
 | .tup _=>false
 | .obl _ _=>false
 | .alt _ _=>false
 | _=>true
open Classical in
mutual
noncomputable def den (E:Env):FV→Option Value
 | .bool b=>some (.bool b)
 | .int k n=>some (.int k n)
 | .sy k n lo hi=>if lo≤n.ev∧n.ev≤hi then some (.int k n.ev) else none
 | .sb b=>some (.bool b.ev)
 | .sstr s=>if s.length≤maxL then some (str s) else none
 | .sx l=>if Qbq l=true then some (str (l.map sbU)) else none
 | .str l=>if Q0 l=true then some (str (l.map UInt8.ofNat)) else none
 | .nilp=>some (.pointer none)
 | .ptr i off=>match E.p i with
  | some a=>some (.pointer (some (a.add off)))
  | none=>none
 | .nsl=>some (.slice none 0 0)
 | .sl i off offz len cap=>match E.p i with
  | some a=>match cap with
   | .lit c=>some (.slice (some (a.add off)) len c)
   | .hid j=>if len+j≤E.c i then some (.slice (some (a.add (if E.c i=j then offz else off))) len (E.c i - j)) else none
  | none=>none
 | .nilm=>some (.map none)
 | .map i=>match E.p i with
  | some a=>some (.map (some a.block))
  | none=>none
 | .nilf=>some .nilFunc
 | .fn f a b=>match denL E a,denL E b with
  | some x,some y=>some (.func f x.toArray y.toArray)
  | _,_=>none
 | .nili=>some .nilIface
 | .ifc t v=>match den E v with
  | some x=>some (.iface t x)
  | none=>none
 | .agg cs=>match denL E cs with
  | some x=>if cs.all oneF=true then some (.agg x.toArray) else none
  | none=>none
 | .tup cs=>match denL E cs with
  | some x=>some (.tuple x.toArray)
  | none=>none
 | .dp t d=>if Fz E d (.p t) then some (LD.v (.p t) d) else none
 | .dn t d off=>if Fz E d (.p t)∧d.is=true then some (.pointer (some (d.ad.add off))) else none
 | .ds t d=>if Fz E d (.l t) then some (LD.v (.l t) d) else none
 | .obl _ _=>none
 | .alt _ _=>none
 | .os t i=>match E.p i with
  | some _=>match E.s i with
   | .slice a n c=>some (.slice a n c)
   | _=>none
  | none=>none
 | .oe t i k off=>match E.p i with
  | some _=>match E.s i with
   | .slice (some a) n c=>if 0≤k∧k<n then some (.pointer (some (a.add (k.toNat * szT t+off)))) else none
   | _=>none
  | none=>none
noncomputable def denL (E:Env):List FV→Option (List Value)
 | []=>some []
 | x::r=>match den E x,denL E r with
  | some v,some l=>some (v::l)
  | _,_=>none
end
mutual
theorem Qkl {E F:Env}(h:E.Le0 F):∀ {x:FV}{v:Value},den E x=some v→den F x=some v
 | .bool _,_,e=>e
 | .int _ _,_,e=>e
 | .sy _ _ _ _,_,e=>e
 | .sb _,_,e=>e
 | .sstr _,_,e=>e
 | .sx _,_,e=>e
 | .str _,_,e=>e
 | .nilp,_,e=>e
 | .ptr i off,v,e=>by
  simp only[den] at e ⊢
  cases hp:E.p i with
  | none=>rw[hp] at e;cases e
  | some a=>rw[hp] at e;rw[(h.a i a hp).1];exact e
 | .nsl,_,e=>e
 | .sl i off offz len cap,v,e=>by
  simp only[den] at e ⊢
  cases hp:E.p i with
  | none=>rw[hp] at e;cases e
  | some a=>rw[hp] at e;rw[(h.a i a hp).1,(h.a i a hp).2];exact e
 | .nilm,_,e=>e
 | .map i,v,e=>by
  simp only[den] at e ⊢
  cases hp:E.p i with
  | none=>rw[hp] at e;cases e
  | some a=>rw[hp] at e;rw[(h.a i a hp).1];exact e
 | .nilf,_,e=>e
 | .fn f a b,v,e=>by
  simp only[den] at e ⊢
  cases ha:denL E a with
  | none=>rw[ha] at e;cases e
  | some x=>
   cases hb:denL E b with
   | none=>rw[ha,hb] at e;cases e
   | some y=>rw[ha,hb] at e;rw[Qcj h ha,Qcj h hb];exact e
 | .nili,_,e=>e
 | .ifc t x,v,e=>by
  simp only[den] at e ⊢
  cases hx:den E x with
  | none=>rw[hx] at e;cases e
  | some y=>rw[hx] at e;rw[Qkl h hx];exact e
 | .agg cs,v,e=>by
  simp only[den] at e ⊢
  cases hx:denL E cs with
  | none=>rw[hx] at e;cases e
  | some y=>rw[hx] at e;rw[Qcj h hx];exact e
 | .tup cs,v,e=>by
  simp only[den] at e ⊢
  cases hx:denL E cs with
  | none=>rw[hx] at e;cases e
  | some y=>rw[hx] at e;rw[Qcj h hx];exact e
 | .dp t d,v,e=>by
  simp only[den] at e ⊢
  by_cases hc:Fz E d (.p t)
  ·rw[if_pos hc] at e;rw[if_pos (hc.mono h)];exact e
  ·rw[if_neg hc] at e;cases e
 | .dn t d off,v,e=>by
  simp only[den] at e ⊢
  by_cases hc:Fz E d (.p t)∧d.is=true
  ·rw[if_pos hc] at e;rw[if_pos ⟨hc.1.mono h,hc.2⟩];exact e
  ·rw[if_neg hc] at e;cases e
 | .ds t d,v,e=>by
  simp only[den] at e ⊢
  by_cases hc:Fz E d (.l t)
  ·rw[if_pos hc] at e;rw[if_pos (hc.mono h)];exact e
  ·rw[if_neg hc] at e;cases e
 | .obl _ _,_,e=>by simp only[den] at e;cases e
 | .alt _ _,_,e=>by simp only[den] at e;cases e
 | .os t i,v,e=>by
  simp only[den] at e ⊢
  cases hp:E.p i with
  | none=>rw[hp] at e;cases e
  | some a=>rw[hp] at e;rw[(h.a i a hp).1,h.s i a hp];exact e
 | .oe t i k off,v,e=>by
  simp only[den] at e ⊢
  cases hp:E.p i with
  | none=>rw[hp] at e;cases e
  | some a=>rw[hp] at e;rw[(h.a i a hp).1,h.s i a hp];exact e
theorem Qcj {E F:Env}(h:E.Le0 F):∀ {x:List FV}{v:List Value},denL E x=some v→denL F x=some v
 | [],_,e=>e
 | x::r,v,e=>by
  simp only[denL] at e ⊢
  cases ha:den E x with
  | none=>rw[ha] at e;cases e
  | some y=>
   cases hb:denL E r with
   | none=>rw[ha,hb] at e;cases e
   | some z=>rw[ha,hb] at e;rw[Qkl h ha,Qcj h hb];exact e
end
theorem QbR {E F:Env}(h:E.Le F){x:FV}{v:Value}(k:den E x=some v):den F x=some v:=Qkl h.p k
theorem QcO {E F:Env}(h:E.Le F){x:List FV}{v:List Value}(k:denL E x=some v):denL F x=some v:=Qcj h.p k
theorem QR {E:Env}{x:FV}{r:List FV}{l:List Value}(h:denL E (x::r)=some l):∃v l',den E x=some v∧denL E r=some l'∧l=v::l':=by
 simp only[denL] at h
 cases ha:den E x with
 | none=>rw[ha] at h;cases h
 | some y=>
  cases hb:denL E r with
  | none=>rw[ha,hb] at h;cases h
  | some z=>rw[ha,hb] at h;simp only[Option.some.injEq] at h;exact⟨y,z,rfl,rfl,h.symm⟩
theorem Qau {E:Env}{x:FV}{r:List FV}{v:Value}{l:List Value}(h1:den E x=some v)(h2:denL E r=some l):denL E (x::r)=some (v::l):=by
 simp only[denL,h1,h2]
theorem QS {E:Env}:∀ {x:List FV}{v:List Value},denL E x=some v→v.length=x.length
 | [],v,h=>by simp only[denL,Option.some.injEq] at h;subst h;rfl
 | x::r,v,h=>by
  obtain⟨a,b,_,h2,rfl⟩:=QR h
  simp[QS h2]
theorem Qc7 {E:Env}:∀ {x y:List FV}{v w:List Value},denL E x=some v→denL E y=some w→denL E (x++y)=some (v++w)
 | [],y,v,w,h,k=>by simp only[denL,Option.some.injEq] at h;subst h;exact k
 | x::r,y,v,w,h,k=>by
  obtain⟨a,b,h1,h2,rfl⟩:=QR h
  exact Qau h1 (Qc7 h2 k)
theorem QeM {E:Env}:∀ {x:List FV}{v:List Value}(n:Nat),denL E x=some v→denL E (x.drop n)=some (v.drop n)
 | x,v,0,h=>by simpa using h
 | [],v,n+1,h=>by simp only[denL,Option.some.injEq] at h;subst h;rfl
 | x::r,v,n+1,h=>by
  obtain⟨a,b,h1,h2,rfl⟩:=QR h
  simpa using QeM n h2
theorem QfV {E:Env}:∀ {x:List FV}{v:List Value}(n:Nat),denL E x=some v→denL E (x.take n)=some (v.take n)
 | x,v,0,h=>by simp[denL]
 | [],v,n+1,h=>by simp only[denL,Option.some.injEq] at h;subst h;rfl
 | x::r,v,n+1,h=>by
  obtain⟨a,b,h1,h2,rfl⟩:=QR h
  simpa using Qau h1 (QfV n h2)
theorem Qji {E:Env}:∀ {x:List FV}{v:List Value}{n:Nat}{y:FV},denL E x=some v→x[n]?=some y→∃u,v[n]?=some u∧den E y=some u
 | [],_,_,_,_,hy=>by simp at hy
 | x::r,v,0,y,h,hy=>by
  obtain⟨a,b,h1,h2,rfl⟩:=QR h
  simp only[List.getElem?_cons_zero,Option.some.injEq] at hy
  subst hy;exact⟨a,rfl,h1⟩
 | x::r,v,n+1,y,h,hy=>by
  obtain⟨a,b,h1,h2,rfl⟩:=QR h
  simp only[List.getElem?_cons_succ] at hy ⊢
  exact Qji h2 hy
theorem QCK {E:Env}:∀ {x:List FV}{v:List Value}(n:Nat){y:FV}{u:Value},denL E x=some v→den E y=some u→denL E (x.set n y)=some (v.set n u)
 | [],v,n,y,u,h,_=>by simp only[denL,Option.some.injEq] at h;subst h;rfl
 | x::r,v,0,y,u,h,hy=>by
  obtain⟨a,b,h1,h2,rfl⟩:=QR h
  exact Qau hy h2
 | x::r,v,n+1,y,u,h,hy=>by
  obtain⟨a,b,h1,h2,rfl⟩:=QR h
  exact Qau h1 (QCK n h2 hy)
def setF (cs:List FV)(j:Nat):List FV→List FV
 | []=>cs
 | x::xs=>setF (cs.set j x) (j+1) xs
theorem Qhw {E:Env}:∀ {xs x:List FV}{v vs:List Value}(n:Nat),denL E x=some v→denL E xs=some vs→denL E (setF x n xs)=some (setAt v n vs)
 | [],x,v,vs,n,h,hy=>by simp only[denL,Option.some.injEq] at hy;subst hy;exact h
 | y::xs,x,v,vs,n,h,hy=>by
  obtain⟨a,b,h1,h2,rfl⟩:=QR hy
  exact Qhw (n+1) (QCK n h h1) h2
theorem QrI (c:FV):∀(xs r:List FV)(n:Nat),setF (c::r) (n+1) xs=c::setF r n xs
 | [],r,n=>rfl
 | x::xs,r,n=>by simp only[setF,List.set_cons_succ];exact QrI c xs (r.set n x) (n+1)
theorem Qzr:∀(xs cs:List FV),xs.length≤cs.length→setF cs 0 xs=xs++cs.drop xs.length
 | [],cs,_=>by simp[setF]
 | x::xs,[],h=>by simp at h
 | x::xs,c::cs,h=>by
  simp only[setF,List.set_cons_zero]
  rw[QrI,Qzr xs cs (by simpa using h)]
  simp
def QbI:FV→List FV
 | .agg cs=>cs
 | v=>[v]
theorem cells_one {v:Value}(h:∀cs,v≠.agg cs):v.cells=#[v]:=by cases v<;>first | rfl | exact absurd rfl (h _)
theorem Qe4 {E:Env}{t i:Nat}{v:Value}(h:den E (.os t i)=some v):(∃a,E.p i=some a)∧E.s i=v∧∃a n c,v=.slice a n c:=by
 simp only[den] at h
 cases hp:E.p i with
 | none=>rw[hp] at h;cases h
 | some a=>
  rw[hp] at h
  simp only at h
  split at h
  ·rename_i a' n c hs
   simp only[Option.some.injEq] at h;subst h
   exact⟨⟨a,rfl⟩,hs,_,_,_,rfl⟩
  ·cases h
theorem Qo6 {E:Env}{t i:Nat}{k:Int}{off:Nat}{v:Value}(h:den E (.oe t i k off)=some v):∃b a n c,E.p i=some b∧E.s i=.slice (some a) n c∧0≤k∧k<n∧v=.pointer (some (a.add (k.toNat * szT t+off))):=by
 simp only[den] at h
 cases hp:E.p i with
 | none=>rw[hp] at h;cases h
 | some b=>
  rw[hp] at h
  simp only at h
  split at h
  ·rename_i a n c hs
   by_cases hc:0≤k∧k<n
   ·rw[if_pos hc] at h;simp only[Option.some.injEq] at h;exact⟨b,a,n,c,rfl,hs,hc.1,hc.2,h.symm⟩
   ·rw[if_neg hc] at h;cases h
  ·cases h
theorem QcN {E:Env}{x:FV}{v:Value}(h:den E x=some v):denL E (QbI x)=some v.cells.toList:=by
 have one:(∀cs,v≠.agg cs)→denL E [x]=some v.cells.toList:=fun hn=>by rw[cells_one hn];exact Qau h rfl
 cases x with
 | agg cs=>
  simp only[den] at h
  cases hx:denL E cs with
  | none=>rw[hx] at h;cases h
  | some y=>
   rw[hx] at h
   simp only at h
   by_cases hc:cs.all oneF=true
   ·rw[if_pos hc] at h;simp only[Option.some.injEq] at h;subst h;simpa [QbI,Value.cells] using hx
   ·rw[if_neg hc] at h;cases h
 | sl i off offz len cap=>
  refine one fun cs e=>?_
  simp only[den] at h
  cases hp:E.p i with
  | none=>rw[hp] at h;cases h
  | some a=>
   rw[hp] at h
   cases cap with
   | lit c=>simp only[Option.some.injEq] at h;rw[←h] at e;cases e
   | hid j=>
    simp only at h
    by_cases hc:len+j≤E.c i
    ·rw[if_pos hc] at h;simp only[Option.some.injEq] at h;rw[←h] at e;cases e
    ·rw[if_neg hc] at h;cases h
 | str l=>
  refine one fun cs e=>?_
  simp only[den] at h
  by_cases hc:Q0 l=true
  ·rw[if_pos hc] at h;simp only[Option.some.injEq,str] at h;rw[←h] at e;cases e
  ·rw[if_neg hc] at h;cases h
 | obl c y=>simp only[den] at h;cases h
 | alt c y=>simp only[den] at h;cases h
 | os t i=>obtain⟨_,_,a,n,c,rfl⟩:=Qe4 h;exact one fun _ e=>by cases e
 | oe t i k off=>obtain⟨_,_,_,_,_,_,_,_,rfl⟩:=Qo6 h;exact one fun _ e=>by cases e
 | sstr s=>
  refine one fun cs e=>?_
  simp only[den] at h
  by_cases hc:s.length≤maxL
  ·rw[if_pos hc] at h;simp only[Option.some.injEq,str] at h;rw[←h] at e;cases e
  ·rw[if_neg hc] at h;cases h
 | dp t d=>
  refine one fun cs e=>?_
  simp only[den] at h
  by_cases hc:Fz E d (.p t)
  ·rw[if_pos hc] at h;simp only[Option.some.injEq,LD.v] at h;rw[←h] at e;cases e
  ·rw[if_neg hc] at h;cases h
 | dn t d off=>
  refine one fun cs e=>?_
  simp only[den] at h
  by_cases hc:Fz E d (.p t)∧d.is=true
  ·rw[if_pos hc] at h;simp only[Option.some.injEq] at h;rw[←h] at e;cases e
  ·rw[if_neg hc] at h;cases h
 | ds t d=>
  refine one fun cs e=>?_
  simp only[den] at h
  by_cases hc:Fz E d (.l t)
  ·rw[if_pos hc] at h;simp only[Option.some.injEq,LD.v] at h;rw[←h] at e;split at e<;>cases e
  ·rw[if_neg hc] at h;cases h
 | sy k n lo hi=>
  refine one fun cs e=>?_
  simp only[den] at h
  by_cases hc:lo≤n.ev∧n.ev≤hi
  ·rw[if_pos hc] at h;simp only[Option.some.injEq] at h;rw[←h] at e;cases e
  ·rw[if_neg hc] at h;cases h
 | sx l=>
  refine one fun cs e=>?_
  simp only[den] at h
  by_cases hc:Qbq l=true
  ·rw[if_pos hc] at h;simp only[Option.some.injEq,str] at h;rw[←h] at e;cases e
  ·rw[if_neg hc] at h;cases h
 | fn f a b=>
  refine one fun cs e=>?_
  simp only[den] at h
  cases ha:denL E a with
  | none=>rw[ha] at h;cases h
  | some x=>
   cases hb:denL E b with
   | none=>rw[ha,hb] at h;cases h
   | some y=>rw[ha,hb] at h;simp only[Option.some.injEq] at h;rw[←h] at e;cases e
 | ptr i off=>
  refine one fun cs e=>?_
  simp only[den] at h
  cases hp:E.p i with
  | none=>rw[hp] at h;cases h
  | some a=>rw[hp] at h;simp only[Option.some.injEq] at h;rw[←h] at e;cases e
 | map i=>
  refine one fun cs e=>?_
  simp only[den] at h
  cases hp:E.p i with
  | none=>rw[hp] at h;cases h
  | some a=>rw[hp] at h;simp only[Option.some.injEq] at h;rw[←h] at e;cases e
 | ifc t y=>
  refine one fun cs e=>?_
  simp only[den] at h
  cases hp:den E y with
  | none=>rw[hp] at h;cases h
  | some a=>rw[hp] at h;simp only[Option.some.injEq] at h;rw[←h] at e;cases e
 | tup y=>
  refine one fun cs e=>?_
  simp only[den] at h
  cases hp:denL E y with
  | none=>rw[hp] at h;cases h
  | some a=>rw[hp] at h;simp only[Option.some.injEq] at h;rw[←h] at e;cases e
 | _=>simp only[den,Option.some.injEq] at h;subst h;exact Qau (by simp only[den]) rfl
theorem QEm {E:Env}{x:FV}{v:Value}(h:den E x=some v)(ho:oneF x=true):one v=true:=by
 cases x with
 | agg cs=>cases ho
 | tup cs=>cases ho
 | obl _ _=>cases ho
 | alt _ _=>cases ho
 | os t i=>obtain⟨_,_,a,n,c,rfl⟩:=Qe4 h;rfl
 | oe t i k off=>obtain⟨_,_,_,_,_,_,_,_,rfl⟩:=Qo6 h;rfl
 | sl i off offz len cap=>
  simp only[den] at h
  cases hp:E.p i with
  | none=>rw[hp] at h;cases h
  | some a=>
   rw[hp] at h
   cases cap with
   | lit c=>simp only[Option.some.injEq] at h;rw[←h];rfl
   | hid j=>
    simp only at h
    by_cases hc:len+j≤E.c i
    ·rw[if_pos hc] at h;simp only[Option.some.injEq] at h;rw[←h];rfl
    ·rw[if_neg hc] at h;cases h
 | str l=>
  simp only[den] at h
  by_cases hc:Q0 l=true
  ·rw[if_pos hc] at h;simp only[Option.some.injEq,str] at h;rw[←h];rfl
  ·rw[if_neg hc] at h;cases h
 | sstr s=>
  simp only[den] at h
  by_cases hc:s.length≤maxL
  ·rw[if_pos hc] at h;simp only[Option.some.injEq] at h;rw[←h];rfl
  ·rw[if_neg hc] at h;cases h
 | dp t d=>
  simp only[den] at h
  by_cases hc:Fz E d (.p t)
  ·rw[if_pos hc] at h;simp only[Option.some.injEq,LD.v] at h;rw[←h];rfl
  ·rw[if_neg hc] at h;cases h
 | dn t d off=>
  simp only[den] at h
  by_cases hc:Fz E d (.p t)∧d.is=true
  ·rw[if_pos hc] at h;simp only[Option.some.injEq] at h;rw[←h];rfl
  ·rw[if_neg hc] at h;cases h
 | ds t d=>
  simp only[den] at h
  by_cases hc:Fz E d (.l t)
  ·rw[if_pos hc] at h;simp only[Option.some.injEq,LD.v] at h;rw[←h];split<;>rfl
  ·rw[if_neg hc] at h;cases h
 | sy k n lo hi=>
  simp only[den] at h
  by_cases hc:lo≤n.ev∧n.ev≤hi
  ·rw[if_pos hc] at h;simp only[Option.some.injEq] at h;rw[←h];rfl
  ·rw[if_neg hc] at h;cases h
 | sx l=>
  simp only[den] at h
  by_cases hc:Qbq l=true
  ·rw[if_pos hc] at h;simp only[Option.some.injEq,str] at h;rw[←h];rfl
  ·rw[if_neg hc] at h;cases h
 | fn f a b=>
  simp only[den] at h
  cases ha:denL E a with
  | none=>rw[ha] at h;cases h
  | some x=>
   cases hb:denL E b with
   | none=>rw[ha,hb] at h;cases h
   | some y=>rw[ha,hb] at h;simp only[Option.some.injEq] at h;rw[←h];rfl
 | ptr i off=>
  simp only[den] at h
  cases hp:E.p i with
  | none=>rw[hp] at h;cases h
  | some a=>rw[hp] at h;simp only[Option.some.injEq] at h;rw[←h];rfl
 | map i=>
  simp only[den] at h
  cases hp:E.p i with
  | none=>rw[hp] at h;cases h
  | some a=>rw[hp] at h;simp only[Option.some.injEq] at h;rw[←h];rfl
 | ifc t y=>
  simp only[den] at h
  cases hp:den E y with
  | none=>rw[hp] at h;cases h
  | some a=>rw[hp] at h;simp only[Option.some.injEq] at h;rw[←h];rfl
 | _=>simp only[den,Option.some.injEq] at h;subst h;rfl
theorem Qkm {E:Env}:∀ {x:List FV}{v:List Value},denL E x=some v→x.all oneF=true→∀y∈v,one y=true
 | [],v,h,_,y,hy=>by simp only[denL,Option.some.injEq] at h;subst h;cases hy
 | x::r,v,h,ho,y,hy=>by
  obtain⟨a,b,h1,h2,rfl⟩:=QR h
  simp only[List.all_cons,Bool.and_eq_true] at ho
  rcases List.mem_cons.1 hy with rfl | hy
  ·exact QEm h1 ho.1
  ·exact Qkm h2 ho.2 y hy
theorem Qij {E:Env}{x:FV}{v:Value}(h:den E x=some v)(ht:∀l,x≠.tup l):(QbI x).all oneF=true:=by
 cases x with
 | agg cs=>
  simp only[den] at h
  cases hx:denL E cs with
  | none=>rw[hx] at h;cases h
  | some y=>
   rw[hx] at h
   simp only at h
   by_cases hc:cs.all oneF=true
   ·exact hc
   ·rw[if_neg hc] at h;cases h
 | tup l=>exact absurd rfl (ht l)
 | obl c y=>simp only[den] at h;cases h
 | alt c y=>simp only[den] at h;cases h
 | _=>rfl
end Go.Va
