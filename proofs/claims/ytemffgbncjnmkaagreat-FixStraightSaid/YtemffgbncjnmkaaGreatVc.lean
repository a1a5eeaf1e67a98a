import Derived.Test.YtemffgbncjnmkaaGreatVb
set_option linter.unusedVariables false
set_option linter.unusedSectionVars false
set_option linter.unusedSimpArgs false
noncomputable section
namespace Go.Va
open Go Go.Sh
variable [Vb]
inductive Opd where
 | t (i:Nat)
 | c (v:FV)
mutual
def ofV:Value→Option FV
 | .bool b=>some (.bool b)
 | .int k n=>some (.int k n)
 | .string s=>some (.str (s.data.toList.map UInt8.toNat))
 | .pointer none=>some .nilp
 | .slice none 0 0=>some .nsl
 | .map none=>some .nilm
 | .nilFunc=>some .nilf
 | .nilIface=>some .nili
 | .agg ⟨cs⟩=>match ofVL cs with
  | some l=>if l.all oneF=true then some (.agg l) else none
  | none=>none
 | .tuple ⟨cs⟩=>match ofVL cs with
  | some l=>some (.tup l)
  | none=>none
 | _=>none
def ofVL:List Value→Option (List FV)
 | []=>some []
 | v::r=>match ofV v,ofVL r with
  | some x,some l=>some (x::l)
  | _,_=>none
end
theorem QHa (s:ByteArray):str ((s.data.toList.map UInt8.toNat).map UInt8.ofNat)=.string s:=by
 have:(s.data.toList.map UInt8.toNat).map UInt8.ofNat=s.data.toList:=by
  rw[List.map_map]
  have:∀l:List UInt8,l.map (UInt8.ofNat ∘ UInt8.toNat)=l:=fun l=>by
   induction l with
   | nil=>rfl
   | cons a l ih=>simp[ih]
  exact this _
 rw[this]
 simp[str]
theorem QAZ (l:List UInt8):Q0 (l.map UInt8.toNat)=true:=by
 simp only[Q0,List.all_map,List.all_eq_true]
 intro x _
 simpa [Nat.blt_eq] using x.toNat_lt
mutual
theorem QyC (E:Env):∀ {v:Value}{x:FV},ofV v=some x→den E x=some v
 | .bool b,x,h=>by simp only[ofV,Option.some.injEq] at h;subst h;rfl
 | .int k n,x,h=>by simp only[ofV,Option.some.injEq] at h;subst h;rfl
 | .string s,x,h=>by
  simp only[ofV,Option.some.injEq] at h;subst h
  simp only[den]
  rw[if_pos (QAZ _),QHa]
 | .pointer none,x,h=>by simp only[ofV,Option.some.injEq] at h;subst h;rfl
 | .slice none 0 0,x,h=>by simp only[ofV,Option.some.injEq] at h;subst h;rfl
 | .map none,x,h=>by simp only[ofV,Option.some.injEq] at h;subst h;rfl
 | .nilFunc,x,h=>by simp only[ofV,Option.some.injEq] at h;subst h;rfl
 | .nilIface,x,h=>by simp only[ofV,Option.some.injEq] at h;subst h;rfl
 | .agg ⟨cs⟩,x,h=>by
  simp only[ofV] at h
  cases hc:ofVL cs with
  | none=>rw[hc] at h;cases h
  | some l=>
   rw[hc] at h
   simp only at h
   by_cases ho:l.all oneF=true
   ·rw[if_pos ho] at h;simp only[Option.some.injEq] at h;subst h;simp only[den,Qcf E hc];rw[if_pos ho]
   ·rw[if_neg ho] at h;cases h
 | .tuple ⟨cs⟩,x,h=>by
  simp only[ofV] at h
  cases hc:ofVL cs with
  | none=>rw[hc] at h;cases h
  | some l=>rw[hc] at h;simp only[Option.some.injEq] at h;subst h;simp only[den,Qcf E hc]
 | .slice none 0 (_+1),_,h=>by simp[ofV] at h
 | .slice none (_+1) _,_,h=>by simp[ofV] at h
 | .slice (some _) _ _,_,h=>by simp[ofV] at h
 | .pointer (some _),_,h=>by simp[ofV] at h
 | .map (some _),_,h=>by simp[ofV] at h
 | .float _ _,_,h=>by simp[ofV] at h
 | .complex _ _ _,_,h=>by simp[ofV] at h
 | .chan _,_,h=>by simp[ofV] at h
 | .func _ _ _,_,h=>by simp[ofV] at h
 | .iface _ _,_,h=>by simp[ofV] at h
theorem Qcf (E:Env):∀ {v:List Value}{x:List FV},ofVL v=some x→denL E x=some v
 | [],x,h=>by simp only[ofVL,Option.some.injEq] at h;subst h;rfl
 | v::r,x,h=>by
  simp only[ofVL] at h
  cases ha:ofV v with
  | none=>rw[ha] at h;cases h
  | some y=>
   cases hb:ofVL r with
   | none=>rw[ha,hb] at h;cases h
   | some z=>rw[ha,hb] at h;simp only[Option.some.injEq] at h;subst h;exact Qau (QyC E ha) (Qcf E hb)
end
def c1:Operand→Option Opd
 | .tmp t=>some (.t t)
 | .const v=>match ofV v with
  | some x=>some (.c x)
  | none=>none
 | .func f=>some (.c (.fn (.func f) [] []))
 | .global _=>none
def c1L:List Operand→Option (List Opd)
 | []=>some []
 | x::r=>match c1 x,c1L r with
  | some a,some l=>some (a::l)
  | _,_=>none
def c1P:List (Nat×Operand)→Option (List (Nat×Opd))
 | []=>some []
 | x::r=>match c1 x.2,c1P r with
  | some a,some l=>some ((x.1,a)::l)
  | _,_=>none
def c1O:Option Operand→Option (Option Opd)
 | none=>some none
 | some x=>match c1 x with
  | some a=>some (some a)
  | none=>none
def evO (fr:Fr):Opd→Option FV
 | .t i=>fr.get i
 | .c v=>some v
def evL (fr:Fr):List Opd→Option (List FV)
 | []=>some []
 | x::r=>match evO fr x with
  | some a=>match evL fr r with
   | some l=>some (a::l)
   | none=>none
  | none=>none
def evP (fr:Fr):List (Nat×Opd)→Option (List (Nat×FV))
 | []=>some []
 | (i,x)::r=>match evO fr x with
  | some a=>match evP fr r with
   | some l=>some ((i,a)::l)
   | none=>none
  | none=>none
def AgO (E:Env)(fr:Fr)(ρ:Operand→Value):Prop:=∀y z v,c1 y=some z→evO fr z=some v→den E v=some (ρ y)
theorem AgO.list {E:Env}{fr:Fr}{ρ:Operand→Value}(h:AgO E fr ρ):∀ {l:List Operand}{z:List Opd}{v:List FV},c1L l=some z→evL fr z=some v→denL E v=some (l.map ρ)
 | [],z,v,h1,h2=>by
  simp only[c1L,Option.some.injEq] at h1;subst h1
  simp only[evL,Option.some.injEq] at h2;subst h2;rfl
 | x::r,z,v,h1,h2=>by
  simp only[c1L] at h1
  cases ha:c1 x with
  | none=>rw[ha] at h1;cases h1
  | some a=>
   cases hb:c1L r with
   | none=>rw[ha,hb] at h1;cases h1
   | some l=>
    rw[ha,hb] at h1;simp only[Option.some.injEq] at h1;subst h1
    simp only[evL] at h2
    cases hc:evO fr a with
    | none=>rw[hc] at h2;cases h2
    | some y=>
     cases hd:evL fr l with
     | none=>rw[hc,hd] at h2;cases h2
     | some w=>rw[hc,hd] at h2;simp only[Option.some.injEq] at h2;subst h2;exact Qau (h x a y ha hc) (h.list hb hd)
theorem AgO.pairs {E:Env}{fr:Fr}{ρ:Operand→Value}(h:AgO E fr ρ):∀ {l:List (Nat×Operand)}{z:List (Nat×Opd)}{v:List (Nat×FV)},c1P l=some z→evP fr z=some v →
  v.map (·.1)=l.map (·.1)∧denL E (v.map (·.2))=some (l.map fun p=>ρ p.2)
 | [],z,v,h1,h2=>by
  simp only[c1P,Option.some.injEq] at h1;subst h1
  simp only[evP,Option.some.injEq] at h2;subst h2;exact⟨rfl,rfl⟩
 | x::r,z,v,h1,h2=>by
  simp only[c1P] at h1
  cases ha:c1 x.2 with
  | none=>rw[ha] at h1;cases h1
  | some a=>
   cases hb:c1P r with
   | none=>rw[ha,hb] at h1;cases h1
   | some l=>
    rw[ha,hb] at h1;simp only[Option.some.injEq] at h1;subst h1
    simp only[evP] at h2
    cases hc:evO fr a with
    | none=>rw[hc] at h2;cases h2
    | some y=>
     cases hd:evP fr l with
     | none=>rw[hc,hd] at h2;cases h2
     | some w=>
      rw[hc,hd] at h2;simp only[Option.some.injEq] at h2;subst h2
      obtain⟨h3,h4⟩:=h.pairs hb hd
      exact⟨by simp[h3],Qau (h _ a y ha hc) h4⟩
def QpX:Nat:=9223372036854775808
theorem QB5 {m:Nat}(h:m<QpX):(m:Int)<9223372036854775808:=by
 have:QpX=9223372036854775808:=by unfold QpX;rfl
 omega
def wrP (k:IntKind)(m:Nat):Int:=match k with
 | .i64=>bif Nat.blt m QpX then .ofNat m else k.wrap (.ofNat m)
 | _=>k.wrap (.ofNat m)
def wrN (k:IntKind)(m:Nat):Int:=match k with
 | .i64=>bif Nat.blt m QpX then .negSucc m else k.wrap (.negSucc m)
 | _=>k.wrap (.negSucc m)
def wr (k:IntKind)(n:Int):Int:=match n with
 | .ofNat m=>bif Nat.blt m 128 then .ofNat m else wrP k m
 | .negSucc m=>wrN k m
theorem QJR (k:IntKind)(m:Nat):wrP k m=k.wrap (.ofNat m):=by
 unfold wrP
 cases k with
 | i64=>
  simp only
  cases hc:Nat.blt m QpX with
  | false=>rw[cond_false]
  | true=>
   have h1:=QB5 (QaQ hc)
   have e:(Int.ofNat m)=(m:Int):=rfl
   rw[cond_true,IntWalk.i64_in _ (by rw[e];omega)]
 | _=>rfl
theorem QJS (k:IntKind)(m:Nat):wrN k m=k.wrap (.negSucc m):=by
 unfold wrN
 cases k with
 | i64=>
  simp only
  cases hc:Nat.blt m QpX with
  | false=>rw[cond_false]
  | true=>
   have h1:=QB5 (QaQ hc)
   have e:Int.negSucc m=-((m:Int)+1):=Int.negSucc_eq m
   rw[cond_true,IntWalk.i64_in _ (by rw[e];omega)]
 | _=>rfl
theorem Qtj (k:IntKind)(n:Int):wr k n=k.wrap n:=by
 cases n with
 | ofNat m=>
  simp only[wr]
  cases hb:Nat.blt m 128 with
  | true=>
   have:=QaQ hb
   simp only[cond_true]
   have e:(Int.ofNat m)=(m:Int):=rfl
   cases k<;>first
    | (rw[IntWalk.i8_in _ (by rw[e];omega)];done) | (rw[IntWalk.i16_in _ (by rw[e];omega)];done) | (rw[IntWalk.i32_in _ (by rw[e];omega)];done) | (rw[IntWalk.i64_in _ (by rw[e];omega)];done)
    | (rw[IntWalk.u8_in _ (by rw[e];omega)];done) | (rw[IntWalk.u16_in _ (by rw[e];omega)];done) | (rw[IntWalk.u32_in _ (by rw[e];omega)];done) | (rw[IntWalk.u64_in _ (by rw[e];omega)];done)
  | false=>rw[cond_false];exact QJR k m
 | negSucc m=>exact QJS k m
def ilt:Int→Int→Bool
 | .ofNat a,.ofNat b=>Nat.blt a b
 | .ofNat _,.negSucc _=>false
 | .negSucc _,.ofNat _=>true
 | .negSucc a,.negSucc b=>Nat.blt b a
def ieq:Int→Int→Bool
 | .ofNat a,.ofNat b=>Nat.beq a b
 | .negSucc a,.negSucc b=>Nat.beq a b
 | _,_=>false
theorem bl (a b:Nat):Nat.blt a b=decide (a<b):=by
 cases h:Nat.blt a b with
 | true=>have:=QaQ h;simp[this]
 | false=>have:=Qqh h;simp;omega
theorem bq (a b:Nat):Nat.beq a b=decide (a=b):=by
 cases h:Nat.beq a b with
 | true=>have:=Qm h;simp[this]
 | false=>have:=QlU h;simp[this]
theorem Qd5 (a b:Int):ilt a b=decide (a<b):=by
 cases a with
 | ofNat a=>cases b with
  | ofNat b=>simp only[ilt,bl];congr 1;simp
  | negSucc b=>simp only[ilt];symm;simp only[decide_eq_false_iff_not];have e:Int.ofNat a=(a:Int):=rfl;omega
 | negSucc a=>cases b with
  | ofNat b=>simp only[ilt];symm;simp only[decide_eq_true_eq];have e:Int.ofNat b=(b:Int):=rfl;omega
  | negSucc b=>simp only[ilt,bl];congr 1;simp;omega
theorem Qkg (a b:Int):ieq a b=decide (a=b):=by
 cases a with
 | ofNat a=>cases b with
  | ofNat b=>simp only[ieq,bq];congr 1;simp only[eq_iff_iff];exact⟨fun h=>by rw[h],fun h=>Int.ofNat.inj h⟩
  | negSucc b=>simp[ieq]
 | negSucc a=>cases b with
  | ofNat b=>simp[ieq]
  | negSucc b=>simp only[ieq,bq];congr 1;simp
def keq (a b:IntKind):Bool:=match a,b with
 | .i8,.i8 | .i16,.i16 | .i32,.i32 | .i64,.i64 | .u8,.u8 | .u16,.u16 | .u32,.u32 | .u64,.u64=>true
 | _,_=>false
theorem QdB {a b:IntKind}(h:keq a b=true):a=b:=by cases a<;>cases b<;>first | rfl | cases h
def leq (x:List Nat):List Nat→Bool:=List.rec (motive:=fun _=>List Nat→Bool) (fun y=>List.rec (motive:=fun _=>Bool) true (fun _ _ _=>false) y)
 (fun a _ ih y=>List.rec (motive:=fun _=>Bool) false (fun b r _=>Bool.rec (motive:=fun _=>Bool) false (ih r) (Nat.beq a b)) y) x
theorem QGn:leq [] []=true:=rfl
theorem QGo (b:Nat)(y:List Nat):leq [] (b::y)=false:=rfl
theorem QB9 (a:Nat)(x:List Nat):leq (a::x) []=false:=rfl
theorem QCa (a b:Nat)(x y:List Nat):leq (a::x) (b::y)=bif Nat.beq a b then leq x y else false:=brec _ _ _
def llt (x:List Nat):List Nat→Bool:=List.rec (motive:=fun _=>List Nat→Bool) (fun y=>List.rec (motive:=fun _=>Bool) false (fun _ _ _=>true) y)
 (fun a _ ih y=>List.rec (motive:=fun _=>Bool) false (fun b r _=>Bool.rec (motive:=fun _=>Bool) (Bool.rec (motive:=fun _=>Bool) false (ih r) (Nat.beq a b)) true (Nat.blt a b)) y) x
theorem QFa (x:List Nat):llt x []=false:=by cases x<;>rfl
theorem QGi (b:Nat)(y:List Nat):llt [] (b::y)=true:=rfl
theorem QGk (a b:Nat)(x y:List Nat):llt (a::x) (b::y)=bif Nat.blt a b then true else bif Nat.beq a b then llt x y else false:=by
 show (Bool.rec (motive:=fun _=>Bool) (Bool.rec (motive:=fun _=>Bool) _ _ _) _ _:Bool)=_
 rw[brec,brec];rfl
theorem QeI {a:Nat}{x:List Nat}(h:Q0 (a::x)=true):a<256∧Q0 x=true:=by
 simp only[Q0,List.all_cons,Bool.and_eq_true] at h
 exact⟨QaQ h.1,h.2⟩
theorem QBr {a b:Nat}(ha:a<256)(hb:b<256)(h:UInt8.ofNat a=UInt8.ofNat b):a=b:=by
 have:=congrArg UInt8.toNat h
 simpa [Nat.mod_eq_of_lt ha,Nat.mod_eq_of_lt hb] using this
theorem QB8:∀ {x y:List Nat},Q0 x=true→Q0 y=true→leq x y=decide (x.map UInt8.ofNat=y.map UInt8.ofNat)
 | [],[],_,_=>by simp[QGn]
 | [],_::_,_,_=>by simp[QGo]
 | _::_,[],_,_=>by simp[QB9]
 | a::x,b::y,hx,hy=>by
  obtain⟨h1,h2⟩:=QeI hx
  obtain⟨h3,h4⟩:=QeI hy
  simp only[QCa,List.map_cons,List.cons.injEq]
  cases hb:Nat.beq a b with
  | true=>have:=Qm hb;subst this;simp[QB8 h2 h4]
  | false=>
   have hne:UInt8.ofNat a≠UInt8.ofNat b:=fun e=>QlU hb (QBr h1 h3 e)
   simp[hne]
theorem QGj:∀ {x y:List Nat},Q0 x=true→Q0 y=true→llt x y=Op.bytesLess (x.map UInt8.ofNat) (y.map UInt8.ofNat)
 | x,[],_,_=>by cases x<;>simp[QFa,Op.bytesLess]
 | [],_::_,_,_=>by simp[QGi,Op.bytesLess]
 | a::x,b::y,hx,hy=>by
  obtain⟨h1,h2⟩:=QeI hx
  obtain⟨h3,h4⟩:=QeI hy
  simp only[QGk,List.map_cons,Op.bytesLess]
  have hlt:(UInt8.ofNat a<UInt8.ofNat b)↔a<b:=by
   rw[UInt8.lt_iff_toNat_lt];simp[Nat.mod_eq_of_lt h1,Nat.mod_eq_of_lt h3]
  cases hb:Nat.blt a b with
  | true=>have:=QaQ hb;simp[hlt.2 this]
  | false=>
   have hnl:¬UInt8.ofNat a<UInt8.ofNat b:=fun h=>by have:=hlt.1 h;have:=Qqh hb;omega
   simp only[cond_false]
   cases hq:Nat.beq a b with
   | true=>have:=Qm hq;subst this;simp[hnl,QGj h2 h4]
   | false=>
    have hne:UInt8.ofNat a≠UInt8.ofNat b:=fun e=>QlU hq (QBr h1 h3 e)
    simp[hnl,hne]
end Go.Va
