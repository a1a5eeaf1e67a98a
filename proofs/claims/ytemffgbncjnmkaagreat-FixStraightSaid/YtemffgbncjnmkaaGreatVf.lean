import Derived.Test.YtemffgbncjnmkaaGreatVd
set_option linter.unusedVariables false
set_option linter.unusedSectionVars false
set_option linter.unusedSimpArgs false
noncomputable section
namespace Go.Va
open Go Go.Sh
variable [Vb]
section cop
variable (P:Program)
def szO (t:TypeId):Option Nat:=match P.info? t with
 | some i=>some i.size
 | none=>none
def agO (t:TypeId):Option Bool:=match P.underlying t with
 | some d=>some (match d with
  | .struct _=>true
  | .array _ _=>true
  | _=>false)
 | none=>none
def zrO (t:TypeId):Option (List FV):=match P.info? t with
 | some i=>match i.zero with
  | some z=>match ofVL z.cells.toList with
   | some l=>bif l.all oneF&&Nat.beq l.length i.size then some l else none
   | none=>none
  | none=>none
 | none=>none
def kdO (t:TypeId):Option KD:=match P.underlying t with
 | some .string=>some .s
 | some (.int k)=>some (.i k)
 | _=>none
def zvO (t:TypeId):Option FV:=match P.info? t with
 | some i=>match i.zero with
  | some z=>ofV z
  | none=>none
 | none=>none
def QxF:TypeDesc→Bool
 | .interface _=>true
 | _=>false
def eqT:TypeDesc→Option EqK
 | .bool=>some .b
 | .pointer _=>some .p
 | .slice _=>some .s
 | .func _ _ _=>some .f
 | _=>none
def numT:TypeDesc→Bool
 | .int _=>true
 | .string=>true
 | _=>false
def stT:TypeDesc→Bool
 | .struct _=>true
 | _=>false
def plT (fs:List Field):Option (List (Nat×Nat)):=match fs with
 | []=>some []
 | f::r=>match P.info? f.type,plT r with
  | some i,some l=>some ((f.offset,i.size)::l)
  | _,_=>none
def plsL (l:List (Nat×Nat)):List (Nat×Operand)→Option (List (Nat×Nat))
 | []=>some []
 | (i,_)::r=>match l[i]?,plsL l r with
  | some p,some q=>some (p::q)
  | _,_=>none
def plsK (k:Nat):List (Nat×Operand)→List (Nat×Nat)
 | []=>[]
 | (i,_)::r=>(i * k,k)::plsK k r
def eqFs (rc:TypeId→Option EqD):List Field→Option (List (Nat×Nat×Bool×EqD))
 | []=>some []
 | f::r=>(szO P f.type).bind fun k=>(agO P f.type).bind fun b=>(rc f.type).bind fun d=>(eqFs rc r).bind fun l=>if f.name = "_" then none else some ((f.offset,k,b,d)::l)
def eqDT:Nat→TypeId→Option EqD
 | 0,_=>none
 | n+1,t=>match P.underlying t with
  | some (.int _)=>some .i
  | some .bool=>some .b
  | some .string=>some .s
  | some (.struct fs)=>if P.stoodInHeld t=true then none else (eqFs P (eqDT n) fs.toList).bind fun l=>some (.st l)
  | _=>none
def invE (name:String)(t:TypeId):Option IM:=match P.info? t with
 | none=>none
 | some i=>match i.methods.find? (·.name == name) with
  | none=>none
  | some m=>match m.path.toList with
   | _::_=>none
   | []=>match m.func with
    | none=>none
    | some p=>match P.underlying t with
     | some (.pointer e)=>(match p.2 with
      | true=>some ⟨t,p.1,false,0,false⟩
      | false=>(agO P e).bind fun b=>match b with
       | true=>none
       | false=>some ⟨t,p.1,true,1,false⟩)
     | _=>none
def invT (name:String):List IM:=(List.range P.types.size).filterMap (invE P name)
def cop (o:Oper):Option MOp:=match o.op with
 | .move x=>(c1 x).bind fun x=>some (.mov x)
 | .assign x=>(c1 x).bind fun x=>some (.mov x)
 | .pick c a b=>(c1 c).bind fun c=>(c1 a).bind fun a=>(c1 b).bind fun b=>some (.pick c a b)
 | .nilCheck x=>(c1 x).bind fun x=>some (.nilc x)
 | .binOp op t x y _=>(P.underlying t).bind fun d=>(c1 x).bind fun x=>(c1 y).bind fun y=>
   if numT d=true then some (.bin op x y) else if stT d=true then (if P.eqGuardType P.depth t=true then none else (eqDT P 8 t).bind fun e=>match op with
    | .eql=>some (.eqs false e x y)
    | .neq=>some (.eqs true e x y)
    | _=>none) else (eqT d).bind fun kd=>match op with
    | .eql=>some (.eqb kd false x y)
    | .neq=>some (.eqb kd true x y)
    | _=>none
 | .unOp op _ x=>(c1 x).bind fun x=>match op with
  | .not=>some (.not x)
  | .neg=>some (.neg x)
  | _=>none
 | .convert s d x=>(c1 x).bind fun x=>match P.underlying s,P.underlying d with
  | some (.int _),some (.int k)=>some (.conv k x)
  | _,_=>none
 | .makeFunc f a b=>(c1L a.toList).bind fun a=>(c1L b.toList).bind fun b=>some (.mkf f a b)
 | .typeAssert x _ a ok=>(P.underlying a).bind fun d=>(c1 x).bind fun x=>if QxF d=true then none else match ok with
  | true=>some (.tas a x)
  | false=>none
 | .makeInterface t x=>(P.underlying t).bind fun d=>(c1 x).bind fun x=>if QxF d=true then none else some (.ifc t x)
 | .slice t x lo hi mx=>(c1 x).bind fun x=>(c1O lo).bind fun lo=>(c1O hi).bind fun hi=>(c1O mx).bind fun mx=>match P.underlying t with
  | some (.slice e)=>(szO P e).bind fun k=>some (.slc k x lo hi mx)
  | some .string=>match mx with
   | none=>some (.slcS x lo hi)
   | some _=>none
  | some (.array n e)=>(szO P e).bind fun k=>some (.slcA n k x lo hi mx)
  | _=>none
 | .fieldAddr t x i=>(c1 x).bind fun x=>match P.underlying t with
  | some (.struct fs)=>(fs[i]?).bind fun f=>(szO P f.type).bind fun k=>if 0<k then some (.fadr f.offset x) else none
  | _=>none
 | .field t x i=>(c1 x).bind fun x=>match P.underlying t with
  | some (.struct fs)=>(fs[i]?).bind fun f=>(szO P f.type).bind fun k=>(agO P f.type).bind fun b=>some (.fld f.offset k b x)
  | _=>none
 | .indexAddr t x i=>(c1 x).bind fun x=>(c1 i).bind fun i=>match P.underlying t with
  | some (.slice e)=>(szO P e).bind fun k=>some (.iadr k x i)
  | some (.array n e)=>(szO P e).bind fun k=>some (.iadrA n k x i)
  | _=>none
 | .index t x i=>(c1 x).bind fun x=>(c1 i).bind fun i=>match P.underlying t with
  | some .string=>some (.idxS x i)
  | some (.array n e)=>(szO P e).bind fun k=>(agO P e).bind fun b=>some (.idxA n k b x i)
  | _=>none
 | .extract x i=>(c1 x).bind fun x=>some (.ext x i)
 | .build t ps=>(c1P ps.toList).bind fun l=>match P.underlying t with
  | some (.struct fs)=>(zrO P t).bind fun z=>(plT P fs.toList).bind fun pl=>(plsL pl ps.toList).bind fun pl=>some (.bld z pl l)
  | some (.array _ e)=>(zrO P t).bind fun z=>(szO P e).bind fun k=>some (.bld z (plsK k ps.toList) l)
  | _=>none
 | .load t x=>(c1 x).bind fun x=>(agO P t).bind fun b=>(szO P t).bind fun k=>if 0<k then some (.ld k b x) else none
 | .alloc t=>(zrO P t).bind fun z=>some (.alc z)
 | .box t x=>(c1 x).bind fun x=>some (.box x)
 | .store t a v=>(c1 a).bind fun a=>(c1 v).bind fun v=>(szO P t).bind fun k=>some (.st k a v)
 | .buildSlice t n ps=>(c1P ps.toList).bind fun l=>match P.underlying t with
  | some (.slice e)=>(zrO P e).bind fun z=>if n * z.length≤16777216∧0<n * z.length then some (.bsl z.length n (List.replicate n z).flatten (plsK z.length ps.toList) l) else if n=0∧ps.toList=[] then some .bs0 else none
  | _=>none
 | .makeSlice t l c=>(c1 l).bind fun l=>(c1 c).bind fun c=>match P.underlying t with
  | some (.slice e)=>(zrO P e).bind fun z=>(P.info? e).bind fun i=>if 0<z.length then some (.mks z.length i.bytes z l c) else none
  | _=>none
 | .makeMap t r=>(c1O r).bind fun r=>match P.underlying t with
  | some (.map kt et)=>(kdO P kt).bind fun d=>some (.mkm d r)
  | _=>none
 | .lookup t x i ok=>(c1 x).bind fun x=>(c1 i).bind fun i=>match P.underlying t with
  | some (.map kt et)=>(kdO P kt).bind fun d=>(zvO P et).bind fun z=>some (.lkp d z ok x i)
  | _=>none
 | .mapUpdate t m k v=>(c1 m).bind fun m=>(c1 k).bind fun k=>(c1 v).bind fun v=>match P.underlying t with
  | some (.map kt et)=>(kdO P kt).bind fun d=>some (.mup d m k v)
  | _=>none
 | .range t x=>(c1 x).bind fun x=>match P.underlying t with
  | some (.map _ _)=>some (.rng x)
  | _=>none
 | .next x s=>(c1 x).bind fun x=>match s with
  | true=>none
  | false=>some (.nxt x)
 | .entry x=>(c1 x).bind fun x=>some (.ent x)
 | .call c=>match c.callee with
  | .value f=>(c1 f).bind fun f=>(c1L c.args.toList).bind fun l=>some (.call f l)
  | .builtin .len=>match c.args.toList,c.argTypes.toList with
   | [x],[t]=>(c1 x).bind fun x=>match P.underlying t with
    | some (.slice _)=>some (.lenS x)
    | some .string=>some (.lenT x)
    | some (.map _ _)=>some (.lenM x)
    | _=>none
   | _,_=>none
  | .invoke x name=>(c1 x).bind fun x=>(c1L c.args.toList).bind fun l=>some (.inv (invT P name) x l)
  | .builtin .cap=>match c.args.toList,c.argTypes.toList with
   | [x],[t]=>(c1 x).bind fun x=>match P.underlying t with
    | some (.slice _)=>some (.capS x)
    | _=>none
   | _,_=>none
  | .builtin .min=>match c.args.toList with
   | [x,y]=>(c1 x).bind fun x=>(c1 y).bind fun y=>some (.mn x y)
   | _=>none
  | .builtin .max=>match c.args.toList with
   | [x,y]=>(c1 x).bind fun x=>(c1 y).bind fun y=>some (.mx x y)
   | _=>none
  | .builtin .append=>match c.args.toList,c.argTypes.toList with
   | [s,x],[t,t']=>(c1 s).bind fun s=>(c1 x).bind fun x=>match P.underlying t with
    | some (.slice e)=>(zrO P e).bind fun z=>(P.info? e).bind fun i=>if 0<z.length∧t=t' then some (.app z.length i.bytes s x) else if 0<z.length then (match P.underlying t' with
     | some (.int _)=>some (.apc z.length i.bytes z s x)
     | _=>none) else none
    | _=>none
   | _,_=>none
  | _=>none
 | _=>none
end cop
variable {P:Program}
theorem QbA {t k:Nat}(h:szO P t=some k):Siz P t k:=⟨fun w=>by
 unfold szO at h
 cases hi:P.info? t with
 | none=>rw[hi] at h;cases h
 | some i=>rw[hi] at h;simp only[Option.some.injEq] at h;simp[sizeOf,typeInfo,hi,h]⟩
theorem Qjr {t:Nat}{b:Bool}(h:agO P t=some b):IsA P t b:=⟨fun w=>by
 unfold agO at h
 cases hi:P.underlying t with
 | none=>rw[hi] at h;cases h
 | some d=>
  rw[hi] at h;simp only[Option.some.injEq] at h
  simp only[isAgg]
  rw[Sem.run_bind,run_underlying hi,Result.andThen_ok]
  cases d<;>simp_all⟩
theorem Qe5 {t:Nat}{l:List FV}(h:zrO P t=some l):∃i z,P.info? t=some i∧i.zero=some z∧ofVL z.cells.toList=some l∧l.all oneF=true∧l.length=i.size∧z.cells.size=i.size:=by
 unfold zrO at h
 cases hi:P.info? t with
 | none=>rw[hi] at h;cases h
 | some i=>
  rw[hi] at h
  simp only at h
  cases hz:i.zero with
  | none=>rw[hz] at h;cases h
  | some z=>
   rw[hz] at h
   simp only at h
   cases hl:ofVL z.cells.toList with
   | none=>rw[hl] at h;cases h
   | some l'=>
    rw[hl] at h
    simp only at h
    cases hc:l'.all oneF&&Nat.beq l'.length i.size with
    | false=>rw[hc] at h;cases h
    | true=>
     rw[hc] at h
     simp only[cond_true,Option.some.injEq] at h
     subst h
     simp only[Bool.and_eq_true] at hc
     have h1:=Qm hc.2
     have h2:=QS (Qcf ⟨fun _=>none,fun _=>0,fun _=>false,#[],[],fun _=>.pointer none⟩ hl)
     exact⟨i,z,rfl,hz,hl,hc.1,h1,by rw[←h1,←h2];simp⟩
theorem QIl {t:Nat}{l:List FV}(h:zrO P t=some l):∃i z,Inf P t l.length i.bytes z∧P.info? t=some i∧ofVL z.cells.toList=some l∧l.all oneF=true∧z.cells.size=l.length:=by
 obtain⟨i,z,h1,h2,h3,h4,h5,h6⟩:=Qe5 h
 exact⟨i,z,⟨⟨i,h1,h5.symm,rfl,h2⟩⟩,h1,h3,h4,by rw[h6,h5]⟩
theorem QJF {E:Env}{op:BinOp}{t:TypeId}{x y:Operand}{k:IntKind}{a b:Int}{r:FV}(h:binI op k a b=some r):oBin P op t x y (.int k a) (.int k b) fun v=>den E r=some v:=by
 cases op<;>simp only[binI,Option.some.injEq] at h<;>try (subst h)
 case add=>rw[QBY];simp only[den,Qtj];rfl
 case sub=>rw[QvQ];simp only[den,Qtj];rfl
 case mul=>rw[Qml];simp only[den,Qtj];rfl
 case quo=>
  cases hb:ieq b (.ofNat 0) with
  | true=>rw[hb] at h;cases h
  | false=>
   rw[hb] at h;simp only[cond_false,Option.some.injEq] at h;subst h
   rw[Qkg] at hb
   rw[QpU (by simpa using hb)];simp only[den,Qtj]
 case rem=>
  cases hb:ieq b (.ofNat 0) with
  | true=>rw[hb] at h;cases h
  | false=>
   rw[hb] at h;simp only[cond_false,Option.some.injEq] at h;subst h
   rw[Qkg] at hb
   rw[QvR (by simpa using hb)];simp only[den]
 case eql=>rw[QBX];simp only[den,Qkg]
 case neq=>rw[QBS];simp only[den,Qkg,decide_not]
 case lss=>rw[QBT];simp only[den,Qd5]
 case leq=>rw[QBU];simp only[den,Qd5,←decide_not];congr 3;simp
 case gtr=>rw[QBV];simp only[den,Qd5]
 case geq=>rw[QBW];simp only[den,Qd5,←decide_not];congr 3;simp
 case and=>exact (Qbk (v:=.int k (k.wrap (BitVec.ofInt k.bits a &&& BitVec.ofInt k.bits b).toNat)) fun w=>by simp[binOp,Op.intBits]).2 rfl
 case or=>exact (Qbk (v:=.int k (k.wrap (BitVec.ofInt k.bits a ||| BitVec.ofInt k.bits b).toNat)) fun w=>by simp[binOp,Op.intBits]).2 rfl
 case xor=>exact (Qbk (v:=.int k (k.wrap (BitVec.ofInt k.bits a ^^^ BitVec.ofInt k.bits b).toNat)) fun w=>by simp[binOp,Op.intBits]).2 rfl
 all_goals cases h
theorem QJ6 {E:Env}{op:BinOp}{t:TypeId}{x y:Operand}{k k':IntKind}{a b:Int}{r:FV}(h:shI op k a b=some r):oBin P op t x y (.int k a) (.int k' b) fun v=>den E r=some v:=by
 cases b with
 | negSucc m=>simp[shI] at h
 | ofNat m=>
  cases op<;>simp only[shI,Option.some.injEq] at h<;>try (cases h;done)
  case shl=>
   subst h
   refine Sp.of (v:=.int k (k.wrap (a * 2 ^ (Nat.min m k.bits)))) (fun w=>QA ?_) rfl
   have h0:¬(Int.ofNat m<0):=by simp
   have h1:(Int.ofNat m).toNat=m:=rfl
   simp only[eqGuard,binOp,Op.shift,if_neg h0,h1]
   rfl
  case shr=>
   subst h
   refine Sp.of (v:=.int k (a.fdiv (2 ^ (Nat.min m k.bits)))) (fun w=>QA ?_) rfl
   have h0:¬(Int.ofNat m<0):=by simp
   have h1:(Int.ofNat m).toNat=m:=rfl
   simp only[eqGuard,binOp,Op.shift,if_neg h0,h1]
   rfl
theorem Qzf {a b:List Nat}(ha:Q0 a=true)(hb:Q0 b=true):Q0 (a++b)=true:=by
 simp only[Q0,List.all_append,Bool.and_eq_true] at *
 exact⟨ha,hb⟩
theorem QJD {E:Env}{op:BinOp}{t:TypeId}{x y:Operand}{a b:List Nat}{r:FV}(ha:Q0 a=true)(hb:Q0 b=true)(h:binS op a b=some r) :
  oBin P op t x y (str (a.map UInt8.ofNat)) (str (b.map UInt8.ofNat)) fun v=>den E r=some v:=by
 have hl:=QGj ha hb
 have he:=QB8 ha hb
 have e2:∀a b:List UInt8,(a == b)=decide (a=b):=fun a b=>by rw[Bool.eq_iff_iff];simp
 cases op<;>simp only[binS,Option.some.injEq] at h<;>try (subst h)
 case add=>
  cases hg:bigS a b with
  | false=>rw[hg] at h;cases h
  | true=>
   rw[hg] at h;simp only[cond_true,Option.some.injEq] at h;subst h
   have hlen:=Qag hg
   refine (QcD (v:=str (a.map UInt8.ofNat++b.map UInt8.ofNat)) fun w=>?_).2 ?_
   ·have h1:¬(((a.length+b.length:Nat):Int) > IntKind.i64.max):=by
     have:IntKind.i64.max=9223372036854775807:=by decide
     omega
    have hs:∀l:List UInt8,(⟨l.toArray⟩:ByteArray).size=l.length:=fun l=>List.size_toArray
    simp only[Op.stringOp,hs,List.length_map,h1,if_false]
    have:((⟨(a.map UInt8.ofNat).toArray⟩:ByteArray)++⟨(b.map UInt8.ofNat).toArray⟩)=⟨(a.map UInt8.ofNat++b.map UInt8.ofNat).toArray⟩:=by
     apply ByteArray.ext
     simp[ByteArray.data_append]
    rw[this]
    rfl
   ·simp only[den]
    rw[if_pos (Qzf ha hb),List.map_append]
 case eql=>rw[QhW];simp only[den,he]
 case neq=>rw[QhV];simp only[den,he,decide_not]
 case lss=>exact (QcD fun w=>by simp only[Op.stringOp,toList_mk];rfl).2 (by simp only[den,hl])
 case leq=>exact (QcD fun w=>by simp only[Op.stringOp,toList_mk,e2];rfl).2 (by simp only[den,hl,he])
 case gtr=>exact (QcD fun w=>by simp only[Op.stringOp,toList_mk,e2];rfl).2 (by simp only[den,hl,he])
 case geq=>exact (QcD fun w=>by simp only[Op.stringOp,toList_mk];rfl).2 (by simp only[den,hl])
 all_goals cases h
theorem Qcr {E:Env}{l:List Nat}{v:Value}(h:den E (.str l)=some v):Q0 l=true∧v=str (l.map UInt8.ofNat):=by
 simp only[den] at h
 by_cases hc:Q0 l=true
 ·rw[if_pos hc] at h;simp only[Option.some.injEq] at h;exact⟨hc,h.symm⟩
 ·rw[if_neg hc] at h;cases h
theorem QmO {E:Env}{l:List SB}{v:Value}(h:den E (.sx l)=some v):Qbq l=true∧v=str (l.map sbU):=by
 simp only[den] at h
 by_cases hc:Qbq l=true
 ·rw[if_pos hc] at h;simp only[Option.some.injEq] at h;exact⟨hc,h.symm⟩
 ·rw[if_neg hc] at h;cases h
theorem QdQ {a:SB}{l:List SB}(h:Qbq (a::l)=true):sbOk a=true∧Qbq l=true:=by
 simpa only [Qbq,List.all_cons,Bool.and_eq_true] using h
theorem QBC {a b:List SB}(ha:Qbq a=true)(hb:Qbq b=true):Qbq (a++b)=true:=by
 simp only[Qbq,List.all_append,Bool.and_eq_true] at *
 exact⟨ha,hb⟩
theorem QGt {l:List Nat}(h:Q0 l=true):Qbq (ksb l)=true:=by
 simp only[Qbq,ksb,List.all_map,Q0] at *
 exact h
theorem QyJ (l:List Nat):(ksb l).map sbU=l.map UInt8.ofNat:=by
 simp only[ksb,List.map_map];rfl
def sbI:SB→Int
 | .k n=>(n:Int)
 | .v n _ _=>n.ev
theorem Qyq {a:SB}(h:sbOk a=true):0≤sbI a∧sbI a<256:=by
 cases a with
 | k n=>have:=QaQ h;simp only[sbI];omega
 | v n lo hi=>simp only[sbOk,decide_eq_true_eq] at h;simp only[sbI];omega
theorem QBD (a:SB):sbU a=UInt8.ofNat (sbI a).toNat:=by cases a<;>rfl
theorem Qtp {a b:SB}(ha:sbOk a=true)(hb:sbOk b=true):sbU a=sbU b↔sbI a=sbI b:=by
 have h1:=Qyq ha
 have h2:=Qyq hb
 rw[QBD,QBD]
 refine⟨fun e=>?_,fun e=>by rw[e]⟩
 have:=QBr (by omega) (by omega) e
 omega
def accV:Option SC→Bool
 | none=>true
 | some t=>t.ev
theorem Qzk (acc:Option SC)(b:SC):accV (accB acc b)=(accV acc&&b.ev):=by
 cases acc with
 | none=>simp[accB,accV]
 | some t=>rfl
theorem Qsv:∀ {x y:List SB}(acc:Option SC),Qbq x=true→Qbq y=true→(∃b,eqX x y acc=.bool b∧b=(accV acc&&decide (x.map sbU=y.map sbU)))∨∃b,(eqX x y acc=.sb b∧b.ev=(accV acc&&decide (x.map sbU=y.map sbU)))∨(eqX x y acc=.bool false∧x.map sbU≠y.map sbU)
 | [],[],acc,_,_=>by
  cases acc with
  | none=>exact .inl ⟨true,rfl,by simp[accV]⟩
  | some t=>exact .inr ⟨t,.inl ⟨rfl,by simp[accV]⟩⟩
 | [],_::_,acc,_,_=>.inr ⟨.le (.c 0) (.c 0),.inr ⟨rfl,by simp⟩⟩
 | .k _::_,[],acc,_,_=>.inr ⟨.le (.c 0) (.c 0),.inr ⟨rfl,by simp⟩⟩
 | .v _ _ _::_,[],acc,_,_=>.inr ⟨.le (.c 0) (.c 0),.inr ⟨rfl,by simp⟩⟩
 | .k a::x,.k b::y,acc,hx,hy=>by
  obtain⟨h1,h2⟩:=QdQ hx
  obtain⟨h3,h4⟩:=QdQ hy
  have hi:=Qtp h1 h3
  simp only[sbI,Int.ofNat_inj] at hi
  simp only[eqX]
  cases hb:Nat.beq a b with
  | true=>
   have e:=hi.2 (Qm hb)
   simp only[cond_true,List.map_cons,List.cons.injEq,e,true_and]
   rcases Qsv acc h2 h4 with h | ⟨b,h | h⟩
   ·exact .inl h
   ·exact .inr ⟨b,.inl h⟩
   ·exact .inr ⟨b,.inr ⟨h.1,fun e=>h.2 (List.cons.inj e).2⟩⟩
  | false=>
   have e:¬sbU (.k a)=sbU (.k b):=fun e=>QlU hb (hi.1 e)
   exact .inr ⟨.le (.c 0) (.c 0),.inr ⟨rfl,by simp[e]⟩⟩
 | .k a::x,.v b lo hi::y,acc,hx,hy=>by
  obtain⟨h1,h2⟩:=QdQ hx
  obtain⟨h3,h4⟩:=QdQ hy
  have hi':=Qtp h1 h3
  simp only[sbI] at hi'
  have hd:decide (sbU (.k a)=sbU (.v b lo hi))=SC.ev (.eq b (.c (.ofNat a))):=by
   simp only[SC.ev,SE.ev]
   apply decide_eq_decide.2;rw[hi'];exact⟨Eq.symm,Eq.symm⟩
  simp only[eqX]
  cases hb:ile lo (Int.ofNat a)&&ile (Int.ofNat a) hi with
  | false=>
   have hn:¬sbU (.k a)=sbU (.v b lo hi):=fun e=>by
    have e:=hi'.1 e
    simp only[sbOk,decide_eq_true_eq] at h3
    have e1:Int.ofNat a=(a:Int):=rfl
    have g1:ile lo (Int.ofNat a)=true:=by unfold ile;rw[Qd5];simp;omega
    have g2:ile (Int.ofNat a) hi=true:=by unfold ile;rw[Qd5];simp;omega
    rw[g1,g2] at hb;cases hb
   exact .inr ⟨.le (.c 0) (.c 0),.inr ⟨rfl,fun e=>hn (List.cons.inj e).1⟩⟩
  | true=>
   simp only[cond_true,List.map_cons,List.cons.injEq,Bool.decide_and,hd]
   rw[←Bool.and_assoc,←Qzk]
   rcases Qsv (accB acc (.eq b (.c (.ofNat a)))) h2 h4 with h | ⟨b,h | h⟩
   ·exact .inl h
   ·exact .inr ⟨b,.inl h⟩
   ·exact .inr ⟨b,.inr ⟨h.1,fun e=>h.2 (List.cons.inj e).2⟩⟩
 | .v a lo hi::x,.k b::y,acc,hx,hy=>by
  obtain⟨h1,h2⟩:=QdQ hx
  obtain⟨h3,h4⟩:=QdQ hy
  have hi':=Qtp h1 h3
  simp only[sbI] at hi'
  have hd:decide (sbU (.v a lo hi)=sbU (.k b))=SC.ev (.eq a (.c (.ofNat b))):=by
   simp only[SC.ev,SE.ev]
   apply decide_eq_decide.2;rw[hi'];exact Iff.rfl
  simp only[eqX]
  cases hb:ile lo (Int.ofNat b)&&ile (Int.ofNat b) hi with
  | false=>
   have hn:¬sbU (.v a lo hi)=sbU (.k b):=fun e=>by
    have e:=hi'.1 e
    simp only[sbOk,decide_eq_true_eq] at h1
    have e1:Int.ofNat b=(b:Int):=rfl
    have g1:ile lo (Int.ofNat b)=true:=by unfold ile;rw[Qd5];simp;omega
    have g2:ile (Int.ofNat b) hi=true:=by unfold ile;rw[Qd5];simp;omega
    rw[g1,g2] at hb;cases hb
   exact .inr ⟨.le (.c 0) (.c 0),.inr ⟨rfl,fun e=>hn (List.cons.inj e).1⟩⟩
  | true=>
   simp only[cond_true,List.map_cons,List.cons.injEq,Bool.decide_and,hd]
   rw[←Bool.and_assoc,←Qzk]
   rcases Qsv (accB acc (.eq a (.c (.ofNat b)))) h2 h4 with h | ⟨b,h | h⟩
   ·exact .inl h
   ·exact .inr ⟨b,.inl h⟩
   ·exact .inr ⟨b,.inr ⟨h.1,fun e=>h.2 (List.cons.inj e).2⟩⟩
 | .v a lo hi::x,.v b lo' hi'::y,acc,hx,hy=>by
  obtain⟨h1,h2⟩:=QdQ hx
  obtain⟨h3,h4⟩:=QdQ hy
  have hj:=Qtp h1 h3
  simp only[sbI] at hj
  have hd:decide (sbU (.v a lo hi)=sbU (.v b lo' hi'))=SC.ev (.eq a b):=by
   simp only[SC.ev]
   rw[Bool.eq_iff_iff];simp only[decide_eq_true_eq,hj]
  simp only[eqX,List.map_cons,List.cons.injEq,Bool.decide_and,hd]
  rw[←Bool.and_assoc,←Qzk]
  rcases Qsv (accB acc (.eq a b)) h2 h4 with h | ⟨b,h | h⟩
  ·exact .inl h
  ·exact .inr ⟨b,.inl h⟩
  ·exact .inr ⟨b,.inr ⟨h.1,fun e=>h.2 (List.cons.inj e).2⟩⟩
theorem QJi {x y:List SB}(hx:Qbq x=true)(hy:Qbq y=true):(eqX x y none=.bool (decide (x.map sbU=y.map sbU)))∨∃c,eqX x y none=.sb c∧c.ev=decide (x.map sbU=y.map sbU):=by
 rcases Qsv none hx hy with⟨b,h1,h2⟩ | ⟨b,⟨h1,h2⟩ | ⟨h1,h2⟩⟩
 ·left;rw[h1,h2];simp[accV]
 ·right;exact⟨b,h1,by rw[h2];simp[accV]⟩
 ·left;rw[h1];simp[h2]
theorem Qzg {E:Env}{op:BinOp}{t:TypeId}{x y:Operand}{a b:List SB}{r:FV}(ha:Qbq a=true)(hb:Qbq b=true)(h:binX op a b=some r) :
  oBin P op t x y (str (a.map sbU)) (str (b.map sbU)) fun v=>den E r=some v:=by
 have he:=QJi ha hb
 cases op<;>simp only[binX,Option.some.injEq] at h
 case add=>
  cases hg:bigX a b with
  | false=>rw[hg] at h;cases h
  | true=>
   rw[hg] at h;simp only[cond_true,Option.some.injEq] at h;subst h
   have hlen:=Qag hg
   refine (QcD (v:=str (a.map sbU++b.map sbU)) fun w=>?_).2 ?_
   ·have h1:¬(((a.length+b.length:Nat):Int) > IntKind.i64.max):=by
     have:IntKind.i64.max=9223372036854775807:=by decide
     omega
    have hs:∀l:List UInt8,(⟨l.toArray⟩:ByteArray).size=l.length:=fun l=>List.size_toArray
    simp only[Op.stringOp,hs,List.length_map,h1,if_false]
    have:((⟨(a.map sbU).toArray⟩:ByteArray)++⟨(b.map sbU).toArray⟩)=⟨(a.map sbU++b.map sbU).toArray⟩:=by
     apply ByteArray.ext
     simp[ByteArray.data_append]
    rw[this]
    rfl
   ·simp only[den]
    rw[if_pos (QBC ha hb),List.map_append]
 case eql=>
  rw[QhW];subst h
  rcases he with he | ⟨c,he,hc⟩
  ·simp only[he,den]
  ·simp only[he,den,hc]
 case neq=>
  rw[QhV]
  rcases he with he | ⟨c,he,hc⟩
  ·rw[he] at h;simp only[Option.some.injEq] at h;subst h;simp only[den,decide_not]
  ·rw[he] at h;simp only[Option.some.injEq] at h;subst h;simp only[den,SC.ev,hc,decide_not]
 all_goals cases h
theorem tri {E:Env}{c d x y:Bool}{p:SC}{r:FV}(h:(bif c then some (.bool x) else bif d then some (.bool y) else some (.sb p))=some r)(hc:c=true→p.ev=x)(hd:d=true→p.ev=y):den E r=some (.bool p.ev):=by
 cases c with
 | true=>simp only[cond_true,Option.some.injEq] at h;subst h;rw[hc rfl];rfl
 | false=>
  cases d with
  | true=>simp only[cond_true,cond_false,Option.some.injEq] at h;subst h;rw[hd rfl];rfl
  | false=>simp only[cond_false,Option.some.injEq] at h;subst h;rfl
theorem Qce {α:Type}{a b:α}(h:some a=some b):a=b:=by simpa using h
theorem QHK {E:Env}{k:IntKind}{a b:SE}{la ha lb hb:Int}{r:FV}(ga:la≤a.ev∧a.ev≤ha)(gb:lb≤b.ev∧b.ev≤hb)(h:binZ .eql k a la ha b lb hb=some r):den E r=some (.bool (decide (a.ev=b.ev))):=by
 simp only[binZ] at h
 refine tri h (fun e=>?_) (fun e=>?_)
 ·simp only[Bool.or_eq_true] at e
  rcases e with e | e<;>(have:=Qfv e;simp[SC.ev];omega)
 ·simp only[Bool.or_eq_true,Bool.and_eq_true] at e
  rcases e with e | e
  ·have e1:=Qbn e.1.1;have e2:=Qbn e.1.2;have e3:=Qbn e.2
   simp[SC.ev];omega
  ·rw[QlS e];simp[SC.ev]
theorem ileE {a b:SE}{x y:Int}(e:(ile x y||eqE a b)=true):x≤y∨a=b:=by
 simp only[Bool.or_eq_true] at e
 rcases e with e | e
 ·exact .inl (Qbc e)
 ·exact .inr (QlS e)
theorem QyA {E:Env}{k:IntKind}{n:Int}(h:loK k≤n∧n≤hiK k):den E (opZ k n)=some (.int k n):=by
 unfold opZ
 simp only[den]
 exact if_pos h
theorem QGA (k:IntKind):hiK k<2 ^ k.bits:=by cases k<;>decide
theorem Qnw {k:IntKind}{a:Int}(h0:0≤a)(h1:a≤hiK k):(BitVec.ofInt k.bits a).toNat=a.toNat:=by
 obtain⟨n,rfl⟩:=Int.eq_ofNat_of_zero_le h0
 have:=QGA k
 have hn:n<2 ^ k.bits:=by
  have:(n:Int)<((2 ^ k.bits:Nat):Int):=by rw[Int.natCast_pow];exact Int.lt_of_le_of_lt h1 this
  exact Int.ofNat_lt.1 this
 rw[BitVec.toNat_ofInt]
 simp only[Int.toNat_natCast]
 rw[Int.emod_eq_of_lt (Int.natCast_nonneg _) (by exact_mod_cast hn)]
 simp
theorem QFT {n:Nat}(h:pow2 n=true):∃j,n=2 ^ j:=by
 have:=Qm h
 exact⟨Nat.log2 n,by rw[←this];simp[Nat.shiftLeft_eq]⟩
theorem QGh (k:IntKind):loK k≤0:=by cases k<;>decide
theorem QJJ {k:IntKind}{a b:Int}(h0:0≤a)(h1:a≤hiK k)(g0:0≤b)(g1:b≤hiK k):andI k a b=((a.toNat &&& b.toNat:Nat):Int):=by
 unfold andI
 rw[BitVec.toNat_and,Qnw h0 h1,Qnw g0 g1]
 refine Qrt (by have:=QGh k;omega) ?_
 have:a.toNat &&& b.toNat≤a.toNat:=Nat.and_le_left
 omega
theorem QFX {k:IntKind}{a b:Int}(h0:0≤a)(h1:a≤hiK k)(g0:0≤b)(g1:b≤hiK k)(h:((a.toNat ||| b.toNat:Nat):Int)≤hiK k):orI k a b=((a.toNat ||| b.toNat:Nat):Int):=by
 unfold orI
 rw[BitVec.toNat_or,Qnw h0 h1,Qnw g0 g1]
 exact Qrt (by have:=QGh k;omega) h
theorem QHL {E:Env}{k:IntKind}{a b:SE}{la ha lb hb:Int}(ga:la≤a.ev∧a.ev≤ha)(gb:lb≤b.ev∧b.ev≤hb):den E (andZ k a la ha b lb hb)=some (.int k (andI k a.ev b.ev)):=by
 have op:den E (opZ k (andI k a.ev b.ev))=some (.int k (andI k a.ev b.ev)):=QyA (Qpr k _)
 unfold andZ
 split
 ·rename_i c
  cases hc:ieq (.ofNat c) hb&&(pow2 c.succ&&(ile (.ofNat 0) la&&(ile ha (hiK k)&&ile (.ofNat c) (hiK k)))) with
  | false=>exact op
  | true=>
   simp only[Bool.and_eq_true] at hc
   have e1:=Qbn hc.1
   obtain⟨j,hj⟩:=QFT hc.2.1
   have e2:0≤la:=Qbc hc.2.2.1
   have e3:=Qbc hc.2.2.2.1
   have hcb:(c:Int)≤hiK k:=Qbc hc.2.2.2.2
   have hcn:Int.ofNat c=(c:Int):=rfl
   have eb:b.ev=(c:Int):=by omega
   have ha0:0≤a.ev:=by omega
   simp only[cond_true]
   ·have key:andI k a.ev b.ev=a.ev % (c.succ:Int):=by
     rw[QJJ ha0 (by omega) (by omega) (by omega),eb]
     simp only[Int.toNat_natCast]
     have ec:c=2 ^ j - 1:=by omega
     have this:a.ev.toNat &&& c=a.ev.toNat % c.succ:=by
      have e4:=Nat.and_two_pow_sub_one_eq_mod a.ev.toNat j
      rw[←ec] at e4
      rw[e4,hj]
     rw[this]
     obtain⟨n,hn⟩:=Int.eq_ofNat_of_zero_le ha0
     rw[hn];simp
    rw[key]
    cases hl:ile ha (.ofNat c) with
    | true=>
     have:=Qbc hl
     simp only[cond_true]
     rw[Qer ga.1 ga.2,Int.emod_eq_of_lt ha0 (by omega)]
    | false=>
     simp only[cond_false]
     have h1:=Int.emod_nonneg a.ev (b:=(c.succ:Int)) (by omega)
     have h2:=Int.emod_lt_of_pos a.ev (b:=(c.succ:Int)) (by omega)
     exact Qer (n:=.mod a (.c (.ofNat c.succ))) (show (0:Int)≤a.ev % (c.succ:Int) from h1) (show a.ev % (c.succ:Int)≤(c:Int) by omega)
 ·exact op
theorem QIQ {E:Env}{k:IntKind}{a b:SE}{la ha lb hb:Int}(ga:la≤a.ev∧a.ev≤ha)(gb:lb≤b.ev∧b.ev≤hb):den E (orZ k a la ha b lb hb)=some (.int k (orI k a.ev b.ev)):=by
 have op:den E (opZ k (orI k a.ev b.ev))=some (.int k (orI k a.ev b.ev)):=QyA (Qpr k _)
 unfold orZ
 cases h1:(ieq la ha&&ieq la (.ofNat 0))&&(ile (.ofNat 0) lb&&ile hb (hiK k)) with
 | true=>
  simp only[Bool.and_eq_true] at h1
  have e1:=Qbn h1.1.1;have e2:la=0:=Qbn h1.1.2;have e3:0≤lb:=Qbc h1.2.1;have e4:=Qbc h1.2.2
  have ea:a.ev=0:=by omega
  simp only[cond_true]
  rw[Qer gb.1 gb.2,ea]
  have hh:(((0:Int).toNat ||| b.ev.toNat:Nat):Int)=b.ev:=by
   show (((0:Nat) ||| b.ev.toNat:Nat):Int)=b.ev
   rw[Nat.zero_or];omega
  rw[QFX (Int.le_refl 0) (by have:=QGA k;omega) (by omega) (by omega) (by rw[hh];omega),hh]
 | false=>
  simp only[cond_false]
  split
  ·rename_i e m
   split
   ·rename_i m
    cases h2:pow2 m&&(ile (.ofNat 0) la&&ilt ha (.ofNat m))&&(ile (.ofNat 0) lb&&ile (Int.add ha hb) (hiK k)) with
    | false=>exact op
    | true=>
     simp only[Bool.and_eq_true] at h2
     obtain⟨j,hj⟩:=QFT h2.1.1
     have e1:0≤la:=Qbc h2.1.2.1
     have e2:ha<(m:Int):=Qfv h2.1.2.2
     have e3:0≤lb:=Qbc h2.2.1
     have e4:ha+hb≤hiK k:=Qbc h2.2.2
     have eb:(SE.mul e (.c (.ofNat m))).ev=e.ev * (m:Int):=rfl
     rw[eb] at gb
     have em:0<(m:Int):=by omega
     have ee:0≤e.ev:=by
      rcases Int.lt_or_le e.ev 0 with h | h
      ·have:=Int.mul_neg_of_neg_of_pos h em;omega
      ·exact h
     obtain⟨q,hq⟩:=Int.eq_ofNat_of_zero_le ee
     obtain⟨n,hn⟩:=Int.eq_ofNat_of_zero_le (show 0≤a.ev by omega)
     simp only[cond_true]
     have hor:n ||| (q * m)=n+q * m:=by
      rw[Nat.or_comm,hj,Nat.mul_comm,←Nat.two_pow_add_eq_or_of_lt (by omega),Nat.add_comm]
     have hbb:(e.ev * (m:Int)).toNat=q * m:=by rw[hq,←Int.natCast_mul];rfl
     have hh:((a.ev.toNat ||| (e.ev * (m:Int)).toNat:Nat):Int)=a.ev+e.ev * (m:Int):=by
      rw[hbb,hn,Int.toNat_natCast,hor,hq];simp
     rw[eb,QFX (by omega) (by omega) (by omega) (by omega) (by rw[hh];omega),hh]
     exact Qer (n:=.add a (.mul e (.c (.ofNat m)))) (show la+lb≤a.ev+e.ev * (m:Int) by omega) (show a.ev+e.ev * (m:Int)≤ha+hb by omega)
   ·exact op
  ·exact op
theorem QJB {E:Env}{op:BinOp}{t:TypeId}{x y:Operand}{k:IntKind}{a b:SE}{la ha lb hb:Int}{r:FV}(ga:la≤a.ev∧a.ev≤ha)(gb:lb≤b.ev∧b.ev≤hb)(h:binZ op k a la ha b lb hb=some r) :
  oBin P op t x y (.int k a.ev) (.int k b.ev) fun v=>den E r=some v:=by
 have e0:Int.ofNat 0=(0:Int):=rfl
 have z0:∀ {n:Int},ile (.ofNat 0) n=true→0≤n:=fun h=>Qbc h
 have pos:∀ {n:Int},ilt (.ofNat 0) n=true→0<n:=fun h=>Qfv h
 have neg:∀ {n:Int},ilt n (.ofNat 0)=true→n<0:=fun h=>Qfv h
 cases op<;>simp only[binZ] at h<;>try (cases h;done)
 case add=>
  rw[QBY,←Qce h,←Qyr]
  exact Qed (by rw[Qyr];exact (show la+lb≤a.ev+b.ev by omega)) (by rw[Qyr];exact (show a.ev+b.ev≤ha+hb by omega))
 case sub=>
  cases he:eqE a b with
  | true=>
   rw[he] at h;rw[QvQ,←Qce h,QlS he,Int.sub_self]
   rw[Qrt (k:=k) (n:=0) (by cases k<;>decide) (by cases k<;>decide)];rfl
  | false=>
   rw[he] at h;rw[QvQ,←Qce h,←QlV]
   exact Qed (by rw[QlV];exact (show la - hb≤a.ev - b.ev by omega)) (by rw[QlV];exact (show a.ev - b.ev≤ha - lb by omega))
 case mul=>
  cases h1:ieq lb hb with
  | true=>
   rw[h1] at h;simp only[cond_true] at h
   have e1:=Qbn h1
   have e2:b.ev=lb:=by omega
   cases h2:ile (.ofNat 0) lb with
   | true=>
    rw[h2] at h;rw[Qml,←Qce h]
    exact Qed (show la * lb≤a.ev * b.ev by rw[e2];exact Int.mul_le_mul_of_nonneg_right ga.1 (z0 h2)) (show a.ev * b.ev≤ha * lb by rw[e2];exact Int.mul_le_mul_of_nonneg_right ga.2 (z0 h2))
   | false=>
    rw[h2] at h;rw[Qml,←Qce h]
    have h3:lb≤0:=by
     unfold ile at h2;rw[Qd5] at h2
     rw[e0] at h2
     simp at h2;omega
    exact Qed (show ha * lb≤a.ev * b.ev by rw[e2];exact Int.mul_le_mul_of_nonpos_right ga.2 h3) (show a.ev * b.ev≤la * lb by rw[e2];exact Int.mul_le_mul_of_nonpos_right ga.1 h3)
  | false=>
   rw[h1] at h;simp only[cond_false] at h
   cases h2:ile (.ofNat 0) la&&ile (.ofNat 0) lb with
   | false=>rw[h2] at h;rw[Qml,←Qce h];exact Qtk
   | true=>
    rw[h2] at h;rw[Qml,←Qce h]
    simp only[Bool.and_eq_true] at h2
    have g1:=z0 h2.1
    have g2:=z0 h2.2
    exact Qed (show la * lb≤a.ev * b.ev from Int.mul_le_mul ga.1 gb.1 g2 (by omega)) (show a.ev * b.ev≤ha * hb from Int.mul_le_mul ga.2 gb.2 (by omega) (by omega))
 case quo=>
  cases h1:ieq lb hb&&ilt (.ofNat 0) lb with
  | false=>
   rw[h1] at h;simp only[cond_false] at h
   cases h2:ilt (.ofNat 0) lb||ilt hb (.ofNat 0) with
   | false=>rw[h2] at h;cases h
   | true=>
    rw[h2] at h;rw[←Qce h]
    simp only[Bool.or_eq_true] at h2
    have hn:b.ev≠0:=by
     rcases h2 with h2 | h2
     ·have:=pos h2;omega
     ·have:=neg h2;omega
    rw[QpU hn];exact Qtk
  | true=>
   rw[h1] at h;simp only[cond_true] at h
   simp only[Bool.and_eq_true] at h1
   have e1:=Qbn h1.1
   have e2:b.ev=lb:=by omega
   have hp:0<lb:=Qfv h1.2
   rw[QpU (by omega)]
   cases h2:ile (.ofNat 0) la with
   | true=>
    rw[h2] at h;rw[←Qce h]
    have h3:=z0 h2
    have e:=Int.tdiv_eq_ediv_of_nonneg (a:=a.ev) (b:=b.ev) (by omega)
    rw[e]
    have q1:la.tdiv lb≤a.ev / b.ev:=by rw[←e,e2];exact Int.tdiv_le_tdiv hp ga.1
    have q2:a.ev / b.ev≤ha.tdiv lb:=by rw[←e,e2];exact Int.tdiv_le_tdiv hp ga.2
    exact Qed (n:=.div a b) q1 q2
   | false=>
    rw[h2] at h;rw[←Qce h]
    have q1:la.tdiv lb≤Int.tdiv a.ev b.ev:=by rw[e2];exact Int.tdiv_le_tdiv hp ga.1
    have q2:Int.tdiv a.ev b.ev≤ha.tdiv lb:=by rw[e2];exact Int.tdiv_le_tdiv hp ga.2
    exact Qed (n:=.quo a b) q1 q2
 case rem=>
  cases h1:ieq lb hb&&ilt (.ofNat 0) lb&&ile (.ofNat 0) la with
  | false=>rw[h1] at h;cases h
  | true=>
   rw[h1] at h;simp only[cond_true] at h
   simp only[Bool.and_eq_true] at h1
   have e1:=Qbn h1.1.1
   have e2:b.ev=lb:=by omega
   have hp:0<lb:=Qfv h1.1.2
   have h3:=z0 h1.2
   rw[QvR (by omega),Int.tmod_eq_emod_of_nonneg (by omega)]
   cases h2:ilt ha lb with
   | true=>
    rw[h2] at h;rw[←Qce h]
    have h4:=Qfv h2
    rw[Int.emod_eq_of_lt (by omega) (by omega)]
    exact Qer ga.1 ga.2
   | false=>
    rw[h2] at h
    simp only[cond_false] at h
    cases hm:modC a lb with
    | some q=>rw[hm] at h;rw[←Qce h,e2,QIW hm];rfl
    | none=>
    rw[hm] at h
    simp only at h
    cases hq:ieq (Int.tdiv la lb) (Int.tdiv ha lb) with
    | true=>
     rw[hq] at h;rw[←Qce h]
     have g1:=Qbn hq
     have g2:=Int.tdiv_le_tdiv hp ga.1
     have g3:=Int.tdiv_le_tdiv hp ga.2
     have g4:Int.tdiv a.ev lb=Int.tdiv la lb:=by omega
     have g5:=Int.tdiv_eq_ediv_of_nonneg (a:=a.ev) (b:=lb) (by omega)
     have g6:=Int.mul_ediv_add_emod a.ev lb
     have g7:a.ev % b.ev=a.ev - lb * Int.tdiv la lb:=by rw[e2,←g4,g5];omega
     rw[g7]
     exact Qer (n:=.sub a (.c (Int.mul lb (Int.tdiv la lb)))) (show la - lb * Int.tdiv la lb≤a.ev - lb * Int.tdiv la lb by omega) (show a.ev - lb * Int.tdiv la lb≤ha - lb * Int.tdiv la lb by omega)
    | false=>
    rw[hq] at h;rw[←Qce h]
    have h4:=Int.emod_nonneg a.ev (b:=b.ev) (by omega)
    have h5:=Int.emod_lt_of_pos a.ev (b:=b.ev) (by omega)
    exact Qer (n:=.mod a b) h4 (show a.ev % b.ev≤lb - 1 by omega)
 case eql=>
  rw[QBX]
  exact QHK (k:=k) ga gb h
 case neq=>
  rw[QBS]
  have:=tri (E:=E) h (fun e=>?_) (fun e=>?_)
  ·rw[this];simp[SC.ev]
  ·simp only[Bool.or_eq_true] at e
   rcases e with e | e<;>(have:=Qfv e;simp[SC.ev];omega)
  ·simp only[Bool.or_eq_true,Bool.and_eq_true] at e
   rcases e with e | e
   ·have e1:=Qbn e.1.1;have e2:=Qbn e.1.2;have e3:=Qbn e.2
    simp[SC.ev];omega
   ·rw[QlS e];simp[SC.ev]
 case and=>
  simp only[Option.some.injEq] at h;subst h
  exact (Qbk (v:=.int k (andI k a.ev b.ev)) fun w=>by simp[binOp,Op.intBits,andI]).2 (QHL ga gb)
 case or=>
  simp only[Option.some.injEq] at h;subst h
  exact (Qbk (v:=.int k (orI k a.ev b.ev)) fun w=>by simp[binOp,Op.intBits,orI]).2 (QIQ ga gb)
 case xor=>
  simp only[Option.some.injEq] at h;subst h
  exact (Qbk (v:=.int k (xorI k a.ev b.ev)) fun w=>by simp[binOp,Op.intBits,xorI]).2 (QyA (Qpr k _))
 case lss=>rw[QBT];exact tri h (fun e=>by have:=Qfv e;simp[SC.ev];omega) (fun e=>by rcases ileE e with e | e<;>first | (simp[SC.ev];omega) | (subst e;simp[SC.ev]))
 case leq=>rw[QBU];exact tri h (fun e=>by rcases ileE e with e | e<;>first | (simp[SC.ev];omega) | (subst e;simp[SC.ev])) (fun e=>by have:=Qfv e;simp[SC.ev];omega)
 case gtr=>rw[QBV];exact tri h (fun e=>by have:=Qfv e;simp[SC.ev];omega) (fun e=>by rcases ileE e with e | e<;>first | (simp[SC.ev];omega) | (subst e;simp[SC.ev]))
 case geq=>rw[QBW];exact tri h (fun e=>by rcases ileE e with e | e<;>first | (simp[SC.ev];omega) | (subst e;simp[SC.ev])) (fun e=>by have:=Qfv e;simp[SC.ev];omega)
theorem QJ5 {E:Env}{op:BinOp}{t:TypeId}{x y:Operand}{k k':IntKind}{a:SE}{la ha:Int}{m:Nat}{r:FV}(ga:la≤a.ev∧a.ev≤ha)(h:shZ op k a la ha m=some r):oBin P op t x y (.int k a.ev) (.int k' (Int.ofNat m)) fun v=>den E r=some v:=by
 have h0:¬(Int.ofNat m<0):=by simp
 have h1:(Int.ofNat m).toNat=m:=rfl
 have shl:den E r=some (.int k (k.wrap (a.ev * 2 ^ (Nat.min m k.bits))))→oBin P .shl t x y (.int k a.ev) (.int k' (Int.ofNat m)) fun v=>den E r=some v:=fun hd=>by
  refine Sp.of (v:=.int k (k.wrap (a.ev * 2 ^ (Nat.min m k.bits)))) (fun w=>QA ?_) hd
  simp only[eqGuard,binOp,Op.shift,if_neg h0,h1]
  rfl
 have shr:den E r=some (.int k (a.ev.fdiv (2 ^ (Nat.min m k.bits))))→oBin P .shr t x y (.int k a.ev) (.int k' (Int.ofNat m)) fun v=>den E r=some v:=fun hd=>by
  refine Sp.of (v:=.int k (a.ev.fdiv (2 ^ (Nat.min m k.bits)))) (fun w=>QA ?_) hd
  simp only[eqGuard,binOp,Op.shift,if_neg h0,h1]
  rfl
 have p2:∀n:Nat,((2 ^ n:Nat):Int)=(2:Int) ^ n:=fun n=>by rw[Int.natCast_pow];rfl
 have ep:∀n:Nat,Int.ofNat (2 ^ n)=(2:Int) ^ n:=fun n=>p2 n
 have pp:∀n:Nat,(0:Int)<(2:Int) ^ n:=fun n=>by rw[←p2];exact_mod_cast Nat.two_pow_pos n
 cases m with
 | zero=>
  cases op<;>simp only[shZ] at h<;>try (cases h;done)
  case shl=>
   cases hc:ile (loK k) la&&ile ha (hiK k) with
   | false=>rw[hc] at h;cases h
   | true=>
    rw[hc] at h;simp only[cond_true,Option.some.injEq] at h;subst h
    simp only[Bool.and_eq_true] at hc
    have q1:=Qbc hc.1;have q2:=Qbc hc.2
    refine shl ?_
    rw[Qer ga.1 ga.2]
    simp only[Nat.zero_min,Int.pow_zero,Int.mul_one]
    rw[Qrt (by omega) (by omega)]
  case shr=>
   simp only[Option.some.injEq] at h;subst h
   refine shr ?_
   rw[Qer ga.1 ga.2]
   simp
 | succ m=>
  cases op<;>simp only[shZ] at h<;>try (cases h;done)
  case shl=>
   cases hc:ile (.ofNat 0) la with
   | false=>rw[hc] at h;cases h
   | true=>
    rw[hc] at h;simp only[cond_true,Option.some.injEq] at h;subst h
    have q1:0≤la:=Qbc hc
    refine shl ?_
    have pq:=pp (Nat.min (m+1) k.bits)
    have:=Qed (E:=E) (k:=k) (n:=.mul a (.c (.ofNat (2 ^ Nat.min (m+1) k.bits)))) (lo:=Int.mul la (.ofNat (2 ^ Nat.min (m+1) k.bits))) (hi:=Int.mul ha (.ofNat (2 ^ Nat.min (m+1) k.bits)))
     (by show la * Int.ofNat _≤a.ev * Int.ofNat _;rw[ep];exact Int.mul_le_mul_of_nonneg_right ga.1 (Int.le_of_lt pq)) (by show a.ev * Int.ofNat _≤ha * Int.ofNat _;rw[ep];exact Int.mul_le_mul_of_nonneg_right ga.2 (Int.le_of_lt pq))
    rw[this]
    simp only[SE.ev,ep]
  case shr=>
   cases hc:ile (.ofNat 0) la with
   | false=>rw[hc] at h;cases h
   | true=>
    rw[hc] at h;simp only[cond_true,Option.some.injEq] at h;subst h
    have q1:0≤la:=Qbc hc
    have pq:=pp (Nat.min (m+1) k.bits)
    refine shr ?_
    have e1:∀z:Int,0≤z→Int.tdiv z ((2:Int) ^ Nat.min (m+1) k.bits)=z / (2:Int) ^ Nat.min (m+1) k.bits:=fun z hz=>Int.tdiv_eq_ediv_of_nonneg hz
    have e2:a.ev.fdiv ((2:Int) ^ Nat.min (m+1) k.bits)=a.ev / (2:Int) ^ Nat.min (m+1) k.bits:=Int.fdiv_eq_ediv_of_nonneg _ (Int.le_of_lt pq)
    rw[e2]
    have:=Qer (E:=E) (k:=k) (n:=.div a (.c (.ofNat (2 ^ Nat.min (m+1) k.bits)))) (lo:=Int.tdiv la (.ofNat (2 ^ Nat.min (m+1) k.bits))) (hi:=Int.tdiv ha (.ofNat (2 ^ Nat.min (m+1) k.bits)))
     (by show Int.tdiv la (Int.ofNat _)≤a.ev / Int.ofNat _;rw[ep,e1 _ q1];exact Int.ediv_le_ediv pq ga.1) (by show a.ev / Int.ofNat _≤Int.tdiv ha (Int.ofNat _);rw[ep,e1 _ (by omega)];exact Int.ediv_le_ediv pq ga.2)
    rw[this]
    simp only[SE.ev,ep]
theorem QEw {E:Env}{a b:FV}{u v:Value}{r:FV}(hu:den E a=some u)(hv:den E b=some v)(h:binV .eql a b=some r) :
  ∃s t,u=str s∧v=str t∧den E r=some (.bool (decide (s=t))):=by
 cases a<;>simp only[binV] at h<;>try (cases h;done)
 case sstr i=>
  have hu:=(Qjh hu).2.symm
  cases b<;>simp only at h<;>try (cases h;done)
  case sstr j=>
   have hv:=(Qjh hv).2.symm
   simp only[Option.some.injEq] at h
   refine⟨_,_,hu.symm,hv.symm,?_⟩
   subst h;rfl
  case str l=>
   obtain⟨h1,h2⟩:=Qcr hv
   refine⟨_,_,hu.symm,h2,?_⟩
   cases hb:Q0 l with
   | false=>rw[hb] at h;cases h
   | true=>rw[hb] at h;simp only[cond_true,Option.some.injEq] at h;subst h;rfl
 case str l=>
  obtain⟨h1,h2⟩:=Qcr hu
  cases b<;>simp only at h<;>try (cases h;done)
  rename_i i
  have hv:=(Qjh hv).2.symm
  refine⟨_,_,h2,hv.symm,?_⟩
  rw[h1] at h;simp only[cond_true,Option.some.injEq] at h;subst h
  simp only[den,SC.ev]
  congr 2
  rw[Bool.eq_iff_iff];simp only[decide_eq_true_eq];exact⟨fun e=>e.symm,fun e=>e.symm⟩
theorem QEv {E:Env}{op:BinOp}{t:TypeId}{x y:Operand}{a b:FV}{u v:Value}{r:FV}(hu:den E a=some u)(hv:den E b=some v)(h:binW op a b=some r) :
  oBin P op t x y u v fun w=>den E r=some w:=by
 cases op<;>simp only[binW] at h<;>try (simp only[binV] at h;cases h;done)
 case eql=>
  obtain⟨s,t,rfl,rfl,h3⟩:=QEw hu hv h
  rw[QhW];exact h3
 case neq=>
  cases hq:binV .eql a b with
  | none=>rw[hq] at h;cases h
  | some q=>
   rw[hq] at h
   obtain⟨s,t,rfl,rfl,h3⟩:=QEw hu hv hq
   rw[QhV]
   cases q<;>simp only at h<;>try (cases h;done)
   ·simp only[Option.some.injEq] at h;subst h
    simp only[den,Option.some.injEq,Value.bool.injEq] at h3
    simp only[den,h3,decide_not]
   ·simp only[Option.some.injEq] at h;subst h
    simp only[den,Option.some.injEq,Value.bool.injEq] at h3
    simp only[den,SC.ev,h3,decide_not]
theorem QEx {E:Env}{op:BinOp}{t:TypeId}{x y:Operand}{a b:FV}{u v:Value}{r:FV}(hu:den E a=some u)(hv:den E b=some v)(h:binG op a b=some r) :
  oBin P op t x y u v fun w=>den E r=some w:=by
 unfold binG at h
 cases ha:zbn a with
 | none=>rw[ha] at h;exact QEv hu hv h
 | some p=>
  obtain⟨k,m,la,ha'⟩:=p
  cases hb:zbn b with
  | none=>rw[ha,hb] at h;cases h
  | some q=>
   obtain⟨k',n,lb,hb'⟩:=q
   rw[ha,hb] at h
   simp only at h
   obtain⟨e1,g1⟩:=Qcl ha hu
   obtain⟨e2,g2⟩:=Qcl hb hv
   cases hsh:isSh op with
   | true=>
    rw[hsh] at h
    simp only[cond_true] at h
    cases b<;>try (cases h;done)
    rename_i kk nn
    cases nn<;>try (cases h;done)
    rename_i mm
    simp only[den,Option.some.injEq] at hv
    subst hv
    rw[e1]
    exact QJ5 g1 h
   | false=>
   rw[hsh] at h
   simp only[cond_false] at h
   cases hk:keq k k' with
   | false=>rw[hk] at h;cases h
   | true=>
    rw[hk] at h
    have:=QdB hk;subst this
    rw[e1,e2]
    exact QJB g1 g2 h
theorem QJG {E:Env}{op:BinOp}{t:TypeId}{x y:Operand}{a b:FV}{u v:Value}{r:FV}(hu:den E a=some u)(hv:den E b=some v)(h:binF op a b=some r) :
  oBin P op t x y u v fun w=>den E r=some w:=by
 cases a with
 | int k m=>
  cases b with
  | int k' n=>
   simp only[den,Option.some.injEq] at hu;subst hu
   simp only[den,Option.some.injEq] at hv;subst hv
   simp only[binF] at h
   cases hs:isSh op with
   | true=>rw[hs] at h;exact QJ6 h
   | false=>
    rw[hs] at h
    simp only[cond_false] at h
    cases hk:keq k k' with
    | false=>rw[hk] at h;cases h
    | true=>rw[hk] at h;have:=QdB hk;subst this;exact QJF h
  | _=>exact QEx hu hv h
 | str l=>
  cases b with
  | str m=>
   obtain⟨h1,rfl⟩:=Qcr hu
   obtain⟨h2,rfl⟩:=Qcr hv
   exact QJD h1 h2 h
  | sx m=>
   obtain⟨h1,rfl⟩:=Qcr hu
   obtain⟨h2,rfl⟩:=QmO hv
   have:=Qzg (E:=E) (P:=P) (t:=t) (x:=x) (y:=y) (QGt h1) h2 h
   rwa [QyJ] at this
  | _=>exact QEv hu hv h
 | sx l=>
  obtain⟨h1,rfl⟩:=QmO hu
  cases b with
  | str m=>
   obtain⟨h2,rfl⟩:=Qcr hv
   have:=Qzg (E:=E) (P:=P) (t:=t) (x:=x) (y:=y) h1 (QGt h2) h
   rwa [QyJ] at this
  | sx m=>
   obtain⟨h2,rfl⟩:=QmO hv
   exact Qzg h1 h2 h
  | _=>simp[binF] at h
 | _=>exact QEx hu hv h
theorem QeE {E:Env}{i off offz len:Nat}{cap:FCap}{v:Value}(h:den E (.sl i off offz len cap)=some v):∃a c,E.p i=some a ∧
  v=.slice (some (a.add (match cap with | .lit _=>off | .hid j=>if E.c i=j then offz else off))) len c∧(match cap with | .lit d=>c=d | .hid j=>len+j≤E.c i∧c=E.c i - j):=by
 simp only[den] at h
 cases hp:E.p i with
 | none=>rw[hp] at h;cases h
 | some a=>
  rw[hp] at h
  cases cap with
  | lit c=>simp only[Option.some.injEq] at h;exact⟨a,c,rfl,h.symm,rfl⟩
  | hid j=>
   simp only at h
   by_cases hc:len+j≤E.c i
   ·rw[if_pos hc] at h;simp only[Option.some.injEq] at h;exact⟨a,_,rfl,h.symm,hc,rfl⟩
   ·rw[if_neg hc] at h;cases h
theorem Qca {E:Env}{i o:Nat}{v:Value}(h:den E (.ptr i o)=some v):∃a,E.p i=some a∧v=.pointer (some (a.add o)):=by
 simp only[den] at h
 cases hp:E.p i with
 | none=>rw[hp] at h;cases h
 | some a=>rw[hp] at h;simp only[Option.some.injEq] at h;exact⟨a,rfl,h.symm⟩
theorem Qo7 {E:Env}{f:Fn}{a b:List FV}{v:Value}(h:den E (.fn f a b)=some v):∃x y,denL E a=some x∧denL E b=some y∧v=.func f x.toArray y.toArray:=by
 simp only[den] at h
 cases ha:denL E a with
 | none=>rw[ha] at h;cases h
 | some x=>
  cases hb:denL E b with
  | none=>rw[ha,hb] at h;cases h
  | some y=>rw[ha,hb] at h;simp only[Option.some.injEq] at h;exact⟨x,y,rfl,rfl,h.symm⟩
end Go.Va
