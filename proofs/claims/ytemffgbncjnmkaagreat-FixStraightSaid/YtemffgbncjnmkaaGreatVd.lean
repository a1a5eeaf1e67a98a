import Derived.Test.YtemffgbncjnmkaaGreatVc
import Derived.Laws.Tables
set_option linter.unusedVariables false
set_option linter.unusedSectionVars false
set_option linter.unusedSimpArgs false
noncomputable section
namespace Go.Va
open Go Go.Sh
variable [Vb]
inductive EqK where
 | b
 | p
 | s
 | f
inductive EqD where
 | i
 | b
 | s
 | st (l:List (Nat×Nat×Bool×EqD))
structure IM where
 t:TypeId
 f:FuncId
 d:Bool
 k:Nat
 a:Bool
inductive XOp where
 | cpy (k:Nat) (d s:Opd)
 | clm (x:Opd)
 | cvs (x:Opd)
 | aps (b:Nat) (s x:Opd)
 | mum (d:KD) (x k v:Opd)
 | rgm (x:Opd)
 | nxm (x:Opd)
 | dlm (d:KD) (x k:Opd)
 | apo (k b:Nat) (z:List FV) (s n:Opd)
 | mkz (k b:Nat) (z:List FV) (l c:Opd)
inductive MOp where
 | mov (x:Opd)
 | pick (c a b:Opd)
 | nilc (x:Opd)
 | bin (op:BinOp) (x y:Opd)
 | eqb (kd:EqK) (neg:Bool) (x y:Opd)
 | eqs (neg:Bool) (d:EqD) (x y:Opd)
 | not (x:Opd)
 | neg (x:Opd)
 | conv (k:IntKind) (x:Opd)
 | mkf (f:Fn) (a b:List Opd)
 | slc (k:Nat) (x:Opd) (lo hi mx:Option Opd)
 | slcS (x:Opd) (lo hi:Option Opd)
 | slcA (n k:Nat) (x:Opd) (lo hi mx:Option Opd)
 | fadr (off:Nat) (x:Opd)
 | fld (off k:Nat) (agg:Bool) (x:Opd)
 | iadr (k:Nat) (x i:Opd)
 | iadrA (n k:Nat) (x i:Opd)
 | idxS (x i:Opd)
 | idxA (n k:Nat) (agg:Bool) (x i:Opd)
 | ext (x:Opd) (i:Nat)
 | ifc (t:TypeId) (x:Opd)
 | tas (t:TypeId) (x:Opd)
 | bld (z:List FV) (pl:List (Nat×Nat)) (ps:List (Nat×Opd))
 | ld (k:Nat) (agg:Bool) (x:Opd)
 | lenS (x:Opd)
 | lenT (x:Opd)
 | mn (x y:Opd)
 | mx (x y:Opd)
 | alc (z:List FV)
 | box (x:Opd)
 | st (k:Nat) (a v:Opd)
 | bsl (k n:Nat) (z:List FV) (pl:List (Nat×Nat)) (ps:List (Nat×Opd))
 | mks (k b:Nat) (z:List FV) (l c:Opd)
 | app (k b:Nat) (s x:Opd)
 | cpy (k:Nat) (d s:Opd)
 | clr (k:Nat) (z:List FV) (s:Opd)
 | call (f:Opd) (l:List Opd)
 | mkm (d:KD) (r:Option Opd)
 | lkp (d:KD) (z:FV) (ok:Bool) (x i:Opd)
 | mup (d:KD) (x k v:Opd)
 | lenM (x:Opd)
 | bs0
 | capS (x:Opd)
 | ent (x:Opd)
 | rng (x:Opd)
 | nxt (x:Opd)
 | inv (tb:List IM) (x:Opd) (l:List Opd)
 | apc (k b:Nat) (z:List FV) (s n:Opd)
 | xx (x:XOp)
 | no
def o1 (fr:Fr)(x:Opd)(k:FV→Option FV):Option FV:=match evO fr x with
 | some v=>k v
 | none=>none
def o2 (fr:Fr)(x y:Opd)(k:FV→FV→Option FV):Option FV:=match evO fr x with
 | some v=>match evO fr y with
  | some w=>k v w
  | none=>none
 | none=>none
theorem Qat {fr:Fr}{x:Opd}{k:FV→Option FV}{r:FV}(h:o1 fr x k=some r):∃v,evO fr x=some v∧k v=some r:=by
 unfold o1 at h
 cases hv:evO fr x with
 | none=>rw[hv] at h;cases h
 | some v=>rw[hv] at h;exact⟨v,rfl,h⟩
theorem QdI {fr:Fr}{x y:Opd}{k:FV→FV→Option FV}{r:FV}(h:o2 fr x y k=some r):∃v w,evO fr x=some v∧evO fr y=some w∧k v w=some r:=by
 unfold o2 at h
 cases hv:evO fr x with
 | none=>rw[hv] at h;cases h
 | some v=>
  cases hw:evO fr y with
  | none=>rw[hv,hw] at h;cases h
  | some w=>rw[hv,hw] at h;exact⟨v,w,rfl,rfl,h⟩
theorem QmN {E:Env}{k:IntKind}{n:SE}{lo hi:Int}{v:Value}(h:den E (.sy k n lo hi)=some v):(lo≤n.ev∧n.ev≤hi)∧v=.int k n.ev:=by
 simp only[den] at h
 by_cases hc:lo≤n.ev∧n.ev≤hi
 ·rw[if_pos hc] at h;simp only[Option.some.injEq] at h;exact⟨hc,h.symm⟩
 ·rw[if_neg hc] at h;cases h
theorem Qjh {E:Env}{s:Str}{v:Value}(h:den E (.sstr s)=some v):s.length≤maxL∧v=str s:=by
 simp only[den] at h
 by_cases hc:s.length≤maxL
 ·rw[if_pos hc] at h;simp only[Option.some.injEq] at h;exact⟨hc,h.symm⟩
 ·rw[if_neg hc] at h;cases h
theorem QsN {E:Env}{t:Nat}{d:LD}{v:Value}(h:den E (.dp t d)=some v):Fz E d (.p t)∧v=LD.v (.p t) d:=by
 simp only[den] at h
 by_cases hc:Fz E d (.p t)
 ·rw[if_pos hc] at h;simp only[Option.some.injEq] at h;exact⟨hc,h.symm⟩
 ·rw[if_neg hc] at h;cases h
theorem QxX {E:Env}{t:Nat}{d:LD}{off:Nat}{v:Value}(h:den E (.dn t d off)=some v):Fz E d (.p t)∧d.is=true∧v=.pointer (some (d.ad.add off)):=by
 simp only[den] at h
 by_cases hc:Fz E d (.p t)∧d.is=true
 ·rw[if_pos hc] at h;simp only[Option.some.injEq] at h;exact⟨hc.1,hc.2,h.symm⟩
 ·rw[if_neg hc] at h;cases h
theorem QgG {E:Env}{t:Nat}{d:LD}{v:Value}(h:den E (.ds t d)=some v):Fz E d (.l t)∧v=LD.v (.l t) d:=by
 simp only[den] at h
 by_cases hc:Fz E d (.l t)
 ·rw[if_pos hc] at h;simp only[Option.some.injEq] at h;exact⟨hc,h.symm⟩
 ·rw[if_neg hc] at h;cases h
def eqE:SE→SE→Bool
 | .c a,.c b=>ieq a b
 | .add a b,.add c d=>eqE a c&&eqE b d
 | .sub a b,.sub c d=>eqE a c&&eqE b d
 | .mul a b,.mul c d=>eqE a c&&eqE b d
 | .quo a b,.quo c d=>eqE a c&&eqE b d
 | .rem a b,.rem c d=>eqE a c&&eqE b d
 | .div a b,.div c d=>eqE a c&&eqE b d
 | .mod a b,.mod c d=>eqE a c&&eqE b d
 | .wrap k a,.wrap k' b=>keq k k'&&eqE a b
 | .mn a b,.mn c d=>eqE a c&&eqE b d
 | .mx a b,.mx c d=>eqE a c&&eqE b d
 | _,_=>false
theorem QlS:∀ {a b:SE},eqE a b=true→a=b:=by
 intro a
 induction a with
 | c n=>intro b h;cases b<;>simp only[eqE] at h<;>first | (cases h;done) | (rw[Qkg] at h;simp at h;rw[h])
 | o i=>intro b h;cases b<;>simp only[eqE] at h<;>(cases h;done)
 | wrap k a ih=>intro b h;cases b<;>simp only[eqE,Bool.and_eq_true] at h<;>first | (cases h;done) | rw[QdB h.1,ih h.2]
 | add a b ih1 ih2=>intro b h;cases b<;>simp only[eqE,Bool.and_eq_true] at h<;>first | (cases h;done) | rw[ih1 h.1,ih2 h.2]
 | sub a b ih1 ih2=>intro b h;cases b<;>simp only[eqE,Bool.and_eq_true] at h<;>first | (cases h;done) | rw[ih1 h.1,ih2 h.2]
 | mul a b ih1 ih2=>intro b h;cases b<;>simp only[eqE,Bool.and_eq_true] at h<;>first | (cases h;done) | rw[ih1 h.1,ih2 h.2]
 | quo a b ih1 ih2=>intro b h;cases b<;>simp only[eqE,Bool.and_eq_true] at h<;>first | (cases h;done) | rw[ih1 h.1,ih2 h.2]
 | rem a b ih1 ih2=>intro b h;cases b<;>simp only[eqE,Bool.and_eq_true] at h<;>first | (cases h;done) | rw[ih1 h.1,ih2 h.2]
 | div a b ih1 ih2=>intro b h;cases b<;>simp only[eqE,Bool.and_eq_true] at h<;>first | (cases h;done) | rw[ih1 h.1,ih2 h.2]
 | mod a b ih1 ih2=>intro b h;cases b<;>simp only[eqE,Bool.and_eq_true] at h<;>first | (cases h;done) | rw[ih1 h.1,ih2 h.2]
 | mn a b ih1 ih2=>intro b h;cases b<;>simp only[eqE,Bool.and_eq_true] at h<;>first | (cases h;done) | rw[ih1 h.1,ih2 h.2]
 | mx a b ih1 ih2=>intro b h;cases b<;>simp only[eqE,Bool.and_eq_true] at h<;>first | (cases h;done) | rw[ih1 h.1,ih2 h.2]
def zbn:FV→Option (IntKind×SE×Int×Int)
 | .int k n=>some (k,.c n,n,n)
 | .sy k n lo hi=>some (k,n,lo,hi)
 | _=>none
theorem Qcl {E:Env}{x:FV}{k:IntKind}{n:SE}{lo hi:Int}{v:Value}(h:zbn x=some (k,n,lo,hi))(hd:den E x=some v):v=.int k n.ev∧lo≤n.ev∧n.ev≤hi:=by
 cases x<;>simp only[zbn,Option.some.injEq,Prod.mk.injEq] at h<;>try (cases h;done)
 ·obtain⟨rfl,rfl,rfl,rfl⟩:=h;exact⟨by simpa [den,SE.ev] using hd.symm,Int.le_refl _,Int.le_refl _⟩
 ·obtain⟨rfl,rfl,rfl,rfl⟩:=h;exact⟨(QmN hd).2,(QmN hd).1⟩
def ile (a b:Int):Bool:=(ilt b a).not
theorem Qbc {a b:Int}(h:ile a b=true):a≤b:=by
 unfold ile at h;rw[Qd5] at h;simpa using h
theorem Qfv {a b:Int}(h:ilt a b=true):a<b:=by rw[Qd5] at h;simpa using h
theorem Qbn {a b:Int}(h:ieq a b=true):a=b:=by rw[Qkg] at h;simpa using h
def mkZ (k:IntKind)(n:SE)(lo hi:Int):FV:=bif ieq lo hi then .int k lo else .sy k n lo hi
def wrZ (k:IntKind)(n:SE):FV:=.sy k (.wrap k n) (loK k) (hiK k)
def fitZ (k:IntKind)(n:SE)(lo hi:Int):FV:=bif ile (loK k) lo&&ile hi (hiK k) then mkZ k n lo hi else wrZ k n
theorem Qer {E:Env}{k:IntKind}{n:SE}{lo hi:Int}(h1:lo≤n.ev)(h2:n.ev≤hi):den E (mkZ k n lo hi)=some (.int k n.ev):=by
 unfold mkZ
 cases hc:ieq lo hi with
 | true=>have:=Qbn hc;simp only[cond_true,den];rw[show lo=n.ev by omega]
 | false=>simp only[cond_false,den];rw[if_pos ⟨h1,h2⟩]
theorem Qrt {k:IntKind}{n:Int}(h1:loK k≤n)(h2:n≤hiK k):k.wrap n=n:=by
 have e:∀m:Nat,(Int.ofNat m)=(m:Int):=fun _=>rfl
 have e':∀m:Nat,(Int.negSucc m)=-((m:Int)+1):=Int.negSucc_eq
 cases k<;>simp only[loK,hiK,e,e'] at h1 h2<;>first
  | exact IntWalk.i8_in _ (by omega) | exact IntWalk.i16_in _ (by omega) | exact IntWalk.i32_in _ (by omega) | exact IntWalk.i64_in _ (by omega)
  | exact IntWalk.u8_in _ (by omega) | exact IntWalk.u16_in _ (by omega) | exact IntWalk.u32_in _ (by omega) | exact IntWalk.u64_in _ (by omega)
theorem Qpr (k:IntKind)(n:Int):loK k≤k.wrap n∧k.wrap n≤hiK k:=by
 have e:∀m:Nat,(Int.ofNat m)=(m:Int):=fun _=>rfl
 have e':∀m:Nat,(Int.negSucc m)=-((m:Int)+1):=Int.negSucc_eq
 cases k<;>simp only[loK,hiK,e,e',IntKind.wrap,IntKind.bits,IntKind.signed]<;>simp<;>(try split)<;>omega
theorem Qtk {E:Env}{k:IntKind}{n:SE}:den E (wrZ k n)=some (.int k (k.wrap n.ev)):=by
 unfold wrZ
 simp only[den]
 exact if_pos (Qpr k n.ev)
theorem Qed {E:Env}{k:IntKind}{n:SE}{lo hi:Int}(h1:lo≤n.ev)(h2:n.ev≤hi):den E (fitZ k n lo hi)=some (.int k (k.wrap n.ev)):=by
 unfold fitZ
 cases hc:ile (loK k) lo&&ile hi (hiK k) with
 | true=>
  simp only[Bool.and_eq_true] at hc
  have g1:=Qbc hc.1
  have g2:=Qbc hc.2
  simp only[cond_true]
  rw[Qer h1 h2,Qrt (by omega) (by omega)]
 | false=>exact Qtk
def bigS (l m:List Nat):Bool:=Nat.ble (l.length+m.length) 100000000000
def binI (op:BinOp)(k:IntKind)(a b:Int):Option FV:=match op with
 | .add=>some (.int k (wr k (Int.add a b)))
 | .sub=>some (.int k (wr k (Int.sub a b)))
 | .mul=>some (.int k (wr k (Int.mul a b)))
 | .quo=>bif ieq b (.ofNat 0) then none else some (.int k (wr k (Int.tdiv a b)))
 | .rem=>bif ieq b (.ofNat 0) then none else some (.int k (Int.tmod a b))
 | .eql=>some (.bool (ieq a b))
 | .neq=>some (.bool (ieq a b).not)
 | .lss=>some (.bool (ilt a b))
 | .leq=>some (.bool (ilt b a).not)
 | .gtr=>some (.bool (ilt b a))
 | .geq=>some (.bool (ilt a b).not)
 | .and=>some (.int k (k.wrap (BitVec.ofInt k.bits a &&& BitVec.ofInt k.bits b).toNat))
 | .or=>some (.int k (k.wrap (BitVec.ofInt k.bits a ||| BitVec.ofInt k.bits b).toNat))
 | .xor=>some (.int k (k.wrap (BitVec.ofInt k.bits a ^^^ BitVec.ofInt k.bits b).toNat))
 | _=>none
def binS (op:BinOp)(a b:List Nat):Option FV:=match op with
 | .add=>bif bigS a b then some (.str (a++b)) else none
 | .eql=>some (.bool (leq a b))
 | .neq=>some (.bool (leq a b).not)
 | .lss=>some (.bool (llt a b))
 | .leq=>some (.bool (Bool.or (llt a b) (leq a b)))
 | .gtr=>some (.bool (Bool.or (llt a b) (leq a b)).not)
 | .geq=>some (.bool (llt a b).not)
 | _=>none
def ksb (l:List Nat):List SB:=l.map .k
def accB (a:Option SC)(b:SC):Option SC:=match a with
 | none=>some b
 | some t=>some (.and t b)
def eqX:List SB→List SB→Option SC→FV
 | [],[],acc=>match acc with
  | none=>.bool true
  | some t=>.sb t
 | .k a::x,.k b::y,acc=>bif Nat.beq a b then eqX x y acc else .bool false
 | .k a::x,.v b lo hi::y,acc=>bif ile lo (Int.ofNat a)&&ile (Int.ofNat a) hi then eqX x y (accB acc (.eq b (.c (.ofNat a)))) else .bool false
 | .v a lo hi::x,.k b::y,acc=>bif ile lo (Int.ofNat b)&&ile (Int.ofNat b) hi then eqX x y (accB acc (.eq a (.c (.ofNat b)))) else .bool false
 | .v a _ _::x,.v b _ _::y,acc=>eqX x y (accB acc (.eq a b))
 | _,_,_=>.bool false
def bigX (l m:List SB):Bool:=Nat.ble (l.length+m.length) 100000000000
def binX (op:BinOp)(a b:List SB):Option FV:=match op with
 | .add=>bif bigX a b then some (.sx (a++b)) else none
 | .eql=>some (eqX a b none)
 | .neq=>match eqX a b none with
  | .bool t=>some (.bool t.not)
  | .sb t=>some (.sb (.no t))
  | _=>none
 | _=>none
def shI (op:BinOp)(k:IntKind)(a b:Int):Option FV:=match b with
 | .ofNat m=>match op with
  | .shl=>some (.int k (k.wrap (a * 2 ^ (Nat.min m k.bits))))
  | .shr=>some (.int k (a.fdiv (2 ^ (Nat.min m k.bits))))
  | _=>none
 | _=>none
def isSh:BinOp→Bool
 | .shl=>true
 | .shr=>true
 | _=>false
def sAdd (a b:SE):SE:=match a with
 | .c n=>match b with
  | .sub e (.c y)=>bif ieq n y then e else .add a b
  | _=>bif ieq n (.ofNat 0) then b else .add a b
 | .mul (.c m) (.div e (.c m'))=>match b with
  | .mod e' (.c m'')=>bif ieq m m'&&ieq m m''&&eqE e e' then e else .add a b
  | _=>.add a b
 | _=>.add a b
def sSub (a b:SE):SE:=match b with
 | .c y=>match a with
  | .add (.c x) e=>bif ieq x y then e else .sub a b
  | _=>.sub a b
 | .sub (.c y) e=>match a with
  | .c x=>bif ieq x y then e else .sub a b
  | _=>.sub a b
 | _=>.sub a b
def modC (a:SE)(c:Int):Option Int:=match a with
 | .add (.mul (.c m) q) (.c r)=>bif ieq m c&&ile (.ofNat 0) r&&ilt r c then some r else none
 | _=>none
theorem Qyr (a b:SE):(sAdd a b).ev=a.ev+b.ev:=by
 unfold sAdd
 split
 ·rename_i n
  split
  ·rename_i e y
   cases h:ieq n y with
   | true=>rw[Qbn h];simp only[cond_true,SE.ev];omega
   | false=>rfl
  ·cases h:ieq n (.ofNat 0) with
   | true=>rw[Qbn h];simp[SE.ev]
   | false=>rfl
 ·rename_i m e m'
  split
  ·rename_i e' m''
   cases h:ieq m m'&&ieq m m''&&eqE e e' with
   | true=>
    simp only[Bool.and_eq_true] at h
    have e1:=Qbn h.1.1;have e2:=Qbn h.1.2;have e3:=QlS h.2
    subst e1 e2 e3
    simp only[cond_true,SE.ev]
    exact (Int.mul_ediv_add_emod _ _).symm
   | false=>rfl
  ·rfl
 ·rfl
theorem QlV (a b:SE):(sSub a b).ev=a.ev - b.ev:=by
 unfold sSub
 split
 ·split
  ·rename_i x e
   cases h:ieq x _ with
   | true=>have:=Qbn h;subst this;simp only[cond_true,SE.ev];omega
   | false=>rfl
  ·rfl
 ·split
  ·rename_i x
   cases h:ieq x _ with
   | true=>have:=Qbn h;subst this;simp only[cond_true,SE.ev];omega
   | false=>rfl
  ·rfl
 ·rfl
theorem QIW {a:SE}{c r:Int}(h:modC a c=some r):a.ev % c=r:=by
 unfold modC at h
 split at h
 ·rename_i m q s
  cases hc:ieq m c&&ile (.ofNat 0) s&&ilt s c with
  | false=>rw[hc] at h;cases h
  | true=>
   rw[hc] at h;simp only[cond_true,Option.some.injEq] at h;subst h
   simp only[Bool.and_eq_true] at hc
   have e1:=Qbn hc.1.1;have e2:=Qbc hc.1.2;have e3:=Qfv hc.2
   subst e1
   have e0:Int.ofNat 0=(0:Int):=rfl
   simp only[SE.ev]
   rw[Int.mul_add_emod_self_left]
   exact Int.emod_eq_of_lt (by omega) e3
 ·cases h
def andI (k:IntKind)(a b:Int):Int:=k.wrap (BitVec.ofInt k.bits a &&& BitVec.ofInt k.bits b).toNat
def orI (k:IntKind)(a b:Int):Int:=k.wrap (BitVec.ofInt k.bits a ||| BitVec.ofInt k.bits b).toNat
def xorI (k:IntKind)(a b:Int):Int:=k.wrap (BitVec.ofInt k.bits a ^^^ BitVec.ofInt k.bits b).toNat
def opZ (k:IntKind)(n:Int):FV:=.sy k (.o n) (loK k) (hiK k)
def pow2 (n:Nat):Bool:=Nat.beq (Nat.shiftLeft 1 (Nat.log2 n)) n
def andZ (k:IntKind)(a:SE)(la ha:Int)(b:SE)(lb hb:Int):FV:=match lb with
 | .ofNat c=>bif ieq lb hb&&(pow2 c.succ&&(ile (.ofNat 0) la&&(ile ha (hiK k)&&ile lb (hiK k)))) then (bif ile ha lb then mkZ k a la ha else mkZ k (.mod a (.c (.ofNat c.succ))) (.ofNat 0) lb) else opZ k (andI k a.ev b.ev)
 | _=>opZ k (andI k a.ev b.ev)
def orZ (k:IntKind)(a:SE)(la ha:Int)(b:SE)(lb hb:Int):FV:=
 bif (ieq la ha&&ieq la (.ofNat 0))&&(ile (.ofNat 0) lb&&ile hb (hiK k)) then mkZ k b lb hb
 else match b with
  | .mul e (.c m)=>match m with
   | .ofNat m=>bif pow2 m&&(ile (.ofNat 0) la&&ilt ha (.ofNat m))&&(ile (.ofNat 0) lb&&ile (Int.add ha hb) (hiK k)) then mkZ k (.add a b) (Int.add la lb) (Int.add ha hb) else opZ k (orI k a.ev b.ev)
   | _=>opZ k (orI k a.ev b.ev)
  | _=>opZ k (orI k a.ev b.ev)
def shZ (op:BinOp)(k:IntKind)(a:SE)(la ha:Int)(m:Nat):Option FV:=match m with
 | 0=>match op with
  | .shl=>bif ile (loK k) la&&ile ha (hiK k) then some (mkZ k a la ha) else none
  | .shr=>some (mkZ k a la ha)
  | _=>none
 | m=>match op with
  | .shl=>bif ile (.ofNat 0) la then some (fitZ k (.mul a (.c (.ofNat (2 ^ Nat.min m k.bits)))) (Int.mul la (.ofNat (2 ^ Nat.min m k.bits))) (Int.mul ha (.ofNat (2 ^ Nat.min m k.bits)))) else none
  | .shr=>bif ile (.ofNat 0) la then some (mkZ k (.div a (.c (.ofNat (2 ^ Nat.min m k.bits)))) (Int.tdiv la (.ofNat (2 ^ Nat.min m k.bits))) (Int.tdiv ha (.ofNat (2 ^ Nat.min m k.bits)))) else none
  | _=>none
def binZ (op:BinOp)(k:IntKind)(a:SE)(la ha:Int)(b:SE)(lb hb:Int):Option FV:=match op with
 | .add=>some (fitZ k (sAdd a b) (Int.add la lb) (Int.add ha hb))
 | .sub=>bif eqE a b then some (.int k (.ofNat 0)) else some (fitZ k (sSub a b) (Int.sub la hb) (Int.sub ha lb))
 | .mul=>bif ieq lb hb then (bif ile (.ofNat 0) lb then some (fitZ k (.mul a b) (Int.mul la lb) (Int.mul ha lb)) else some (fitZ k (.mul a b) (Int.mul ha lb) (Int.mul la lb)))
  else bif ile (.ofNat 0) la&&ile (.ofNat 0) lb then some (fitZ k (.mul a b) (Int.mul la lb) (Int.mul ha hb)) else some (wrZ k (.mul a b))
 | .quo=>bif ieq lb hb&&ilt (.ofNat 0) lb then (bif ile (.ofNat 0) la then some (fitZ k (.div a b) (Int.tdiv la lb) (Int.tdiv ha lb)) else some (fitZ k (.quo a b) (Int.tdiv la lb) (Int.tdiv ha lb)))
  else bif ilt (.ofNat 0) lb||ilt hb (.ofNat 0) then some (wrZ k (.quo a b)) else none
 | .rem=>bif ieq lb hb&&ilt (.ofNat 0) lb&&ile (.ofNat 0) la then (bif ilt ha lb then some (mkZ k a la ha) else match modC a lb with
   | some r=>some (.int k r)
   | none=>bif ieq (Int.tdiv la lb) (Int.tdiv ha lb) then some (mkZ k (.sub a (.c (Int.mul lb (Int.tdiv la lb)))) (Int.sub la (Int.mul lb (Int.tdiv la lb))) (Int.sub ha (Int.mul lb (Int.tdiv la lb))))
    else some (mkZ k (.mod a b) (.ofNat 0) (Int.sub lb (.ofNat 1))))
  else none
 | .eql=>bif ilt ha lb||ilt hb la then some (.bool false) else bif (ieq la ha&&ieq lb hb&&ieq la lb)||eqE a b then some (.bool true) else some (.sb (.eq a b))
 | .neq=>bif ilt ha lb||ilt hb la then some (.bool true) else bif (ieq la ha&&ieq lb hb&&ieq la lb)||eqE a b then some (.bool false) else some (.sb (.no (.eq a b)))
 | .lss=>bif ilt ha lb then some (.bool true) else bif ile hb la||eqE a b then some (.bool false) else some (.sb (.lt a b))
 | .leq=>bif ile ha lb||eqE a b then some (.bool true) else bif ilt hb la then some (.bool false) else some (.sb (.le a b))
 | .gtr=>bif ilt hb la then some (.bool true) else bif ile ha lb||eqE a b then some (.bool false) else some (.sb (.lt b a))
 | .geq=>bif ile hb la||eqE a b then some (.bool true) else bif ilt ha lb then some (.bool false) else some (.sb (.le b a))
 | .and=>some (andZ k a la ha b lb hb)
 | .or=>some (orZ k a la ha b lb hb)
 | .xor=>some (opZ k (xorI k a.ev b.ev))
 | _=>none
def binV (op:BinOp)(x y:FV):Option FV:=match op with
 | .eql=>match x with
  | .sstr i=>match y with
   | .sstr j=>some (.sb (.sq i j))
   | .str l=>bif Q0 l then some (.sb (.sk i l)) else none
   | _=>none
  | .str l=>match y with
   | .sstr i=>bif Q0 l then some (.sb (.sk i l)) else none
   | _=>none
  | _=>none
 | _=>none
def binW (op:BinOp)(x y:FV):Option FV:=match op with
 | .neq=>match binV .eql x y with
  | some r=>match r with
   | .bool t=>some (.bool t.not)
   | .sb t=>some (.sb (.no t))
   | _=>none
  | none=>none
 | op=>binV op x y
def binG (op:BinOp)(x y:FV):Option FV:=match zbn x with
 | some (k,a,la,ha)=>match zbn y with
  | some (k',b,lb,hb)=>bif isSh op then (match y with
   | .int _ n=>match n with
    | .ofNat m=>shZ op k a la ha m
    | _=>none
   | _=>none) else bif keq k k' then binZ op k a la ha b lb hb else none
  | none=>none
 | none=>binW op x y
def binF (op:BinOp)(x y:FV):Option FV:=match x with
 | .int k a=>match y with
  | .int k' b=>bif isSh op then shI op k a b else bif keq k k' then binI op k a b else none
  | y=>binG op (.int k a) y
 | .str a=>match y with
  | .str b=>binS op a b
  | .sx b=>binX op (ksb a) b
  | y=>binW op (.str a) y
 | .sx a=>match y with
  | .str b=>binX op a (ksb b)
  | .sx b=>binX op a b
  | _=>none
 | x=>binG op x y
def eqbF (kd:EqK)(x y:FV):Option Bool:=match kd with
 | .b=>match x with
  | .bool a=>match y with
   | .bool b=>some (match a with
    | true=>b
    | false=>b.not)
   | _=>none
  | _=>none
 | .p=>match x with
  | .nilp=>match y with
   | .nilp=>some true
   | .ptr _ _=>some false
   | _=>none
  | .ptr _ _=>match y with
   | .nilp=>some false
   | _=>none
  | _=>none
 | .s=>match x with
  | .nsl=>match y with
   | .nsl=>some true
   | .sl ..=>some false
   | _=>none
  | .sl ..=>match y with
   | .nsl=>some false
   | _=>none
  | _=>none
 | .f=>match x with
  | .nilf=>match y with
   | .nilf=>some true
   | .fn ..=>some false
   | _=>none
  | .fn ..=>match y with
   | .nilf=>some false
   | _=>none
  | _=>none
def evI (fr:Fr):Option Opd→Option (Option Nat)
 | none=>some none
 | some x=>match evO fr x with
  | some v=>match v with
   | .int _ n=>match n with
    | .ofNat m=>some (some m)
    | _=>none
   | _=>none
  | none=>none
def gD (x:Option Nat)(d:Nat):Nat:=match x with
 | some n=>n
 | none=>d
def mxok (mx hi:Option Nat):Bool:=match mx with
 | none=>true
 | some _=>match hi with
  | none=>false
  | some _=>true
theorem QeC (d:Nat):gD none d=d:=rfl
theorem Qdg (n d:Nat):gD (some n) d=n:=rfl
def slcF (k:Nat)(x:FV)(lo hi mx:Option Nat):Option FV:=match x with
 | .nsl=>bif mxok mx hi&&(Nat.beq (gD lo 0) 0&&Nat.beq (gD hi 0) 0&&Nat.beq (gD mx 0) 0) then some .nsl else none
 | .sl i off offz len cap=>match cap with
  | .lit c=>match mx with
   | none=>(fun l h=>bif Nat.ble h c&&Nat.ble l h then some (.sl i (bif Nat.beq c l then off else off+l * k) 0 (h - l) (.lit (c - l))) else none) (gD lo 0) (gD hi len)
   | some m=>match hi with
    | none=>none
    | some h=>(fun l=>bif Nat.ble m c&&Nat.ble h m&&Nat.ble l h then some (.sl i (bif Nat.beq m l then off else off+l * k) 0 (h - l) (.lit (m - l))) else none) (gD lo 0)
  | .hid j=>match mx with
   | none=>(fun l h=>bif Nat.ble h len&&Nat.ble l h then some (.sl i (off+l * k) (bif Nat.beq l 0 then offz else off) (h - l) (.hid (j+l))) else none) (gD lo 0) (gD hi len)
   | some m=>match hi with
    | none=>none
    | some h=>(fun l=>bif Nat.ble m len&&Nat.ble h m&&Nat.ble l h&&Nat.blt 0 len then some (.sl i (bif Nat.beq m l then off else off+l * k) 0 (h - l) (.lit (m - l))) else none) (gD lo 0)
 | _=>none
def QwZ (l:List Nat)(lo hi:Option Nat):Option FV:=match hi with
 | none=>(fun a=>match lo with
  | none=>some (.str l)
  | some a=>bif Nat.ble a l.length then some (.str (Qaz a l)) else none) 0
 | some h=>match Qbb h l with
  | some t=>bif Nat.ble (gD lo 0) h then some (.str (Qaz (gD lo 0) t)) else none
  | none=>none
def knS:List SB→Option (List Nat)
 | []=>some []
 | .k n::r=>match knS r with
  | some l=>some (n::l)
  | none=>none
 | .v _ _ _::_=>none
def mkS (l:List SB):FV:=match knS l with
 | some m=>.str m
 | none=>.sx l
def QwY (l:List SB)(lo hi:Option Nat):Option FV:=match hi with
 | none=>match lo with
  | none=>some (.sx l)
  | some a=>bif Nat.ble a l.length then some (mkS (Qaz a l)) else none
 | some h=>match Qbb h l with
  | some t=>bif Nat.ble (gD lo 0) h then some (mkS (Qaz (gD lo 0) t)) else none
  | none=>none
def ldG (k:Nat)(agg:Bool)(o:Nat)(cs:List FV):Option FV:=match agg with
 | true=>match Qbb k (Qaz o cs) with
  | some l=>some (.agg l)
  | none=>none
 | false=>hd? (Qaz o cs)
def ldF (th:Tr TO)(k:Nat)(agg:Bool)(x:FV):Option FV:=match x with
 | .ptr i o=>match th.get i with
  | some (.cells cs _)=>ldG k agg o cs
  | some (.ro cs)=>ldG k agg o cs
  | _=>none
 | _=>none
def lkI (t:Nat):List IM→Option IM
 | []=>none
 | p::r=>bif Nat.beq p.t t then some p else lkI t r
def QtC:List Nat→Option Nat
 | []=>none
 | a::r=>match r with
  | []=>some a
  | _::_=>QtC r
def entA (s:Nat):List (FV×FV)→Nat→Option (FV×FV)
 | [],_=>none
 | p::r,u=>bif Nat.beq u s then some p else entA s r u.succ
def entF (th:Tr TO)(x:FV):Option FV:=match x with
 | .ptr j o=>match o with
  | 0=>match th.get j with
   | some (.it i c b)=>match QtC b with
    | some s=>match th.get i with
     | some (.map d m)=>bif Nat.beq c (Nat.add d.u m.length) then (match entA s m d.u with
      | some p=>some (.tup [p.1,p.2])
      | none=>none) else none
     | _=>none
    | none=>none
   | _=>none
  | _=>none
 | _=>none
def capF (x:FV):Option FV:=match x with
 | .nsl=>some (.int .i64 (.ofNat 0))
 | .sl _ _ _ _ c=>match c with
  | .lit c=>some (.int .i64 (.ofNat c))
  | .hid _=>none
 | _=>none
def kdq (a b:KD):Bool:=match a with
 | .s=>match b.b with
  | .s=>true
  | _=>false
 | .i k=>match b.b with
  | .i k'=>keq k k'
  | _=>false
 | .o _ _=>false
def kokF (d:KD)(x:FV):Bool:=match d with
 | .s=>match x with
  | .str _=>true
  | _=>false
 | .i k=>match x with
  | .int k' _=>keq k k'
  | _=>false
 | .o _ _=>false
def keqv (a b:FV):Bool:=match a with
 | .str x=>match b with
  | .str y=>leq x y
  | _=>false
 | .int _ x=>match b with
  | .int _ y=>ieq x y
  | _=>false
 | _=>false
def lkM (k:FV)(m:List (FV×FV)):Option FV:=List.rec (motive:=fun _=>Option FV) none (fun p _ ih=>Bool.rec (motive:=fun _=>Option FV) ih (some p.2) (keqv p.1 k)) m
def upM (k v:FV)(m:List (FV×FV)):List (FV×FV):=List.rec (motive:=fun _=>List (FV×FV)) [(k,v)] (fun p r ih=>Bool.rec (motive:=fun _=>List (FV×FV)) (p::ih) ((k,v)::r) (keqv p.1 k)) m
def resM (z:FV)(ok:Bool)(x:Option FV):FV:=match x with
 | none=>match ok with
  | true=>.tup [z,.bool false]
  | false=>z
 | some v=>match ok with
  | true=>.tup [v,.bool true]
  | false=>v
def lkpF (th:Tr TO)(d:KD)(z:FV)(ok:Bool)(x k:FV):Option FV:=match x with
 | .nilm=>bif kokF d k then some (resM z ok none) else none
 | .map i=>match th.get i with
  | some (.map d' m)=>bif kdq d d'&&kokF d k then some (resM z ok (lkM k m)) else none
  | _=>none
 | _=>none
def QFd (th:Tr TO)(x:FV):Option FV:=match x with
 | .nilm=>some (.int .i64 (.ofNat 0))
 | .map i=>match th.get i with
  | some (.map _ m)=>some (.int .i64 (.ofNat m.length))
  | _=>none
 | _=>none
def QId (k:Nat)(x i:FV):Option FV:=match i with
 | .int _ n=>match n with
  | .ofNat m=>match x with
   | .sl id off _ len _=>bif Nat.blt m len then some (.ptr id (off+m * k)) else none
   | _=>none
  | _=>none
 | _=>none
def QGz (n k:Nat)(x i:FV):Option FV:=match i with
 | .int _ j=>match j with
  | .ofNat m=>match x with
   | .ptr id off=>bif Nat.blt m n then some (.ptr id (off+m * k)) else none
   | _=>none
  | _=>none
 | _=>none
def QFf (x i:FV):Option FV:=match i with
 | .int _ n=>match n with
  | .ofNat m=>match x with
   | .str l=>match hd? (Qaz m l) with
    | some c=>some (.int .u8 (.ofNat c))
    | none=>none
   | .sx l=>match hd? (Qaz m l) with
    | some c=>(match c with
     | .k c=>some (.int .u8 (.ofNat c))
     | .v c lo hi=>some (.sy .u8 c lo hi))
    | none=>none
   | _=>none
  | _=>none
 | _=>none
def fldF (off k:Nat)(agg:Bool)(x:FV):Option FV:=match x with
 | .agg cs=>match agg with
  | true=>match Qbb k (Qaz off cs) with
   | some l=>some (.agg l)
   | none=>none
  | false=>hd? (Qaz off cs)
 | _=>none
def QIc (n k:Nat)(agg:Bool)(x i:FV):Option FV:=match i with
 | .int _ j=>match j with
  | .ofNat m=>bif Nat.blt m n then fldF (m * k) k agg x else none
  | _=>none
 | _=>none
def andF (x y:FV):Option FV:=match x with
 | .bool a=>match a with
  | true=>some y
  | false=>some (.bool false)
 | .sb a=>match y with
  | .bool b=>match b with
   | true=>some (.sb a)
   | false=>some (.bool false)
  | .sb b=>some (.sb (.and a b))
  | _=>none
 | _=>none
def eqZ (x y:FV):Option FV:=match zbn x with
 | some (k,a,la,ha)=>match zbn y with
  | some (k',b,lb,hb)=>bif keq k k' then binZ .eql k a la ha b lb hb else none
  | none=>none
 | none=>none
def eqI (x y:FV):Option FV:=match x with
 | .int k a=>match y with
  | .int k' b=>bif keq k k' then some (.bool (ieq a b)) else none
  | y=>eqZ (.int k a) y
 | x=>eqZ x y
def eqBB (a b:Bool):Bool:=match a with
 | true=>b
 | false=>b.not
def eqBC (a:Bool)(c:SC):SC:=match a with
 | true=>c
 | false=>.no c
def eqB (x y:FV):Option FV:=match x with
 | .bool a=>match y with
  | .bool b=>some (.bool (match a with
   | true=>b
   | false=>b.not))
  | .sb c=>some (.sb (eqBC a c))
  | _=>none
 | .sb c=>match y with
  | .bool b=>some (.sb (eqBC b c))
  | .sb d=>some (.sb (.o (eqBB c.ev d.ev)))
  | _=>none
 | _=>none
def Q8W (x y:FV):Option FV:=match x with
 | .str a=>match y with
  | .str b=>some (.bool (leq a b))
  | .sx b=>some (eqX (ksb a) b none)
  | y=>binV .eql (.str a) y
 | .sx a=>match y with
  | .str b=>some (eqX a (ksb b) none)
  | .sx b=>some (eqX a b none)
  | _=>none
 | x=>binV .eql x y
mutual
def eqDF:EqD→FV→FV→Option FV
 | .i,x,y=>eqI x y
 | .b,x,y=>eqB x y
 | .s,x,y=>Q8W x y
 | .st l,x,y=>match x with
  | .agg _=>match y with
   | .agg _=>eqDL l x y
   | _=>none
  | _=>none
def eqDL:List (Nat×Nat×Bool×EqD)→FV→FV→Option FV
 | [],_,_=>some (.bool true)
 | p::r,x,y=>match fldF p.1 p.2.1 p.2.2.1 x with
  | some a=>match fldF p.1 p.2.1 p.2.2.1 y with
   | some b=>match eqDF p.2.2.2 a b with
    | some c=>match c with
     | .bool t=>match t with
      | true=>eqDL r x y
      | false=>some (.bool false)
     | c=>match eqDL r x y with
      | some d=>andF c d
      | none=>none
    | none=>none
   | none=>none
  | none=>none
end
def notF:FV→Option FV
 | .bool b=>some (.bool b.not)
 | .sb b=>some (.sb (.no b))
 | _=>none
def QfE:FV→Bool
 | .tup _=>false
 | _=>true
theorem QjT {v:FV}(h:QfE v=true)(l:List FV):v≠.tup l:=fun e=>by subst e;cases h
def Qc4:List FV→List (Nat×Nat)→List (Nat×FV)→Option (List FV)
 | cs,[],[]=>some cs
 | cs,(off,sz)::pl,(_,v)::ps=>bif Nat.beq (QbI v).length sz&&QfE v then match splO (QbI v) off cs with
   | some cs'=>Qc4 cs' pl ps
   | none=>none
  else none
 | _,_,_=>none
def mm (mx:Bool)(a b:Int):Int:=match mx with
 | true=>max a b
 | false=>min a b
def imx (mx:Bool)(a b:Int):Int:=match mx with
 | true=>bif ilt a b then b else a
 | false=>bif ilt b a then b else a
def mnZ (mx:Bool)(k:IntKind)(a:SE)(la ha:Int)(b:SE)(lb hb:Int):FV:=match mx with
 | true=>bif ile hb la||eqE a b then mkZ k a la ha else bif ile ha lb then mkZ k b lb hb else .sy k (.mx a b) (imx true la lb) (imx true ha hb)
 | false=>bif ile ha lb||eqE a b then mkZ k a la ha else bif ile hb la then mkZ k b lb hb else .sy k (.mn a b) (imx false la lb) (imx false ha hb)
def mnF (mx:Bool)(x y:FV):Option FV:=match zbn x with
 | some (k,a,la,ha)=>match zbn y with
  | some (_,b,lb,hb)=>some (mnZ mx k a la ha b lb hb)
  | none=>none
 | none=>none
def qMov (x:Opd)(fr:Fr)(th:Tr TO):Option FV:=evO fr x
def QHZ (c:Opd)(a:Opd)(b:Opd)(fr:Fr)(th:Tr TO):Option FV:=o1 fr c fun c=>match c with
  | .bool true=>evO fr a
  | .bool false=>evO fr b
  | _=>none
def QH0 (x:Opd)(fr:Fr)(th:Tr TO):Option FV:=o1 fr x fun x=>match x with
  | .ptr i o=>some (.ptr i o)
  | _=>none
def qBin (op:BinOp)(x:Opd)(y:Opd)(fr:Fr)(th:Tr TO):Option FV:=o2 fr x y (binF op)
def qEqb (kd:EqK)(neg:Bool)(x:Opd)(y:Opd)(fr:Fr)(th:Tr TO):Option FV:=o2 fr x y fun x y=>match eqbF kd x y with
  | some b=>some (.bool (match neg with
   | true=>b.not
   | false=>b))
  | none=>none
def qEqs (neg:Bool)(d:EqD)(x:Opd)(y:Opd)(fr:Fr)(th:Tr TO):Option FV:=o2 fr x y fun x y=>match eqDF d x y with
  | some r=>(match neg with
   | true=>notF r
   | false=>some r)
  | none=>none
def qNot (x:Opd)(fr:Fr)(th:Tr TO):Option FV:=o1 fr x notF
def qNeg (x:Opd)(fr:Fr)(th:Tr TO):Option FV:=o1 fr x fun x=>match x with
  | .int k n=>some (.int k (wr k (Int.sub (.ofNat 0) n)))
  | .sy k n lo hi=>some (fitZ k (sSub (.c (.ofNat 0)) n) (Int.sub (.ofNat 0) hi) (Int.sub (.ofNat 0) lo))
  | _=>none
def QH6 (k:IntKind)(x:Opd)(fr:Fr)(th:Tr TO):Option FV:=o1 fr x fun x=>match x with
  | .int _ n=>some (.int k (wr k n))
  | .sy _ n lo hi=>some (fitZ k n lo hi)
  | _=>none
def qMkf (f:Fn)(a:List Opd)(b:List Opd)(fr:Fr)(th:Tr TO):Option FV:=match evL fr a with
  | some x=>match evL fr b with
   | some y=>some (.fn f x y)
   | none=>none
  | none=>none
def qSlc (k:Nat)(x:Opd)(lo:Option Opd)(hi:Option Opd)(mx:Option Opd)(fr:Fr)(th:Tr TO):Option FV:=o1 fr x fun x=>match evI fr lo with
  | some lo=>match evI fr hi with
   | some hi=>match evI fr mx with
    | some mx=>slcF k x lo hi mx
    | none=>none
   | none=>none
  | none=>none
def QHX (x:Opd)(lo:Option Opd)(hi:Option Opd)(fr:Fr)(th:Tr TO):Option FV:=o1 fr x fun x=>match x with
  | .str l=>match evI fr lo with
   | some lo=>match evI fr hi with
    | some hi=>QwZ l lo hi
    | none=>none
   | none=>none
  | .sx l=>match evI fr lo with
   | some lo=>match evI fr hi with
    | some hi=>QwY l lo hi
    | none=>none
   | none=>none
  | _=>none
def QHY (n:Nat)(k:Nat)(x:Opd)(lo:Option Opd)(hi:Option Opd)(mx:Option Opd)(fr:Fr)(th:Tr TO):Option FV:=o1 fr x fun x=>match x with
  | .ptr i off=>match evI fr lo with
   | some lo=>match evI fr hi with
    | some hi=>match evI fr mx with
     | some mx=>slcF k (.sl i off 0 n (.lit n)) lo hi mx
     | none=>none
    | none=>none
   | none=>none
  | _=>none
def QH5 (off:Nat)(x:Opd)(fr:Fr)(th:Tr TO):Option FV:=o1 fr x fun x=>match x with
  | .ptr i o=>some (.ptr i (o+off))
  | _=>none
def qFld (off:Nat)(k:Nat)(agg:Bool)(x:Opd)(fr:Fr)(th:Tr TO):Option FV:=o1 fr x (fldF off k agg)
def QEW (k:Nat)(x:Opd)(i:Opd)(fr:Fr)(th:Tr TO):Option FV:=o2 fr x i (QId k)
def QFR (n:Nat)(k:Nat)(x:Opd)(i:Opd)(fr:Fr)(th:Tr TO):Option FV:=o2 fr x i (QGz n k)
def QH3 (x:Opd)(i:Opd)(fr:Fr)(th:Tr TO):Option FV:=o2 fr x i QFf
def QH4 (n:Nat)(k:Nat)(agg:Bool)(x:Opd)(i:Opd)(fr:Fr)(th:Tr TO):Option FV:=o2 fr x i (QIc n k agg)
def qExt (x:Opd)(i:Nat)(fr:Fr)(th:Tr TO):Option FV:=o1 fr x fun x=>match x with
  | .tup l=>hd? (Qaz i l)
  | _=>none
def tasF (t:TypeId)(x:FV):Option FV:=match x with
 | .ifc t' v=>bif Nat.beq t' t then some (.tup [v,.bool true]) else none
 | _=>none
def qTas (t:TypeId)(x:Opd)(fr:Fr)(th:Tr TO):Option FV:=o1 fr x fun x=>tasF t x
def qIfc (t:TypeId)(x:Opd)(fr:Fr)(th:Tr TO):Option FV:=o1 fr x fun x=>some (.ifc t x)
def qBld (z:List FV)(pl:List (Nat×Nat))(ps:List (Nat×Opd))(fr:Fr)(th:Tr TO):Option FV:=match evP fr ps with
  | some l=>match Qc4 z pl l with
   | some cs=>some (.agg cs)
   | none=>none
  | none=>none
def qLd (k:Nat)(agg:Bool)(x:Opd)(fr:Fr)(th:Tr TO):Option FV:=o1 fr x (ldF th k agg)
def QEV (x:Opd)(fr:Fr)(th:Tr TO):Option FV:=o1 fr x fun x=>match x with
  | .nsl=>some (.int .i64 (.ofNat 0))
  | .sl _ _ _ len _=>some (.int .i64 (.ofNat len))
  | _=>none
def QH1 (x:Opd)(fr:Fr)(th:Tr TO):Option FV:=o1 fr x fun x=>match x with
  | .str l=>some (.int .i64 (.ofNat l.length))
  | .sx l=>some (.int .i64 (.ofNat l.length))
  | .sstr s=>some (.sy .i64 (.o (.ofNat s.length)) (.ofNat 0) (.ofNat 9223372036854775807))
  | _=>none
def qLkp (d:KD)(z:FV)(ok:Bool)(x i:Opd)(fr:Fr)(th:Tr TO):Option FV:=o2 fr x i (lkpF th d z ok)
def QH2 (x:Opd)(fr:Fr)(th:Tr TO):Option FV:=o1 fr x (QFd th)
def QH7 (x:Opd)(fr:Fr)(th:Tr TO):Option FV:=o1 fr x capF
def qEnt (x:Opd)(fr:Fr)(th:Tr TO):Option FV:=o1 fr x (entF th)
def qMn (x:Opd)(y:Opd)(fr:Fr)(th:Tr TO):Option FV:=o2 fr x y (mnF false)
def qMx (x:Opd)(y:Opd)(fr:Fr)(th:Tr TO):Option FV:=o2 fr x y (mnF true)
def evQ0 (fr:Fr)(th:Tr TO):MOp→Option FV
 | .mov x=>qMov x fr th
 | .pick c a b=>QHZ c a b fr th
 | .nilc x=>QH0 x fr th
 | .bin op x y=>qBin op x y fr th
 | .eqb kd neg x y=>qEqb kd neg x y fr th
 | .eqs neg d x y=>qEqs neg d x y fr th
 | .not x=>qNot x fr th
 | .neg x=>qNeg x fr th
 | .conv k x=>QH6 k x fr th
 | .mkf f a b=>qMkf f a b fr th
 | .slc k x lo hi mx=>qSlc k x lo hi mx fr th
 | .slcS x lo hi=>QHX x lo hi fr th
 | .slcA n k x lo hi mx=>QHY n k x lo hi mx fr th
 | .fadr off x=>QH5 off x fr th
 | .fld off k agg x=>qFld off k agg x fr th
 | .iadr k x i=>QEW k x i fr th
 | .iadrA n k x i=>QFR n k x i fr th
 | .idxS x i=>QH3 x i fr th
 | .idxA n k agg x i=>QH4 n k agg x i fr th
 | .ext x i=>qExt x i fr th
 | .ifc t x=>qIfc t x fr th
 | .tas t x=>qTas t x fr th
 | .bld z pl ps=>qBld z pl ps fr th
 | .ld k agg x=>qLd k agg x fr th
 | .lenS x=>QEV x fr th
 | .lenT x=>QH1 x fr th
 | .mn x y=>qMn x y fr th
 | .mx x y=>qMx x y fr th
 | .lkp d z ok x i=>qLkp d z ok x i fr th
 | .lenM x=>QH2 x fr th
 | .capS x=>QH7 x fr th
 | .ent x=>qEnt x fr th
 | _=>none
end Go.Va
