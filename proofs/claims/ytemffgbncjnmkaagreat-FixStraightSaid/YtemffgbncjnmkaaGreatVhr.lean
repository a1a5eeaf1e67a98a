import Derived.Test.YtemffgbncjnmkaaGreatVn
set_option linter.unusedVariables false
set_option linter.unusedSectionVars false
set_option linter.unusedSimpArgs false
noncomputable section
namespace Go.Va
open Go Go.Sh
variable [Vb]
variable {P:Program}{ds:List Deferred}
abbrev HEnv:=List (Nat×FV)
def lkE (i:Nat):HEnv→Option FV
 | []=>none
 | p::r=>bif Nat.beq p.1 i then some p.2 else lkE i r
def ext (fr:Fr):HEnv→Fr
 | []=>fr
 | p::r=>(ext fr r).put p.1 p.2
theorem QyS (fr:Fr)(i:Nat):∀e:HEnv,(ext fr e).get i=match lkE i e with
  | some v=>some v
  | none=>fr.get i
 | []=>rfl
 | p::r=>by
  simp only[ext,lkE,Fr.put,Fr.get_cons]
  cases hb:Nat.beq p.1 i with
  | true=>rfl
  | false=>simp only[cond_false];exact QyS fr i r
def subO (e:HEnv):Opd→Opd
 | .t i=>match lkE i e with
  | some v=>.c v
  | none=>.t i
 | .c v=>.c v
def subL (e:HEnv):List Opd→List Opd
 | []=>[]
 | x::r=>subO e x::subL e r
def subP (e:HEnv):List (Nat×Opd)→List (Nat×Opd)
 | []=>[]
 | p::r=>(p.1,subO e p.2)::subP e r
def subI (e:HEnv):Option Opd→Option Opd
 | none=>none
 | some x=>some (subO e x)
def subX (e:HEnv):XOp→XOp
 | .cpy k d s=>.cpy k (subO e d) (subO e s)
 | .clm x=>.clm (subO e x)
 | .cvs x=>.cvs (subO e x)
 | .aps b s x=>.aps b (subO e s) (subO e x)
 | .mum d x k v=>.mum d (subO e x) (subO e k) (subO e v)
 | .rgm x=>.rgm (subO e x)
 | .nxm x=>.nxm (subO e x)
 | .dlm d x k=>.dlm d (subO e x) (subO e k)
 | .apo k b z s n=>.apo k b z (subO e s) (subO e n)
 | .mkz k b z l c=>.mkz k b z (subO e l) (subO e c)
def subM (e:HEnv):MOp→MOp
 | .mov x=>.mov (subO e x)
 | .pick c a b=>.pick (subO e c) (subO e a) (subO e b)
 | .nilc x=>.nilc (subO e x)
 | .bin op x y=>.bin op (subO e x) (subO e y)
 | .eqb kd n x y=>.eqb kd n (subO e x) (subO e y)
 | .eqs n d x y=>.eqs n d (subO e x) (subO e y)
 | .not x=>.not (subO e x)
 | .neg x=>.neg (subO e x)
 | .conv k x=>.conv k (subO e x)
 | .mkf f a b=>.mkf f (subL e a) (subL e b)
 | .slc k x lo hi mx=>.slc k (subO e x) (subI e lo) (subI e hi) (subI e mx)
 | .slcS x lo hi=>.slcS (subO e x) (subI e lo) (subI e hi)
 | .slcA n k x lo hi mx=>.slcA n k (subO e x) (subI e lo) (subI e hi) (subI e mx)
 | .fadr off x=>.fadr off (subO e x)
 | .fld off k agg x=>.fld off k agg (subO e x)
 | .iadr k x i=>.iadr k (subO e x) (subO e i)
 | .iadrA n k x i=>.iadrA n k (subO e x) (subO e i)
 | .idxS x i=>.idxS (subO e x) (subO e i)
 | .idxA n k agg x i=>.idxA n k agg (subO e x) (subO e i)
 | .ext x i=>.ext (subO e x) i
 | .ifc t x=>.ifc t (subO e x)
 | .tas t x=>.tas t (subO e x)
 | .bld z pl ps=>.bld z pl (subP e ps)
 | .ld k agg x=>.ld k agg (subO e x)
 | .lenS x=>.lenS (subO e x)
 | .lenT x=>.lenT (subO e x)
 | .mn x y=>.mn (subO e x) (subO e y)
 | .mx x y=>.mx (subO e x) (subO e y)
 | .alc z=>.alc z
 | .box x=>.box (subO e x)
 | .st k a v=>.st k (subO e a) (subO e v)
 | .bsl k n z pl ps=>.bsl k n z pl (subP e ps)
 | .mks k b z l c=>.mks k b z (subO e l) (subO e c)
 | .app k b s x=>.app k b (subO e s) (subO e x)
 | .cpy k d s=>.cpy k (subO e d) (subO e s)
 | .clr k z s=>.clr k z (subO e s)
 | .call f l=>.call (subO e f) (subL e l)
 | .mkm d r=>.mkm d (subI e r)
 | .lkp d z ok x i=>.lkp d z ok (subO e x) (subO e i)
 | .mup d x k v=>.mup d (subO e x) (subO e k) (subO e v)
 | .lenM x=>.lenM (subO e x)
 | .bs0=>.bs0
 | .capS x=>.capS (subO e x)
 | .ent x=>.ent (subO e x)
 | .rng x=>.rng (subO e x)
 | .nxt x=>.nxt (subO e x)
 | .inv tb x l=>.inv tb (subO e x) (subL e l)
 | .apc k b z s n=>.apc k b z (subO e s) (subO e n)
 | .xx x=>.xx (subX e x)
 | .no=>.no
theorem Qdh (fr:Fr)(e:HEnv)(x:Opd):evO fr (subO e x)=evO (ext fr e) x:=by
 cases x with
 | c v=>rfl
 | t i=>
  simp only[subO,evO,QyS]
  cases lkE i e<;>rfl
theorem QyU (fr:Fr)(e:HEnv):∀l,evL fr (subL e l)=evL (ext fr e) l
 | []=>rfl
 | x::r=>by simp only[subL,evL,Qdh,QyU fr e r]
theorem QyT (fr:Fr)(e:HEnv):∀l,evP fr (subP e l)=evP (ext fr e) l
 | []=>rfl
 | p::r=>by simp only[subP,evP,Qdh,QyT fr e r]
theorem QJg (fr:Fr)(e:HEnv)(x:Option Opd):evI fr (subI e x)=evI (ext fr e) x:=by
 cases x with
 | none=>rfl
 | some x=>simp only[subI,evI,Qdh]
theorem QEh (fr:Fr)(e:HEnv)(x:Opd):evN fr (subO e x)=evN (ext fr e) x:=by simp only[evN,Qdh]
theorem Qzh (fr:Fr)(e:HEnv)(x:Option Opd):bdN fr (subI e x)=bdN (ext fr e) x:=by
 cases x with
 | none=>rfl
 | some x=>simp only[subI,bdN,Qdh]
theorem QJd (fr:Fr)(e:HEnv)(th:Tr TO)(m:MOp):evQ fr th (subM e m)=evQ (ext fr e) th m:=by
 cases m<;>simp only[subM,evQ,evQ0,evZ,Qzh,qMov,QHZ,QH0,qBin,qEqb,qEqs,qNot,qNeg,QH6,qMkf,qSlc,QHX,QHY,QH5,qFld,QEW,QFR,QH3,QH4,qExt,qIfc,qTas,qBld,qLd,QEV,QH1,qMn,qMx,qLkp,QH2,QH7,qEnt,o1,o2,Qdh,QyU,QyT,QJg]
theorem QJa (cl:Cl)(fr:Fr)(e:HEnv)(th:TH)(m:MOp)(K:FV→TH→Prop):evX cl fr th (subM e m) K=evX cl (ext fr e) th m K:=by
 cases m<;>simp only[subM,evX,evX0,xAlc,xBox,xSt,xBsl,xMks,Qtg,QwH,QpQ,xApp,QA0,xMkm,xMup,xBs0,Qtf,xRng,xNxt,xInv,xApc,Qdh,QyU,QyT,QEh]
 case slcS x lo hi=>cases lo<;>cases hi<;>simp only[subI,Qdh]
 case mkm d r=>cases r<;>simp only[subI,Qdh]
theorem QHD (cl:Cl)(fr:Fr)(e:HEnv)(th:TH)(m:MOp)(K:FV→TH→Prop):evXA cl fr th (subM e m) K=evXA cl (ext fr e) th m K:=by
 have old:=QJa cl fr e th m K
 cases m<;>first
  | exact old
  | (simp only[subM,evXA,xLkm,Qdh];done)
  | (rename_i k x lo hi mx;cases lo<;>cases mx<;>simp only[subM,subI,evXA,xSlo,Qdh,Qzh,←Qzh];done)
  | (rename_i x;cases x<;>simp only[subM,subX,evXA,evXX,xCpy,xClm,xCvs,xAps,xMum,xRgm,xNxm,xDlm,xApo,xApc,xMkz,Qtg,QpQ,Qdh,QEh])
abbrev HK:=FV→SF
def hQ (m:MOp)(k:HK):SF:=fun cl fr th K=>match evQ fr th.t m with
 | some x=>rsl x th fun y th=>k y cl fr th K
 | none=>False
def hX (x:Cl→Fr→TH→(FV→TH→Prop)→Prop)(k:HK):SF:=fun cl fr th K=>x cl fr th fun v th=>k v cl fr th K
def hS (x:Opd)(lo hi:Option Opd)(k:HK):SF:=fun cl fr th K=>match evQ fr th.t (.slcS x lo hi) with
 | some v=>rsl v th fun y th=>k y cl fr th K
 | none=>Qtf x lo hi fr th fun v th=>k v cl fr th K
def hL (d:KD)(z:FV)(ok:Bool)(x i:Opd)(k:HK):SF:=fun cl fr th K=>match evQ fr th.t (.lkp d z ok x i) with
 | some v=>rsl v th fun y th=>k y cl fr th K
 | none=>xLkm d z ok x i fr th fun v th=>k v cl fr th K
def hSl (k0:Nat)(x:Opd)(lo hi mx:Option Opd)(k:HK):SF:=fun cl fr th K=>match evQ fr th.t (.slc k0 x lo hi mx) with
 | some v=>rsl v th fun y th=>k y cl fr th K
 | none=>xSlo k0 x lo hi mx fr th fun v th=>k v cl fr th K
def QA8 (m:MOp)(k:HK):SF:=match m with
 | .slc k0 x lo hi mx=>hSl k0 x lo hi mx k
 | .slcS x lo hi=>hS x lo hi k
 | .lkp d z ok x i=>hL d z ok x i k
 | .alc z=>hX (fun cl fr th K=>evXA cl fr th (.alc z) K) k
 | .box x=>hX (fun cl fr th K=>evXA cl fr th (.box x) K) k
 | .st n a v=>hX (fun cl fr th K=>evXA cl fr th (.st n a v) K) k
 | .bsl a n z pl ps=>hX (fun cl fr th K=>evXA cl fr th (.bsl a n z pl ps) K) k
 | .mks a b z l c=>hX (fun cl fr th K=>evXA cl fr th (.mks a b z l c) K) k
 | .app a b s x=>hX (fun cl fr th K=>evXA cl fr th (.app a b s x) K) k
 | .call f l=>hX (fun cl fr th K=>evXA cl fr th (.call f l) K) k
 | .mkm d r=>hX (fun cl fr th K=>evXA cl fr th (.mkm d r) K) k
 | .mup d x i v=>hX (fun cl fr th K=>evXA cl fr th (.mup d x i v) K) k
 | .bs0=>hX (fun cl fr th K=>evXA cl fr th .bs0 K) k
 | .rng x=>hX (fun cl fr th K=>evXA cl fr th (.rng x) K) k
 | .nxt x=>hX (fun cl fr th K=>evXA cl fr th (.nxt x) K) k
 | .inv tb x l=>hX (fun cl fr th K=>evXA cl fr th (.inv tb x l) K) k
 | .apc a b z s n=>hX (fun cl fr th K=>evXA cl fr th (.apc a b z s n) K) k
 | .xx x=>hX (fun cl fr th K=>evXA cl fr th (.xx x) K) k
 | .no=>sBad
 | .cpy ..=>sBad
 | .clr ..=>sBad
 | m=>hQ m k
theorem QHz {m:MOp}{k:HK}{cl:Cl}{fr:Fr}{th:TH}{K:KF}(h:QA8 m k cl fr th K) :
  (∃x,evQ fr th.t m=some x∧rsl x th fun y th=>k y cl fr th K)∨evXA cl fr th m fun v th=>k v cl fr th K:=by
 have fq:∀m:MOp,hQ m k cl fr th K→(∃x,evQ fr th.t m=some x∧rsl x th fun y th=>k y cl fr th K)∨evXA cl fr th m fun v th=>k v cl fr th K:=fun m h=>by
  unfold hQ at h
  cases hq:evQ fr th.t m with
  | none=>simp only[hq] at h
  | some x=>simp only[hq] at h;exact .inl ⟨x,rfl,h⟩
 have s:∀ {x:Opd}{lo hi:Option Opd},hS x lo hi k cl fr th K→(∃v,evQ fr th.t (.slcS x lo hi)=some v∧rsl v th fun y th=>k y cl fr th K)∨evXA cl fr th (.slcS x lo hi) fun v th=>k v cl fr th K:=fun {x lo hi} h=>by
  unfold hS at h
  cases hq:evQ fr th.t (.slcS x lo hi) with
  | none=>rw[hq] at h;exact .inr h
  | some v=>rw[hq] at h;exact .inl ⟨v,rfl,h⟩
 have s2:∀ {d:KD}{z:FV}{ok:Bool}{x i:Opd},hL d z ok x i k cl fr th K→(∃v,evQ fr th.t (.lkp d z ok x i)=some v∧rsl v th fun y th=>k y cl fr th K)∨evXA cl fr th (.lkp d z ok x i) fun v th=>k v cl fr th K:=fun {d z ok x i} h=>by
  unfold hL at h
  cases hq:evQ fr th.t (.lkp d z ok x i) with
  | none=>rw[hq] at h;exact .inr h
  | some v=>rw[hq] at h;exact .inl ⟨v,rfl,h⟩
 have s3:∀ {k0:Nat}{x:Opd}{lo hi mx:Option Opd},hSl k0 x lo hi mx k cl fr th K→(∃v,evQ fr th.t (.slc k0 x lo hi mx)=some v∧rsl v th fun y th=>k y cl fr th K)∨evXA cl fr th (.slc k0 x lo hi mx) fun v th=>k v cl fr th K:=fun {k0 x lo hi mx} h=>by
  unfold hSl at h
  cases hq:evQ fr th.t (.slc k0 x lo hi mx) with
  | none=>rw[hq] at h;exact .inr h
  | some v=>rw[hq] at h;exact .inl ⟨v,rfl,h⟩
 cases m<;>first
  | exact fq _ h
  | exact s h
  | exact s2 h
  | exact s3 h
  | exact .inr h
  | exact h.elim
def gstV (v:Option FV)(w:Bool):G3:=match v with
 | some v=>match v with
  | .bool b=>match b with
   | true=>(match w with
    | true=>.go
    | false=>.skip)
   | false=>(match w with
    | true=>.skip
    | false=>.go)
  | .tup l=>match l with
   | []=>.skip
   | _=>.bad
  | _=>.bad
 | none=>.bad
theorem QKq (fr:Fr)(p:Nat×Bool):gst fr (some p)=gstV (fr.get p.1) p.2:=by
 simp only[gst,gstV]
 cases fr.get p.1 with
 | none=>rfl
 | some v=>cases v<;>rfl
def hG (g:Opd)(w:Bool)(s:HK→SF)(k:HK):SF:=fun cl fr th K=>match gstV (evO fr g) w with
 | .go=>s k cl fr th K
 | .skip=>k undF cl fr th K
 | .bad=>False
def QCn (c:CO)(e:HEnv)(k:HK):SF:=match c.g with
 | none=>QA8 (subM e c.m) k
 | some p=>hG (subO e (.t p.1)) p.2 (QA8 (subM e c.m)) k
theorem QGB {c:CO}{e:HEnv}{k:HK}{cl:Cl}{fr:Fr}{th:TH}{K:KF}(h:QCn c e k cl fr th K):match gst (ext fr e) c.g with
  | .go=>QA8 (subM e c.m) k cl fr th K
  | .skip=>k undF cl fr th K
  | .bad=>False:=by
 unfold QCn at h
 cases hg:c.g with
 | none=>rw[hg] at h;exact h
 | some p=>
  rw[hg] at h
  rw[QKq]
  have e1:evO fr (subO e (.t p.1))=(ext fr e).get p.1:=Qdh fr e (.t p.1)
  simp only[hG,e1] at h
  exact h
def Qx7 (d:Option Nat)(v:FV)(e:HEnv):HEnv:=match d with
 | some d=>(d,v)::e
 | none=>e
def hEnd (e:HEnv):List Nat→SF
 | []=>sN
 | d::r=>match lkE d e with
  | some v=>fun cl fr th K=>hEnd e r cl (fr.put d v) th K
  | none=>hEnd e r
def evH:List CO→HEnv→List Nat→SF
 | [],e,outs=>hEnd e outs
 | c::r,e,outs=>QCn c e fun v=>evH r (Qx7 c.dst v e) outs
def Qbh (m:Nat):List CO→List Nat
 | []=>[]
 | c::r=>match c.dst with
  | some d=>bif bitN m d||memE d (Qbh m r) then Qbh m r else d::Qbh m r
  | none=>Qbh m r
where memE (i:Nat):List Nat→Bool
 | []=>false
 | j::r=>bif Nat.beq i j then true else memE i r
theorem QB2 {i:Nat}:∀ {l:List Nat},Qbh.memE i l=true↔i∈l
 | []=>by simp[Qbh.memE]
 | j::r=>by
  simp only[Qbh.memE]
  cases h:Nat.beq i j with
  | true=>have:=Qm h;subst this;simp
  | false=>have:=QlU h;simp[this,QB2]
theorem QpP {m d:Nat}(hm:bitN m d=false):∀ {l:List CO}{c:CO},c∈l→c.dst=some d→d∈Qbh m l
 | c'::r,c,hc,hd=>by
  simp only[Qbh]
  rcases List.mem_cons.1 hc with rfl | hc
  ·rw[hd]
   simp only[hm,Bool.false_or]
   cases hb:Qbh.memE d (Qbh m r) with
   | true=>exact QB2.1 hb
   | false=>exact .head _
  ·have:=QpP hm hc hd
   cases hd':c'.dst with
   | none=>exact this
   | some d'=>
    simp only
    cases hb:bitN m d'||Qbh.memE d' (Qbh m r) with
    | true=>exact this
    | false=>exact .tail _ this
def Clean (m:Nat)(fr:Fr):Prop:=∀k,bitN m k=true→fr.get k=none
theorem Clean.fl (m:Nat)(fr:Fr):Clean m (fr.fl m):=fun k hk=>by rw[Fr.fl,Fr.get_base,hk];rfl
theorem Qe7 {m d:Nat}:∀ {l:List CO},d∈Qbh m l→bitN m d=false
 | [],h=>by cases h
 | c::r,h=>by
  simp only[Qbh] at h
  cases hd:c.dst with
  | none=>rw[hd] at h;exact Qe7 h
  | some d'=>
   rw[hd] at h
   simp only at h
   cases hb:bitN m d'||Qbh.memE d' (Qbh m r) with
   | true=>rw[hb] at h;exact Qe7 h
   | false=>
    rw[hb] at h
    simp only[Bool.or_eq_false_iff] at hb
    rcases List.mem_cons.1 h with rfl | h
    ·exact hb.1
    ·exact Qe7 h
def finF (e:HEnv):List Nat→Fr→Fr
 | [],fr=>fr
 | d::r,fr=>match lkE d e with
  | some v=>finF e r (fr.put d v)
  | none=>finF e r fr
theorem QyQ (e:HEnv):∀(l:List Nat)(cl:Cl)(fr:Fr)(th:TH)(K:KF),hEnd e l cl fr th K=K (finF e l fr) th
 | [],_,_,_,_=>rfl
 | d::r,cl,fr,th,K=>by
  simp only[hEnd,finF]
  cases lkE d e with
  | none=>exact QyQ e r cl fr th K
  | some v=>exact QyQ e r cl (fr.put d v) th K
theorem Qp5 (e:HEnv)(k:Nat):∀(l:List Nat)(fr:Fr),(finF e l fr).get k=(match lkE k e with
  | some v=>if k∈l then some v else fr.get k
  | none=>fr.get k)
 | [],fr=>by cases lkE k e<;>simp[finF]
 | d::r,fr=>by
  simp only[finF]
  cases hd:lkE d e with
  | none=>
   simp only
   rw[Qp5 e k r fr]
   cases hk:lkE k e with
   | none=>rfl
   | some v=>
    have:k≠d:=fun h=>by rw[h,hd] at hk;cases hk
    simp[this]
  | some v=>
   simp only
   rw[Qp5 e k r]
   by_cases hkd:k=d
   ·subst hkd
    rw[hd]
    simp only[Fr.get_eq]
    simp
   ·rw[Fr.get_ne _ _ hkd]
    cases hk:lkE k e with
    | none=>rfl
    | some u=>simp[hkd]
def Qte (e:HEnv)(m:Nat)(outs:List Nat):Prop:=∀k v,lkE k e=some v→bitN m k=false→k∈outs
theorem QKv {E:Env}{n m:Nat}{fr:Fr}{e:HEnv}{outs:List Nat}{f:Nat→Value}(ha:AgF E n (ext fr e) f)(hc:Clean m fr)(hk:Qte e m outs)(ho:∀d∈outs,bitN m d=false):AgF E n (finF e outs fr) f∧Clean m (finF e outs fr):=by
 refine⟨fun t x hx=>?_,fun k hm=>?_⟩
 ·rw[Qp5] at hx
  refine ha t x ?_
  rw[QyS]
  cases hl:lkE t e with
  | none=>rw[hl] at hx;exact hx
  | some v=>
   rw[hl] at hx
   simp only at hx ⊢
   by_cases ht:t∈outs
   ·rw[if_pos ht] at hx;exact hx
   ·rw[if_neg ht] at hx
    cases hb:bitN m t with
    | true=>rw[hc t hb] at hx;cases hx
    | false=>exact absurd (hk t v hl hb) ht
 ·rw[Qp5]
  have hno:¬k∈outs:=fun h=>by rw[ho k h] at hm;cases hm
  cases lkE k e with
  | none=>exact hc k hm
  | some v=>simp only[if_neg hno];exact hc k hm
theorem Qsu [Gd]{cl:Cl}(hcl:ClOk P cl){n m:Nat}{ops:Array Oper}{h0:Heap}{L:List HP}{w0:World}{Q:Exit→Act→World→Prop}(hp:PnOk ds Q w0 (fun _ _=>True)){outs:List Nat}(ho:∀d∈outs,bitN m d=false){fr:Fr}(hcn:Clean m fr){K:Fr→TH→Prop}:∀(l:List Oper)(cs:List CO)(e:HEnv)(th:TH)(E:Env)(f:Nat→Value)(w:World),
  cOL P n ops l=some cs→evH cs e outs cl fr th K→AgF E n (ext fr e) f→Qte e m outs→(∀c∈cs,∀d,c.dst=some d→bitN m d=false→d∈outs)→Rep E th h0 w.heap L→Qx w0 w →
  (∀F fr' th' f' w',E.Le F→AgF F n fr' f'→Clean m fr'→Rep F th' h0 w'.heap L→Qx w0 w'→K fr' th'→Q .normal (mkD ds n f') w')→wpList P ops Q l (mkD ds n f) w
 | [],cs,e,th,E,f,w,hc,hx,ha,hk,hd,r,hs,fin=>by
  simp only[cOL,Option.some.injEq] at hc;subst hc
  rw[evH,QyQ] at hx
  obtain⟨a1,a2⟩:=QKv ha hcn hk ho
  exact QDX (fin E _ th f w (Env.Le.refl E) a1 a2 r hs hx)
 | o::l,cs,e,th,E,f,w,hc,hx,ha,hk,hd,r,hs,fin=>by
  obtain⟨c,cs',h1,h2,rfl⟩:=Qwy hc
  have ok:=QBe h1
  rw[evH] at hx
  have hx:=QGB hx
  have hkB:∀x:FV,Qte (Qx7 c.dst x e) m outs:=fun x k v hl hb=>by
   cases hcd:c.dst with
   | none=>rw[hcd] at hl;exact hk k v hl hb
   | some d=>
    rw[hcd] at hl
    simp only[Qx7,lkE] at hl
    cases hbq:Nat.beq d k with
    | true=>have:=Qm hbq;subst this;exact hd c (.head _) d hcd hb
    | false=>rw[hbq] at hl;exact hk k v hl hb
  have hdR:∀c'∈cs',∀d,c'.dst=some d→bitN m d=false→d∈outs:=fun c' hc'=>hd c' (.tail _ hc')
  have next:∀(F:Env) (x:FV) (th':TH) (v:Value) (w':World),E.Le F→den F x=some v→Rep F th' h0 w'.heap L→Qx w0 w'→evH cs' (Qx7 c.dst x e) outs cl fr th' K →
    (∀d,o.dst=some d→wpList P ops Q l (mkD ds n (upd f d v)) w')∧(o.dst=none→wpList P ops Q l (mkD ds n f) w'):=fun F x th' v w' hle hdn hr hs' hx'=>by
   constructor
   ·intro d hd'
    have hK:=hkB x
    rw[ok.d,hd'] at hx' hK
    exact Qsu hcl hp ho hcn l cs' _ th' F _ w' h2 hx' ((ha.mono hle).put (ok.lt d hd') hdn) hK hdR hr hs' fun F' fr' th2 f' w2 a b b' c' d' e'=>fin F' fr' th2 f' w2 (hle.trans a) b b' c' d' e'
   ·intro hd'
    have hK:=hkB x
    rw[ok.d,hd'] at hx' hK
    exact Qsu hcl hp ho hcn l cs' _ th' F _ w' h2 hx' (ha.mono hle) hK hdR hr hs' fun F' fr' th2 f' w2 a b b' c' d' e'=>fin F' fr' th2 f' w2 (hle.trans a) b b' c' d' e'
  cases hg:gst (ext fr e) c.g with
  | bad=>rw[hg] at hx;exact hx.elim
  | skip=>
   rw[hg] at hx
   have hw:=Qp2 (ds:=ds) ok ha hg
   obtain⟨n1,n2⟩:=next E undF th undef w (Env.Le.refl E) (Qhv E) r hs hx
   cases hdd:o.dst with
   | none=>exact Qzq hw hdd (n2 hdd)
   | some d=>exact QBB hw hdd (n1 d hdd)
  | go=>
   rw[hg] at hx
   have hw:=Qss (ds:=ds) ok ha hg
   simp only at hx
   rcases QHz hx with⟨x,hq,hx⟩ | hx
   ·rw[QJd] at hq
    have sq:=QvE r ha ok hq (Qtq hx).1
    obtain⟨v,hv1,hv2⟩:=sq
    obtain⟨y,th',g1,g2,g3⟩:∃y th',den E y=some v∧Rep E th' h0 w.heap L∧evH cs' (Qx7 c.dst y e) outs cl fr th' K:=by
     exact QFM r hv2 hx
    obtain⟨n1,n2⟩:=next E y th' v w (Env.Le.refl E) g1 g2 hs g3
    have sq':Sq P (Eq w.heap) (execOp (evf n f) o) (fun u=>u=v):=⟨v,hv1,rfl⟩
    cases hdd:o.dst with
    | none=>
     refine Qdt hw ?_
     rw[hv1 w rfl,Oper.upon_value,hdd,Qn3]
     exact n2 hdd
    | some d=>exact QEM rfl sq' rfl hw hdd fun u hu=>by rw[hu];exact n1 d hdd
   ·rw[QHD] at hx
    have sx:=QtH hcl r ha.ago (ok.m (QCt hx)) hx
    cases hdd:o.dst with
    | none=>
     refine QHV rfl sx rfl hw hdd (fun v h' w' e1 e2 ⟨F,x,th',g1,g2,g3,g4⟩=>?_) hs trivial
     subst e1
     exact (next F x th' v w' g1 g2 g3 (hs.trans e2) g4).2 hdd
    | some d=>
     refine QEL rfl sx rfl hw hdd (fun v h' w' e1 e2 ⟨F,x,th',g1,g2,g3,g4⟩=>?_) hs trivial
     subst e1
     exact (next F x th' v w' g1 g2 g3 (hs.trans e2) g4).1 d hdd
end Go.Va
