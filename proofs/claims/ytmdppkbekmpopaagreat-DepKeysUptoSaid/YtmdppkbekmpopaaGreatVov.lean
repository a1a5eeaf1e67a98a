import Derived.Test.YtmdppkbekmpopaaGreatVn
set_option linter.unusedVariables false
set_option linter.unusedSimpArgs false
set_option linter.unusedSectionVars false
noncomputable section
namespace Go.Va
open Go Go.Sh
variable [Vb]
variable {P:Program}{ds:List Deferred}
abbrev HEnv:=List (Nat×FV)
def lkE (i:Nat):HEnv→Option FV
 | []=>none
 | p::r=>bif Nat.beq p.1 i then some p.2 else lkE i r
def ext (fr:Fr):HEnv→Fr
 | []=>fr
 | p::r=>(ext fr r).put p.1 p.2
theorem QyS (fr:Fr)(i:Nat):∀e:HEnv,(ext fr e).get i=match lkE i e with
  | some v=>some v
  | none=>fr.get i
 | []=>rfl
 | p::r=>by
  simp only[ext,lkE,Fr.put,Fr.get_cons]
  cases hb:Nat.beq p.1 i with
  | true=>rfl
  | false=>simp only[cond_false];exact QyS fr i r
def subO (e:HEnv):Opd→Opd
 | .t i=>match lkE i e with
  | some v=>.c v
  | none=>.t i
 | .c v=>.c v
def subL (e:HEnv):List Opd→List Opd
 | []=>[]
 | x::r=>subO e x::subL e r
def subP (e:HEnv):List (Nat×Opd)→List (Nat×Opd)
 | []=>[]
 | p::r=>(p.1,subO e p.2)::subP e r
def subI (e:HEnv):Option Opd→Option Opd
 | none=>none
 | some x=>some (subO e x)
def subX (e:HEnv):XOp→XOp
 | .cpy k d s=>.cpy k (subO e d) (subO e s)
 | .clm x=>.clm (subO e x)
 | .cvs x=>.cvs (subO e x)
 | .aps b s x=>.aps b (subO e s) (subO e x)
 | .mum d x k v=>.mum d (subO e x) (subO e k) (subO e v)
 | .rgm x=>.rgm (subO e x)
 | .nxm x=>.nxm (subO e x)
 | .dlm d x k=>.dlm d (subO e x) (subO e k)
 | .apo k b z s n=>.apo k b z (subO e s) (subO e n)
def subM (e:HEnv):MOp→MOp
 | .mov x=>.mov (subO e x)
 | .pick c a b=>.pick (subO e c) (subO e a) (subO e b)
 | .nilc x=>.nilc (subO e x)
 | .bin op x y=>.bin op (subO e x) (subO e y)
 | .eqb kd n x y=>.eqb kd n (subO e x) (subO e y)
 | .eqs n d x y=>.eqs n d (subO e x) (subO e y)
 | .not x=>.not (subO e x)
 | .neg x=>.neg (subO e x)
 | .conv k x=>.conv k (subO e x)
 | .mkf f a b=>.mkf f (subL e a) (subL e b)
 | .slc k x lo hi mx=>.slc k (subO e x) (subI e lo) (subI e hi) (subI e mx)
 | .slcS x lo hi=>.slcS (subO e x) (subI e lo) (subI e hi)
 | .slcA n k x lo hi mx=>.slcA n k (subO e x) (subI e lo) (subI e hi) (subI e mx)
 | .fadr off x=>.fadr off (subO e x)
 | .fld off k agg x=>.fld off k agg (subO e x)
 | .iadr k x i=>.iadr k (subO e x) (subO e i)
 | .iadrA n k x i=>.iadrA n k (subO e x) (subO e i)
 | .idxS x i=>.idxS (subO e x) (subO e i)
 | .idxA n k agg x i=>.idxA n k agg (subO e x) (subO e i)
 | .ext x i=>.ext (subO e x) i
 | .ifc t x=>.ifc t (subO e x)
 | .tas t x=>.tas t (subO e x)
 | .bld z pl ps=>.bld z pl (subP e ps)
 | .ld k agg x=>.ld k agg (subO e x)
 | .lenS x=>.lenS (subO e x)
 | .lenT x=>.lenT (subO e x)
 | .mn x y=>.mn (subO e x) (subO e y)
 | .mx x y=>.mx (subO e x) (subO e y)
 | .alc z=>.alc z
 | .box x=>.box (subO e x)
 | .st k a v=>.st k (subO e a) (subO e v)
 | .bsl k n z pl ps=>.bsl k n z pl (subP e ps)
 | .mks k b z l c=>.mks k b z (subO e l) (subO e c)
 | .app k b s x=>.app k b (subO e s) (subO e x)
 | .cpy k d s=>.cpy k (subO e d) (subO e s)
 | .clr k z s=>.clr k z (subO e s)
 | .call f l=>.call (subO e f) (subL e l)
 | .mkm d r=>.mkm d (subI e r)
 | .lkp d z ok x i=>.lkp d z ok (subO e x) (subO e i)
 | .mup d x k v=>.mup d (subO e x) (subO e k) (subO e v)
 | .lenM x=>.lenM (subO e x)
 | .bs0=>.bs0
 | .capS x=>.capS (subO e x)
 | .ent x=>.ent (subO e x)
 | .rng x=>.rng (subO e x)
 | .nxt x=>.nxt (subO e x)
 | .inv tb x l=>.inv tb (subO e x) (subL e l)
 | .apc k b z s n=>.apc k b z (subO e s) (subO e n)
 | .xx x=>.xx (subX e x)
 | .no=>.no
theorem Qdh (fr:Fr)(e:HEnv)(x:Opd):evO fr (subO e x)=evO (ext fr e) x:=by
 cases x with
 | c v=>rfl
 | t i=>
  simp only[subO,evO,QyS]
  cases lkE i e<;>rfl
theorem QyU (fr:Fr)(e:HEnv):∀l,evL fr (subL e l)=evL (ext fr e) l
 | []=>rfl
 | x::r=>by simp only[subL,evL,Qdh,QyU fr e r]
theorem QyT (fr:Fr)(e:HEnv):∀l,evP fr (subP e l)=evP (ext fr e) l
 | []=>rfl
 | p::r=>by simp only[subP,evP,Qdh,QyT fr e r]
theorem QJg (fr:Fr)(e:HEnv)(x:Option Opd):evI fr (subI e x)=evI (ext fr e) x:=by
 cases x with
 | none=>rfl
 | some x=>simp only[subI,evI,Qdh]
theorem QEh (fr:Fr)(e:HEnv)(x:Opd):evN fr (subO e x)=evN (ext fr e) x:=by simp only[evN,Qdh]
theorem Qzh (fr:Fr)(e:HEnv)(x:Option Opd):bdN fr (subI e x)=bdN (ext fr e) x:=by
 cases x with
 | none=>rfl
 | some x=>simp only[subI,bdN,Qdh]
theorem QJd (fr:Fr)(e:HEnv)(th:Tr TO)(m:MOp):evQ fr th (subM e m)=evQ (ext fr e) th m:=by
 cases m<;>simp only[subM,evQ,evQ0,evZ,Qzh,qMov,QHZ,QH0,qBin,qEqb,qNot,qNeg,QH6,qMkf,qSlc,QHX,QHY,QH5,qFld,QEW,QFR,QH3,QH4,qExt,qIfc,qTas,qBld,qLd,QEV,QH1,qLkp,QH2,QH7,qEnt,o1,o2,Qdh,QyU,QyT,QJg]
theorem QJa (cl:Cl)(fr:Fr)(e:HEnv)(th:TH)(m:MOp)(K:FV→TH→Prop):evX cl fr th (subM e m) K=evX cl (ext fr e) th m K:=by
 cases m<;>simp only[subM,evX,evX0,xAlc,xBox,xSt,xBsl,xMks,Qtg,QwH,QpQ,xApp,QA0,xMkm,xMup,xBs0,Qtf,xRng,xNxt,xInv,xApc,Qdh,QyU,QyT,QEh]
 case slcS x lo hi=>cases lo<;>cases hi<;>simp only[subI,Qdh]
 case mkm d r=>cases r<;>simp only[subI,Qdh]
theorem QHD (cl:Cl)(fr:Fr)(e:HEnv)(th:TH)(m:MOp)(K:FV→TH→Prop):evXA cl fr th (subM e m) K=evXA cl (ext fr e) th m K:=by
 have old:=QJa cl fr e th m K
 cases m<;>first
  | exact old
  | (simp only[subM,evXA,xLkm,Qdh];done)
  | (rename_i k x lo hi mx;cases lo<;>cases mx<;>simp only[subM,subI,evXA,xSlo,Qdh,Qzh,←Qzh];done)
  | (rename_i x;cases x<;>simp only[subM,subX,evXA,evXX,xCvs,xAps,xMum,xRgm,xNxm,xDlm,xApo,xApc,Qdh,QEh])
abbrev HK:=FV→SF
def hQ (m:MOp)(k:HK):SF:=fun cl fr th K=>match evQ fr th.t m with
 | some x=>rsl x th fun y th=>k y cl fr th K
 | none=>False
def hX (x:Cl→Fr→TH→(FV→TH→Prop)→Prop)(k:HK):SF:=fun cl fr th K=>x cl fr th fun v th=>k v cl fr th K
def hS (x:Opd)(lo hi:Option Opd)(k:HK):SF:=fun cl fr th K=>match evQ fr th.t (.slcS x lo hi) with
 | some v=>rsl v th fun y th=>k y cl fr th K
 | none=>Qtf x lo hi fr th fun v th=>k v cl fr th K
def hL (d:KD)(z:FV)(ok:Bool)(x i:Opd)(k:HK):SF:=fun cl fr th K=>match evQ fr th.t (.lkp d z ok x i) with
 | some v=>rsl v th fun y th=>k y cl fr th K
 | none=>xLkm d z ok x i fr th fun v th=>k v cl fr th K
def hSl (k0:Nat)(x:Opd)(lo hi mx:Option Opd)(k:HK):SF:=fun cl fr th K=>match evQ fr th.t (.slc k0 x lo hi mx) with
 | some v=>rsl v th fun y th=>k y cl fr th K
 | none=>xSlo k0 x lo hi mx fr th fun v th=>k v cl fr th K
def QA8 (m:MOp)(k:HK):SF:=match m with
 | .slc k0 x lo hi mx=>hSl k0 x lo hi mx k
 | .slcS x lo hi=>hS x lo hi k
 | .lkp d z ok x i=>hL d z ok x i k
 | .alc z=>hX (fun cl fr th K=>evXA cl fr th (.alc z) K) k
 | .box x=>hX (fun cl fr th K=>evXA cl fr th (.box x) K) k
 | .st n a v=>hX (fun cl fr th K=>evXA cl fr th (.st n a v) K) k
 | .bsl a n z pl ps=>hX (fun cl fr th K=>evXA cl fr th (.bsl a n z pl ps) K) k
 | .mks a b z l c=>hX (fun cl fr th K=>evXA cl fr th (.mks a b z l c) K) k
 | .app a b s x=>hX (fun cl fr th K=>evXA cl fr th (.app a b s x) K) k
 | .call f l=>hX (fun cl fr th K=>evXA cl fr th (.call f l) K) k
 | .mkm d r=>hX (fun cl fr th K=>evXA cl fr th (.mkm d r) K) k
 | .mup d x i v=>hX (fun cl fr th K=>evXA cl fr th (.mup d x i v) K) k
 | .bs0=>hX (fun cl fr th K=>evXA cl fr th .bs0 K) k
 | .rng x=>hX (fun cl fr th K=>evXA cl fr th (.rng x) K) k
 | .nxt x=>hX (fun cl fr th K=>evXA cl fr th (.nxt x) K) k
 | .inv tb x l=>hX (fun cl fr th K=>evXA cl fr th (.inv tb x l) K) k
 | .apc a b z s n=>hX (fun cl fr th K=>evXA cl fr th (.apc a b z s n) K) k
 | .xx x=>hX (fun cl fr th K=>evXA cl fr th (.xx x) K) k
 | .no=>sBad
 | .cpy ..=>sBad
 | .clr ..=>sBad
 | m=>hQ m k
variable {K:KF}{cl:Cl}{fr:Fr}{k:HK}{th:TH}
theorem QHz {m:MOp}(h:QA8 m k cl fr th K) :
  (∃x,evQ fr th.t m=some x∧rsl x th fun y th=>k y cl fr th K)∨evXA cl fr th m fun v th=>k v cl fr th K:=by
 have fq:∀m:MOp,hQ m k cl fr th K→(∃x,evQ fr th.t m=some x∧rsl x th fun y th=>k y cl fr th K)∨evXA cl fr th m fun v th=>k v cl fr th K:=fun m h=>by
  unfold hQ at h
  cases hq:evQ fr th.t m with
  | none=>simp only[hq] at h
  | some x=>simp only[hq] at h;exact .inl ⟨x,rfl,h⟩
 have s:∀ {x:Opd}{lo hi:Option Opd},hS x lo hi k cl fr th K→(∃v,evQ fr th.t (.slcS x lo hi)=some v∧rsl v th fun y th=>k y cl fr th K)∨evXA cl fr th (.slcS x lo hi) fun v th=>k v cl fr th K:=fun {x lo hi} h=>by
  unfold hS at h
  cases hq:evQ fr th.t (.slcS x lo hi) with
  | none=>rw[hq] at h;exact .inr h
  | some v=>rw[hq] at h;exact .inl ⟨v,rfl,h⟩
 have s2:∀ {d:KD}{z:FV}{ok:Bool}{x i:Opd},hL d z ok x i k cl fr th K→(∃v,evQ fr th.t (.lkp d z ok x i)=some v∧rsl v th fun y th=>k y cl fr th K)∨evXA cl fr th (.lkp d z ok x i) fun v th=>k v cl fr th K:=fun {d z ok x i} h=>by
  unfold hL at h
  cases hq:evQ fr th.t (.lkp d z ok x i) with
  | none=>rw[hq] at h;exact .inr h
  | some v=>rw[hq] at h;exact .inl ⟨v,rfl,h⟩
 have s3:∀ {k0:Nat}{x:Opd}{lo hi mx:Option Opd},hSl k0 x lo hi mx k cl fr th K→(∃v,evQ fr th.t (.slc k0 x lo hi mx)=some v∧rsl v th fun y th=>k y cl fr th K)∨evXA cl fr th (.slc k0 x lo hi mx) fun v th=>k v cl fr th K:=fun {k0 x lo hi mx} h=>by
  unfold hSl at h
  cases hq:evQ fr th.t (.slc k0 x lo hi mx) with
  | none=>rw[hq] at h;exact .inr h
  | some v=>rw[hq] at h;exact .inl ⟨v,rfl,h⟩
 cases m<;>first
  | exact fq _ h
  | exact s h
  | exact s2 h
  | exact s3 h
  | exact .inr h
  | exact h.elim
def gstV (v:Option FV)(w:Bool):G3:=match v with
 | some v=>match v with
  | .bool b=>match b with
   | true=>(match w with
    | true=>.go
    | false=>.skip)
   | false=>(match w with
    | true=>.skip
    | false=>.go)
  | .tup l=>match l with
   | []=>.skip
   | _=>.bad
  | _=>.bad
 | none=>.bad
theorem QKq (fr:Fr)(p:Nat×Bool):gst fr (some p)=gstV (fr.get p.1) p.2:=by
 simp only[gst,gstV]
 cases fr.get p.1 with
 | none=>rfl
 | some v=>cases v<;>rfl
def hG (g:Opd)(w:Bool)(s:HK→SF)(k:HK):SF:=fun cl fr th K=>match gstV (evO fr g) w with
 | .go=>s k cl fr th K
 | .skip=>k undF cl fr th K
 | .bad=>False
def QCn (c:CO)(e:HEnv)(k:HK):SF:=match c.g with
 | none=>QA8 (subM e c.m) k
 | some p=>hG (subO e (.t p.1)) p.2 (QA8 (subM e c.m)) k
variable {e:HEnv}
theorem QGB {c:CO}(h:QCn c e k cl fr th K):match gst (ext fr e) c.g with
  | .go=>QA8 (subM e c.m) k cl fr th K
  | .skip=>k undF cl fr th K
  | .bad=>False:=by
 unfold QCn at h
 cases hg:c.g with
 | none=>rw[hg] at h;exact h
 | some p=>
  rw[hg] at h
  rw[QKq]
  have e1:evO fr (subO e (.t p.1))=(ext fr e).get p.1:=Qdh fr e (.t p.1)
  simp only[hG,e1] at h
  exact h
def Qx7 (d:Option Nat)(v:FV)(e:HEnv):HEnv:=match d with
 | some d=>(d,v)::e
 | none=>e
def hEnd (e:HEnv):List Nat→SF
 | []=>sN
 | d::r=>match lkE d e with
  | some v=>fun cl fr th K=>hEnd e r cl (fr.put d v) th K
  | none=>hEnd e r
def evH:List CO→HEnv→List Nat→SF
 | [],e,outs=>hEnd e outs
 | c::r,e,outs=>QCn c e fun v=>evH r (Qx7 c.dst v e) outs
def Qbh (m:Nat):List CO→List Nat
 | []=>[]
 | c::r=>match c.dst with
  | some d=>bif bitN m d||memE d (Qbh m r) then Qbh m r else d::Qbh m r
  | none=>Qbh m r
where memE (i:Nat):List Nat→Bool
 | []=>false
 | j::r=>bif Nat.beq i j then true else memE i r
theorem QB2 {i:Nat}:∀ {l:List Nat},Qbh.memE i l=true↔i∈l
 | []=>by simp[Qbh.memE]
 | j::r=>by
  simp only[Qbh.memE]
  cases h:Nat.beq i j with
  | true=>have:=Qm h;subst this;simp
  | false=>have:=QlU h;simp[this,QB2]
theorem QpP {m d:Nat}(hm:bitN m d=false):∀ {l:List CO}{c:CO},c∈l→c.dst=some d→d∈Qbh m l
 | c'::r,c,hc,hd=>by
  simp only[Qbh]
  rcases List.mem_cons.1 hc with rfl | hc
  ·rw[hd]
   simp only[hm,Bool.false_or]
   cases hb:Qbh.memE d (Qbh m r) with
   | true=>exact QB2.1 hb
   | false=>exact .head _
  ·have:=QpP hm hc hd
   cases hd':c'.dst with
   | none=>exact this
   | some d'=>
    simp only
    cases hb:bitN m d'||Qbh.memE d' (Qbh m r) with
    | true=>exact this
    | false=>exact .tail _ this
def Clean (m:Nat)(fr:Fr):Prop:=∀k,bitN m k=true→fr.get k=none
theorem Clean.fl (m:Nat)(fr:Fr):Clean m (fr.fl m):=fun k hk=>by rw[Fr.fl,Fr.get_base,hk];rfl
theorem Qe7 {m d:Nat}:∀ {l:List CO},d∈Qbh m l→bitN m d=false
 | [],h=>by cases h
 | c::r,h=>by
  simp only[Qbh] at h
  cases hd:c.dst with
  | none=>rw[hd] at h;exact Qe7 h
  | some d'=>
   rw[hd] at h
   simp only at h
   cases hb:bitN m d'||Qbh.memE d' (Qbh m r) with
   | true=>rw[hb] at h;exact Qe7 h
   | false=>
    rw[hb] at h
    simp only[Bool.or_eq_false_iff] at hb
    rcases List.mem_cons.1 h with rfl | h
    ·exact hb.1
    ·exact Qe7 h
def finF (e:HEnv):List Nat→Fr→Fr
 | [],fr=>fr
 | d::r,fr=>match lkE d e with
  | some v=>finF e r (fr.put d v)
  | none=>finF e r fr
theorem QyQ (e:HEnv):∀(l:List Nat) (cl:Cl) (fr:Fr) (th:TH) (K:KF),hEnd e l cl fr th K=K (finF e l fr) th
 | [],_,_,_,_=>rfl
 | d::r,cl,fr,th,K=>by
  simp only[hEnd,finF]
  cases lkE d e with
  | none=>exact QyQ e r cl fr th K
  | some v=>exact QyQ e r cl (fr.put d v) th K
theorem Qp5 (e:HEnv)(k:Nat):∀(l:List Nat) (fr:Fr),(finF e l fr).get k=(match lkE k e with
  | some v=>if k∈l then some v else fr.get k
  | none=>fr.get k)
 | [],fr=>by cases lkE k e<;>simp[finF]
 | d::r,fr=>by
  simp only[finF]
  cases hd:lkE d e with
  | none=>
   simp only
   rw[Qp5 e k r fr]
   cases hk:lkE k e with
   | none=>rfl
   | some v=>
    have:k≠d:=fun h=>by rw[h,hd] at hk;cases hk
    simp[this]
  | some v=>
   simp only
   rw[Qp5 e k r]
   by_cases hkd:k=d
   ·subst hkd
    rw[hd]
    simp only[Fr.get_eq]
    simp
   ·rw[Fr.get_ne _ _ hkd]
    cases hk:lkE k e with
    | none=>rfl
    | some u=>simp[hkd]
def Qte (e:HEnv)(m:Nat)(outs:List Nat):Prop:=∀k v,lkE k e=some v→bitN m k=false→k∈outs
theorem QKv {E:Env}{n m:Nat}{outs:List Nat}{f:Nat→Value}(ha:AgF E n (ext fr e) f)(hc:Clean m fr)(hk:Qte e m outs)(ho:∀d∈outs,bitN m d=false):AgF E n (finF e outs fr) f∧Clean m (finF e outs fr):=by
 refine⟨fun t x hx=>?_,fun k hm=>?_⟩
 ·rw[Qp5] at hx
  refine ha t x ?_
  rw[QyS]
  cases hl:lkE t e with
  | none=>rw[hl] at hx;exact hx
  | some v=>
   rw[hl] at hx
   simp only at hx ⊢
   by_cases ht:t∈outs
   ·rw[if_pos ht] at hx;exact hx
   ·rw[if_neg ht] at hx
    cases hb:bitN m t with
    | true=>rw[hc t hb] at hx;cases hx
    | false=>exact absurd (hk t v hl hb) ht
 ·rw[Qp5]
  have hno:¬k∈outs:=fun h=>by rw[ho k h] at hm;cases hm
  cases lkE k e with
  | none=>exact hc k hm
  | some v=>simp only[if_neg hno];exact hc k hm
theorem Qsu [Gd]{cl:Cl}(hcl:ClOk P cl){n m:Nat}{ops:Array Oper}{h0:Heap}{L:List HP}{w0:World}{Q:Exit→Act→World→Prop}(hp:PnOk ds Q w0 (fun _ _=>True)){outs:List Nat}(ho:∀d∈outs,bitN m d=false){fr:Fr}(hcn:Clean m fr){K:Fr→TH→Prop}:∀(l:List Oper) (cs:List CO) (e:HEnv) (th:TH) (E:Env) (f:Nat→Value) (w:World),
  cOL P n ops l=some cs→evH cs e outs cl fr th K→AgF E n (ext fr e) f→Qte e m outs→(∀c∈cs,∀d,c.dst=some d→bitN m d=false→d∈outs)→Rep E th h0 w.heap L→Qx w0 w →
  (∀F fr' th' f' w',E.Le F→AgF F n fr' f'→Clean m fr'→Rep F th' h0 w'.heap L→Qx w0 w'→K fr' th'→Q .normal (mkD ds n f') w')→wpList P ops Q l (mkD ds n f) w
 | [],cs,e,th,E,f,w,hc,hx,ha,hk,hd,r,hs,fin=>by
  simp only[cOL,sj] at hc;subst hc
  rw[evH,QyQ] at hx
  obtain⟨a1,a2⟩:=QKv ha hcn hk ho
  exact QDX (fin E _ th f w (Env.Le.refl E) a1 a2 r hs hx)
 | o::l,cs,e,th,E,f,w,hc,hx,ha,hk,hd,r,hs,fin=>by
  obtain⟨c,cs',h1,h2,rfl⟩:=Qwy hc
  have ok:=QBe h1
  rw[evH] at hx
  have hx:=QGB hx
  have hkB:∀x:FV,Qte (Qx7 c.dst x e) m outs:=fun x k v hl hb=>by
   cases hcd:c.dst with
   | none=>rw[hcd] at hl;exact hk k v hl hb
   | some d=>
    rw[hcd] at hl
    simp only[Qx7,lkE] at hl
    cases hbq:Nat.beq d k with
    | true=>have:=Qm hbq;subst this;exact hd c (.head _) d hcd hb
    | false=>rw[hbq] at hl;exact hk k v hl hb
  have hdR:∀c'∈cs',∀d,c'.dst=some d→bitN m d=false→d∈outs:=fun c' hc'=>hd c' (.tail _ hc')
  have next:∀(F:Env) (x:FV) (th':TH) (v:Value) (w':World),E.Le F→den F x=some v→Rep F th' h0 w'.heap L→Qx w0 w'→evH cs' (Qx7 c.dst x e) outs cl fr th' K →
    (∀d,o.dst=some d→wpList P ops Q l (mkD ds n (upd f d v)) w')∧(o.dst=none→wpList P ops Q l (mkD ds n f) w'):=fun F x th' v w' hle hdn hr hs' hx'=>by
   constructor
   ·intro d hd'
    have hK:=hkB x
    rw[ok.d,hd'] at hx' hK
    exact Qsu hcl hp ho hcn l cs' _ th' F _ w' h2 hx' ((ha.mono hle).put (ok.lt d hd') hdn) hK hdR hr hs' fun F' fr' th2 f' w2 a b b' c' d' e'=>fin F' fr' th2 f' w2 (hle.trans a) b b' c' d' e'
   ·intro hd'
    have hK:=hkB x
    rw[ok.d,hd'] at hx' hK
    exact Qsu hcl hp ho hcn l cs' _ th' F _ w' h2 hx' (ha.mono hle) hK hdR hr hs' fun F' fr' th2 f' w2 a b b' c' d' e'=>fin F' fr' th2 f' w2 (hle.trans a) b b' c' d' e'
  cases hg:gst (ext fr e) c.g with
  | bad=>rw[hg] at hx;exact hx.elim
  | skip=>
   rw[hg] at hx
   have hw:=Qp2 (ds:=ds) ok ha hg
   obtain⟨n1,n2⟩:=next E undF th undef w (Env.Le.refl E) (Qhv E) r hs hx
   cases hdd:o.dst with
   | none=>exact Qzq hw hdd (n2 hdd)
   | some d=>exact QBB hw hdd (n1 d hdd)
  | go=>
   rw[hg] at hx
   have hw:=Qss (ds:=ds) ok ha hg
   simp only at hx
   rcases QHz hx with⟨x,hq,hx⟩ | hx
   ·rw[QJd] at hq
    have sq:=QvE r ha ok hq (Qtq hx).1
    obtain⟨v,hv1,hv2⟩:=sq
    obtain⟨y,th',g1,g2,g3⟩:∃y th',den E y=some v∧Rep E th' h0 w.heap L∧evH cs' (Qx7 c.dst y e) outs cl fr th' K:=by
     exact QFM r hv2 hx
    obtain⟨n1,n2⟩:=next E y th' v w (Env.Le.refl E) g1 g2 hs g3
    have sq':Sq P (Eq w.heap) (execOp (evf n f) o) (fun u=>u=v):=⟨v,hv1,rfl⟩
    cases hdd:o.dst with
    | none=>
     refine Qdt hw ?_
     rw[hv1 w rfl,Oper.upon_value,hdd,Qn3]
     exact n2 hdd
    | some d=>exact QEM rfl sq' rfl hw hdd fun u hu=>by rw[hu];exact n1 d hdd
   ·rw[QHD] at hx
    have sx:=QtH hcl r ha.ago (ok.m (QCt hx)) hx
    cases hdd:o.dst with
    | none=>
     refine QHV rfl sx rfl hw hdd (fun v h' w' e1 e2 ⟨F,x,th',g1,g2,g3,g4⟩=>?_) hs trivial
     subst e1
     exact (next F x th' v w' g1 g2 g3 (hs.trans e2) g4).2 hdd
    | some d=>
     refine QEL rfl sx rfl hw hdd (fun v h' w' e1 e2 ⟨F,x,th',g1,g2,g3,g4⟩=>?_) hs trivial
     subst e1
     exact (next F x th' v w' g1 g2 g3 (hs.trans e2) g4).1 d hdd
end Go.Va
namespace Go.Va
open Go Go.Sh
variable [Vb]
def memN (i:Nat):List Nat→Bool
 | []=>false
 | j::r=>bif Nat.beq i j then true else memN i r
def keqF (a b:Fn):Bool:=match a,b with
 | .func f,.func g=>Nat.beq f g
 | _,_=>false
def eqXB:List SB→List SB→Bool
 | [],[]=>true
 | .k a::x,.k b::y=>bif Nat.beq a b then eqXB x y else false
 | .v a l h::x,.v b l' h'::y=>bif eqE a b&&ieq l l'&&ieq h h' then eqXB x y else false
 | _,_=>false
mutual
def eqV:FV→FV→Bool
 | .bool a,.bool b=>(match a with | true=>b | false=>b.not)
 | .int k a,.int k' b=>bif keq k k' then ieq a b else false
 | .str a,.str b=>leq a b
 | .sy k a l h,.sy k' b l' h'=>keq k k'&&eqE a b&&ieq l l'&&ieq h h'
 | .sx a,.sx b=>eqXB a b
 | .nilp,.nilp=>true
 | .ptr a b,.ptr c d=>bif Nat.beq a c then Nat.beq b d else false
 | .nsl,.nsl=>true
 | .sl a b c d e,.sl a' b' c' d' e'=>Nat.beq a a'&&Nat.beq b b'&&Nat.beq c c'&&Nat.beq d d'&&(match e,e' with
  | .lit x,.lit y=>Nat.beq x y
  | .hid x,.hid y=>Nat.beq x y
  | _,_=>false)
 | .nilf,.nilf=>true
 | .nili,.nili=>true
 | .nilm,.nilm=>true
 | .map a,.map b=>Nat.beq a b
 | .os a b,.os c d=>Nat.beq a c&&Nat.beq b d
 | .fn f a b,.fn g c d=>keqF f g&&eqVL a c&&eqVL b d
 | .agg a,.agg b=>eqVL a b
 | .tup a,.tup b=>eqVL a b
 | _,_=>false
def eqVL:List FV→List FV→Bool
 | [],[]=>true
 | a::x,b::y=>bif eqV a b then eqVL x y else false
 | _,_=>false
end
def eqSP:SE→SE→Prop
 | .o x,.o y=>x=y
 | .add a b,.add c d=>eqSP a c∧eqSP b d
 | .sub a b,.sub c d=>eqSP a c∧eqSP b d
 | .wrap k a,.wrap k' b=>bif keq k k' then eqSP a b else False
 | a,b=>bif eqE a b then True else a=b
def eqCP:SC→SC→Prop
 | .o x,.o y=>x=y
 | .no a,.no b=>eqCP a b
 | .lt a b,.lt c d=>eqSP a c∧eqSP b d
 | .le a b,.le c d=>eqSP a c∧eqSP b d
 | .eq a b,.eq c d=>eqSP a c∧eqSP b d
 | a,b=>a=b
mutual
def eqVP:FV→FV→Prop
 | .sy k a l h,.sy k' b l' h'=>bif keq k k'&&(ieq l l'&&ieq h h') then eqSP a b else False
 | .sb c,.sb d=>eqCP c d
 | .sstr s,.sstr t=>s=t
 | .dp t d,.dp t' d'=>bif Nat.beq t t' then d=d' else False
 | .dn t d o,.dn t' d' o'=>bif Nat.beq t t'&&Nat.beq o o' then d=d' else False
 | .ds t d,.ds t' d'=>bif Nat.beq t t' then d=d' else False
 | .agg a,.agg b=>Qp6 a b
 | .tup a,.tup b=>Qp6 a b
 | .obl c x,.obl d y=>eqCP c d∧eqVP x y
 | a,b=>bif eqV a b then True else a=b
def Qp6:List FV→List FV→Prop
 | [],[]=>True
 | a::x,b::y=>eqVP a b∧Qp6 x y
 | _,_=>False
end
def eqK (x y:FV)(R:Prop):Prop:=bif eqV x y then R else (eqVP x y∧R)
inductive Pt where
 | h (k:CK)
 | x (v:FV)
 | p (j o:Nat)
 | m (j t:Nat) (ag:Bool)
 | s (j t:Nat)
 | f (g:Fn) (a b:List Pt)
 | a (l:List Pt)
 | i (t:TypeId) (p:Pt)
abbrev zI:Pt:=.h (.i .i64)
abbrev zS:Pt:=.h .s
abbrev zB:Pt:=.h .b
abbrev zL (t:Nat):Pt:=.h (.l t)
inductive OP where
 | c (l:List Pt) (k:Nat)
 | r (t:Nat)
 | m (t:Nat) (ag:Bool)
 | z (t:Nat) (ag:Bool)
 | q (j t:Nat) (ag:Bool)
mutual
def ksP:Pt→List CK
 | .h k=>[k]
 | .x _=>[]
 | .p _ _=>[]
 | .m _ _ _=>[]
 | .s _ _=>[]
 | .f _ a b=>ksPL a++ksPL b
 | .a l=>ksPL l
 | .i _ p=>ksP p
def ksPL:List Pt→List CK
 | []=>[]
 | p::r=>ksP p++ksPL r
end
def ksO:OP→List CK
 | .c l _=>ksPL l
 | .r t=>[.r t]
 | .m t _=>[.r t]
 | .z t _=>[.r t]
 | .q _ t _=>[.r t]
def ksOL:List OP→List CK
 | []=>[]
 | o::r=>ksO o++ksOL r
mutual
def fvP (ids:Nat→Nat)(ys:Nat→LD):Pt→Nat→FV
 | .h k,n=>leaf k (ys n)
 | .x v,_=>v
 | .p j o,_=>.ptr (ids j) o
 | .m j _ _,_=>.map (ids j)
 | .s j t,_=>.os t (ids j)
 | .f g a b,n=>.fn g (fvPL ids ys a n) (fvPL ids ys b (n+(ksPL a).length))
 | .a l,n=>.agg (fvPL ids ys l n)
 | .i t p,n=>.ifc t (fvP ids ys p n)
def fvPL (ids:Nat→Nat)(ys:Nat→LD):List Pt→Nat→List FV
 | [],_=>[]
 | p::r,n=>fvP ids ys p n::fvPL ids ys r (n+(ksP p).length)
end
def toO (ids:Nat→Nat)(ys:Nat→LD)(n:Nat):OP→TO
 | .c l k=>.cells (fvPL ids ys l n) k
 | .r t=>.row t (ys n).cs
 | .m t ag=>.mp t ag (ys n).cs
 | .z t ag=>.mf t ag (ys n).cs
 | .q j t ag=>.im (ids j) t ag (ys n).cs none
def tosO (ids:Nat→Nat)(ys:Nat→LD):List OP→Nat→Nat→List (Nat×TO)
 | [],_,_=>[]
 | o::r,j,n=>(ids j,toO ids ys n o)::tosO ids ys r j.succ (n+(ksO o).length)
def cst:FV→Bool
 | .bool _=>true
 | .int _ _=>true
 | .str l=>Q0 l
 | .nilp=>true
 | .nsl=>true
 | .nilm=>true
 | .nilf=>true
 | .nili=>true
 | .fn _ a b=>match a with
  | []=>(match b with
   | []=>true
   | _=>false)
  | _=>false
 | _=>false
abbrev Prs:=List (Nat×Nat)
mutual
def mtP (p:Pt)(v:FV):Option (List LD×Prs):=match p with
 | .h k=>match toLD k v with
  | some d=>some ([d],[])
  | none=>none
 | .x u=>bif eqV u v&&cst u then some ([],[]) else none
 | .p j o=>match v with
  | .ptr i o'=>bif Nat.beq o o' then some ([],[(j,i)]) else none
  | _=>none
 | .m j _ _=>match v with
  | .map i=>some ([],[(j,i)])
  | _=>none
 | .s j t=>match v with
  | .os t' i=>bif Nat.beq t t' then some ([],[(j,i)]) else none
  | _=>none
 | .f g a b=>match v with
  | .fn g' a' b'=>bif keqF g g' then (match mtL a a' with
   | some q=>match mtL b b' with
    | some q'=>some (q.1++q'.1,q.2++q'.2)
    | none=>none
   | none=>none) else none
  | _=>none
 | .a l=>match v with
  | .agg l'=>mtL l l'
  | _=>none
 | .i t p=>match v with
  | .ifc t' v=>bif Nat.beq t t' then mtP p v else none
  | _=>none
def mtL (l:List Pt)(vs:List FV):Option (List LD×Prs):=match l with
 | []=>match vs with
  | []=>some ([],[])
  | _=>none
 | p::r=>match vs with
  | []=>none
  | v::vs=>match mtP p v with
   | some q=>match mtL r vs with
    | some q'=>some (q.1++q'.1,q.2++q'.2)
    | none=>none
   | none=>none
end
def emptyS (off offz len:Nat)(cap:FCap)(cs:List FV):Bool:=(Nat.beq off 0&&Nat.beq offz 0)&&Nat.beq len 0&&(match cap with
 | .hid j=>Nat.beq j 0
 | _=>false)&&(match cs with
 | []=>true
 | _=>false)
theorem QHE {off offz len:Nat}{cap:FCap}{cs:List FV}(h:emptyS off offz len cap cs=true):off=0∧offz=0∧len=0∧cap=.hid 0∧cs=[]:=by
 simp only[emptyS,Bool.and_eq_true] at h
 obtain⟨⟨⟨⟨h1,h1z⟩,h2⟩,h3⟩,h4⟩:=h
 refine⟨Qm h1,Qm h1z,Qm h2,?_,?_⟩
 ·cases cap with
  | hid j=>rw[Qm h3]
  | lit j=>cases h3
 ·cases cs with
  | nil=>rfl
  | cons _ _=>cases h4
def mpG (j t:Nat)(g:Bool)(i:Nat)(o:TO)(th:TH)(K:Prs→TH→Prop):Prop:=match o with
 | .map _ m=>cvMp t g i m th fun th=>K [(j,i)] th
 | _=>K [(j,i)] th
def mtG (ag:Pt→FV→TH→(List LD→Prs→TH→Prop)→Prop):List Pt→List FV→TH→(List LD→Prs→TH→Prop)→Prop
 | [],vs,th,K=>match vs with
  | []=>K [] [] th
  | _=>False
 | p::r,vs,th,K=>match vs with
  | []=>False
  | v::vs=>match p with
   | .h k=>frz fzD k v th fun d th=>mtG ag r vs th fun ds prs th=>K (d::ds) prs th
   | .s j t=>match v with
    | .nsl=>match lyG t with
     | some ks=>bif Nat.blt 0 ks.length then mtG ag r vs (th.new (.row t [])) fun ds prs th'=>K ds ((j,th.nx)::prs) th' else False
     | none=>False
    | .sl i off offz len cap=>match th.t.get i with
     | some (.cells cs k)=>match lyG t with
      | some ks=>bif emptyS off offz len cap cs&&(Nat.beq ks.length k&&Nat.blt 0 ks.length) then mtG ag r vs ((th.del i).new (.row t [])) fun ds prs th'=>K ds ((j,th.nx)::prs) th' else False
      | none=>False
     | _=>False
    | .os t' i=>bif Nat.beq t t' then mtG ag r vs th fun ds prs th=>K ds ((j,i)::prs) th else False
    | _=>False
   | .m j t g=>match v with
    | .map i=>match th.t.get i with
     | some o=>mpG j t g i o th fun prs' th=>mtG ag r vs th fun ds prs th=>K ds (prs'++prs) th
     | none=>mtG ag r vs th fun ds prs th=>K ds ([(j,i)]++prs) th
    | _=>False
   | p=>ag p v th fun ds' prs' th=>mtG ag r vs th fun ds prs th=>K (ds'++ds) (prs'++prs) th
def ag0 (p:Pt)(v:FV)(th:TH)(K:List LD→Prs→TH→Prop):Prop:=match mtP p v with
 | some q=>K q.1 q.2 th
 | none=>False
def ag1 (p:Pt)(v:FV)(th:TH)(K:List LD→Prs→TH→Prop):Prop:=match p with
 | .a l=>match v with
  | .agg l'=>mtG ag0 l l' th K
  | _=>False
 | p=>ag0 p v th K
def mtA:List Pt→List FV→TH→(List LD→Prs→TH→Prop)→Prop:=mtG ag1
def lkA (j:Nat):Prs→Option Nat
 | []=>none
 | q::r=>bif Nat.beq q.1 j then some q.2 else lkA j r
def mtO:List OP→Nat→Prs→TH→(List LD→Prs→TH→Prop)→Prop
 | [],_,prs,th,K=>K [] prs th
 | o::r,j,prs,th,K=>match lkA j prs with
  | some i=>match th.t.get i with
   | some (.cells cs k)=>match o with
    | .c l k'=>bif Nat.beq k k' then mtA l cs (th.del i) fun ds prs' th=>mtO r j.succ (prs++prs') th fun ds' prs th=>K (ds++ds') prs th else False
    | _=>False
   | some (.row t es)=>match o with
    | .r t'=>bif Nat.beq t t' then mtO r j.succ prs (th.del i) fun ds' prs th=>K (.t es::ds') prs th else False
    | _=>False
   | some (.mp t g es)=>match o with
    | .m t' g'=>bif Nat.beq t t'&&bqB g g' then mtO r j.succ prs (th.del i) fun ds' prs th=>K (.t es::ds') prs th else False
    | _=>False
   | some (.mf t g es)=>match o with
    | .z t' g'=>bif Nat.beq t t'&&bqB g g' then mtO r j.succ prs (th.del i) fun ds' prs th=>K (.t es::ds') prs th else False
    | _=>False
   | some (.im i2 t g rest _)=>match o with
    | .q j2 t' g'=>bif Nat.beq t t'&&bqB g g' then mtO r j.succ (prs++[(j2,i2)]) (th.del i) fun ds' prs th=>K (.t rest::ds') prs th else False
    | _=>False
   | _=>False
  | none=>False
def okA (n:Nat)(prs:Prs):Prs→Bool
 | []=>true
 | q::r=>Nat.blt q.1 n&&(match lkA q.1 prs with
  | some i=>Nat.beq i q.2
  | none=>false)&&okA n prs r
def idsA (prs:Prs)(j:Nat):Nat:=match lkA j prs with
 | some i=>i
 | none=>0
structure SPt where
 ps:List Pt
 os:List OP
def SPt.ks (s:SPt):List CK:=ksPL s.ps++ksOL s.os
def mtS (s:SPt)(prs:Prs)(l:List FV)(th:TH)(K:List LD→Prs→TH→Prop):Prop:=
 mtA s.ps l th fun ds prs' th=>mtO s.os 0 (prs++prs') th fun ds' prs th=>bif okA s.os.length prs prs then K (ds++ds') prs th else False
def nthD (ys:List LD)(j:Nat):LD:=ys.getD j .nul
def QpG:List (Nat×TO)→Tr TO→Tr TO
 | [],t=>t
 | p::r,t=>QpG r (t.put p.1 p.2)
abbrev QF:=List LD→List LP→Prop
def nthK (Ks:List LP)(e:Nat):LP:=match Ks[e]? with
 | some K=>K
 | none=>fun _=>False
structure Ctr where
 i:SPt
 o:List SPt
 q:QF
def QeV:List OP→Nat→Bool
 | [],_=>false
 | o::r,j=>match j with
  | 0=>match o with
   | .r _=>false
   | _=>true
  | j+1=>QeV r j
theorem QCd:∀ {I:List OP}{j:Nat},QeV I j=true→j<I.length
 | [],_,h=>by simp only[QeV] at h;cases h
 | _::_,0,_=>Nat.zero_lt_succ _
 | _::r,j+1,h=>Nat.succ_lt_succ (QCd (I:=r) h)
def QgL:List OP→Nat
 | []=>0
 | o::r=>match QgL r with
  | 0=>match o with
   | .r _=>0
   | _=>1
  | n+1=>n+2
theorem Qxv:∀ {I:List OP}{j:Nat},QeV I j=true→j<QgL I
 | [],_,h=>by simp only[QeV] at h;cases h
 | o::r,0,h=>by
  simp only[QgL]
  cases QgL r with
  | zero=>
   cases o with
   | r _=>simp[QeV] at h
   | _=>exact Nat.zero_lt_one
  | succ n=>exact Nat.zero_lt_succ _
 | o::r,j+1,h=>by
  have:=Qxv (I:=r) h
  simp only[QgL]
  cases hk:QgL r with
  | zero=>rw[hk] at this;exact absurd this nt
  | succ n=>rw[hk] at this;exact Nat.succ_lt_succ this
theorem QCe:∀ {I:List OP},QgL I≤I.length
 | []=>nr
 | o::r=>by
  have:=QCe (I:=r)
  simp only[QgL]
  cases hk:QgL r with
  | zero=>cases o<;>simp
  | succ n=>rw[hk] at this;exact Nat.succ_le_succ this
def outK (prs:Prs)(I:List OP)(th:TH)(s:SPt)(ys:List LD)(K:List FV→TH→Prop):Prop:=
 (fun ids=>K (fvPL ids (nthD ys) s.ps 0) ⟨QpG (tosO ids (nthD ys) s.os 0 (ksPL s.ps).length) th.t,th.nx+s.os.length,th.scr⟩) fun j=>bif QeV I j then idsA prs j else th.nx+j
def Tel:Nat→Type
 | 0=>Prop
 | n+1=>LD→Tel n
def apT:(n:Nat)→Tel n→LP
 | 0,f,l=>match l with
  | []=>f
  | _=>True
 | n+1,f,l=>match l with
  | []=>True
  | y::r=>apT n (f y) r
def cuT:(n:Nat)→(LP)→Tel n
 | 0,f=>f []
 | n+1,f=>fun y=>cuT n fun l=>f (y::l)
theorem QEz:∀ {n:Nat}{f:LP}{l:List LD},l.length=n→apT n (cuT n f) l→f l
 | 0,f,[],_,h=>h
 | n+1,f,y::r,e,h=>QEz (n:=n) (f:=fun l=>f (y::l)) (by simpa using e) h
theorem QDI:∀ {cs:List LD}{ks:List CK},wtL cs ks→cs.length=ks.length
 | [],[],_=>rfl
 | _::_,[],h=>by simp only[wtL] at h
 | [],_::_,h=>by simp only[wtL] at h
 | _::_,_::_,h=>by simp only[wtL] at h;simp[QDI h.2]
def Qxd (prs:Prs)(I:List OP)(th:TH)(K:Nat→List FV→TH→Prop):List SPt→Nat→List LP
 | [],_=>[]
 | s::r,e=>(fun m=>apT m (cuT m fun ys=>wtL ys s.ks→outK prs I th s ys (K e))) s.ks.length::Qxd prs I th K r e.succ
def runQ (c:Ctr)(l:List FV)(th:TH)(K:Nat→List FV→TH→Prop):Prop:=
 mtS c.i [] l th fun xs prs th=>c.q xs (Qxd prs c.i.os th K c.o 0)
theorem Qzx (prs:Prs)(I:List OP)(th:TH)(K:Nat→List FV→TH→Prop):∀ {o:List SPt}{e j:Nat}{s:SPt},o[j]?=some s→(Qxd prs I th K o e)[j]?=some (apT s.ks.length (cuT s.ks.length fun ys=>wtL ys s.ks→outK prs I th s ys (K (e+j))))
 | _::_,e,0,s,h=>by simp only[List.getElem?_cons_zero,sj] at h;subst h;rfl
 | _::r,e,j+1,s,h=>by
  simp only[List.getElem?_cons_succ] at h
  simp only[Qxd,List.getElem?_cons_succ]
  rw[Qzx prs I th K (e:=e.succ) h,Nat.succ_add_eq_add_succ]
theorem Qzw {prs:Prs}{I:List OP}{th:TH}{K:Nat→List FV→TH→Prop}{o:List SPt}{j:Nat}{s:SPt}{ys:List LD}(h:o[j]?=some s)(k:nthK (Qxd prs I th K o 0) j ys)(w:wtL ys s.ks):outK prs I th s ys (K j):=by
 unfold nthK at k
 rw[Qzx prs I th K h] at k
 have:=QEz (QDI w) k w
 simpa using this
structure LCt where
 l:Nat
 i0:List Nat
 es:List (Option Nat×List Nat)
 c:Ctr
structure LF where
 n:Nat
 ls:List LCt
end Go.Va
