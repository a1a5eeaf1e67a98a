import Derived.Test.YtmdppkbekmpopaaGreatVxs
import Derived.Laws.BytesString
set_option linter.unusedVariables false
set_option linter.unusedSectionVars false
set_option linter.unusedSimpArgs false
noncomputable section
namespace Go.Va
open Go Go.Sh
variable [Vb]
variable {P:Program}
def copX (P:Program) (o:Oper):Option XOp:=match o.op with
 | .call c=>match c.callee with
  | .builtin .copy=>match c.args.toList,c.argTypes.toList with
   | [d,s],[t,t']=>(c1 d).bind fun d=>(c1 s).bind fun s=>match P.underlying t with
    | some (.slice e)=>(szO P e).bind fun k=>match P.underlying t' with
     | some (.slice _)=>if 0<k then some (.cpy k d s) else none
     | some .string=>if k=1 then some (.cpy 1 d s) else none
     | _=>none
    | _=>none
   | _,_=>none
  | .builtin .clear=>match c.args.toList,c.argTypes.toList with
   | [x],[t]=>(c1 x).bind fun x=>match P.underlying t with
    | some (.map _ _)=>some (.clm x)
    | _=>none
   | _,_=>none
  | .builtin .append=>match c.args.toList,c.argTypes.toList with
   | [s,x],[t,t']=>(c1 s).bind fun s=>(c1 x).bind fun x=>match P.underlying t with
    | some (.slice e)=>(zrO P e).bind fun z=>(P.info? e).bind fun i=>match P.underlying t' with
     | some .string=>if z.length=1 then some (.aps i.bytes s x) else none
     | some (.int _)=>if 0<z.length then some (.apo z.length i.bytes z s x) else none
     | _=>none
    | _=>none
   | _,_=>none
  | .builtin .delete=>match c.args.toList,c.argTypes.toList with
   | [x,k],[t,_]=>(c1 x).bind fun x=>(c1 k).bind fun k=>match P.underlying t with
    | some (.map kt _)=>(kdO P kt).bind fun d=>some (.dlm d x k)
    | _=>none
   | _,_=>none
  | _=>none
 | .convert s d x=>(c1 x).bind fun x=>match P.underlying s,P.underlying d with
  | some (.slice e),some .string=>match P.underlying e with
   | some (.int .u8)=>some (.cvs x)
   | _=>none
  | _,_=>none
 | .mapUpdate t m k v=>(c1 m).bind fun m=>(c1 k).bind fun k=>(c1 v).bind fun v=>match P.underlying t with
  | some (.map kt _)=>(kdO P kt).bind fun d=>some (.mum d m k v)
  | _=>none
 | .insert t m k v=>(c1 m).bind fun m=>(c1 k).bind fun k=>(c1 v).bind fun v=>match P.underlying t with
  | some (.map kt _)=>(kdO P kt).bind fun d=>some (.mum d m k v)
  | _=>none
 | .range t x=>(c1 x).bind fun x=>match P.underlying t with
  | some (.map _ _)=>some (.rgm x)
  | _=>none
 | .next x s=>(c1 x).bind fun x=>match s with
  | true=>none
  | false=>some (.nxm x)
 | _=>none
def copA (P:Program) (o:Oper):Option MOp:=match copX P o with
 | some x=>some (.xx x)
 | none=>match cop P o with
  | some (.xx _)=>none
  | r=>r
theorem Qqe {o:Oper} {m:MOp} (hc:copA P o=some m) (hn:∀ x,m≠.xx x):cop P o=some m:=by
 unfold copA at hc
 split at hc
 ·simp only [Option.some.injEq] at hc;exact absurd hc.symm (hn _)
 ·split at hc
  ·cases hc
  ·exact hc
theorem QHI {o:Oper} {x:XOp} (hc:copA P o=some (.xx x)):copX P o=some x:=by
 unfold copA at hc
 split at hc
 ·rename_i y hy
  simp only [Option.some.injEq,MOp.xx.injEq] at hc;rw [hy,hc]
 ·split at hc
  ·cases hc
  ·rename_i hn
   exact absurd hc (hn x)
def xMum (d:KD) (x k v:Opd) (fr:Fr) (th:TH) (K:FV→TH→Prop):Prop:=match evO fr x with
 | some x=>match evO fr k with
  | some k=>match evO fr v with
   | some v=>mumX d x k v th K
   | none=>False
  | none=>False
 | none=>False
def xRgm (x:Opd) (fr:Fr) (th:TH) (K:FV→TH→Prop):Prop:=match evO fr x with
 | some x=>rgmX x th K
 | none=>False
def xNxm (x:Opd) (fr:Fr) (th:TH) (K:FV→TH→Prop):Prop:=match evO fr x with
 | some x=>nxmX x th K
 | none=>False
def xLkm (d:KD) (z:FV) (ok:Bool) (x k:Opd) (fr:Fr) (th:TH) (K:FV→TH→Prop):Prop:=match evO fr x with
 | some x=>match evO fr k with
  | some k=>lkmX d z ok x k th K
  | none=>False
 | none=>False
def evXX (fr:Fr) (th:TH) (x:XOp) (K:FV→TH→Prop):Prop:=match x with
 | .cpy k d s=>False
 | .clm x=>False
 | .cvs x=>False
 | .aps b s x=>False
 | .mum d x k v=>xMum d x k v fr th K
 | .rgm x=>xRgm x fr th K
 | .nxm x=>xNxm x fr th K
 | .dlm d x k=>False
 | .apo k b z s n=>xApo k b z s n fr th K
def evXA (cl:FV→List FV→TH→(FV→TH→Prop)→Prop) (fr:Fr) (th:TH) (m:MOp) (K:FV→TH→Prop):Prop:=match m with
 | .xx x=>evXX fr th x K
 | .lkp d z ok x k=>xLkm d z ok x k fr th K
 | .slc k x lo hi mx=>xSlo k x lo hi mx fr th K
 | m=>evX cl fr th m K
theorem QJb [Gd] {E:Env} {th:TH} {h0 h:Heap} {L:List HP} {ρ:Operand→Value} {fr:Fr} {o:Oper} {x:XOp} {K:FV→TH→Prop} (r:Rep E th h0 h L) (hρ:AgO E fr ρ) (hc:copX P o=some x) (hx:evXX fr th x K):Sx P (execOp ρ o) h (Post E h0 L K):=by
 have X:opX P ρ o h (Post E h0 L K)→Sx P (execOp ρ o) h (Post E h0 L K):=QrR
 obtain ⟨dst,op,type,pos,after,guard⟩:=o
 unfold copX at hc
 simp only at hc
 split at hc
 ·rename_i c
  obtain ⟨cal,args,ats⟩:=c
  simp only at hc
  split at hc
  ·split at hc
   ·rename_i d s t t' ha hat
    obtain ⟨d',h1,hc⟩:=bind_some hc
    obtain ⟨s',h2,hc⟩:=bind_some hc
    have eargs:args=#[d,s]:=by simpa using congrArg List.toArray ha
    have eats:ats=#[t,t']:=by simpa using congrArg List.toArray hat
    subst eargs eats
    split at hc
    ·rename_i e hu
     obtain ⟨k,hk,hc⟩:=bind_some hc
     split at hc
     ·rename_i e' hu'
      split at hc
      ·simp only [Option.some.injEq] at hc;subst hc
       refine X ?_
       show QE6 P #[t,t'] type #[ρ d,ρ s] h _
       exact False.elim hx
      ·cases hc
     ·rename_i hu'
      split at hc
      ·rename_i hk1
       subst hk1
       simp only [Option.some.injEq] at hc;subst hc
       refine X ?_
       show QE6 P #[t,t'] type #[ρ d,ρ s] h _
       exact False.elim hx
      ·cases hc
     ·cases hc
    ·cases hc
   ·cases hc
  ·split at hc
   ·rename_i y t ha hat
    obtain ⟨y',h1,hc⟩:=bind_some hc
    have eargs:args=#[y]:=by simpa using congrArg List.toArray ha
    have eats:ats=#[t]:=by simpa using congrArg List.toArray hat
    subst eargs eats
    split at hc
    ·rename_i kt et hu
     simp only [Option.some.injEq] at hc;subst hc
     refine X ?_
     show QF7 P #[t] type #[ρ y] h _
     exact False.elim hx
    ·cases hc
   ·cases hc
  ·split at hc
   ·rename_i s y t t' ha hat
    obtain ⟨s',h1,hc⟩:=bind_some hc
    obtain ⟨y',h2,hc⟩:=bind_some hc
    have eargs:args=#[s,y]:=by simpa using congrArg List.toArray ha
    have eats:ats=#[t,t']:=by simpa using congrArg List.toArray hat
    subst eargs eats
    split at hc
    ·rename_i e hu
     obtain ⟨z,hz,hc⟩:=bind_some hc
     obtain ⟨i,hi,hc⟩:=bind_some hc
     split at hc
     ·rename_i hu'
      split at hc
      ·rename_i hz1
       simp only [Option.some.injEq] at hc;subst hc
       refine X ?_
       show QbY P #[t,t'] type #[ρ s,ρ y] h _
       exact False.elim hx
      ·cases hc
     ·rename_i kk hu'
      split at hc
      ·rename_i hzp
       simp only [Option.some.injEq] at hc;subst hc
       refine X ?_
       show QbY P #[t,t'] type #[ρ s,ρ y] h _
       simp only [evXX,xApo] at hx
       cases hn:evN fr y' with
       | some n=>
        rw [hn] at hx
        simp only [xApc] at hx
        cases hsv:evO fr s' with
        | none=>rw [hsv] at hx;exact hx.elim
        | some sv=>
         rw [hsv] at hx
         cases sv<;>try (exact hx.elim)
         simp only at hx
         rw [hn] at hx
         obtain ⟨hb,hx⟩:=Q1 hx
         simp only [Bool.and_eq_true] at hb
         have hs:=hρ s s' _ h1 hsv
         simp only [den,Option.some.injEq] at hs
         rw [← hs,Qst hρ h2 hn]
         exact QGV r hu hu' hz hi hzp (QaQ hb.1.1) (Qag hb.1.2) (Qag hb.2) hx
       | none=>
        rw [hn] at hx
        simp only at hx
        cases hsv:evO fr s' with
        | none=>rw [hsv] at hx;exact hx.elim
        | some sv=>
         rw [hsv] at hx
         cases sv<;>try (exact hx.elim)
         simp only at hx
         have hs:=hρ s s' _ h1 hsv
         simp only [den,Option.some.injEq] at hs
         cases hnv:evO fr y' with
         | none=>rw [hnv] at hx;exact hx.elim
         | some nv=>
          rw [hnv] at hx
          rw [← hs]
          exact QKS r hu hu' hz hi hzp (hρ y y' nv h2 hnv) hx
      ·cases hc
     ·cases hc
    ·cases hc
   ·cases hc
  ·split at hc
   ·rename_i y k t t' ha hat
    obtain ⟨y',h1,hc⟩:=bind_some hc
    obtain ⟨k',h2,hc⟩:=bind_some hc
    have eargs:args=#[y,k]:=by simpa using congrArg List.toArray ha
    have eats:ats=#[t,t']:=by simpa using congrArg List.toArray hat
    subst eargs eats
    split at hc
    ·rename_i kt et hu
     obtain ⟨d,hd,hc⟩:=bind_some hc
     simp only [Option.some.injEq] at hc;subst hc
     refine X ?_
     show QD5 P #[t,t'] type #[ρ y,ρ k] h _
     exact False.elim hx
    ·cases hc
   ·cases hc
  ·cases hc
 ·rename_i s d y
  obtain ⟨y',h1,hc⟩:=bind_some hc
  split at hc
  ·rename_i e hs hd
   split at hc
   ·rename_i he
    simp only [Option.some.injEq] at hc;subst hc
    refine X ?_
    show QF6 P s d (ρ y) h _
    exact False.elim hx
   ·cases hc
  ·cases hc
 ·rename_i t m k v
  refine X ?_
  obtain ⟨m',h1,hc⟩:=bind_some hc
  obtain ⟨k',h2,hc⟩:=bind_some hc
  obtain ⟨v',h3,hc⟩:=bind_some hc
  split at hc
  ·rename_i kt et hu
   obtain ⟨d,hd,hc⟩:=bind_some hc
   simp only [Option.some.injEq] at hc;subst hc
   simp only [evXX,xMum] at hx
   cases ha:evO fr m' with
   | none=>rw [ha] at hx;exact hx.elim
   | some av=>
    cases hb:evO fr k' with
    | none=>rw [ha,hb] at hx;exact hx.elim
    | some bv=>
     cases hcv:evO fr v' with
     | none=>rw [ha,hb,hcv] at hx;exact hx.elim
     | some cv=>
      rw [ha,hb,hcv] at hx
      exact QGc r hu hd (hρ m m' av h1 ha) (hρ k k' bv h2 hb) (hρ v v' cv h3 hcv) hx
  ·cases hc
 ·rename_i t m k v
  refine X ?_
  obtain ⟨m',h1,hc⟩:=bind_some hc
  obtain ⟨k',h2,hc⟩:=bind_some hc
  obtain ⟨v',h3,hc⟩:=bind_some hc
  split at hc
  ·rename_i kt et hu
   obtain ⟨d,hd,hc⟩:=bind_some hc
   simp only [Option.some.injEq] at hc;subst hc
   simp only [evXX,xMum] at hx
   cases ha:evO fr m' with
   | none=>rw [ha] at hx;exact hx.elim
   | some av=>
    cases hb:evO fr k' with
    | none=>rw [ha,hb] at hx;exact hx.elim
    | some bv=>
     cases hcv:evO fr v' with
     | none=>rw [ha,hb,hcv] at hx;exact hx.elim
     | some cv=>
      rw [ha,hb,hcv] at hx
      exact QGc r hu hd (hρ m m' av h1 ha) (hρ k k' bv h2 hb) (hρ v v' cv h3 hcv) hx
  ·cases hc
 ·rename_i t y
  refine X ?_
  obtain ⟨y',h1,hc⟩:=bind_some hc
  split at hc
  ·rename_i kt et hu
   simp only [Option.some.injEq] at hc;subst hc
   simp only [evXX,xRgm] at hx
   cases hv:evO fr y' with
   | none=>rw [hv] at hx;exact hx.elim
   | some v=>rw [hv] at hx;exact QKa r hu (hρ y y' v h1 hv) hx
  ·cases hc
 ·rename_i y s
  refine X ?_
  obtain ⟨y',h1,hc⟩:=bind_some hc
  cases s with
  | true=>cases hc
  | false=>
   simp only [Option.some.injEq] at hc;subst hc
   simp only [evXX,xNxm] at hx
   cases hv:evO fr y' with
   | none=>rw [hv] at hx;exact hx.elim
   | some v=>rw [hv] at hx;exact QKe r (hρ y y' v h1 hv) hx
 ·cases hc
def QLf:MOp→Bool
 | .lkp _ _ _ _ _=>true
 | _=>false
theorem QJt {o:Oper} {m:MOp} (hc:cop P o=some m) (he:QLf m=true):∃ t a b ok,o.op=.lookup t a b ok:=by
 obtain ⟨dst,op,type,pos,after,guard⟩:=o
 cases op<;>simp only [cop] at hc<;>try (cases hc;done)
 case move y=>
  exfalso
  obtain ⟨_,_,hc⟩:=bind_some hc
  simp only [Option.some.injEq] at hc;subst hc;cases he
 case assign y=>
  exfalso
  obtain ⟨_,_,hc⟩:=bind_some hc
  simp only [Option.some.injEq] at hc;subst hc;cases he
 case pick c a b=>
  exfalso
  obtain ⟨_,_,hc⟩:=bind_some hc
  obtain ⟨_,_,hc⟩:=bind_some hc
  obtain ⟨_,_,hc⟩:=bind_some hc
  simp only [Option.some.injEq] at hc;subst hc;cases he
 case nilCheck y=>
  exfalso
  obtain ⟨_,_,hc⟩:=bind_some hc
  simp only [Option.some.injEq] at hc;subst hc;cases he
 case binOp op t y z yt=>
  exfalso
  obtain ⟨_,_,hc⟩:=bind_some hc
  obtain ⟨_,_,hc⟩:=bind_some hc
  obtain ⟨_,_,hc⟩:=bind_some hc
  split at hc
  ·simp only [Option.some.injEq] at hc;subst hc;cases he
  ·split at hc
   ·split at hc
    ·cases hc
    ·obtain ⟨_,_,hc⟩:=bind_some hc
     cases op<;>simp only at hc<;>first | (cases hc;done) | (simp only [Option.some.injEq] at hc;subst hc;cases he)
   ·obtain ⟨_,_,hc⟩:=bind_some hc
    cases op<;>simp only at hc<;>first | (cases hc;done) | (simp only [Option.some.injEq] at hc;subst hc;cases he)
 case unOp op t y=>
  exfalso
  obtain ⟨_,_,hc⟩:=bind_some hc
  cases op<;>simp only at hc<;>first | (cases hc;done) | (simp only [Option.some.injEq] at hc;subst hc;cases he)
 case convert s d y=>
  exfalso
  obtain ⟨_,_,hc⟩:=bind_some hc
  split at hc
  ·simp only [Option.some.injEq] at hc;subst hc;cases he
  ·cases hc
 case typeAssert y xt a ok=>
  exfalso
  obtain ⟨_,_,hc⟩:=bind_some hc
  obtain ⟨_,_,hc⟩:=bind_some hc
  split at hc
  ·cases hc
  ·cases ok with
   | false=>cases hc
   | true=>simp only [Option.some.injEq] at hc;subst hc;cases he
 case makeInterface t y=>
  exfalso
  obtain ⟨_,_,hc⟩:=bind_some hc
  obtain ⟨_,_,hc⟩:=bind_some hc
  split at hc
  ·cases hc
  ·simp only [Option.some.injEq] at hc;subst hc;cases he
 case makeFunc f a b=>
  exfalso
  obtain ⟨_,_,hc⟩:=bind_some hc
  obtain ⟨_,_,hc⟩:=bind_some hc
  simp only [Option.some.injEq] at hc;subst hc;cases he
 case slice t y lo hi mx=>
  exfalso
  obtain ⟨_,_,hc⟩:=bind_some hc
  obtain ⟨_,_,hc⟩:=bind_some hc
  obtain ⟨_,_,hc⟩:=bind_some hc
  obtain ⟨_,_,hc⟩:=bind_some hc
  split at hc
  ·obtain ⟨_,_,hc⟩:=bind_some hc
   simp only [Option.some.injEq] at hc;subst hc;cases he
  ·split at hc
   ·simp only [Option.some.injEq] at hc;subst hc;cases he
   ·cases hc
  ·obtain ⟨_,_,hc⟩:=bind_some hc
   simp only [Option.some.injEq] at hc;subst hc;cases he
  ·cases hc
 case fieldAddr t y i=>
  exfalso
  obtain ⟨_,_,hc⟩:=bind_some hc
  split at hc
  ·obtain ⟨_,_,hc⟩:=bind_some hc
   obtain ⟨_,_,hc⟩:=bind_some hc
   split at hc
   ·simp only [Option.some.injEq] at hc;subst hc;cases he
   ·cases hc
  ·cases hc
 case field t y i=>
  exfalso
  obtain ⟨_,_,hc⟩:=bind_some hc
  split at hc
  ·obtain ⟨_,_,hc⟩:=bind_some hc
   obtain ⟨_,_,hc⟩:=bind_some hc
   obtain ⟨_,_,hc⟩:=bind_some hc
   simp only [Option.some.injEq] at hc;subst hc;cases he
  ·cases hc
 case indexAddr t y i=>
  exfalso
  obtain ⟨_,_,hc⟩:=bind_some hc
  obtain ⟨_,_,hc⟩:=bind_some hc
  split at hc
  ·obtain ⟨_,_,hc⟩:=bind_some hc
   simp only [Option.some.injEq] at hc;subst hc;cases he
  ·obtain ⟨_,_,hc⟩:=bind_some hc
   simp only [Option.some.injEq] at hc;subst hc;cases he
  ·cases hc
 case index t y i=>
  exfalso
  obtain ⟨_,_,hc⟩:=bind_some hc
  obtain ⟨_,_,hc⟩:=bind_some hc
  split at hc
  ·simp only [Option.some.injEq] at hc;subst hc;cases he
  ·obtain ⟨_,_,hc⟩:=bind_some hc
   obtain ⟨_,_,hc⟩:=bind_some hc
   simp only [Option.some.injEq] at hc;subst hc;cases he
  ·cases hc
 case extract y i=>
  exfalso
  obtain ⟨_,_,hc⟩:=bind_some hc
  simp only [Option.some.injEq] at hc;subst hc;cases he
 case build t ps=>
  exfalso
  obtain ⟨_,_,hc⟩:=bind_some hc
  split at hc
  ·obtain ⟨_,_,hc⟩:=bind_some hc
   obtain ⟨_,_,hc⟩:=bind_some hc
   obtain ⟨_,_,hc⟩:=bind_some hc
   simp only [Option.some.injEq] at hc;subst hc;cases he
  ·obtain ⟨_,_,hc⟩:=bind_some hc
   obtain ⟨_,_,hc⟩:=bind_some hc
   simp only [Option.some.injEq] at hc;subst hc;cases he
  ·cases hc
 case load t y=>
  exfalso
  obtain ⟨_,_,hc⟩:=bind_some hc
  obtain ⟨_,_,hc⟩:=bind_some hc
  obtain ⟨_,_,hc⟩:=bind_some hc
  split at hc
  ·simp only [Option.some.injEq] at hc;subst hc;cases he
  ·cases hc
 case lookup t y i ok=>exact ⟨t,y,i,ok,rfl⟩
 case makeMap t rr=>
  exfalso
  obtain ⟨_,_,hc⟩:=bind_some hc
  split at hc
  ·obtain ⟨_,_,hc⟩:=bind_some hc
   simp only [Option.some.injEq] at hc;subst hc;cases he
  ·cases hc
 case mapUpdate t m k v=>
  exfalso
  obtain ⟨_,_,hc⟩:=bind_some hc
  obtain ⟨_,_,hc⟩:=bind_some hc
  obtain ⟨_,_,hc⟩:=bind_some hc
  split at hc
  ·obtain ⟨_,_,hc⟩:=bind_some hc
   simp only [Option.some.injEq] at hc;subst hc;cases he
  ·cases hc
 case alloc t=>
  exfalso
  obtain ⟨_,_,hc⟩:=bind_some hc
  simp only [Option.some.injEq] at hc;subst hc;cases he
 case box t y=>
  exfalso
  obtain ⟨_,_,hc⟩:=bind_some hc
  simp only [Option.some.injEq] at hc;subst hc;cases he
 case range t y=>
  exfalso
  obtain ⟨_,_,hc⟩:=bind_some hc
  split at hc
  ·simp only [Option.some.injEq] at hc;subst hc;cases he
  ·cases hc
 case next y b=>
  exfalso
  obtain ⟨_,_,hc⟩:=bind_some hc
  cases b
  ·simp only [Option.some.injEq] at hc;subst hc;cases he
  ·cases hc
 case entry y=>
  exfalso
  obtain ⟨_,_,hc⟩:=bind_some hc
  simp only [Option.some.injEq] at hc;subst hc;cases he
 case buildSlice t n ps=>
  exfalso
  obtain ⟨_,_,hc⟩:=bind_some hc
  split at hc
  ·obtain ⟨_,_,hc⟩:=bind_some hc
   split at hc
   ·simp only [Option.some.injEq] at hc;subst hc;cases he
   ·split at hc
    ·simp only [Option.some.injEq] at hc;subst hc;cases he
    ·cases hc
  ·cases hc
 case makeSlice t l c=>
  exfalso
  obtain ⟨_,_,hc⟩:=bind_some hc
  obtain ⟨_,_,hc⟩:=bind_some hc
  split at hc
  ·obtain ⟨_,_,hc⟩:=bind_some hc
   obtain ⟨_,_,hc⟩:=bind_some hc
   split at hc
   ·simp only [Option.some.injEq] at hc;subst hc;cases he
   ·cases hc
  ·cases hc
 case store t a v=>
  exfalso
  obtain ⟨_,_,hc⟩:=bind_some hc
  obtain ⟨_,_,hc⟩:=bind_some hc
  obtain ⟨_,_,hc⟩:=bind_some hc
  simp only [Option.some.injEq] at hc;subst hc;cases he
 case call c=>
  obtain ⟨callee,args,ats⟩:=c
  cases callee<;>simp only at hc<;>try (exfalso;obtain ⟨_,_,hc⟩:=bind_some hc;obtain ⟨_,_,hc⟩:=bind_some hc;simp only [Option.some.injEq] at hc;subst hc;cases he;done)
  rename_i b
  cases b<;>simp only at hc<;>try (cases hc;done)
  case append=>
   exfalso
   split at hc
   ·obtain ⟨_,_,hc⟩:=bind_some hc
    obtain ⟨_,_,hc⟩:=bind_some hc
    split at hc
    ·obtain ⟨_,_,hc⟩:=bind_some hc
     obtain ⟨_,_,hc⟩:=bind_some hc
     split at hc
     ·simp only [Option.some.injEq] at hc;subst hc;cases he
     ·split at hc
      ·split at hc
       ·simp only [Option.some.injEq] at hc;subst hc;cases he
       ·cases hc
      ·cases hc
    ·cases hc
   ·cases hc
  case len=>
   exfalso
   split at hc
   ·obtain ⟨_,_,hc⟩:=bind_some hc
    split at hc
    ·simp only [Option.some.injEq] at hc;subst hc;cases he
    ·simp only [Option.some.injEq] at hc;subst hc;cases he
    ·simp only [Option.some.injEq] at hc;subst hc;cases he
    ·cases hc
   ·cases hc
  case cap=>
   exfalso
   split at hc
   ·obtain ⟨_,_,hc⟩:=bind_some hc
    split at hc
    ·simp only [Option.some.injEq] at hc;subst hc;cases he
    ·cases hc
   ·cases hc
  case min=>
   exfalso
   split at hc
   ·obtain ⟨_,_,hc⟩:=bind_some hc
    obtain ⟨_,_,hc⟩:=bind_some hc
    simp only [Option.some.injEq] at hc;subst hc;cases he
   ·cases hc
  case max=>
   exfalso
   split at hc
   ·obtain ⟨_,_,hc⟩:=bind_some hc
    obtain ⟨_,_,hc⟩:=bind_some hc
    simp only [Option.some.injEq] at hc;subst hc;cases he
   ·cases hc
def QLe:MOp→Bool
 | .slc _ _ _ _ _=>true
 | _=>false
theorem QJs {o:Oper} {m:MOp} (hc:cop P o=some m) (he:QLe m=true):∃ t y lo hi mx,o.op=.slice t y lo hi mx:=by
 obtain ⟨dst,op,type,pos,after,guard⟩:=o
 cases op<;>simp only [cop] at hc<;>try (cases hc;done)
 case move y=>
  exfalso
  obtain ⟨_,_,hc⟩:=bind_some hc
  simp only [Option.some.injEq] at hc;subst hc;cases he
 case assign y=>
  exfalso
  obtain ⟨_,_,hc⟩:=bind_some hc
  simp only [Option.some.injEq] at hc;subst hc;cases he
 case pick c a b=>
  exfalso
  obtain ⟨_,_,hc⟩:=bind_some hc
  obtain ⟨_,_,hc⟩:=bind_some hc
  obtain ⟨_,_,hc⟩:=bind_some hc
  simp only [Option.some.injEq] at hc;subst hc;cases he
 case nilCheck y=>
  exfalso
  obtain ⟨_,_,hc⟩:=bind_some hc
  simp only [Option.some.injEq] at hc;subst hc;cases he
 case binOp op t y z yt=>
  exfalso
  obtain ⟨_,_,hc⟩:=bind_some hc
  obtain ⟨_,_,hc⟩:=bind_some hc
  obtain ⟨_,_,hc⟩:=bind_some hc
  split at hc
  ·simp only [Option.some.injEq] at hc;subst hc;cases he
  ·split at hc
   ·split at hc
    ·cases hc
    ·obtain ⟨_,_,hc⟩:=bind_some hc
     cases op<;>simp only at hc<;>first | (cases hc;done) | (simp only [Option.some.injEq] at hc;subst hc;cases he)
   ·obtain ⟨_,_,hc⟩:=bind_some hc
    cases op<;>simp only at hc<;>first | (cases hc;done) | (simp only [Option.some.injEq] at hc;subst hc;cases he)
 case unOp op t y=>
  exfalso
  obtain ⟨_,_,hc⟩:=bind_some hc
  cases op<;>simp only at hc<;>first | (cases hc;done) | (simp only [Option.some.injEq] at hc;subst hc;cases he)
 case convert s d y=>
  exfalso
  obtain ⟨_,_,hc⟩:=bind_some hc
  split at hc
  ·simp only [Option.some.injEq] at hc;subst hc;cases he
  ·cases hc
 case typeAssert y xt a ok=>
  exfalso
  obtain ⟨_,_,hc⟩:=bind_some hc
  obtain ⟨_,_,hc⟩:=bind_some hc
  split at hc
  ·cases hc
  ·cases ok with
   | false=>cases hc
   | true=>simp only [Option.some.injEq] at hc;subst hc;cases he
 case makeInterface t y=>
  exfalso
  obtain ⟨_,_,hc⟩:=bind_some hc
  obtain ⟨_,_,hc⟩:=bind_some hc
  split at hc
  ·cases hc
  ·simp only [Option.some.injEq] at hc;subst hc;cases he
 case makeFunc f a b=>
  exfalso
  obtain ⟨_,_,hc⟩:=bind_some hc
  obtain ⟨_,_,hc⟩:=bind_some hc
  simp only [Option.some.injEq] at hc;subst hc;cases he
 case slice t y lo hi mx=>exact ⟨t,y,lo,hi,mx,rfl⟩
 case fieldAddr t y i=>
  exfalso
  obtain ⟨_,_,hc⟩:=bind_some hc
  split at hc
  ·obtain ⟨_,_,hc⟩:=bind_some hc
   obtain ⟨_,_,hc⟩:=bind_some hc
   split at hc
   ·simp only [Option.some.injEq] at hc;subst hc;cases he
   ·cases hc
  ·cases hc
 case field t y i=>
  exfalso
  obtain ⟨_,_,hc⟩:=bind_some hc
  split at hc
  ·obtain ⟨_,_,hc⟩:=bind_some hc
   obtain ⟨_,_,hc⟩:=bind_some hc
   obtain ⟨_,_,hc⟩:=bind_some hc
   simp only [Option.some.injEq] at hc;subst hc;cases he
  ·cases hc
 case indexAddr t y i=>
  exfalso
  obtain ⟨_,_,hc⟩:=bind_some hc
  obtain ⟨_,_,hc⟩:=bind_some hc
  split at hc
  ·obtain ⟨_,_,hc⟩:=bind_some hc
   simp only [Option.some.injEq] at hc;subst hc;cases he
  ·obtain ⟨_,_,hc⟩:=bind_some hc
   simp only [Option.some.injEq] at hc;subst hc;cases he
  ·cases hc
 case index t y i=>
  exfalso
  obtain ⟨_,_,hc⟩:=bind_some hc
  obtain ⟨_,_,hc⟩:=bind_some hc
  split at hc
  ·simp only [Option.some.injEq] at hc;subst hc;cases he
  ·obtain ⟨_,_,hc⟩:=bind_some hc
   obtain ⟨_,_,hc⟩:=bind_some hc
   simp only [Option.some.injEq] at hc;subst hc;cases he
  ·cases hc
 case extract y i=>
  exfalso
  obtain ⟨_,_,hc⟩:=bind_some hc
  simp only [Option.some.injEq] at hc;subst hc;cases he
 case build t ps=>
  exfalso
  obtain ⟨_,_,hc⟩:=bind_some hc
  split at hc
  ·obtain ⟨_,_,hc⟩:=bind_some hc
   obtain ⟨_,_,hc⟩:=bind_some hc
   obtain ⟨_,_,hc⟩:=bind_some hc
   simp only [Option.some.injEq] at hc;subst hc;cases he
  ·obtain ⟨_,_,hc⟩:=bind_some hc
   obtain ⟨_,_,hc⟩:=bind_some hc
   simp only [Option.some.injEq] at hc;subst hc;cases he
  ·cases hc
 case load t y=>
  exfalso
  obtain ⟨_,_,hc⟩:=bind_some hc
  obtain ⟨_,_,hc⟩:=bind_some hc
  obtain ⟨_,_,hc⟩:=bind_some hc
  split at hc
  ·simp only [Option.some.injEq] at hc;subst hc;cases he
  ·cases hc
 case lookup t y i ok=>
  exfalso
  obtain ⟨_,_,hc⟩:=bind_some hc
  obtain ⟨_,_,hc⟩:=bind_some hc
  split at hc
  ·obtain ⟨_,_,hc⟩:=bind_some hc
   obtain ⟨_,_,hc⟩:=bind_some hc
   simp only [Option.some.injEq] at hc;subst hc;cases he
  ·cases hc
 case makeMap t rr=>
  exfalso
  obtain ⟨_,_,hc⟩:=bind_some hc
  split at hc
  ·obtain ⟨_,_,hc⟩:=bind_some hc
   simp only [Option.some.injEq] at hc;subst hc;cases he
  ·cases hc
 case mapUpdate t m k v=>
  exfalso
  obtain ⟨_,_,hc⟩:=bind_some hc
  obtain ⟨_,_,hc⟩:=bind_some hc
  obtain ⟨_,_,hc⟩:=bind_some hc
  split at hc
  ·obtain ⟨_,_,hc⟩:=bind_some hc
   simp only [Option.some.injEq] at hc;subst hc;cases he
  ·cases hc
 case alloc t=>
  exfalso
  obtain ⟨_,_,hc⟩:=bind_some hc
  simp only [Option.some.injEq] at hc;subst hc;cases he
 case box t y=>
  exfalso
  obtain ⟨_,_,hc⟩:=bind_some hc
  simp only [Option.some.injEq] at hc;subst hc;cases he
 case range t y=>
  exfalso
  obtain ⟨_,_,hc⟩:=bind_some hc
  split at hc
  ·simp only [Option.some.injEq] at hc;subst hc;cases he
  ·cases hc
 case next y b=>
  exfalso
  obtain ⟨_,_,hc⟩:=bind_some hc
  cases b
  ·simp only [Option.some.injEq] at hc;subst hc;cases he
  ·cases hc
 case entry y=>
  exfalso
  obtain ⟨_,_,hc⟩:=bind_some hc
  simp only [Option.some.injEq] at hc;subst hc;cases he
 case buildSlice t n ps=>
  exfalso
  obtain ⟨_,_,hc⟩:=bind_some hc
  split at hc
  ·obtain ⟨_,_,hc⟩:=bind_some hc
   split at hc
   ·simp only [Option.some.injEq] at hc;subst hc;cases he
   ·split at hc
    ·simp only [Option.some.injEq] at hc;subst hc;cases he
    ·cases hc
  ·cases hc
 case makeSlice t l c=>
  exfalso
  obtain ⟨_,_,hc⟩:=bind_some hc
  obtain ⟨_,_,hc⟩:=bind_some hc
  split at hc
  ·obtain ⟨_,_,hc⟩:=bind_some hc
   obtain ⟨_,_,hc⟩:=bind_some hc
   split at hc
   ·simp only [Option.some.injEq] at hc;subst hc;cases he
   ·cases hc
  ·cases hc
 case store t a v=>
  exfalso
  obtain ⟨_,_,hc⟩:=bind_some hc
  obtain ⟨_,_,hc⟩:=bind_some hc
  obtain ⟨_,_,hc⟩:=bind_some hc
  simp only [Option.some.injEq] at hc;subst hc;cases he
 case call c=>
  obtain ⟨callee,args,ats⟩:=c
  cases callee<;>simp only at hc<;>try (exfalso;obtain ⟨_,_,hc⟩:=bind_some hc;obtain ⟨_,_,hc⟩:=bind_some hc;simp only [Option.some.injEq] at hc;subst hc;cases he;done)
  rename_i b
  cases b<;>simp only at hc<;>try (cases hc;done)
  case append=>
   exfalso
   split at hc
   ·obtain ⟨_,_,hc⟩:=bind_some hc
    obtain ⟨_,_,hc⟩:=bind_some hc
    split at hc
    ·obtain ⟨_,_,hc⟩:=bind_some hc
     obtain ⟨_,_,hc⟩:=bind_some hc
     split at hc
     ·simp only [Option.some.injEq] at hc;subst hc;cases he
     ·split at hc
      ·split at hc
       ·simp only [Option.some.injEq] at hc;subst hc;cases he
       ·cases hc
      ·cases hc
    ·cases hc
   ·cases hc
  case len=>
   exfalso
   split at hc
   ·obtain ⟨_,_,hc⟩:=bind_some hc
    split at hc
    ·simp only [Option.some.injEq] at hc;subst hc;cases he
    ·simp only [Option.some.injEq] at hc;subst hc;cases he
    ·simp only [Option.some.injEq] at hc;subst hc;cases he
    ·cases hc
   ·cases hc
  case cap=>
   exfalso
   split at hc
   ·obtain ⟨_,_,hc⟩:=bind_some hc
    split at hc
    ·simp only [Option.some.injEq] at hc;subst hc;cases he
    ·cases hc
   ·cases hc
  case min=>
   exfalso
   split at hc
   ·obtain ⟨_,_,hc⟩:=bind_some hc
    obtain ⟨_,_,hc⟩:=bind_some hc
    simp only [Option.some.injEq] at hc;subst hc;cases he
   ·cases hc
  case max=>
   exfalso
   split at hc
   ·obtain ⟨_,_,hc⟩:=bind_some hc
    obtain ⟨_,_,hc⟩:=bind_some hc
    simp only [Option.some.injEq] at hc;subst hc;cases he
   ·cases hc
theorem QJq {o:Oper} {k:Nat} {x:Opd} {lo hi mx:Option Opd} (hc:cop P o=some (.slc k x lo hi mx)):∃ t e y lo' hi' mx',o.op=.slice t y lo' hi' mx'∧c1 y=some x∧c1O lo'=some lo∧c1O hi'=some hi∧c1O mx'=some mx∧P.underlying t=some (.slice e)∧szO P e=some k:=by
 obtain ⟨t,y,lo',hi',mx',ho⟩:=QJs hc rfl
 obtain ⟨dst,op,type,pos,after,guard⟩:=o
 simp only at ho
 subst ho
 simp only [cop] at hc
 obtain ⟨_,h1,hc⟩:=bind_some hc
 obtain ⟨_,h2,hc⟩:=bind_some hc
 obtain ⟨_,h3,hc⟩:=bind_some hc
 obtain ⟨_,h4,hc⟩:=bind_some hc
 split at hc
 ·rename_i e hu
  obtain ⟨k',h5,hc⟩:=bind_some hc
  simp only [Option.some.injEq,MOp.slc.injEq] at hc
  obtain ⟨rfl,rfl,rfl,rfl,rfl⟩:=hc
  exact ⟨t,e,y,lo',hi',mx',rfl,h1,h2,h3,h4,hu,h5⟩
 ·split at hc
  ·cases hc
  ·cases hc
 ·obtain ⟨_,_,hc⟩:=bind_some hc
  cases hc
 ·cases hc
theorem QJr {o:Oper} {d:KD} {z:FV} {ok:Bool} {x k:Opd} (hc:cop P o=some (.lkp d z ok x k)):∃ t a b kt et,o.op=.lookup t a b ok∧c1 a=some x∧c1 b=some k∧P.underlying t=some (.map kt et)∧kdO P kt=some d∧zvO P et=some z:=by
 obtain ⟨t,a,b,ok',ho⟩:=QJt hc rfl
 obtain ⟨dst,op,type,pos,after,guard⟩:=o
 simp only at ho
 subst ho
 simp only [cop] at hc
 obtain ⟨a',h1,hc⟩:=bind_some hc
 obtain ⟨b',h2,hc⟩:=bind_some hc
 split at hc
 ·rename_i kt et hu
  obtain ⟨d',h3,hc⟩:=bind_some hc
  obtain ⟨z',h4,hc⟩:=bind_some hc
  simp only [Option.some.injEq,MOp.lkp.injEq] at hc
  obtain ⟨rfl,rfl,rfl,rfl,rfl⟩:=hc
  exact ⟨t,a,b,kt,et,rfl,h1,h2,hu,h3,h4⟩
 ·cases hc
theorem QtH [Gd] {cl:FV→List FV→TH→(FV→TH→Prop)→Prop} (hcl:ClOk P cl) {E:Env} {th:TH} {h0 h:Heap} {L:List HP} {ρ:Operand→Value} {fr:Fr} {o:Oper} {m:MOp} {K:FV→TH→Prop} (r:Rep E th h0 h L) (hρ:AgO E fr ρ) (hc:copA P o=some m) (hx:evXA cl fr th m K):Sx P (execOp ρ o) h (Post E h0 L K):=by
 cases m with
 | xx x=>exact QJb r hρ (QHI hc) hx
 | slc k x lo hi mx=>
  obtain ⟨t,e,y,lo',hi',mx',ho,h1,h2,h3,h4,hu,hk⟩:=QJq (Qqe hc fun _ h=>by cases h)
  simp only [evXA,xSlo] at hx
  cases lo with
  | some _=>exact hx.elim
  | none=>
   cases mx with
   | some _=>exact hx.elim
   | none=>
    simp only at hx
    cases hb:bdN fr hi with
    | none=>rw [hb] at hx;exact hx.elim
    | some q=>
     rw [hb] at hx
     cases q with
     | none=>exact hx.elim
     | some n=>
      simp only at hx
      cases hv:evO fr x with
      | none=>rw [hv] at hx;exact hx.elim
      | some v=>
       rw [hv] at hx
       cases v<;>try (exact hx.elim)
       rename_i tt i
       simp only at hx
       have el:lo'=none:=by
        cases lo' with
        | none=>rfl
        | some z=>simp only [c1O] at h2;cases hz:c1 z<;>rw [hz] at h2<;>simp at h2
       have em:mx'=none:=by
        cases mx' with
        | none=>rfl
        | some z=>simp only [c1O] at h4;cases hz:c1 z<;>rw [hz] at h4<;>simp at h4
       subst el em
       have key:=QJ4 r hu hk (hρ y x _ h1 hv) (w:=hi'.map ρ) (fun h0=>Qpf hρ h3 hb fun m hm=>by simp only [Option.some.injEq] at hm;subst hm;exact h0) hx
       obtain ⟨dst,op,type,pos,after,guard⟩:=o
       simp only at ho
       subst ho
       have eo:∀ z:Option Operand,oarr ρ z=z.map ρ:=fun z=>by cases z<;>rfl
       have k2:QfD P t (ρ y) (oarr ρ none) (oarr ρ hi') (oarr ρ none) fun v=>Post E h0 L K v h:=by
        rw [eo,eo];exact key
       have k3:Sq P (Eq h) (execOp ρ ⟨dst,.slice t y none hi' none,type,pos,after,guard⟩) fun v=>Post E h0 L K v h:=Qnu (show QfD P t (ρ y) (oarr ρ none) (oarr ρ hi') (oarr ρ none) _ from k2)
       exact Sq.toX k3 fun _ hv=>hv
 | lkp d z ok x k=>
  obtain ⟨t,a,b,kt,et,ho,h1,h2,hu,hd,hz⟩:=QJr (Qqe hc fun _ h=>by cases h)
  simp only [evXA,xLkm] at hx
  cases ha:evO fr x with
  | none=>rw [ha] at hx;exact hx.elim
  | some av=>
   cases hb:evO fr k with
   | none=>rw [ha,hb] at hx;exact hx.elim
   | some bv=>
    rw [ha,hb] at hx
    have key:=QKl r hu hd hz (hρ a x av h1 ha) (hρ b k bv h2 hb) hx
    obtain ⟨dst,op,type,pos,after,guard⟩:=o
    simp only at ho
    subst ho
    exact key
 | _=>exact QKy hcl r hρ (Qqe hc fun _ h=>by cases h) hx
theorem QJe {E:Env} {th:TH} {h0 h:Heap} {L:List HP} {ρ:Operand→Value} {fr:Fr} {o:Oper} {m:MOp} {x:FV} (r:Rep E th h0 h L) (hρ:AgO E fr ρ) (hc:copA P o=some m) (hx:evQ fr th.t m=some x) (ho:obH x):Sq P (Eq h) (execOp ρ o) fun v=>den E (strip x)=some v:=by
 refine QKB r hρ (Qqe hc fun x h=>?_) hx ho
 subst h
 simp [evQ,evQ0,evZ] at hx
end Go.Va
