import Derived.Test.YtemffgbncjnmkaaGreatVlm
set_option linter.unusedVariables false
set_option linter.unusedSectionVars false
set_option linter.unusedSimpArgs false
namespace Go.Va
open Go Go.Sh
variable [Vb]
variable {P:Program}
abbrev Cl:=FV→List FV→TH→(FV→TH→Prop)→Prop
def ClOk [Gd] (P:Program)(cl:Cl):Prop:=∀f l th K,cl f l th K→∀E h0 h L fv vs,Rep E th h0 h L→den E f=some fv→denL E l=some vs→Sx P (Qf9 fv vs.toArray) h (Post E h0 L K)
theorem Qqf:∀ {l:List Nat}{c n:Nat},QCQ l c=true→n<l.length→l[n]?=some (c+n)
 | [],c,n,_,h=>by simp at h
 | a::r,c,n,hc,hn=>by
  have hc:(Bool.rec (motive:=fun _=>Bool) false (QCQ r c.succ) (Nat.beq a c):Bool)=true:=hc
  rw[brec] at hc
  cases hb:Nat.beq a c with
  | false=>rw[hb] at hc;cases hc
  | true=>
   rw[hb] at hc
   have e:=Qm hb
   subst e
   cases n with
   | zero=>simp
   | succ n=>
    have:=Qqf (n:=n) hc (by simpa using hn)
    simp only[List.getElem?_cons_succ,this]
    congr 1;show a+1+n=_;omega
theorem QC2 {x:Option Operand}{z:Opd}(h:c1O x=some (some z)):∃y,x=some y∧c1 y=some z:=by
 cases x with
 | none=>simp[c1O] at h
 | some y=>
  simp only[c1O] at h
  cases hy:c1 y with
  | none=>rw[hy] at h;cases h
  | some a=>rw[hy] at h;simp only[Option.some.injEq] at h;exact⟨y,rfl,by rw[hy,h]⟩
theorem QIG {E:Env}{ρ:Operand→Value}{fr:Fr}(hρ:AgO E fr ρ){t:TypeId}{y:Operand}{lo hi:Option Operand}{y':Opd}{lo' hi':Option Opd}(hu:P.underlying t=some .string)(h1:c1 y=some y')(h2:c1O lo=some lo')(h3:c1O hi=some hi')
  {th:TH}{K:FV→TH→Prop} (hx:Qtf y' lo' hi' fr th K):∃x,K x th∧QfD P t (ρ y) (lo.map ρ) (hi.map ρ) none fun v=>den E x=some v:=by
 unfold Qtf at hx
 cases hv:evO fr y' with
 | none=>rw[hv] at hx;exact hx.elim
 | some v=>
  rw[hv] at hx
  cases v<;>try (exact hx.elim)
  rename_i l
  cases lo' with
  | none=>exact hx.elim
  | some lo1=>
   cases hi' with
   | none=>exact hx.elim
   | some hi1=>
    simp only at hx
    cases ha:evO fr lo1 with
    | none=>rw[ha] at hx;exact hx.elim
    | some av=>
     rw[ha] at hx
     cases hb:evO fr hi1 with
     | none=>rw[hb] at hx;exact hx.elim
     | some bv=>
      rw[hb] at hx
      cases l with
      | nil=>exact hx.elim
      | cons c r=>
       simp only[QHW] at hx
       obtain⟨hc,hx⟩:=Q1 hx
       obtain⟨hl,hv'⟩:=Qcr (hρ y y' _ h1 hv)
       obtain⟨z1,rfl,hz1⟩:=QC2 h2
       obtain⟨z2,rfl,hz2⟩:=QC2 h3
       have hlo:=hρ z1 lo1 _ hz1 ha
       have hhi:=hρ z2 hi1 _ hz2 hb
       cases hi1':zbn av with
       | none=>rw[hi1'] at hx;exact hx.elim
       | some p=>
        obtain⟨k,a,lo,hi⟩:=p
        cases hi2':zbn bv with
        | none=>rw[hi1',hi2'] at hx;exact hx.elim
        | some q=>
         obtain⟨k',b,lo',hi'⟩:=q
         rw[hi1',hi2'] at hx
         simp only at hx
         obtain⟨hcc,hk⟩:=Q1 hx
         simp only[Bool.and_eq_true] at hcc
         obtain⟨ea,b1,b2⟩:=Qcl hi1' hlo
         obtain⟨eb,_,_⟩:=Qcl hi2' hhi
         have elen:(Int.ofNat (c::r).length)=((c::r).length:Int):=rfl
         have ec:Int.ofNat c=(c:Int):=rfl
         have e0:Int.ofNat 0=(0:Int):=rfl
         have q1:=Qbc hcc.1.1
         have q2:=Qfv hcc.1.2
         have q3:b.ev=a.ev+1:=by rw[QlS hcc.2];rfl
         refine⟨_,hk,?_⟩
         obtain⟨n,hn'⟩:∃n:Nat,a.ev=(n:Int):=⟨a.ev.toNat,by omega⟩
         have el2:((c::r).length:Int)=(r.length:Int)+1:=by simp
         have hn:n<(c::r).length:=by omega
         have g1:OI (some n) ((some z1).map ρ):=⟨k,by rw[Option.map_some,ea,hn']⟩
         have g2:OI (some (n+1)) ((some z2).map ρ):=⟨k',by rw[Option.map_some,eb,q3,hn'];rfl⟩
         have hget:=Qqf hc hn
         have hlast:=Qqf (n:=r.length) hc (by simp)
         have hbyte:c+r.length<256:=by
          have:=List.all_eq_true.1 hl _ (List.mem_of_getElem? hlast)
          exact QaQ this
         refine⟨str ((((c::r).map UInt8.ofNat).take (n+1)).drop n),fun w=>QA ?_,?_⟩
         ·rw[hv']
          exact Qyp hu g1 g2 (by simp only[Qdg,List.length_map];omega) (by simp only[Qdg];omega) w
         ·have e4:(((c::r).map UInt8.ofNat).take (n+1)).drop n=[UInt8.ofNat (c+n)]:=by
           rw[←List.map_take,←List.map_drop]
           have:((c::r).take (n+1)).drop n=[c+n]:=by
            have hg:(c::r)[n]=c+n:=by
             have:=List.getElem?_eq_getElem hn
             rw[hget] at this
             simpa using this.symm
            rw[List.drop_take,List.drop_eq_getElem_cons hn,hg]
            simp
           rw[this];rfl
          rw[e4]
          have e7:Int.add (.ofNat c) lo=(c:Int)+lo:=rfl
          have e8:Int.add (.ofNat c) hi=(c:Int)+hi:=rfl
          have hok:Qbq [.v (.add (.c (.ofNat c)) a) (Int.add (.ofNat c) lo) (Int.add (.ofNat c) hi)]=true:=by
           have:decide (0≤(c:Int)+lo∧(c:Int)+lo≤(c:Int)+a.ev∧(c:Int)+a.ev≤(c:Int)+hi∧(c:Int)+hi<256)=true:=by
            simp only[decide_eq_true_eq];omega
           simp only[Qbq,List.all_cons,List.all_nil,Bool.and_true]
           exact this
          simp only[den]
          rw[if_pos hok]
          simp only[List.map_cons,List.map_nil,sbU,SE.ev]
          have e5:(Int.ofNat c+a.ev).toNat=c+n:=by omega
          rw[e5]
theorem QJc [Gd]{cl:Cl}(hcl:ClOk P cl){E:Env}{th:TH}{h0 h:Heap}{L:List HP}{ρ:Operand→Value}{fr:Fr}{o:Oper}{m:MOp}{K:FV→TH→Prop}(r:Rep E th h0 h L)(hρ:AgO E fr ρ)(hc:cop P o=some m)(hx:evX0 cl fr th m K) :
    Sx P (execOp ρ o) h (Post E h0 L K):=by
  have X:opX P ρ o h (Post E h0 L K)→Sx P (execOp ρ o) h (Post E h0 L K):=QrR
  obtain⟨dst,op,type,pos,after,guard⟩:=o
  cases op<;>simp only[cop] at hc<;>try (cases hc;done)
  case alloc t=>
    refine X ?_
    obtain⟨z,hz,hc⟩:=bind_some hc
    simp only[Option.some.injEq] at hc;subst hc
    exact QKU r hz hx
  case box t y=>
    refine X ?_
    obtain⟨y',h1,hc⟩:=bind_some hc
    simp only[Option.some.injEq] at hc;subst hc
    simp only[evX0,xBox] at hx
    cases hv:evO fr y' with
    | none=>rw[hv] at hx;exact hx.elim
    | some v=>
      rw[hv] at hx
      obtain⟨hn,hx⟩:=Q1 hx
      exact QKP r (hρ y y' v h1 hv) hn hx
  case store t a v=>
    refine X ?_
    obtain⟨a',h1,hc⟩:=bind_some hc
    obtain⟨v',h2,hc⟩:=bind_some hc
    obtain⟨k,hk,hc⟩:=bind_some hc
    simp only[Option.some.injEq] at hc;subst hc
    simp only[evX0,xSt] at hx
    cases ha:evO fr a' with
    | none=>rw[ha] at hx;exact hx.elim
    | some av=>
      cases hv:evO fr v' with
      | none=>rw[ha,hv] at hx;exact hx.elim
      | some vv=>
        rw[ha,hv] at hx
        simp only at hx
        cases av<;>try (exact hx.elim)
        rename_i i o
        simp only[stF] at hx
        cases hg:th.t.get i with
        | none=>rw[hg] at hx;exact hx.elim
        | some ob=>
          rcases ob with⟨cs,kk⟩ | ⟨dd,mm⟩ | ⟨ii,cc,bb⟩ | ⟨rr⟩
          case map=>rw[hg] at hx;first | exact hx.elim | cases hx
          case it=>rw[hg] at hx;first | exact hx.elim | cases hx
          case ro=>rw[hg] at hx;first | exact hx.elim | cases hx
          case row=>rw[hg] at hx;first | exact hx.elim | cases hx
          case mp=>rw[hg] at hx;first | exact hx.elim | cases hx
          case mf=>rw[hg] at hx;first | exact hx.elim | cases hx
          case im=>rw[hg] at hx;first | exact hx.elim | cases hx
          rw[hg] at hx
          obtain⟨hb,hx⟩:=Q1 hx
          simp only[Bool.and_eq_true] at hb
          cases hs:splO (QbI vv) o cs with
          | none=>rw[hs] at hx;exact hx.elim
          | some cs'=>
            rw[hs] at hx
            exact QK8 r hk (hρ a a' _ h1 ha) (hρ v v' _ h2 hv) hb.2 (Qm hb.1) hg hs hx
  case buildSlice t n ps=>
    refine X ?_
    obtain⟨l,h1,hc⟩:=bind_some hc
    cases hu:P.underlying t with
    | none=>rw[hu] at hc;cases hc
    | some d=>
      rw[hu] at hc
      cases d<;>try (cases hc;done)
      obtain⟨z,hz,hc⟩:=bind_some hc
      split at hc
      · rename_i hcond
        simp only[Option.some.injEq] at hc;subst hc
        simp only[evX0,xBsl] at hx
        cases hq:evP fr l with
        | none=>rw[hq] at hx;exact hx.elim
        | some q=>
          rw[hq] at hx
          simp only at hx
          cases hf:Qc4 (List.replicate n z).flatten (plsK z.length ps.toList) q with
          | none=>rw[hf] at hx;exact hx.elim
          | some cs=>rw[hf] at hx;exact QKN r hρ h1 hq hu hz hf hcond.1 hcond.2 hx
      · split at hc
        · rename_i hz0
          obtain⟨hn0,hps⟩:=hz0
          simp only[Option.some.injEq] at hc;subst hc
          subst hn0
          exact QKO r hu hz hps hx
        · cases hc
  case makeSlice t l c=>
    refine X ?_
    obtain⟨l',h1,hc⟩:=bind_some hc
    obtain⟨c',h2,hc⟩:=bind_some hc
    cases hu:P.underlying t with
    | none=>rw[hu] at hc;cases hc
    | some d=>
      rw[hu] at hc
      cases d<;>try (cases hc;done)
      obtain⟨z,hz,hc⟩:=bind_some hc
      obtain⟨i,hi,hc⟩:=bind_some hc
      split at hc
      · rename_i hcond
        simp only[Option.some.injEq] at hc;subst hc
        simp only[evX0,xMks] at hx
        have lits:Qtg i.bytes z l' c' fr th K→Qmk P t (ρ l) (ρ c) h (Post E h0 L K):=fun hx=>by
          unfold Qtg at hx
          cases hl:evN fr l' with
          | none=>rw[hl] at hx;exact hx.elim
          | some ln=>
            cases hcn:evN fr c' with
            | none=>rw[hl,hcn] at hx;exact hx.elim
            | some cn=>
              rw[hl,hcn] at hx
              obtain⟨hb,hx⟩:=Q1 hx
              simp only[Bool.and_eq_true] at hb
              rw[Qst hρ h1 hl,Qst hρ h2 hcn]
              exact QKh r hu hz hi hcond (Qag hb.1.1) (Qag hb.1.2) (Qag hb.2) hx
        show Qmk P t (ρ l) (ρ c) h _
        cases ho:QpQ fr c' with
        | none=>rw[ho] at hx;exact lits hx
        | some n=>
          rw[ho] at hx
          simp only at hx
          cases hzr:QwH fr l' with
          | false=>rw[hzr] at hx;exact lits hx
          | true=>
            rw[hzr] at hx
            obtain⟨⟨g1,g2,g3⟩,hx⟩:=hx
            rw[QGZ hρ h1 hzr,QHn hρ h2 ho,show n=(n.toNat:Int) from by omega]
            exact QIX r hu hz hi hcond g2 g3 hx
      · cases hc
  case makeMap t rr=>
    refine X ?_
    obtain⟨r',h1,hc⟩:=bind_some hc
    cases hu:P.underlying t with
    | none=>rw[hu] at hc;cases hc
    | some d=>
      rw[hu] at hc
      cases d<;>try (cases hc;done)
      obtain⟨dd,hd,hc⟩:=bind_some hc
      simp only[Option.some.injEq] at hc;subst hc
      cases rr with
      | none=>
        simp only[c1O,Option.some.injEq] at h1;subst h1
        exact QGe r hu (.inl rfl) (QIb hd) hx
      | some y=>
        simp only[c1O] at h1
        cases h2:c1 y with
        | none=>rw[h2] at h1;cases h1
        | some y'=>
          rw[h2] at h1;simp only[Option.some.injEq] at h1;subst h1
          simp only[evX0,xMkm] at hx
          cases hv:evO fr y' with
          | none=>rw[hv] at hx;exact hx.elim
          | some v=>
            rw[hv] at hx
            simp only at hx
            cases hb:zbn v with
            | none=>rw[hb] at hx;exact hx.elim
            | some p=>
              obtain⟨kk,n,lo,hi⟩:=p
              rw[hb] at hx
              exact QGe r hu (q:=some (ρ y)) (.inr ⟨kk,n.ev,by rw[(Qcl hb (hρ y y' _ h2 hv)).1]⟩) (QIb hd) hx
  case mapUpdate t m k v=>
    refine X ?_
    obtain⟨m',h1,hc⟩:=bind_some hc
    obtain⟨k',h2,hc⟩:=bind_some hc
    obtain⟨v',h3,hc⟩:=bind_some hc
    cases hu:P.underlying t with
    | none=>rw[hu] at hc;cases hc
    | some d=>
      rw[hu] at hc
      cases d<;>try (cases hc;done)
      obtain⟨dd,hd,hc⟩:=bind_some hc
      simp only[Option.some.injEq] at hc;subst hc
      simp only[evX0,xMup] at hx
      cases ha:evO fr m' with
      | none=>rw[ha] at hx;exact hx.elim
      | some av=>
        cases hb:evO fr k' with
        | none=>rw[ha,hb] at hx;exact hx.elim
        | some bv=>
          cases hcv:evO fr v' with
          | none=>rw[ha,hb,hcv] at hx;exact hx.elim
          | some cv=>
            rw[ha,hb,hcv] at hx
            exact QGb r hu hd (hρ m m' av h1 ha) (hρ k k' bv h2 hb) (hρ v v' cv h3 hcv) hx
  case range t y=>
    refine X ?_
    obtain⟨y',h1,hc⟩:=bind_some hc
    cases hu:P.underlying t with
    | none=>rw[hu] at hc;cases hc
    | some d=>
      rw[hu] at hc
      cases d<;>try (cases hc;done)
      simp only[Option.some.injEq] at hc;subst hc
      simp only[evX0,xRng] at hx
      cases hv:evO fr y' with
      | none=>rw[hv] at hx;exact hx.elim
      | some v=>rw[hv] at hx;exact QFN r hu (hρ y y' v h1 hv) hx
  case next y b=>
    refine X ?_
    obtain⟨y',h1,hc⟩:=bind_some hc
    cases b with
    | true=>cases hc
    | false=>
      simp only[Option.some.injEq] at hc;subst hc
      simp only[evX0,xNxt] at hx
      cases hv:evO fr y' with
      | none=>rw[hv] at hx;exact hx.elim
      | some v=>rw[hv] at hx;exact QF9 r (hρ y y' v h1 hv) hx
  case lookup t y i ok=>
    exfalso
    obtain⟨_,_,hc⟩:=bind_some hc
    obtain⟨_,_,hc⟩:=bind_some hc
    split at hc
    · obtain⟨_,_,hc⟩:=bind_some hc
      obtain⟨_,_,hc⟩:=bind_some hc
      simp only[Option.some.injEq] at hc;subst hc;exact hx
    · cases hc
  case call c=>
    obtain⟨callee,args,ats⟩:=c
    cases callee<;>simp only at hc
    case value f=>
      refine X ?_
      obtain⟨f',h1,hc⟩:=bind_some hc
      obtain⟨l',h2,hc⟩:=bind_some hc
      simp only[Option.some.injEq] at hc;subst hc
      simp only[evX0,QA0] at hx
      cases hf:evO fr f' with
      | none=>rw[hf] at hx;exact hx.elim
      | some fv=>
        cases hl:evL fr l' with
        | none=>rw[hf,hl] at hx;exact hx.elim
        | some lv=>
          rw[hf,hl] at hx
          exact hcl fv lv th K hx E h0 h L _ _ r (hρ f f' fv h1 hf) (hρ.list h2 hl)
    case invoke y name=>
      refine X ?_
      obtain⟨y',h1,hc⟩:=bind_some hc
      obtain⟨l',h2,hc⟩:=bind_some hc
      simp only[Option.some.injEq] at hc;subst hc
      simp only[evX0,xInv] at hx
      cases hy:evO fr y' with
      | none=>rw[hy] at hx;exact hx.elim
      | some yv=>
        rw[hy] at hx
        cases yv<;>try (exact hx.elim)
        rename_i t v
        simp only at hx
        cases hp:lkI t (invT P name) with
        | none=>rw[hp] at hx;exact hx.elim
        | some p=>
          rw[hp] at hx
          simp only at hx
          cases hl:evL fr l' with
          | none=>rw[hl] at hx;exact hx.elim
          | some lv=>
            rw[hl] at hx
            exact QKp hcl r (hρ y y' _ h1 hy) (hρ.list h2 hl) hp hx
    case builtin b=>
      cases b<;>simp only at hc<;>try (cases hc;done)
      case append=>
        refine X ?_
        obtain⟨al⟩:=args
        obtain⟨tl⟩:=ats
        match al,tl,hc with
        | [s,y],[t,t'],hc=>
          simp only at hc
          obtain⟨s',h1,hc⟩:=bind_some hc
          obtain⟨y',h2,hc⟩:=bind_some hc
          cases hu:P.underlying t with
          | none=>rw[hu] at hc;cases hc
          | some d=>
            rw[hu] at hc
            cases d<;>try (cases hc;done)
            obtain⟨z,hz,hc⟩:=bind_some hc
            obtain⟨i,hi,hc⟩:=bind_some hc
            split at hc
            · rename_i hcond
              obtain⟨hzp,ht⟩:=hcond
              simp only[Option.some.injEq] at hc;subst hc
              subst ht
              simp only[evX0,xApp] at hx
              cases hsv:evO fr s' with
              | none=>rw[hsv] at hx;exact hx.elim
              | some sv=>
                cases hyv:evO fr y' with
                | none=>rw[hsv,hyv] at hx;exact hx.elim
                | some yv=>
                  rw[hsv,hyv] at hx
                  simp only at hx
                  cases hap:appC th.t z.length yv with
                  | none=>rw[hap] at hx;exact hx.elim
                  | some p=>
                    obtain⟨m,xs⟩:=p
                    rw[hap] at hx
                    obtain⟨us,A⟩:=QEy r (hρ y y' yv h2 hyv) hap
                    obtain⟨i',zv,g1,g2,g3,g4,g5,g6⟩:=Qe5 hz
                    rw[hi] at g1;simp only[Option.some.injEq] at g1;subst g1
                    exact QJI r hu hi g2 g5.symm (by rw[g6,g5]) hzp (hρ s s' sv h1 hsv) (A.g hu) hx
            · split at hc
              · rename_i hzp
                cases hu':P.underlying t' with
                | none=>rw[hu'] at hc;cases hc
                | some d'=>
                  rw[hu'] at hc
                  cases d'<;>try (cases hc;done)
                  simp only[Option.some.injEq] at hc;subst hc
                  simp only[evX0,xApc] at hx
                  cases hsv:evO fr s' with
                  | none=>rw[hsv] at hx;exact hx.elim
                  | some sv=>
                    rw[hsv] at hx
                    cases sv<;>try (exact hx.elim)
                    simp only at hx
                    cases hn:evN fr y' with
                    | none=>rw[hn] at hx;exact hx.elim
                    | some n=>
                      rw[hn] at hx
                      obtain⟨hb,hx⟩:=Q1 hx
                      simp only[Bool.and_eq_true] at hb
                      have hs:=hρ s s' _ h1 hsv
                      simp only[den,Option.some.injEq] at hs
                      show QbY P #[t,t'] type #[ρ s,ρ y] h _
                      rw[←hs,Qst hρ h2 hn]
                      exact QGV r hu hu' hz hi hzp (QaQ hb.1.1) (Qag hb.1.2) (Qag hb.2) hx
              · cases hc
      all_goals
        exfalso
        split at hc<;>first
          | (cases hc;done)
          | (obtain⟨_,_,hc⟩:=bind_some hc
             first
               | (obtain⟨_,_,hc⟩:=bind_some hc;simp only[Option.some.injEq] at hc;subst hc;exact hx)
               | (split at hc<;>first | (cases hc;done) | (simp only[Option.some.injEq] at hc;subst hc;exact hx)))
  case binOp op t y z yt=>
    exfalso
    obtain⟨_,_,hc⟩:=bind_some hc
    obtain⟨_,_,hc⟩:=bind_some hc
    obtain⟨_,_,hc⟩:=bind_some hc
    split at hc
    · simp only[Option.some.injEq] at hc;subst hc;exact hx
    · split at hc
      · split at hc
        · cases hc
        · obtain⟨_,_,hc⟩:=bind_some hc
          split at hc<;>first | (cases hc;done) | (simp only[Option.some.injEq] at hc;subst hc;exact hx)
      · obtain⟨_,_,hc⟩:=bind_some hc
        split at hc<;>first | (cases hc;done) | (simp only[Option.some.injEq] at hc;subst hc;exact hx)
  case unOp op t y=>
    exfalso
    obtain⟨_,_,hc⟩:=bind_some hc
    split at hc<;>first | (cases hc;done) | (simp only[Option.some.injEq] at hc;subst hc;exact hx)
  case convert s d y=>
    exfalso
    obtain⟨_,_,hc⟩:=bind_some hc
    split at hc<;>first | (cases hc;done) | (simp only[Option.some.injEq] at hc;subst hc;exact hx)
  case makeInterface t y=>
    exfalso
    obtain⟨_,_,hc⟩:=bind_some hc
    obtain⟨_,_,hc⟩:=bind_some hc
    split at hc<;>first | (cases hc;done) | (simp only[Option.some.injEq] at hc;subst hc;exact hx)
  case slice t y lo hi mx=>
    obtain⟨y',h1,hc⟩:=bind_some hc
    obtain⟨lo',h2,hc⟩:=bind_some hc
    obtain⟨hi',h3,hc⟩:=bind_some hc
    obtain⟨mx',h4,hc⟩:=bind_some hc
    split at hc
    · exfalso
      obtain⟨_,_,hc⟩:=bind_some hc
      simp only[Option.some.injEq] at hc;subst hc;exact hx
    · rename_i hu
      split at hc
      · simp only[Option.some.injEq] at hc;subst hc
        have hmx:mx=none:=by
          cases mx with
          | none=>rfl
          | some z=>simp only[c1O] at h4;cases hz:c1 z<;>rw[hz] at h4<;>simp at h4
        subst hmx
        obtain⟨x,hk,hs⟩:=QIG (P:=P) hρ hu h1 h2 h3 (th:=th) (K:=K) hx
        have eo:∀z:Option Operand,oarr ρ z=z.map ρ:=fun z=>by cases z<;>rfl
        have Q:opQ P ρ ⟨dst,.slice t y lo hi none,type,pos,after,guard⟩ (Eq h) (fun v=>den E x=some v)→Sq P (Eq h) (execOp ρ ⟨dst,.slice t y lo hi none,type,pos,after,guard⟩) fun v=>den E x=some v:=Qnu
        obtain⟨v,hv1,hv2⟩:=Q (by show QfD P t (ρ y) (oarr ρ lo) (oarr ρ hi) (oarr ρ none) _;rw[eo,eo,eo];exact hs)
        intro w hw
        rw[hv1 w hw.symm]
        exact⟨Qx.refl w,by rw[hw];exact Post.same hv2 r hk⟩
      · cases hc
    · exfalso
      obtain⟨_,_,hc⟩:=bind_some hc
      simp only[Option.some.injEq] at hc;subst hc;exact hx
    · cases hc
  case fieldAddr t y i=>
    exfalso
    obtain⟨_,_,hc⟩:=bind_some hc
    split at hc
    · obtain⟨_,_,hc⟩:=bind_some hc
      obtain⟨_,_,hc⟩:=bind_some hc
      split at hc<;>first | (cases hc;done) | (simp only[Option.some.injEq] at hc;subst hc;exact hx)
    · cases hc
  case field t y i=>
    exfalso
    obtain⟨_,_,hc⟩:=bind_some hc
    split at hc
    · obtain⟨_,_,hc⟩:=bind_some hc
      obtain⟨_,_,hc⟩:=bind_some hc
      obtain⟨_,_,hc⟩:=bind_some hc
      simp only[Option.some.injEq] at hc;subst hc;exact hx
    · cases hc
  case indexAddr t y i=>
    exfalso
    obtain⟨_,_,hc⟩:=bind_some hc
    obtain⟨_,_,hc⟩:=bind_some hc
    split at hc
    · obtain⟨_,_,hc⟩:=bind_some hc
      simp only[Option.some.injEq] at hc;subst hc;exact hx
    · obtain⟨_,_,hc⟩:=bind_some hc
      simp only[Option.some.injEq] at hc;subst hc;exact hx
    · cases hc
  case index t y i=>
    exfalso
    obtain⟨_,_,hc⟩:=bind_some hc
    obtain⟨_,_,hc⟩:=bind_some hc
    split at hc
    · simp only[Option.some.injEq] at hc;subst hc;exact hx
    · obtain⟨_,_,hc⟩:=bind_some hc
      obtain⟨_,_,hc⟩:=bind_some hc
      simp only[Option.some.injEq] at hc;subst hc;exact hx
    · cases hc
  case build t ps=>
    exfalso
    obtain⟨_,_,hc⟩:=bind_some hc
    split at hc
    · obtain⟨_,_,hc⟩:=bind_some hc
      obtain⟨_,_,hc⟩:=bind_some hc
      obtain⟨_,_,hc⟩:=bind_some hc
      simp only[Option.some.injEq] at hc;subst hc;exact hx
    · obtain⟨_,_,hc⟩:=bind_some hc
      obtain⟨_,_,hc⟩:=bind_some hc
      simp only[Option.some.injEq] at hc;subst hc;exact hx
    · cases hc
  case load t y=>
    exfalso
    obtain⟨_,_,hc⟩:=bind_some hc
    obtain⟨_,_,hc⟩:=bind_some hc
    obtain⟨_,_,hc⟩:=bind_some hc
    split at hc<;>first | (cases hc;done) | (simp only[Option.some.injEq] at hc;subst hc;exact hx)
  case typeAssert y xt a ok=>
    exfalso
    obtain⟨_,_,hc⟩:=bind_some hc
    obtain⟨_,_,hc⟩:=bind_some hc
    split at hc
    · cases hc
    · cases ok with
      | false=>cases hc
      | true=>simp only[Option.some.injEq] at hc;subst hc;exact hx
  all_goals
    exfalso
    first
      | (obtain⟨_,_,hc⟩:=bind_some hc;simp only[Option.some.injEq] at hc;subst hc;exact hx)
      | (obtain⟨_,_,hc⟩:=bind_some hc;obtain⟨_,_,hc⟩:=bind_some hc;simp only[Option.some.injEq] at hc;subst hc;exact hx)
      | (obtain⟨_,_,hc⟩:=bind_some hc;obtain⟨_,_,hc⟩:=bind_some hc;obtain⟨_,_,hc⟩:=bind_some hc;simp only[Option.some.injEq] at hc;subst hc;exact hx)
end Go.Va
