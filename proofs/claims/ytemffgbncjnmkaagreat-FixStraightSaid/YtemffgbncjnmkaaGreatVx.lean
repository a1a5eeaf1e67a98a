import Derived.Test.YtemffgbncjnmkaaGreatVw
set_option linter.unusedVariables false
set_option linter.unusedSectionVars false
set_option linter.unusedSimpArgs false
namespace Go.Va
open Go Go.Sh
variable [Vb]
variable {P:Program}{ds:List Deferred}
variable {cl:Cl}{n:Nat}{ops:Array Oper}{hd:Nat}{fr0:Fr}{f0:Nat→Value}{E0:Env}{h0:Heap}{L:List HP}{K:KF}
 {m:Vals}{h:Heap}{S:List (Nat×Nat)}{R:List RE}{seen:List Nat}{fr:Fr}{th:TH}{hs:List HE}{ps:List PE}{E:Env}{val:Nat→Option FV}
theorem Rep.permL {L':List HP}(r:Rep E th h0 h L)(p:L.Perm L'):Rep E th h0 h L':=⟨r.st.perm ((p.cons _).append_left _),r.fr,r.eh⟩
theorem Rep.hpm {F:Env}(r:Rep F th h0 h (hpL m E hs++L))(hle:E.Le0 F):Rep F th h0 h (hpL m F hs++L):=by
 refine⟨?_,r.fr,r.eh⟩
 have p:∀G,(th.t.all.map (part F)++(FzP F.z::(hpL m G hs++L))).Perm (hpL m G hs++(th.t.all.map (part F)++(FzP F.z::L))):=fun G=>by
  refine ((List.perm_middle (a:=FzP F.z) (l₁:=hpL m G hs) (l₂:=L)).symm.append_left _).trans ?_
  rw[←List.append_assoc,←List.append_assoc]
  exact List.perm_append_comm.append_right _
 have s:=r.st.perm (p E)
 exact St.perm (⟨s.1,Qv6 hle s.2⟩:St h0 h (hpL m F hs++(th.t.all.map (part F)++(FzP F.z::L)))) (p F).symm
theorem QlY {q:HE}(h:(m q.i).isSome):hpL m E (q::hs)=part E (q.id,q.o)::hpL m E hs:=by simp only[hpL,h,if_true]
theorem Qsr {q:HE}(h:m q.i=none):hpL m E (q::hs)=hpL m E hs:=by simp[hpL,h]
theorem Qoo {dp:List Nat}:∀ {hs:List HE}{L:List HP},Rep E th h0 h (hpL m E hs++L)→(∀q∈hs,memN q.i dp=true→(m q.i).isSome)→Rep E ⟨relH dp th.t hs,th.nx,th.scr⟩ h0 h (hpL m E (Qc3 dp hs)++L)
 | [],L,r,_=>r
 | q::hs,L,r,hd=>by
  have hr:=fun z hz=>hd z (.tail q hz)
  cases hm:memN q.i dp with
  | true=>
   have hs':=hd q (.head _) hm
   rw[QlY hs'] at r
   have r2:=Qoo (L:=part E (q.id,q.o)::L) (r.permL List.perm_middle.symm) hr
   simp only[relH,Qc3,hm,cond_true]
   exact (r2.permL List.perm_middle).take
  | false=>
   simp only[relH,Qc3,hm,cond_false]
   cases hq:m q.i with
   | none=>
    rw[Qsr hq] at r ⊢
    exact Qoo r hr
   | some v=>
    have hs':(m q.i).isSome:=by rw[hq];rfl
    rw[QlY hs'] at r ⊢
    have r2:=Qoo (L:=part E (q.id,q.o)::L) (r.permL List.perm_middle.symm) hr
    exact r2.permL List.perm_middle
theorem QEC:∀ {hs:List HE}{L:List HP},Rep E th h0 h (hpL m E hs++L)→(∀q∈hs,(m q.i).isSome)→Rep E ⟨allH th.t hs,th.nx,th.scr⟩ h0 h L
 | [],L,r,_=>r
 | q::hs,L,r,hd=>by
  rw[QlY (hd q (.head _))] at r
  have r2:=QEC (L:=part E (q.id,q.o)::L) (r.permL List.perm_middle.symm) fun z hz=>hd z (.tail q hz)
  exact r2.take
theorem QnB {dp:List Nat}:∀ {hs:List HE},(Qc3 dp hs).Sublist hs
 | []=>.slnil
 | q::hs=>by
  simp only[Qc3]
  cases memN q.i dp with
  | true=>exact .cons _ QnB
  | false=>exact .cons_cons _ QnB
theorem QyP {q:HE}{v:Value}(hm:m q.i=none):∀ {hs:List HE},q∈hs→(hs.map (·.i)).Nodup→(hpL (setm m q.i v) E hs).Perm (part E (q.id,q.o)::hpL m E hs)
 | [],h,_=>by cases h
 | z::hs,h,hn=>by
  simp only[List.map_cons,List.nodup_cons] at hn
  rcases List.mem_cons.1 h with rfl | h
  ·rw[QlY (by rw[Qc9];rfl),Qsr hm,QtF fun z hz e=>hn.1 (List.mem_map.2 ⟨z,hz,e⟩)]
  ·have hne:z.i≠q.i:=fun e=>hn.1 (List.mem_map.2 ⟨q,h,e.symm⟩)
   have ih:=QyP (v:=v) hm h hn.2
   have hz:setm m q.i v z.i=m z.i:=QaC hne
   cases hq:m z.i with
   | none=>rw[Qsr (by rw[hz];exact hq),Qsr hq];exact ih
   | some u=>
    rw[QlY (by rw[hz,hq];rfl),QlY (by rw[hq];rfl)]
    exact (ih.cons _).trans (.swap _ _ _)
theorem CI.norm:∀ {S:List (Nat×Nat)}{R:List RE}{seen:List Nat}{fr:Fr}{th:TH}{hs:List HE}{ps:List PE}{E:Env}{val:Nat→Option FV},CI P cl n ops hd fr0 E0 h0 L K m h S R seen fr th hs ps E val →
  ∃S R seen fr th hs ps E val,(S=[]∨∃k i r,S=(k,i)::r∧2≤k)∧CI P cl n ops hd fr0 E0 h0 L K m h S R seen fr th hs ps E val
 | [],_,_,_,_,_,_,_,_,c=>⟨_,_,_,_,_,_,_,_,_,.inl rfl,c⟩
 | (k,i)::S,R,seen,fr,th,hs,ps,E,val,c=>by
  obtain⟨e,R',h1,h2,rfl⟩:=Qs5 c.hR
  obtain⟨o,co,ho,ok,h3⟩:=QCZ h1
  obtain⟨hi,hvi,hmi,hlt⟩:=c.fresh
  have run:=c.run
  have hno:∀q∈hs,q.i≠i:=fun q hq e=>hi (e ▸ c.hin q hq)
  have same:∀(dq:List Nat) (x y:FV) (s:Scr),(∀j∈dq,Anc ops i j)→PEok (th.scrp s) hs (setv val i y) ⟨i,QcW fr (tsOf ops o),co,x,dq⟩→evR cl R' (putO fr co.dst y) (th.scrp s) hs (⟨i,QcW fr (tsOf ops o),co,x,dq⟩::ps) K →
    CI P cl n ops hd fr0 E0 h0 L K m h S R' (i::seen) (putO fr co.dst y) (th.scrp s) hs (⟨i,QcW fr (tsOf ops o),co,x,dq⟩::ps) E (setv val i y):=fun dq x y s hdq pe run=>
   c.push ho ok h2 run hdq (fun _ _=>rfl) (fun q hq=>.inl hq) (fun q hq=>hq) pe (Env.Le.refl E) c.hid c.hnd c.hni (c.rep.scrp s)
  rcases h3 with⟨rfl,rfl⟩ | ⟨rfl,rfl⟩ | ⟨hk,rfl⟩
  ·simp only[evR] at run
   cases hg:gst (QcW fr (tsOf ops o)) co.g with
   | bad=>rw[hg] at run;exact run.elim
   | skip=>
    rw[hg] at run
    exact CI.norm (same _ undF undF th.scr (fun j hj=>QEA hj) (.skip hg (Qhe _ _ _) hno) run)
   | go=>
    rw[hg] at run
    simp only at run
    cases hx:evQ (QcW fr (tsOf ops o)) (relH (ancQ P ops co.m i) th.t hs) co.m with
    | none=>rw[hx] at run;exact run.elim
    | some x=>
     rw[hx] at run
     obtain⟨hob,y,s,hy,run⟩:=Qtq run
     exact CI.norm (same _ x y s (fun j hj=>QEA hj) (.go y hg hx (Qhe _ _ _) ⟨hob,hy⟩ hno) run)
  ·simp only[evR] at run
   cases hg:gst (QcW fr (tsOf ops o)) co.g with
   | bad=>rw[hg] at run;exact run.elim
   | skip=>
    rw[hg] at run
    exact CI.norm (same _ undF undF th.scr (fun j hj=>by cases hj) (.skip hg (Qhe _ _ _) hno) run)
   | go=>
    rw[hg] at run
    simp only at run
    cases hx:alF (QcW fr (tsOf ops o)) co.m with
    | none=>rw[hx] at run;exact run.elim
    | some p=>
     obtain⟨x,ob⟩:=p
     rw[hx] at run
     simp only at run
     obtain⟨hp,hr⟩:=c.rep.fr th.nx (Nat.le_refl _)
     have le:E.Le ⟨E.p,E.c,fun j=>if j=th.nx then true else E.r j,E.h,E.z,E.s⟩:=⟨⟨fun j a h=>⟨h,rfl⟩,rfl,fun _ h=>h,fun _ _ _=>rfl⟩,fun j hj=>⟨rfl,by simp[hj]⟩⟩
     have h0p:E0.p th.nx=none:=by
      cases he:E0.p th.nx with
      | none=>rfl
      | some a=>rw[(c.le.p.a _ _ he).1] at hp;cases hp
     have h0r:E0.r th.nx=false:=by
      cases he:E0.r th.nx with
      | false=>rfl
      | true=>rw[(c.le.r _ he).2] at hr;cases hr
     refine CI.norm (c.push (F:=⟨E.p,E.c,fun j=>if j=th.nx then true else E.r j,E.h,E.z,E.s⟩) ho ok h2 run (fun j hj=>by cases hj) (fun l hl=>?_) (fun q hq=>?_) (fun q hq=>.tail _ hq) (.al ⟨i,th.nx,ob⟩ x hg (.head _) rfl hx (Qhe _ _ _)) le (fun q hq=>?_) ?_ ?_ ?_)
     ·have:memN i l=false:=by
       cases hm:memN i l with
       | false=>rfl
       | true=>exact absurd (Qeb.1 hm) hl
      simp only[relH,this,cond_false]
     ·rcases List.mem_cons.1 hq with rfl | hq
      ·exact .inr rfl
      ·exact .inl hq
     ·rcases List.mem_cons.1 hq with rfl | hq
      ·exact⟨h0p,h0r,fun v hv=>(by rw[hmi] at hv;cases hv),fun _=>⟨hp,by simp⟩⟩
      ·obtain⟨a,b,d,e⟩:=c.hid q hq
       exact⟨a,b,d,fun hm=>⟨(e hm).1,by simp[(e hm).2]⟩⟩
     ·simp only[List.map_cons,List.nodup_cons]
      refine⟨fun hm=>?_,c.hnd⟩
      obtain⟨q,hq,e⟩:=List.mem_map.1 hm
      obtain⟨a,b,d,f⟩:=c.hid q hq
      rw[e] at d f
      cases hv:m q.i with
      | none=>have:=(f hv).2;rw[hr] at this;cases this
      | some v=>exact d v hv hp
     ·simp only[List.map_cons,List.nodup_cons]
      refine⟨fun hm=>?_,c.hni⟩
      obtain⟨q,hq,e⟩:=List.mem_map.1 hm
      exact hno q hq e
     ·rw[Qsr (q:=⟨i,th.nx,ob⟩) hmi]
      refine Rep.hpm (E:=E) ?_ le.p
      refine⟨?_,fun j hj=>?_,c.rep.eh⟩
      ·exact⟨c.rep.st.1,Sep.imps (fun x S=>Qcs le.p) c.rep.st.2⟩
      ·obtain⟨a,b⟩:=c.rep.fr j (Nat.le_of_succ_le hj)
       refine⟨a,?_⟩
       have:j≠th.nx:=fun e=>by rw[e] at hj;exact Nat.not_succ_le_self _ hj
       simp[this,b]
  ·exact⟨_,_,_,_,_,_,_,_,_,.inr ⟨k,i,S,rfl,hk⟩,c⟩
theorem QpW {α β:Type}{f:α→β}:∀ {l:List α},(l.map f).Nodup→∀ {a b:α},a∈l→b∈l→f a=f b→a=b
 | [],_,_,_,h,_,_=>by cases h
 | x::l,hn,a,b,ha,hb,e=>by
  simp only[List.map_cons,List.nodup_cons] at hn
  rcases List.mem_cons.1 ha with ea | ha'
  ·rcases List.mem_cons.1 hb with eb | hb'
   ·rw[ea,eb]
   ·exact absurd (List.mem_map.2 ⟨b,hb',by rw[←ea];exact e.symm⟩) hn.1
  ·rcases List.mem_cons.1 hb with eb | hb'
   ·exact absurd (List.mem_map.2 ⟨a,ha',by rw[←eb];exact e⟩) hn.1
   ·exact QpW hn.2 ha' hb' e
theorem QCR [Gd]{Q:Exit→Act→World→Prop}{A:Vals→Heap→Prop}{i:Nat}{o:Oper}{g:Nat→Value}{w0 w:World}(hi:ops[i]?=some o)(hg:Region.wanted o (yielded ops (mkD ds n g).tmps)=false)(hS:Qx w0 w)(k:A (setm m i undef) w.heap) :
  wpOp P ops Q i (fun a' w'=>∃v,a'=(mkD ds n g).put o.dst v∧Qx w0 w'∧A (setm m i v) w'.heap) (mkD ds n g) w:=by
 unfold wpOp
 simp only[hi]
 rw[if_neg (by simp[hg])]
 exact⟨undef,rfl,hS,k⟩
theorem QLk [Gd]{Q:Exit→Act→World→Prop}{A:Vals→Heap→Prop}{i:Nat}{o:Oper}{g:Nat→Value}{w0 w:World}{K:Value→Prop}(hi:ops[i]?=some o)(hs:Sq P (Eq w.heap) (execOp (evf n g) o) K)(hg:Region.wanted o (yielded ops (mkD ds n g).tmps)=true)(hS:Qx w0 w)
  (k:∀v,K v→A (setm m i v) w.heap):wpOp P ops Q i (fun a' w'=>∃v,a'=(mkD ds n g).put o.dst v∧Qx w0 w'∧A (setm m i v) w'.heap) (mkD ds n g) w:=by
 obtain⟨v,hr,hk⟩:=hs
 unfold wpOp
 simp only[hi]
 rw[if_pos hg]
 refine .inl ?_
 unfold Oper.wp
 rw[QoK,hr w rfl]
 exact⟨v,rfl,hS,k v hk⟩
theorem QIk [Gd]{Q:Exit→Act→World→Prop}{A:Vals→Heap→Prop}{i:Nat}{o:Oper}{g:Nat→Value}{w0 w:World}{K:Value→Heap→Prop}(hp:PnOk ds Q w0 (fun _ _=>True))(hi:ops[i]?=some o)(hs:Sx P (execOp (evf n g) o) w.heap K)(hg:Region.wanted o (yielded ops (mkD ds n g).tmps)=true)(hS:Qx w0 w)
  (k:∀v h',K v h'→A (setm m i v) h'):wpOp P ops Q i (fun a' w'=>∃v,a'=(mkD ds n g).put o.dst v∧Qx w0 w'∧A (setm m i v) w'.heap) (mkD ds n g) w:=by
 unfold wpOp
 simp only[hi]
 rw[if_pos hg]
 refine .inl ?_
 unfold Oper.wp
 rw[QoK]
 exact Ql1 (hs w rfl) (fun v w' h1 h2=>⟨v,rfl,hS.trans h1,k v _ h2⟩) rfl hp hS trivial
theorem CI.eff {k i:Nat}{o:Oper}{co:CO}(c:CI P cl n ops hd fr0 E0 h0 L K m h ((k,i)::S) R seen fr th hs ps E val)(ho:ops[i]?=some o)(ok:COk P n ops o co){y:FV}{v:Value}{th':TH}{F:Env}{h':Heap}{R':List RE}
  (hR:cREL P n ops S=some R') (hdep:∀j∈QaS ops i,(m j).isSome) (hle:E.Le F) (hy:den F y=some v) (rep:Rep F th' h0 h' (hpL m E (Qc3 (Qa8 o) hs)++L)) (rc:∀p∈QgM (Qa8 o) ps,rdT p.fr p.c.m=true→gst p.fr p.c.g=.go→evQ p.fr (relH p.dq th'.t (Qc3 (Qa8 o) hs)) p.c.m=some p.x)
  (run:evR cl R' (putO fr co.dst y) th' (Qc3 (Qa8 o) hs) (QgM (Qa8 o) ps) K) :
  CI P cl n ops hd fr0 E0 h0 L K (setm m i v) h' S R' (i::seen) (putO fr co.dst y) th' (Qc3 (Qa8 o) hs) (QgM (Qa8 o) ps) F (setv val i y):=by
 obtain⟨hi,hvi,hmi,hlt⟩:=c.fresh
 obtain⟨o1,o2,o3⟩:=QlP c.ord
 have nd:=c.nd
 simp only[List.map_cons,List.nodup_cons] at nd
 have ne:∀ {j},j∈seen→j≠i:=fun hj e=>hi (e ▸ hj)
 have hno:∀q∈Qc3 (Qa8 o) hs,q.i≠i:=fun q hq=>ne (c.hin q (QfR.1 hq).1)
 have hsm:∀ {j},(m j).isSome→(setm m i v j).isSome:=fun {j} h=>by
  by_cases e:j=i
  ·subst e;rw[Qc9];rfl
  ·rw[QaC e];exact h
 exact
 {run:=run,hR:=hR,ord:=o3,nd:=nd.2,le:=c.le.trans hle
  hnd:=c.hnd.sublist (QnB.map _)
  hni:=c.hni.sublist (QnB.map _)
  hid:=fun q hq=>by
   obtain⟨a,b,d,e⟩:=c.hid q (QfR.1 hq).1
   rw[QaC (hno q hq)]
   refine⟨a,b,fun u hu=>?_,fun hm=>?_⟩
   ·cases hp:E.p q.id with
    | none=>exact absurd hp (d u hu)
    | some z=>rw[(hle.p.a _ _ hp).1];exact fun e=>by cases e
   ·obtain⟨h1,h2⟩:=e hm
    obtain⟨h3,h4⟩:=hle.r _ h2
    exact⟨by rw[h3];exact h1,h4⟩
  rep:=by rw[QtF hno];exact rep.hpm hle.p
  clo:=fun j u hj z hz=>by
   by_cases e:j=i
   ·subst e;exact hsm (hdep z hz)
   ·rw[QaC e] at hj;exact hsm (c.clo j u hj z hz)
  all:=fun j hj=>by
   rcases c.all j hj with a | a
   ·exact .inl (.tail _ a)
   ·rcases List.mem_cons.1 a with rfl | a
    ·exact .inl (.head _)
    ·exact .inr a
  lt:=fun j hj=>c.lt j (.tail _ hj)
  slt:=fun j hj=>by
   rcases List.mem_cons.1 hj with rfl | hj
   ·exact hlt
   ·exact c.slt j hj
  sd:=fun j hj u hu=>by
   rcases List.mem_cons.1 hj with rfl | hj
   ·exact .tail _ (o1 u hu)
   ·exact .tail _ (c.sd j hj u hu)
  ts:=fun j hj=>c.ts j (.tail _ hj)
  disj:=fun j hj hs=>by
   rcases List.mem_cons.1 hs with rfl | hs
   ·exact nd.1 hj
   ·exact c.disj j (.tail _ hj) hs
  vs:=fun j hj=>by
   rcases List.mem_cons.1 hj with rfl | hj
   ·rw[Qhe];exact fun e=>by cases e
   ·rw[Qol (ne hj)];exact c.vs j hj
  vn:=fun j hj=>by
   rw[Qol fun e=>hj (by rw[e];exact .head _)];exact c.vn j fun h=>hj (.tail _ h)
  don:=fun j u hj=>by
   by_cases e:j=i
   ·subst e;rw[Qc9] at hj;simp only[Option.some.injEq] at hj;subst hj;exact⟨.head _,y,Qhe _ _ _,hy⟩
   ·rw[QaC e] at hj
    obtain⟨a,z,b,d⟩:=c.don j u hj
    exact⟨.tail _ a,z,Qfx hvi b,QbR hle d⟩
  frm:=by rw[ok.d];exact c.frmN ho y
  cov:=fun j hj hm=>by
   have e:j≠i:=fun e=>by rw[e,Qc9] at hm;cases hm
   rw[QaC e] at hm
   rcases List.mem_cons.1 hj with a | hj
   ·exact absurd a e
   ·obtain⟨p,a,b⟩:=c.cov j hj hm
    refine⟨p,Qhu.2 ⟨a,?_⟩,b⟩
    cases hmm:memN p.i (Qa8 o) with
    | false=>rfl
    | true=>
     have:=hdep p.i (by rw[QzJ ho];exact Qeb.1 hmm)
     rw[b,hm] at this;cases this
  pok:=fun p hp hm=>by
   obtain⟨hp1,hp2⟩:=Qhu.1 hp
   have e:=ne (c.pin p hp1)
   rw[QaC e] at hm
   obtain⟨a,b,d⟩:=c.pok p hp1 hm
   refine⟨a,b.ext hvi,d.ext hvi e (fun x hg hx hxp=>?_) (fun q hq=>.inl (QfR.1 hq).1) fun q hq hqi=>QfR.2 ⟨hq,by rw[hqi];exact hp2⟩⟩
   cases hl:rdT p.fr p.c.m with
   | false=>rw[QKA hl (th':=relH p.dq th.t hs)];exact hx
   | true=>rw[hxp];exact rc p hp hl hg
  pin:=fun p hp=>.tail _ (c.pin p (Qhu.1 hp).1)
  pan:=fun p hp=>c.pan p (Qhu.1 hp).1
  hin:=fun q hq=>.tail _ (c.hin q (QfR.1 hq).1) }
def CA (P:Program)(cl:Cl)(n:Nat)(ops:Array Oper)(hd:Nat)(fr0:Fr)(E0:Env)(h0:Heap)(L:List HP)(K:KF)(m:Vals)(h:Heap):Prop:=
 (∀j,hd≤j→m j=none)∧∃S R seen fr th hs ps E val,(S=[]∨∃k i r,S=(k,i)::r∧2≤k)∧CI P cl n ops hd fr0 E0 h0 L K m h S R seen fr th hs ps E val
theorem CI.ca (c:CI P cl n ops hd fr0 E0 h0 L K m h S R seen fr th hs ps E val)(hm:∀j,hd≤j→m j=none):CA P cl n ops hd fr0 E0 h0 L K m h:=⟨hm,c.norm⟩
theorem Qom {i:Nat}{v:Value}(hm:∀j,hd≤j→m j=none)(hi:i<hd):∀j,hd≤j→setm m i v j=none:=fun j hj=>by
 rw[QaC (by omega)];exact hm j hj
theorem QKV {fr:Fr}{c:MOp}{p:FV×TO}(h:alF fr c=some p):c≠.no:=fun e=>by rw[e] at h;cases h
theorem QHN {ops:Array Oper}{m:Vals}(clo:∀i v,m i=some v→∀j∈QaS ops i,(m j).isSome){i j:Nat}(hd:∀j∈QaS ops i,(m j).isSome)(h:Anc ops i j):(m j).isSome:=by
 induction h with
 | one h=>exact hd _ h
 | more h _ ih=>
  obtain⟨v,hv⟩:=Option.isSome_iff_exists.1 (hd _ h)
  exact ih (clo _ v hv)
theorem QJA [Gd] (hcl:ClOk P cl){Q:Exit→Act→World→Prop}{w0:World}(hp:PnOk ds Q w0 (fun _ _=>True))(hdst:∀(j:Nat)(o:Oper)(d:Nat),ops[j]?=some o→o.dst=some d→d<n)(ha0:AgF E0 n fr0 f0)
  {i:Nat}{o:Oper}{g:Nat→Value}{w:World} (ho:ops[i]?=some o) (hi:i<hd) (hag:Agr ops f0 m g) (ca:CA P cl n ops hd fr0 E0 h0 L K m w.heap) (hS:Qx w0 w) (hmi:m i=none) (hdep:∀j∈Qa8 o,(m j).isSome) :
  wpOp P ops Q i (fun a' w'=>∃v,a'=(mkD ds n g).put o.dst v∧Qx w0 w'∧CA P cl n ops hd fr0 E0 h0 L K (setm m i v) w'.heap) (mkD ds n g) w:=by
 obtain⟨hmh,S,R,seen,fr,th,hs,ps,E,val,hS0,c⟩:=ca
 have hdep':∀j∈QaS ops i,(m j).isSome:=by rw[QzJ ho];exact hdep
 rcases c.all i hi with hin | hin
 ·obtain⟨p,hpm,hpi⟩:=c.cov i hin hmi
  obtain⟨⟨o',h1,ok⟩,fo,pe⟩:=c.pok p hpm (by rw[hpi];exact hmi)
  rw[hpi] at h1 fo
  rw[ho] at h1;simp only[Option.some.injEq] at h1;subst h1
  have ag:=QEe c hag ha0 hdst hmh fo hmi hdep'
  cases pe with
  | skip hg hv hno=>
   rw[hpi] at hv hno
   exact QCR ho (Qp2 (ds:=ds) ok ag hg) hS ((c.set0 (v:=undef) hin hmi hdep' hv (Qhv E) hno).ca (Qom hmh hi))
  | go y hg hx hv hy hno=>
   rw[hpi] at hv hno
   have rr:=Qoo (dp:=p.dq) c.rep fun q hq hm=>by
    have ha:=c.pan p hpm q.i (Qeb.1 hm)
    rw[hpi] at ha
    exact QHN c.clo hdep' ha
   exact QLk ho (QvE rr ag ok hx hy.1) (Qss (ds:=ds) ok ag hg) hS fun v hv'=>(c.set0 hin hmi hdep' hv (hy.2 E v hv') hno).ca (Qom hmh hi)
  | al q x hg hq hqi hx hv=>
   rw[hpi] at hv hqi
   refine QIk hp ho (QLs hcl c.rep ag (ok.m (QKV hx)) hx) (Qss (ds:=ds) ok ag hg) hS fun v h' ⟨a,cc,zz,hpost⟩=>?_
   obtain⟨q1,q2,q3,q4⟩:=c.hid q hq
   obtain⟨q5,q6⟩:=q4 (by rw[hqi];exact hmi)
   have hnx:∀j,th.nx≤j→j≠q.id:=fun j hj e=>by
    have:=(c.rep.fr j hj).2
    rw[e,q6] at this;cases this
   obtain⟨g1,g2,g3⟩:=hpost q.id q5 hnx
   refine (c.set (F:=⟨fun j=>if j=q.id then some a else E.p j,fun j=>if j=q.id then cc else E.c j,fun j=>if j=q.id then false else E.r j,E.h,zz,E.s⟩) hin hmi hdep' hv g2 g1 (fun z hz=>?_) ⟨c.le.p.trans g1,fun j hj=>?_⟩ ?_).ca (Qom hmh hi)
   ·obtain⟨z1,z2,z3,z4⟩:=c.hid z hz
    refine⟨z1,z2,fun u hu=>?_,fun hm=>?_⟩
    ·by_cases e:z.id=q.id
     ·simp[e]
     ·by_cases e2:z.i=i
      ·exact absurd (by
        have:=QpW c.hni hz hq (e2.trans hqi.symm)
        rw[this]) e
      ·rw[QaC e2] at hu
       simpa [e] using z3 u hu
    ·have e2:z.i≠i:=fun e=>by rw[e,Qc9] at hm;cases hm
     rw[QaC e2] at hm
     have e:z.id≠q.id:=fun e=>e2 (by
      have:=QpW c.hnd hz hq e
      rw[this];exact hqi)
     simpa [e] using z4 hm
   ·obtain⟨r1,r2⟩:=c.le.r j hj
    have:j≠q.id:=fun e=>by rw[e,q2] at hj;cases hj
    simp[this,r1,r2]
   ·have pm:=QyP (m:=m) (E:=E) (v:=v) (q:=q) (by rw[hqi];exact hmi) hq c.hni
    rw[hqi] at pm
    have pm2:=QyP (m:=m) (E:=(⟨fun j=>if j=q.id then some a else E.p j,fun j=>if j=q.id then cc else E.c j,fun j=>if j=q.id then false else E.r j,E.h,zz,E.s⟩:Env)) (v:=v) (q:=q) (by rw[hqi];exact hmi) hq c.hni
    rw[hqi] at pm2
    have g4:=g3.permL (List.perm_middle (l₁:=hpL m E hs) (l₂:=L)).symm
    have g5:=(Rep.hpm (L:=part _ (q.id,q.o)::L) g4 g1).permL List.perm_middle
    exact g5.permL (pm2.append_right L).symm
 ·rcases hS0 with rfl | ⟨k,i',r,rfl,hk⟩
  ·cases hin
  ·rcases List.mem_cons.1 hin with e | hin
   ·have e:i=i':=e
    subst e
    obtain⟨e,R',h1,h2,rfl⟩:=Qs5 c.hR
    obtain⟨o',co,ho',ok,h3⟩:=QCZ h1
    rw[ho] at ho';simp only[Option.some.injEq] at ho';subst ho'
    rcases h3 with⟨rfl,_⟩ | ⟨rfl,_⟩ | ⟨_,rfl⟩
    ·omega
    ·omega
    ·have run:=c.run
     simp only[evR] at run
     have ag:=QEe c hag ha0 hdst hmh (c.frOk ho) hmi hdep'
     have rr:=Qoo (dp:=Qa8 o) c.rep fun q hq hm=>hdep q.i (Qeb.1 hm)
     cases hg:gst (QcW fr (tsOf ops o)) co.g with
     | bad=>rw[hg] at run;exact run.elim
     | skip=>
      rw[hg] at run
      simp only at run
      obtain⟨hrc,run⟩:=QpF run
      exact QCR ho (Qp2 (ds:=ds) ok ag hg) hS ((c.eff ho ok h2 hdep' (Env.Le.refl E) (Qhv E) rr hrc run).ca (Qom hmh hi))
     | go=>
      rw[hg] at run
      simp only at run
      refine QIk hp ho (QtH hcl rr ag.ago (ok.m (QCt run)) run) (Qss (ds:=ds) ok ag hg) hS fun v h' ⟨F,y,th',g1,g2,g3,g4⟩=>?_
      obtain⟨hrc,g5⟩:=QpF g4
      exact (c.eff ho ok h2 hdep' g1 g2 g3 hrc g5).ca (Qom hmh hi)
   ·obtain⟨q,hq,e⟩:=List.mem_map.1 hin
    obtain⟨j,hj,hj2⟩:=(QlP c.ord).2.1 hk q hq
    rw[e] at hj
    obtain⟨v,hv⟩:=Option.isSome_iff_exists.1 (hdep' j hj)
    have hjs:=(c.don j v hv).1
    refine absurd hjs (c.disj j ?_)
    rcases hj2 with rfl | hj2
    ·exact .head _
    ·exact .tail _ hj2
theorem Qny:∀ {n:Nat}{l:List Nat},l.Nodup→(∀i∈l,i<n)→l.length≤n
 | 0,[],_,_=>Nat.le_refl _
 | 0,x::_,_,h=>absurd (h x (.head _)) (Nat.not_lt_zero _)
 | n+1,l,hd,h=>by
  by_cases hm:n∈l
  ·have:=Qny (n:=n) (hd.erase n) fun i hi=>by
    have h1:=(List.Nodup.mem_erase_iff hd).1 hi
    have:=h i h1.2
    have:=h1.1
    omega
   rw[List.length_erase_of_mem hm] at this
   omega
  ·have:=Qny (n:=n) hd fun i hi=>by
    have:=h i hi
    have:i≠n:=fun e=>hm (e ▸ hi)
    omega
   omega
theorem QKg {n:Nat}{l:List Nat}(hd:l.Nodup)(h:∀i∈l,i<n)(hl:l.length=n){i:Nat}(hi:i<n):i∈l:=by
 by_cases hm:i∈l
 ·exact hm
 ·have:=Qny (n:=n) (l:=i::l) (List.nodup_cons.2 ⟨hm,hd⟩) fun j hj=>by
   rcases List.mem_cons.1 hj with rfl | hj
   ·exact hi
   ·exact h j hj
  simp only[List.length_cons] at this
  omega
theorem QzA:∀ {l:List Nat},Qxm l=true→l.Nodup
 | [],_=>List.nodup_nil
 | i::r,h=>by
  simp only[Qxm,Bool.and_eq_true,Bool.not_eq_true'] at h
  exact List.nodup_cons.2 ⟨QHs h.1,QzA h.2⟩
theorem QC0:∀ {S:List (Nat×Nat)}{R:List RE},cREL P n ops S=some R→∀p∈S,∃o co,ops[p.2]?=some o∧COk P n ops o co
 | [],_,_,p,hp=>by cases hp
 | q::S,R,h,p,hp=>by
  obtain⟨c,l,h1,h2,rfl⟩:=Qs5 h
  rcases List.mem_cons.1 hp with rfl | hp
  ·obtain⟨o,co,a,b,_⟩:=QCZ h1
   exact⟨o,co,a,b⟩
  ·exact QC0 h2 p hp
theorem QEu:∀ {l:List Oper}{cs:List CO},cOL P n ops l=some cs→∀o∈l,∃co,COk P n ops o co
 | [],_,_,o,ho=>by cases ho
 | q::l,cs,h,o,ho=>by
  obtain⟨c,l',h1,h2,rfl⟩:=Qwy h
  rcases List.mem_cons.1 ho with rfl | ho
  ·exact⟨c,QBe h1⟩
  ·exact QEu h2 o ho
theorem QKF [Gd]{cl:Cl}(hcl:ClOk P cl){n:Nat}{h0:Heap}{L:List HP}{w0:World}{id:Nat}{ops:Array Oper}{p:RP}{l:List RE}{r2:List CO}(hm:P.follows .mixedOrders=true)(hok:Qxe ops p=true)(h1:cREL P n ops p.ord=some l)(h2:cOL P n ops (ops.toList.drop p.hd)=some r2)
  {fr:Fr}{th:TH}{kN:KF}{E:Env}{f:Nat→Value}{w:World}{Q:Exit→Act→World→Prop} (hx:evR cl l fr th [] [] fun fr th=>evS r2 cl fr th kN) (ha:AgF E n fr f) (r:Rep E th h0 w.heap L) (hs:Qx w0 w) (hp:PnOk ds Q w0 (fun _ _=>True)) (hpk:Qfb Q) (hN:KT0 ds n h0 L w0 E kN (Q .normal)) :
  (Code.region id ops true).wp P Q (mkD ds n f) w:=by
 obtain⟨os⟩:=ops
 simp only[Qxe,Bool.and_eq_true] at hok
 obtain⟨⟨⟨⟨⟨k1,k2⟩,k3⟩,k4⟩,k5⟩,k6⟩:=hok
 have k2:=Qm k2
 have k3:=QzA k3
 have k4:∀i∈p.ord.map (·.2),i<p.hd:=fun i hi=>by
  obtain⟨q,hq,rfl⟩:=List.mem_map.1 hi
  exact QaQ (List.all_eq_true.1 k4 q hq)
 have k7:∀i,i<p.hd→i∈p.ord.map (·.2):=fun i hi=>QKg k3 k4 (by rw[List.length_map];exact k2) hi
 have hdst:∀(j:Nat) (o:Oper) (d:Nat),(Array.mk os)[j]?=some o→o.dst=some d→d<n:=fun j o d ho hd=>by
  rcases Nat.lt_or_ge j p.hd with hj | hj
  ·obtain⟨q,hq,rfl⟩:=List.mem_map.1 (k7 j hj)
   obtain⟨o',co,a,b⟩:=QC0 h1 q hq
   rw[ho] at a;simp only[Option.some.injEq] at a;subst a
   exact b.lt d hd
  ·have:o∈os.drop p.hd:=by
    refine List.mem_of_getElem? (i:=j - p.hd) ?_
    rw[List.getElem?_drop,show p.hd+(j - p.hd)=j by omega]
    simpa using ho
   obtain⟨co,b⟩:=QEu h2 o this
   exact b.lt d hd
 have ci:CI P cl n (Array.mk os) p.hd fr E h0 L (fun fr th=>evS r2 cl fr th kN) (fun _=>none) w.heap p.ord l [] fr th [] [] E (fun _=>none):=
  {run:=hx,hR:=h1,ord:=k5,nd:=k3,le:=Env.Le.refl E,rep:=r,lt:=k4
   all:=fun i hi=>.inr (k7 i hi)
   slt:=fun _ h=>by cases h
   sd:=fun _ h=>by cases h
   ts:=fun i hi=>by
    obtain⟨q,hq,rfl⟩:=List.mem_map.1 hi
    exact List.all_eq_true.1 k6 q hq
   disj:=fun _ _ h=>by cases h
   vs:=fun _ h=>by cases h
   vn:=fun _ _=>rfl
   don:=fun _ _ h=>by cases h
   clo:=fun _ _ h=>by cases h
   frm:=fun t x hx=>.inr ⟨hx,fun _ _ h=>by cases h⟩
   cov:=fun _ h=>by cases h
   pok:=fun _ h=>by cases h
   pin:=fun _ h=>by cases h
   pan:=fun _ h=>by cases h
   hin:=fun _ h=>by cases h
   hid:=fun _ h=>by cases h
   hnd:=List.nodup_nil
   hni:=List.nodup_nil }
 refine QET (Q:=Q) (l:=os) p.hd hm k1 ?_ (A:=CA P cl n (Array.mk os) p.hd fr E h0 L (fun fr th=>evS r2 cl fr th kN)) (ci.ca fun _ _=>rfl) ?_ ?_
 ·refine List.all_eq_true.2 fun o ho=>?_
  obtain⟨j,hj,e⟩:=List.getElem_of_mem ho
  cases hd:o.dst with
  | none=>rfl
  | some d=>
   simp only[decide_eq_true_eq]
   exact hdst j o d (by rw[←e];simp[hj]) hd
 ·intro i o ho hi m g w' hag hA hS hmi hdep
  have:=QJA hcl (w0:=w) ⟨fun x n f w' hA h hg=>hp.pn x n f w' hA (hs.trans h) hg⟩ hdst ha (i:=i) (o:=o) (g:=g) (w:=w') (by simpa using ho) hi hag hA hS hmi hdep
  exact this
 ·intro m g w' hall hag hA hS
  obtain⟨hmh,S,R,seen,fr',th',hs',ps,F,val,hS0,c⟩:=hA
  have hSn:S=[]:=by
   cases S with
   | nil=>rfl
   | cons q S=>
    obtain⟨v,hv⟩:=Option.isSome_iff_exists.1 (hall q.2 (c.lt q.2 (.head _)))
    exact absurd (c.don _ v hv).1 (c.disj q.2 (.head _))
  subst hSn
  have hR:=c.hR
  simp only[cREL,Option.some.injEq] at hR;subst hR
  have run:evS r2 cl fr' ⟨allH th'.t hs',th'.nx,th'.scr⟩ kN:=c.run
  have rep:=QEC c.rep fun q hq=>hall q.i (c.slt _ (c.hin q hq))
  have ag:AgF F n fr' g:=fun t x hx=>by
   rcases c.frm t x hx with⟨j,o,a1,a2,a3,a4⟩ | ⟨a1,a2⟩
   ·obtain⟨v,hv⟩:=Option.isSome_iff_exists.1 (hall j (c.slt j a1))
    obtain⟨_,y,b1,b2⟩:=c.don j v hv
    rw[a4] at b1;simp only[Option.some.injEq] at b1;subst b1
    exact⟨hdst j o t a2 a3,by rw[hag.done j o t v a2 a3 hv];exact b2⟩
   ·obtain⟨b1,b2⟩:=ha t x a1
    refine⟨b1,?_⟩
    rw[hag.rest t fun j o hj hd'=>?_]
    ·exact QbR c.le b2
    ·rcases Nat.lt_or_ge j p.hd with hjd | hjd
     ·rcases c.all j hjd with hjs | hjs
      ·exact absurd hd' (a2 j o hjs hj)
      ·cases hjs
     ·exact hmh j hjd
  exact QCu hcl hp _ r2 fr' _ kN F g w' h2 run ag rep (hs.trans hS) fun G fr2 th2 f2 w2 b1 b2 b3 b4 b5=>hN G fr2 th2 f2 w2 (c.le.trans b1) b2 b3 b4 b5
end Go.Va
