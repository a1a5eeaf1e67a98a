import Derived.Test.YtemffgbncjnmkaaGreatVcc
set_option linter.unusedVariables false
set_option linter.unusedSectionVars false
set_option linter.unusedSimpArgs false
namespace Go.Va
open Go Go.Sh
variable [Vb]
variable {P:Program}
section code
variable [Gd] {cl:Cl}{n:Nat}{h0:Heap}{L:List HP}{w0:World}{ds:List Deferred}
theorem KT.mono {m:Nat}{E F:Env}{k:KF}{T:Act→World→Prop}(h:KT ds m n h0 L w0 E k T)(he:E.Le F):KT ds m n h0 L w0 F k T:=fun G fr th f w a b b' c d e=>h G fr th f w (he.trans a) b b' c d e
def Tn (P:Program)(c:Code)(Q:Exit→Act→World→Prop)(a:Act)(w:World):Prop:=∀b k cs,∃e a' w',Q e a' w'∧Arrives P (lone (b.at a (.code c::.inLoop c::k)) cs w) b k cs e a' w'
theorem QJO {c:Code}{Q:Exit→Act→World→Prop}{a:Act}{w:World}(h:Tn P c Q a w):(Code.loop c).wp P Q a w:=fun b k cs=>by
 obtain⟨e,a',w',hq,harr⟩:=h b k cs
 exact⟨e,a',w',hq,.of_steps (.one step_loop) harr⟩
theorem Qzl {c:Code}{Q:Exit→Act→World→Prop}{a:Act}{w:World}(h:c.wp P (Exit.then (Tn P c Q) Q) a w):Tn P c Q a w:=fun b k cs=>by
 obtain⟨e,a₁,w₁,hq,harr⟩:=h b (.inLoop c::k) cs
 cases e with
 | normal=>
  obtain⟨e₂,a₂,w₂,hq₂,harr₂⟩:=hq b k cs
  exact⟨e₂,a₂,w₂,hq₂,.of_steps (Steps.trans harr (.one step_inLoop)) harr₂⟩
 | exit id=>exact⟨_,a₁,w₁,hq,.pass (x:=.inLoop c) rfl (fun _ _=>.inl (by simp)) harr⟩
 | goto l=>exact⟨_,a₁,w₁,hq,.pass (x:=.inLoop c) rfl (fun _ _=>.inl (by simp)) harr⟩
 | ret=>exact⟨_,a₁,w₁,hq,.pass (x:=.inLoop c) rfl (fun _ _=>.inl (by simp)) harr⟩
 | panic ch=>exact⟨_,a₁,w₁,hq,.pass (x:=.inLoop c) rfl (fun _ _=>.inl (by simp)) harr⟩
 | outgrown=>exact⟨_,a₁,w₁,hq,.pass (x:=.inLoop c) rfl (fun _ _=>.inl (by simp)) harr⟩
def QaT:Code→List Code
 | .seq a b=>QaT a++QaT b
 | .cond _ a b=>QaT a++QaT b
 | .block _ a=>QaT a
 | .loop a=>a::QaT a
 | _=>[]
theorem QfQ:∀ {c y z:Code},y∈QaT c→z∈QaT y→z∈QaT c
 | .seq a b,y,z,h,hz=>by
  rcases List.mem_append.1 h with h | h
  ·exact List.mem_append_left _ (QfQ h hz)
  ·exact List.mem_append_right _ (QfQ h hz)
 | .cond _ a b,y,z,h,hz=>by
  rcases List.mem_append.1 h with h | h
  ·exact List.mem_append_left _ (QfQ h hz)
  ·exact List.mem_append_right _ (QfQ h hz)
 | .block _ a,y,z,h,hz=>QfQ (c:=a) h hz
 | .loop a,y,z,h,hz=>by
  have h:y∈a::QaT a:=h
  rcases List.mem_cons.1 h with rfl | h
  ·exact .tail _ hz
  ·exact .tail _ (QfQ h hz)
 | .skip,_,_,h,_=>by cases h
 | .label _,_,_,h,_=>by cases h
 | .ret,_,_,h,_=>by cases h
 | .exit _,_,_,h,_=>by cases h
 | .region ..,_,_,h,_=>by cases h
 | .rangeFunc ..,_,_,h,_=>by cases h
 | .scope ..,_,_,h,_=>by cases h
 | .goto ..,_,_,h,_=>by cases h
 | .refuse ..,_,_,h,_=>by cases h
def agr (n:Nat):List Nat→List Value→(Nat→Value)→Prop
 | [],[],_=>True
 | i::is,v::vs,f=>(i<n∧f i=v)∧agr n is vs f
 | _,_,_=>False
def okC (c:Ctr):Bool:=okSP c.i&&c.o.all fun s=>okSP s&&Nat.ble (QgL c.i.os) s.os.length
theorem QEY {c:Ctr}(h:okC c=true){e:Nat}{s:SPt}(hs:c.o[e]?=some s):okSP s=true∧QgL c.i.os≤s.os.length:=by
 simp only[okC,Bool.and_eq_true,List.all_eq_true] at h
 have:=h.2 s (List.mem_of_getElem? hs)
 exact⟨this.1,Qag this.2⟩
def LcOk [Gd] (P:Program)(n:Nat)(x:Code)(S:LCt):Prop:=okC S.c=true∧∀xs (Ks:List (List LD→Prop)),wtL xs S.c.i.ks→S.c.q xs Ks→∀E h0 L vs w0 w f Q ds,Rep E (thS S.c.i xs) h0 w.heap L→denL E (fvPL id (nthD xs) S.c.i.ps 0)=some vs→Qx w0 w→agr n S.i0 vs f→PnOk ds Q w0 (fun _ _=>True)→Qfb Q →
 (∀e s q ys G us f' w',S.c.o[e]?=some s→S.es[e]?=some q→wtL ys s.ks→nthK Ks e ys→Env.LeK S.c.i.os E G→Rep G (thS s ys) h0 w'.heap L→denL G (fvPL id (nthD ys) s.ps 0)=some us→Qx w0 w'→agr n q.2 us f'→Q (match q.1 with
  | some i=>.exit i
  | none=>.ret) (mkD ds n f') w')→Tn P x Q (mkD ds n f) w
theorem Qp3 {E:Env}{fr:Fr}{f:Nat→Value}(ha:AgF E n fr f):∀ {is:List Nat}{l:List FV},getL fr is=some l→∃vs,denL E l=some vs∧agr n is vs f
 | [],l,h=>by simp only[getL,Option.some.injEq] at h;subst h;exact⟨[],rfl,trivial⟩
 | i::is,l,h=>by
  simp only[getL] at h
  cases h1:fr.get i with
  | none=>rw[h1] at h;cases h
  | some x=>
   cases h2:getL fr is with
   | none=>rw[h1,h2] at h;cases h
   | some r=>
    rw[h1,h2] at h;simp only[Option.some.injEq] at h;subst h
    obtain⟨vs,g1,g2⟩:=Qp3 ha h2
    exact⟨_,Qau (ha i x h1).2 g1,⟨(ha i x h1).1,rfl⟩,g2⟩
theorem Qys {m:Nat}{E:Env}{f:Nat→Value}:∀ {is:List Nat}{xs:List FV}{fr fr':Fr}{vs:List Value},putL m fr is xs=some fr'→AgF E n fr f→Clean m fr→denL E xs=some vs→agr n is vs f→AgF E n fr' f∧Clean m fr'
 | [],[],fr,fr',vs,h,ha,hc,_,_=>by simp only[putL,Option.some.injEq] at h;subst h;exact⟨ha,hc⟩
 | [],_::_,fr,fr',vs,h,_,_,_,_=>by simp[putL] at h
 | _::_,[],fr,fr',vs,h,_,_,_,_=>by simp[putL] at h
 | i::is,x::xs,fr,fr',vs,h,ha,hc,hd,hg=>by
  simp only[putL] at h
  cases hb:bitN m i with
  | true=>rw[hb] at h;cases h
  | false=>
   rw[hb,cond_false] at h
   obtain⟨v,vs',h1,h2,rfl⟩:=QR hd
   obtain⟨⟨g1,g2⟩,g3⟩:=hg
   refine Qys h (fun t y hy=>?_) (fun k hk=>?_) h2 g3
   ·by_cases ht:t=i
    ·subst ht
     rw[Fr.get_eq] at hy;simp only[Option.some.injEq] at hy;subst hy
     exact⟨g1,by rw[h1,g2]⟩
    ·rw[Fr.get_ne _ _ ht] at hy;exact ha t y hy
   ·have:k≠i:=fun e=>by rw[e,hb] at hk;cases hk
    rw[Fr.get_ne _ _ this];exact hc k hk
theorem QHh {m:Nat}{x:Code}{S:LCt}(hS:LcOk P n x S){fr:Fr}{th:TH}{kE:Nat→KF}{kR:KF}{E:Env}{f:Nat→Value}{w:World}{Q:Exit→Act→World→Prop}(hx:QES m S fr th kE kR)(ha:AgF E n fr f)(r:Rep E th h0 w.heap L)(hs:Qx w0 w)(hp:PnOk ds Q w0 (fun _ _=>True))(hpk:Qfb Q)
  (hE:∀i,KT ds m n h0 L w0 E (kE i) (Q (.exit i))) (hR:KT ds m n h0 L w0 E kR (Q .ret)):Tn P x Q (mkD ds n f) w:=by
 unfold QES at hx
 cases hl:getL fr S.i0 with
 | none=>rw[hl] at hx;exact hx.elim
 | some l=>
  rw[hl] at hx
  obtain⟨vs,hd,hg⟩:=Qp3 ha hl
  simp only[runQ] at hx
  obtain⟨F1,xs,prs,th',Ps,g1,g3,g4,g5,_,g6,g7,g8,g9⟩:=QB1 hx r hd
  refine hS.2 xs _ g4 g3 _ h0 _ vs w0 w f Q ds g8 g9 hs hg hp hpk fun e s q ys G us f' w' h1 h2 h3 h4 h5 h6 h7 h8 h9=>?_
  have h4:=Qzw h1 h4 h3
  simp only[outK,h2] at h4
  obtain⟨k1,k2⟩:=QEY hS.1 h1
  obtain⟨F,f1,f2,f3⟩:=QIf (E:=F1) (th:=th') k1 k2 g5 g6 g7 h5 h6
  have f3:=f3 us h7
  cases hpl:putL m (.base m .nil) q.2 (fvPL (fun j=>bif QeV S.c.i.os j then idsA prs j else th'.nx+j) (nthD ys) s.ps 0) with
  | none=>rw[hpl] at h4;exact h4.elim
  | some fr'=>
   rw[hpl] at h4
   simp only at h4
   obtain⟨p1,p2⟩:=Qys (E:=F) (n:=n) (f:=f') hpl (fun t y hy=>by rw[Fr.get_nil] at hy;cases hy) (fun k hk=>Fr.get_nil k m) f3 h9
   have le:=g1.trans f1
   obtain⟨q1,q2⟩:=q
   cases q1 with
   | some i=>exact hE i F fr' _ f' w' le p1 p2 f2 h8 h4
   | none=>exact hR F fr' _ f' w' le p1 p2 f2 h8 h4
theorem QB3 {i:Nat}:∀ {ls:List LCt}{S:LCt},lkLC i ls=some S→S∈ls∧S.l=i
 | T::r,S,h=>by
  simp only[lkLC] at h
  cases hb:Nat.beq T.l i with
  | true=>rw[hb] at h;simp only[cond_true,Option.some.injEq] at h;subst h;exact⟨.head _,Qm hb⟩
  | false=>rw[hb] at h;obtain⟨a,b⟩:=QB3 h;exact⟨.tail _ a,b⟩
theorem QLi {f g:Fn}(h:fnq f g=true):f=g:=by
 cases f<;>cases g<;>simp only[fnq] at h<;>first | (cases h;done) | rw[Qm h]
theorem QKM {a b:FCap}(h:capq a b=true):a=b:=by
 cases a<;>cases b<;>simp only[capq] at h<;>first | (cases h;done) | rw[Qm h]
mutual
theorem QxJ:∀ {a b:FV},eqFV a b=true→a=b
 | .bool a,.bool b,h=>by simp only[eqFV] at h;rw[QKR h]
 | .int k n,.int k' n',h=>by simp only[eqFV,Bool.and_eq_true] at h;rw[QdB h.1,Qbn h.2]
 | .str a,.str b,h=>by simp only[eqFV] at h;rw[QFb h]
 | .nilp,.nilp,_=>rfl
 | .ptr i o,.ptr j o',h=>by simp only[eqFV,Bool.and_eq_true] at h;rw[Qm h.1,Qm h.2]
 | .nsl,.nsl,_=>rfl
 | .sl i a b l c,.sl j a' b' l' c',h=>by simp only[eqFV,Bool.and_eq_true] at h;rw[Qm h.1,Qm h.2.1,Qm h.2.2.1,Qm h.2.2.2.1,QKM h.2.2.2.2]
 | .nilm,.nilm,_=>rfl
 | .map i,.map j,h=>by simp only[eqFV] at h;rw[Qm h]
 | .nilf,.nilf,_=>rfl
 | .nili,.nili,_=>rfl
 | .fn f a b,.fn g a' b',h=>by simp only[eqFV,Bool.and_eq_true] at h;rw[QLi h.1,Qo0 h.2.1,Qo0 h.2.2]
 | .ifc t v,.ifc t' v',h=>by simp only[eqFV,Bool.and_eq_true] at h;rw[Qm h.1,QxJ h.2]
 | .agg l,.agg l',h=>by simp only[eqFV] at h;rw[Qo0 h]
theorem Qo0:∀ {a b:List FV},QlR a b=true→a=b
 | [],[],_=>rfl
 | a::r,b::s,h=>by simp only[QlR,Bool.and_eq_true] at h;rw[QxJ h.1,Qo0 h.2]
 | [],_::_,h=>by simp[QlR] at h
 | _::_,[],h=>by simp[QlR] at h
end
theorem QLd {a b:KD}(h:kdr a b=true):a=b:=by
 cases a with
 | s=>cases b<;>first | rfl | cases h
 | i k=>cases b<;>first | (cases h;done) | (simp only[kdr] at h;rw[QdB h])
 | o n d=>
  cases b<;>try (cases h;done)
  rename_i m e
  simp only[kdr,Bool.and_eq_true] at h
  obtain⟨h1,h2⟩:=h
  rw[Qm h1]
  cases d<;>cases e<;>first | rfl | (cases h2;done) | (simp only at h2;rw[QdB h2])
theorem QGI:∀ {a b:List (FV×FV)},eqPL a b=true→a=b
 | [],[],_=>rfl
 | (x,y)::r,(x',y')::s,h=>by simp only[eqPL,Bool.and_eq_true] at h;rw[QxJ h.1,QxJ h.2.1,QGI h.2.2]
 | [],_::_,h=>by simp[eqPL] at h
 | _::_,[],h=>by simp[eqPL] at h
theorem QKD {a b:TO}(h:eqTO a b=true):a=b:=by
 cases a<;>cases b<;>simp only[eqTO,Bool.and_eq_true] at h<;>first
  | (cases h;done)
  | (rw[Qm h.1,Qo0 h.2])
  | (rw[QLd h.1,QGI h.2])
theorem QBF {t:Tr TO}:∀ {l:List (Nat×TO)},Qw0 t l=true→(l.map (·.1)).Nodup∧∀p∈l,t.get p.1=some p.2
 | [],_=>⟨List.nodup_nil,fun _ h=>by cases h⟩
 | p::r,h=>by
  simp only[Qw0] at h
  cases hm:memN p.1 (r.map (·.1)) with
  | true=>rw[hm] at h;cases h
  | false=>
   rw[hm,cond_false] at h
   cases hg:t.get p.1 with
   | none=>rw[hg] at h;cases h
   | some o=>
    rw[hg] at h
    simp only at h
    cases he:eqTO o p.2 with
    | false=>rw[he] at h;cases h
    | true=>
     rw[he,cond_true] at h
     obtain⟨h1,h2⟩:=QBF h
     refine⟨List.nodup_cons.2 ⟨fun hin=>?_,h1⟩,fun q hq=>?_⟩
     ·have:=Qeb.2 hin
      rw[hm] at this;cases this
     ·rcases List.mem_cons.1 hq with rfl | hq
      ·rw[hg,QKD he]
      ·exact h2 q hq
theorem Tr.get_del {α:Type}{k i:Nat}(h:i≠k):∀t:Tr α,(t.del k).get i=t.get i
 | .nil=>rfl
 | .leaf j v=>by
  rw[Tr.del_leaf]
  cases hb:Nat.beq j k with
  | false=>rfl
  | true=>
   have:=Qm hb;subst this
   simp only[cond_true,Tr.get_nil,Tr.get_leaf]
   rw[Qct (Ne.symm h)];rfl
 | .node m l r=>by
  rw[Tr.del_node]
  cases hb:Nat.blt k m with
  | true=>
   simp only[cond_true,Tr.get_node]
   rw[Tr.get_del h l]
  | false=>
   simp only[cond_false,Tr.get_node]
   rw[Tr.get_del h r]
theorem QzM {α:Type}:∀(l:List (Nat×α))(t:Tr α),(l.map (·.1)).Nodup→(∀p∈l,t.get p.1=some p.2)→∃r,t.all.Perm (l++r)
 | [],t,_,_=>⟨t.all,.refl _⟩
 | p::l,t,hn,hg=>by
  simp only[List.map_cons,List.nodup_cons] at hn
  obtain⟨r,hr⟩:=QzM l (t.del p.1) hn.2 fun q hq=>by
   rw[Tr.get_del fun e=>hn.1 (by rw[←e];exact List.mem_map_of_mem hq)]
   exact hg q (.tail _ hq)
  exact⟨r,(Tr.perm (hg p (.head _))).1.trans (.cons _ hr)⟩
theorem St.dropL {h0 h:Heap}:∀(R:List HP){A L:List HP},St h0 h (A++(R++L))→St h0 h (A++L)
 | [],_,_,s=>s
 | p::R,A,L,s=>by
  refine St.dropL R ?_
  have:=s.perm (List.perm_middle (a:=p) (l₁:=A) (l₂:=R++L))
  exact this.drop
theorem QHi {E F:Env}{th th':TH}{h h':Heap}(r:Rep E th h0 h L)(hle:E.Le F)(rf:Rep F th' h0 h' L)(hsame:Qw0 th'.t th.t.all=true):Rep (E.wz F.z) th h0 h' L∧E.Le (E.wz F.z):=by
 obtain⟨h1,h2⟩:=QBF hsame
 obtain⟨R,hR⟩:=QzM _ _ h1 h2
 have le2:E.Le (E.wz F.z):=Env.le_wz hle.p.z
 have s1:St h0 h' (th.t.all.map (part F)++(R.map (part F)++(FzP F.z::L))):=rf.st.perm (by
  rw[←List.append_assoc,←List.map_append]
  exact (hR.map (part F)).append_right _)
 have s2:=St.dropL (R.map (part F)) s1
 have hkn:=r.known
 refine⟨⟨?_,r.fr,r.eh⟩,le2⟩
 exact⟨s2.1,Qma (fun x hx S ho=>Qcs le2.p (Qzv hle.p (hkn x (by simpa using hx)) ho)) s2.2⟩
theorem QjW {fr:Fr}{k:Nat}{x:FV}:∀ {l:List Nat}{g:Fr},(QnC fr l g).get k=some x→(k∈l∧fr.get k=some x)∨g.get k=some x
 | [],g,h=>.inr h
 | t::r,g,h=>by
  simp only[QnC] at h
  cases ht:fr.get t with
  | none=>
   rw[ht] at h
   rcases QjW h with⟨a,b⟩ | a
   ·exact .inl ⟨.tail _ a,b⟩
   ·exact .inr a
  | some y=>
   rw[ht] at h
   rcases QjW h with⟨a,b⟩ | a
   ·exact .inl ⟨.tail _ a,b⟩
   ·by_cases e:k=t
    ·subst e
     rw[Fr.get_eq] at a
     exact .inl ⟨.head _,by rw[ht,a]⟩
    ·rw[Fr.get_ne _ _ e] at a;exact .inr a
theorem Qzs {fr fr':Fr}:∀ {l:List Nat},QEO fr fr' l→∀t∈l,fr'.get t=fr.get t
 | [],_,t,h=>by cases h
 | a::l,h,t,ht=>by
  rcases List.mem_cons.1 ht with rfl | ht
  ·exact h.1
  ·exact Qzs h.2 t ht
theorem QHt {m ti:Nat}{b:Int}{keep:List Nat}{x:Code}{a:CF}{lf:LF}{fr:Fr}{th:TH}{kN:KF}{kE:Nat→KF}{kR:KF}{E:Env}{f:Nat→Value}{w:World}{Q:Exit→Act→World→Prop}(hx:QC1 m ti b keep a cl lf fr th kN kE kR)(ha:AgF E n fr f)(r:Rep E th h0 w.heap L)(hs:Qx w0 w)
  (hE:∀i,KT ds m n h0 L w0 E (kE i) (Q (.exit i))) (hR:KT ds m n h0 L w0 E kR (Q .ret))
  (body:∀(F:Env) (fr:Fr) (f:Nat→Value) (w:World) (kN:KF),E.Le F→a cl lf fr th kN kE kR→AgF F n fr f→Clean m fr→Rep F th h0 w.heap L→Qx w0 w→KT ds m n h0 L w0 F kN (Tn P x Q · ·)→Tn P x Q (mkD ds n f) w):Tn P x Q (mkD ds n f) w:=by
 unfold QC1 at hx
 cases hc:bitN m ti||keep.any (fun t=>bitN m t||Nat.beq t ti) with
 | true=>rw[hc] at hx;exact hx.elim
 | false=>
  rw[hc,cond_false] at hx
  simp only[Bool.or_eq_false_iff] at hc
  obtain⟨hc1,hc2⟩:=hc
  have hk:∀t∈keep,bitN m t=false∧t≠ti:=fun t ht=>by
   have:=List.any_eq_false.1 hc2 t ht
   simp only[Bool.or_eq_true,not_or,Bool.not_eq_true] at this
   exact⟨this.1,QlU this.2⟩
  cases hv:fr.get ti with
  | none=>rw[hv] at hx;exact hx.elim
  | some v=>
   rw[hv] at hx
   cases v<;>try (exact hx.elim)
   rename_i k z
   simp only at hx
   obtain⟨hb,hy⟩:=Q1 hx
   simp only[Bool.and_eq_true] at hb
   have hk64:=QdB hb.1
   have hz:=Qbn hb.2.1
   have hb0:0≤b:=Qbc hb.2.2
   subst hk64 hz
   obtain⟨htn,hti⟩:=ha ti _ hv
   simp only[den,Option.some.injEq] at hti
   have clean:∀i:Int,Clean m ((QnC fr keep (.base m .nil)).put ti (.sy .i64 (.o i) (.ofNat 0) b)):=fun i t ht=>by
    have hne:t≠ti:=fun e=>by rw[e,hc1] at ht;cases ht
    rw[Fr.get_ne _ _ hne]
    cases hg:(QnC fr keep (.base m .nil)).get t with
    | none=>rfl
    | some y=>
     rcases QjW hg with⟨p,_⟩ | p
     ·rw[(hk t p).1] at ht;cases ht
     ·rw[Fr.get_nil] at p;cases p
   have key:∀(j:Nat) (i:Int) (F:Env) (f:Nat→Value) (w:World),(b - i).toNat=j→0≤i→i≤b→E.Le F→Rep F th h0 w.heap L→AgF F n (QnC fr keep (.base m .nil)) f→f ti=.int .i64 i→Qx w0 w→Tn P x Q (mkD ds n f) w:=by
    intro j
    induction j with
    | zero=>
     intro i F f w hj h0i hib hle rF aF hf hsw
     refine body F _ f w _ hle (hy i h0i hib) (fun t y hy=>?_) (clean i) rF hsw (fun G fr' th' f' w' a1 a2 a3 a4 a5 a6=>?_)
     ·by_cases e:t=ti
      ·subst e
       rw[Fr.get_eq] at hy;simp only[Option.some.injEq] at hy;subst hy
       refine⟨htn,?_⟩
       simp only[den,SE.ev,hf]
       exact if_pos ⟨h0i,hib⟩
      ·rw[Fr.get_ne _ _ e] at hy;exact aF t y hy
     ·exfalso
      unfold QFr at a6
      obtain⟨_,_,a7⟩:=Q1 a6
      cases hg:fr'.get ti with
      | none=>rw[hg] at a7;exact a7.elim
      | some v=>
       rw[hg] at a7
       simp only at a7
       cases hz:zbn v with
       | none=>rw[hz] at a7;exact a7.elim
       | some q=>
        rw[hz] at a7
        obtain⟨_,_,a8⟩:=Q1 a7
        omega
    | succ j ih=>
     intro i F f w hj h0i hib hle rF aF hf hsw
     refine body F _ f w _ hle (hy i h0i hib) (fun t y hy=>?_) (clean i) rF hsw (fun G fr' th' f' w' a1 a2 a3 a4 a5 a6=>?_)
     ·by_cases e:t=ti
      ·subst e
       rw[Fr.get_eq] at hy;simp only[Option.some.injEq] at hy;subst hy
       refine⟨htn,?_⟩
       simp only[den,SE.ev,hf]
       exact if_pos ⟨h0i,hib⟩
      ·rw[Fr.get_ne _ _ e] at hy;exact aF t y hy
     ·unfold QFr at a6
      obtain⟨b1,b2,a7⟩:=Q1 a6
      cases hg:fr'.get ti with
      | none=>rw[hg] at a7;exact a7.elim
      | some v=>
       rw[hg] at a7
       simp only at a7
       cases hz:zbn v with
       | none=>rw[hz] at a7;exact a7.elim
       | some q=>
        obtain⟨kq,eq,lq,hq⟩:=q
        rw[hz] at a7
        obtain⟨c1,c2,c3⟩:=Q1 a7
        have:=QdB c1
        simp only at this c2
        subst this
        have leG:=hle.trans a1
        obtain⟨g1,g2⟩:=QHi r leG a4 b1
        have hfi:f' ti=.int .i64 (i+1):=by
         have:=(Qcl hz (a2 ti v hg).2).1
         rw[this,c2]
        refine ih (i+1) (E.wz G.z) f' w' (by omega) (by omega) c3 g2 g1 (fun t y hy=>?_) hfi a5
        rcases QjW hy with⟨p,q⟩ | p
        ·have e1:=Qzs b2 t p
         rw[q] at e1
         obtain⟨d1,d2⟩:=a2 t y e1
         refine⟨d1,?_⟩
         have d3:=(ha t y q).2
         have d4:=QbR leG d3
         rw[d2] at d4
         simp only[Option.some.injEq] at d4
         rw[d4]
         exact QbR g2 d3
        ·rw[Fr.get_nil] at p;cases p
   refine key (b - 0).toNat 0 E f w rfl (Int.le_refl _) hb0 (Env.Le.refl E) r (fun t y hy=>?_) hti.symm hs
   rcases QjW hy with⟨p,q⟩ | p
   ·exact ha t y q
   ·rw[Fr.get_nil] at p;cases p
theorem QeD (hcl:ClOk P cl){m:Nat}{pls:List (Nat×RP)}:∀(c:Code)(fc:FC),cC P n m pls c=some fc→∀(lf:LF)(fr:Fr)(th:TH)(kN:KF)(kE:Nat→KF)(kR:KF)(E:Env)(f:Nat→Value)(w:World)(Q:Exit→Act→World→Prop),
  evC fc cl lf fr th kN kE kR→AgF E n fr f→Clean m fr→Rep E th h0 w.heap L→Qx w0 w→PnOk ds Q w0 (fun _ _=>True)→Qfb Q →
  (∀y∈QaT c,∀S∈lf.ls,fidN y=S.l→LcOk P n y S)→KT ds m n h0 L w0 E kN (Q .normal)→(∀i,KT ds m n h0 L w0 E (kE i) (Q (.exit i)))→KT ds m n h0 L w0 E kR (Q .ret)→c.wp P Q (mkD ds n f) w
 | .skip,fc,hc,lf,fr,th,kN,kE,kR,E,f,w,Q,hx,ha,hcn,r,hs,hp,hpk,hlp,hN,hE,hR=>by
  simp only[cC,Option.some.injEq] at hc;subst hc
  exact wp_skip (hN E fr th f w (Env.Le.refl E) ha hcn r hs hx)
 | .label _,fc,hc,lf,fr,th,kN,kE,kR,E,f,w,Q,hx,ha,hcn,r,hs,hp,hpk,hlp,hN,hE,hR=>by
  simp only[cC,Option.some.injEq] at hc;subst hc
  exact wp_label (hN E fr th f w (Env.Le.refl E) ha hcn r hs hx)
 | .ret,fc,hc,lf,fr,th,kN,kE,kR,E,f,w,Q,hx,ha,hcn,r,hs,hp,hpk,hlp,hN,hE,hR=>by
  simp only[cC,Option.some.injEq] at hc;subst hc
  exact wp_ret (hR E fr th f w (Env.Le.refl E) ha hcn r hs hx)
 | .exit i,fc,hc,lf,fr,th,kN,kE,kR,E,f,w,Q,hx,ha,hcn,r,hs,hp,hpk,hlp,hN,hE,hR=>by
  simp only[cC,Option.some.injEq] at hc;subst hc
  exact wp_exit (hE i E fr th f w (Env.Le.refl E) ha hcn r hs hx)
 | .seq x y,fc,hc,lf,fr,th,kN,kE,kR,E,f,w,Q,hx,ha,hcn,r,hs,hp,hpk,hlp,hN,hE,hR=>by
  simp only[cC] at hc
  cases h1:cC P n m pls x with
  | none=>rw[h1] at hc;cases hc
  | some a=>
   rw[h1] at hc
   simp only at hc
   cases hbd:isBad a with
   | true=>rw[hbd,cond_true,Option.some.injEq] at hc;subst hc;exact hx.elim
   | false=>
   rw[hbd,cond_false] at hc
   cases h2:cC P n m pls y with
   | none=>rw[h2] at hc;cases hc
   | some b=>
    rw[h2] at hc;simp only[Option.some.injEq] at hc;subst hc
    haveI:=hp
    refine wp_seq ?_
    refine QeD hcl x a h1 lf fr th _ kE kR E f w (Exit.then (y.wp P Q) Q) hx ha hcn r hs Qhg (QfB hpk) (fun y hy=>hlp y (List.mem_append_left _ hy)) (fun F fr' th' f' w' a1 a2 a2' a3 a4 a5=>?_) (fun i=>hE i) hR
    exact QeD hcl y b h2 lf fr' th' kN kE kR F f' w' Q a5 a2 a2' a3 a4 hp hpk (fun y hy=>hlp y (List.mem_append_right _ hy)) (hN.mono a1) (fun i=>(hE i).mono a1) (hR.mono a1)
 | .cond c x y,fc,hc,lf,fr,th,kN,kE,kR,E,f,w,Q,hx,ha,hcn,r,hs,hp,hpk,hlp,hN,hE,hR=>by
  simp only[cC] at hc
  cases h0':c1 c with
  | none=>rw[h0'] at hc;simp only[Option.some.injEq] at hc;subst hc;exact hx.elim
  | some z=>
   cases h1:cC P n m pls x with
   | none=>rw[h0',h1] at hc;cases hc
   | some a=>
    cases h2:cC P n m pls y with
    | none=>rw[h0',h1,h2] at hc;cases hc
    | some b=>
     rw[h0',h1,h2] at hc;simp only[Option.some.injEq] at hc;subst hc
     simp only[evC,cIf] at hx
     cases hv:evO fr z with
     | none=>rw[hv] at hx;exact hx.elim
     | some v=>
      rw[hv] at hx
      have hd:=ha.ago c z v h0' hv
      have op:∀t:SC,den E (.sb t)=some (evf n f c)→(bif t.ev then evC a cl lf fr th kN kE kR else evC b cl lf fr th kN kE kR)→(Code.cond c x y).wp P Q (mkD ds n f) w:=fun t hd hx=>by
       simp only[den,Option.some.injEq] at hd
       have he:(mkD ds n f).eval c=.bool t.ev:=by rw[QoK];exact hd.symm
       cases ht:t.ev with
       | true=>rw[ht] at he hx;exact wp_cond_true he (QeD hcl x a h1 lf fr th kN kE kR E f w Q hx ha hcn r hs hp hpk (fun y hy=>hlp y (List.mem_append_left _ hy)) hN hE hR)
       | false=>rw[ht] at he hx;exact wp_cond_false he (QeD hcl y b h2 lf fr th kN kE kR E f w Q hx ha hcn r hs hp hpk (fun z hz=>hlp z (List.mem_append_right _ hz)) hN hE hR)
      cases v<;>try (exact hx.elim)
      case sb t=>exact op t hd hx
      rename_i t
      simp only[den,Option.some.injEq] at hd
      have he:(mkD ds n f).eval c=.bool t:=by rw[QoK];exact hd.symm
      cases t with
      | true=>exact wp_cond_true he (QeD hcl x a h1 lf fr th kN kE kR E f w Q hx ha hcn r hs hp hpk (fun y hy=>hlp y (List.mem_append_left _ hy)) hN hE hR)
      | false=>exact wp_cond_false he (QeD hcl y b h2 lf fr th kN kE kR E f w Q hx ha hcn r hs hp hpk (fun z hz=>hlp z (List.mem_append_right _ hz)) hN hE hR)
 | .block i x,fc,hc,lf,fr,th,kN,kE,kR,E,f,w,Q,hx,ha,hcn,r,hs,hp,hpk,hlp,hN,hE,hR=>by
  simp only[cC] at hc
  cases h1:cC P n m pls x with
  | none=>rw[h1] at hc;cases hc
  | some a=>
   rw[h1] at hc
   simp only at hc
   cases hbd:isBad a with
   | true=>rw[hbd,cond_true,Option.some.injEq] at hc;subst hc;exact hx.elim
   | false=>
   rw[hbd,cond_false,Option.some.injEq] at hc;subst hc
   haveI:=hp
   refine wp_block (QeD hcl x a h1 lf fr th kN _ kR E f w _ hx ha hcn r hs QHl (QDg hpk) hlp (fun F fr' th' f' w' a1 a2 a2' a3 a4 a5=>blkN (hN F fr' th' f' w' a1 a2 a2' a3 a4 a5)) (fun j F fr' th' f' w' a1 a2 a2' a3 a4 a5=>?_) (fun F fr' th' f' w' a1 a2 a2' a3 a4 a5=>blkR (hR F fr' th' f' w' a1 a2 a2' a3 a4 a5)))
   cases hb:Nat.beq j i with
   | true=>
    rw[hb] at a5
    have:=Qm hb;subst this
    exact blkE (hN F fr' th' f' w' a1 a2 a2' a3 a4 a5)
   | false=>
    rw[hb] at a5
    exact blkX hb (hE j F fr' th' f' w' a1 a2 a2' a3 a4 a5)
 | .loop x,fc,hc,lf,fr,th,kN,kE,kR,E,f,w,Q,hx,ha,hcn,r,hs,hp,hpk,hlp,hN,hE,hR=>by
  simp only[cC] at hc
  cases h1:cC P n m pls x with
  | none=>rw[h1] at hc;cases hc
  | some a=>
   rw[h1] at hc
   simp only at hc
   cases hbd:isBad a with
   | true=>rw[hbd,cond_true,Option.some.injEq] at hc;subst hc;exact hx.elim
   | false=>
   rw[hbd,cond_false,Option.some.injEq] at hc
   haveI:=hp
   refine QJO ?_
   cases hiv:invP pls (1000000+fidN x) with
   | some q=>
    rw[hiv] at hc
    simp only at hc
    subst hc
    refine QHt (cl:=cl) (lf:=lf) (kN:=kN) (a:=evC a) hx ha r hs hE hR fun F fr f w kN' hle hx ha hcn r hs hN'=>?_
    refine Qzl ?_
    exact QeD hcl x a h1 lf fr th _ kE kR F f w (Exit.then (Tn P x Q) Q) hx ha hcn r hs Qhg (QfB hpk) (fun y hy=>hlp y (.tail _ hy)) hN' (fun i=>(hE i).mono hle) (hR.mono hle)
   | none=>
   rw[hiv] at hc
   simp only at hc
   subst hc
   have hx:lpN m (fidN x) cl (evC a) lf.ls lf.n fr th kN kE kR:=hx
   have key:∀(q:Nat) (F:Env) (fr:Fr) (th:TH) (f:Nat→Value) (w:World),E.Le F→lpN m (fidN x) cl (evC a) lf.ls q fr th kN kE kR→AgF F n fr f→Clean m fr→Rep F th h0 w.heap L→Qx w0 w→Tn P x Q (mkD ds n f) w:=by
    intro q
    induction q with
    | zero=>intro F fr th f w _ hx;exact hx.elim
    | succ q ih=>
     intro F fr th f w hle hx ha hcn r hs
     simp only[lpN,QIe] at hx
     cases hk:lkLC (fidN x) lf.ls with
     | none=>
      rw[hk] at hx
      refine Qzl ?_
      refine QeD hcl x a h1 ⟨q,lf.ls⟩ fr th _ kE kR F f w (Exit.then (Tn P x Q) Q) hx ha hcn r hs Qhg (QfB hpk) (fun y hy=>hlp y (.tail _ hy)) (fun G fr' th' f' w' a1 a2 a2' a3 a4 a5=>?_) (fun i=>(hE i).mono hle) (hR.mono hle)
      exact ih G fr' th' f' w' (hle.trans a1) a5 a2 a2' a3 a4
     | some S=>
      rw[hk] at hx
      obtain⟨hS,hSl⟩:=QB3 hk
      exact QHh (hlp x (.head _) S hS hSl.symm) hx ha r hs hp hpk (fun i=>(hE i).mono hle) (hR.mono hle)
   exact key lf.n E fr th f w (Env.Le.refl E) hx ha hcn r hs
 | .region id ops draw,fc,hc,lf,fr,th,kN,kE,kR,E,f,w,Q,hx,ha,hcn,r,hs,hp,hpk,hlp,hN,hE,hR=>by
  simp only[cC] at hc
  cases hdd:QIj pls id with
  | true=>rw[hdd,cond_true,Option.some.injEq] at hc;subst hc;exact hx.elim
  | false=>
  rw[hdd,cond_false] at hc
  cases draw with
  | false=>
   simp only at hc
   cases h1:cOL P n ops ops.toList with
   | none=>rw[h1] at hc;cases hc
   | some l=>
    rw[h1] at hc;simp only[Option.some.injEq] at hc;subst hc
    have e:ops=ops.toList.toArray:=by simp
    rw[e]
    refine Qw1 ?_
    rw[←e]
    have hd:∀c∈l,∀d,c.dst=some d→bitN m d=false→d∈Qbh m l:=fun c hc d hcd hb=>QpP hb hc hcd
    have hk:Qte ([]:HEnv) m (Qbh m l):=fun k v h=>by cases h
    cases hfl:lkP pls id with
    | some _=>
     rw[hfl] at hx
     exact Qsu hcl hp (fun d hd=>Qe7 hd) hcn ops.toList l [] th E f w h1 hx ha hk hd r hs fun F fr' th' f' w' a1 a2 a2' a3 a4 a5=>hN F fr' th' f' w' a1 a2 a2' a3 a4 a5
    | none=>
     rw[hfl] at hx
     exact Qsu hcl hp (fun d hd=>Qe7 hd) hcn ops.toList l [] th E f w h1 hx ha hk hd r hs fun F fr' th' f' w' a1 a2 a2' a3 a4 a5=>hN F (fr'.fl m) th' f' w' a1 (a2.fl m) (Clean.fl m fr') a3 a4 a5
  | true=>
   simp only at hc
   cases hl:lkP pls id with
   | none=>rw[hl] at hc;simp only[Option.some.injEq] at hc;subst hc;exact hx.elim
   | some p=>
    rw[hl] at hc
    simp only at hc
    cases hok:P.follows .mixedOrders&&Qxe ops p with
    | false=>rw[hok] at hc;cases hc
    | true=>
     rw[hok] at hc
     simp only[cond_true] at hc
     simp only[Bool.and_eq_true] at hok
     cases h1:cREL P n ops p.ord with
     | none=>rw[h1] at hc;cases hc
     | some l=>
      cases h2:cOL P n ops (ops.toList.drop p.hd) with
      | none=>rw[h1,h2] at hc;cases hc
      | some r2=>
       rw[h1,h2] at hc;simp only[Option.some.injEq] at hc;subst hc
       exact QKF hcl hok.1 hok.2 h1 h2 (kN:=fun fr th=>kN (fr.fl m) th) hx ha r hs hp hpk fun F fr' th' f' w' a1 a2 a3 a4 a5=>hN F (fr'.fl m) th' f' w' a1 (a2.fl m) (Clean.fl m fr') a3 a4 a5
 | .rangeFunc ..,fc,hc,lf,fr,th,kN,kE,kR,E,f,w,Q,hx,ha,hcn,r,hs,hp,hpk,hlp,hN,hE,hR=>by simp only[cC,Option.some.injEq] at hc;subst hc;exact hx.elim
 | .scope ..,fc,hc,lf,fr,th,kN,kE,kR,E,f,w,Q,hx,ha,hcn,r,hs,hp,hpk,hlp,hN,hE,hR=>by simp only[cC,Option.some.injEq] at hc;subst hc;exact hx.elim
 | .goto ..,fc,hc,lf,fr,th,kN,kE,kR,E,f,w,Q,hx,ha,hcn,r,hs,hp,hpk,hlp,hN,hE,hR=>by simp only[cC,Option.some.injEq] at hc;subst hc;exact hx.elim
 | .refuse ..,fc,hc,lf,fr,th,kN,kE,kR,E,f,w,Q,hx,ha,hcn,r,hs,hp,hpk,hlp,hN,hE,hR=>by simp only[cC,Option.some.injEq] at hc;subst hc;exact hx.elim
end code
end Go.Va
