import Derived.Test.YtemffgbncjnmkaaGreatVxm
set_option linter.unusedVariables false
set_option linter.unusedSectionVars false
set_option linter.unusedSimpArgs false
noncomputable section
namespace Go.Va
open Go Go.Sh
variable [Vb]
variable {P:Program}
theorem Sp.toX [Gd]{h:Heap}{s:Sem Next}{K:Value→Heap→Prop}(q:Sp P s fun v=>K v h):Sx P s h K:=fun w hw=>by
 obtain⟨v,hv,hq⟩:=q
 rw[hv w]
 exact⟨Qx.refl w,by rw[hw];exact hq⟩
theorem QIV {t e:TypeId}{k:Nat}(hu:P.underlying t=some (.slice e))(hk:szO P e=some k){h0 h:Heap}{v:Value}{n m:Nat}{cs:List Value}{L:List HP}{ik:IntKind}{K:Value→Prop}
  (s:St h0 h (Row k v n cs::L)) (hm:m≤n) (g:∀v',St h0 h (Row k v' m (cs.take (m * k))::L)→K v'):QfD P t v none (some (.int ik m)) none K:=by
 haveI:=QbA hk
 obtain⟨he,S,⟨hl,hown⟩,r⟩:=id s
 have hel:P.underlying t=some (.slice (P.elem t)):=by
  rw[hu]
  congr 1
  simp[Program.elem,hu]
 have hel2:P.elem t=e:=by
  rw[hu] at hel
  simpa using hel.symm
 rcases hown with⟨rfl,rfl⟩ | ⟨a,cap,post,rfl,h2,h3,h4⟩
 ·have hm0:m=0:=by omega
  subst hm0
  refine⟨.slice none 0 0,fun w=>QA ?_,g _ ?_⟩
  ·rw[run_sliceAt_slice w t _ _ _ _ hel,show ((0:Nat):Int)=0 from rfl,run_slice_h w t none 0 0 hel ik 0 (by omega) (by omega),hel2,Siz.run]
   rfl
  ·have:cs=[]:=by simpa using hl
   subst this
   simpa using s
 ·refine⟨.slice (some a) m cap,fun w=>QA ?_,g _ ?_⟩
  ·rw[run_sliceAt_slice w t _ _ _ _ hel,run_slice_h w t (some a) n cap hel ik m (by omega) (by omega),hel2,Siz.run]
   simp only[Result.andThen_ok,sliced,Int.toNat_natCast,Nat.sub_zero,Nat.zero_mul,Option.map_some,Addr.add,if_true]
   split<;>rfl
  ·refine⟨he,S,⟨?_,.inr ⟨a,cap,cs.drop (m * k)++post,rfl,by omega,?_,?_⟩⟩,r⟩
   ·rw[List.length_take,hl]
    exact Nat.min_eq_left (Nat.mul_le_mul_right _ hm)
   ·rw[List.length_append,List.length_drop,hl,h3,←Nat.sub_mul,←Nat.add_mul]
    congr 1
    omega
   ·rw[←List.append_assoc,List.take_append_drop]
    exact h4
def sloK (k t i:Nat)(n:SE)(th:TH)(K:FV→TH→Prop):Prop:=match lyG t with
 | some ks=>match th.t.get i with
  | some o=>match o with
   | .row t2 es=>bif Nat.beq k ks.length&&Nat.beq t t2 then (0≤n.ev∧n.ev.toNat≤es.length)∧K (.os t th.nx) ((th.del i).new (.row t (es.take n.ev.toNat))) else False
   | _=>False
  | none=>False
 | none=>False
def xSlo (k:Nat)(x:Opd)(lo hi mx:Option Opd)(fr:Fr)(th:TH)(K:FV→TH→Prop):Prop:=match lo with
 | some _=>False
 | none=>match mx with
  | some _=>False
  | none=>match bdN fr hi with
   | some b=>match b with
    | some n=>match evO fr x with
     | some v=>match v with
      | .os t i=>sloK k t i n th K
      | _=>False
     | none=>False
    | none=>False
   | none=>False
theorem QJ4 [Gd]{E:Env}{th:TH}{h0 h:Heap}{L:List HP}(r:Rep E th h0 h L){t e:TypeId}(hu:P.underlying t=some (.slice e)){k:Nat}(hk:szO P e=some k){v:Value}{tt i:Nat}(hv:den E (.os tt i)=some v){n:SE}{w:Option Value}{K:FV→TH→Prop}
  (hw:0≤n.ev→OI (toN (some n)) w) (hx:sloK k tt i n th K):QfD P t v none w none fun v=>Post E h0 L K v h:=by
 simp only[sloK] at hx
 cases hl:lyG tt with
 | none=>rw[hl] at hx;exact hx.elim
 | some ks=>
  rw[hl] at hx
  simp only at hx
  cases hg:th.t.get i with
  | none=>rw[hg] at hx;exact hx.elim
  | some o=>
   rw[hg] at hx
   cases o<;>try (exact hx.elim)
   rename_i t2 es
   simp only at hx
   obtain⟨hb,⟨c1,c2⟩,hx2⟩:=Q1 hx
   simp only[Bool.and_eq_true] at hb
   have e1:=Qm hb.1
   have e2:=Qm hb.2
   subst e1 e2
   have ly:=QaN hl
   obtain⟨a,v1,ks',hr,s⟩:=r.toldW hg
   have ek:ks'=ks:=by have:=hr.ly;rw[ly] at this;simpa using this.symm
   subst ek
   obtain⟨_,hs,_⟩:=Qe4 hv
   have ev:v1=v:=hr.s.symm.trans hs
   subst ev
   obtain⟨ik,rfl⟩:=hw c1
   refine QIV hu hk s c2 fun v' s'=>?_
   have hlen:(es.take n.ev.toNat).length=n.ev.toNat:=by rw[List.length_take];exact Nat.min_eq_left c2
   have hvs:LD.vsE ks' (es.take n.ev.toNat)=(LD.vsE ks' es).take (n.ev.toNat * ks'.length):=by
    have:=QDP hr.wt 0 n.ev.toNat
    simpa using this
   rw[←hvs] at s'
   have rd:=r.del hg
   obtain⟨a1,a2,a3⟩:=Rep.addW (E:=E) (th:=th.del i) (t:=tt) (ks:=ks') (es:=es.take n.ev.toNat) rd.fr rd.eh rd.nx ly hr.ne (Qi5 _ hr.wt) (QpY _ hr.li) (by rw[hlen];exact Nat.le_trans c2 hr.len) (by rw[hlen];exact s')
   exact⟨_,_,_,a1,a3,a2,hx2⟩
def zLD:List CK→List FV→Option (List LD)
 | [],[]=>some []
 | k::ks,z::zs=>match toLD k z with
  | some d=>match zLD ks zs with
   | some ds=>some (d::ds)
   | none=>none
  | none=>none
 | _,_=>none
theorem QFt {E:Env}:∀ {ks:List CK}{zs:List FV}{ds:List LD}{us:List Value},zLD ks zs=some ds→denL E zs=some us→wtL ds ks∧Q5 E.rd ds ks∧LD.vs ks ds=us
 | [],[],ds,us,h,hd=>by
  simp only[zLD,Option.some.injEq] at h;subst h
  simp only[denL,Option.some.injEq] at hd;subst hd
  exact⟨by simp only[wtL],by simp only[Q5],rfl⟩
 | [],_::_,ds,us,h,hd=>by simp[zLD] at h
 | _::_,[],ds,us,h,hd=>by simp[zLD] at h
 | k::ks,z::zs,ds,us,h,hd=>by
  simp only[zLD] at h
  obtain⟨u,us',h1,h2,rfl⟩:=QR hd
  cases ht:toLD k z with
  | none=>rw[ht] at h;cases h
  | some d=>
   rw[ht] at h
   cases hz:zLD ks zs with
   | none=>rw[hz] at h;cases h
   | some ds'=>
    rw[hz] at h;simp only[Option.some.injEq] at h;subst h
    obtain⟨f1,f2⟩:=Qtn ht h1
    obtain⟨g1,g2,g3⟩:=QFt hz h2
    exact⟨by simp only[wtL];exact⟨f1.1,g1⟩,by simp only[Q5];exact⟨f1.2,g2⟩,by simp only[LD.vs,f2,g3]⟩
def zTy (z:List FV):List (List CK)→Nat→Option (Nat×List LD)
 | [],_=>none
 | ks::r,t=>match zLD ks z with
  | some ds=>some (t,ds)
  | none=>zTy z r t.succ
def apoK (k b:Nat)(z:List FV)(n:FV)(th:TH)(K:FV→TH→Prop):Prop:=match zbn n with
 | some p=>match zTy z Vb.ly 0 with
  | some q=>match lyG q.1 with
   | some ks=>match zLD ks z with
    | some ds=>(0<p.2.1.ev∧p.2.1.ev.toNat * b≤140737488355328∧p.2.1.ev.toNat≤4611686018427387904)∧K (.os q.1 th.nx) (th.new (.row q.1 (List.replicate p.2.1.ev.toNat (.t ds))))
    | none=>False
   | none=>False
  | none=>False
 | none=>False
def xApo (k b:Nat)(z:List FV)(s n:Opd)(fr:Fr)(th:TH)(K:FV→TH→Prop):Prop:=match evN fr n with
 | some _=>xApc k b z s n fr th K
 | none=>match evO fr s with
  | some v=>match v with
   | .nsl=>match evO fr n with
    | some n=>apoK k b z n th K
    | none=>False
   | _=>False
  | none=>False
theorem QDH {z:List Value}(hp:0<z.length):∀n,((List.range (n * z.length)).map fun i=>z.toArray[i % z.length]!)=(List.replicate n z).flatten
 | 0=>by simp
 | n+1=>by
  rw[show (n+1) * z.length=z.length+n * z.length by rw[Nat.add_mul];omega,List.range_add,List.map_append,List.map_map,List.replicate_succ,List.flatten_cons]
  congr 1
  ·apply List.ext_getElem
   ·simp
   ·intro i h1 h2
    simp[Nat.mod_eq_of_lt h2,List.getElem?_eq_getElem h2]
  ·rw[←QDH hp n]
   refine List.map_congr_left fun i _=>?_
   simp
theorem QDR (ks:List CK)(ds:List LD):∀n,LD.vsE ks (List.replicate n (.t ds))=(List.replicate n (LD.vs ks ds)).flatten
 | 0=>rfl
 | n+1=>by
  rw[List.replicate_succ,List.replicate_succ,List.flatten_cons,←QDR ks ds n]
  rfl
theorem QKS [Gd]{E:Env}{th:TH}{h0 h:Heap}{L:List HP}(r:Rep E th h0 h L){t t' e ty:TypeId}{kk:IntKind}{z:List FV}{i:TypeInfo}(hu:P.underlying t=some (.slice e))(hu':P.underlying t'=some (.int kk))(hz:zrO P e=some z)(hi:P.info? e=some i)
  (hp:0<z.length) {x:FV}{v:Value} (hv:den E x=some v) {K:FV→TH→Prop} (hx:apoK z.length i.bytes z x th K):QbY P #[t,t'] ty #[.slice none 0 0,v] h (Post E h0 L K):=by
 obtain⟨i',zv,h1,h2,h3,h4,h5,h6⟩:=Qe5 hz
 rw[hi] at h1;simp only[Option.some.injEq] at h1;subst h1
 simp only[apoK] at hx
 cases hb:zbn x with
 | none=>rw[hb] at hx;exact hx.elim
 | some p=>
  obtain⟨kq,m,lo,hi2⟩:=p
  rw[hb] at hx
  simp only at hx
  cases hq:zTy z Vb.ly 0 with
  | none=>rw[hq] at hx;exact hx.elim
  | some q=>
   rw[hq] at hx
   simp only at hx
   cases hl:lyG q.1 with
   | none=>rw[hl] at hx;exact hx.elim
   | some ks=>
    rw[hl] at hx
    simp only at hx
    cases hd:zLD ks z with
    | none=>rw[hd] at hx;exact hx.elim
    | some ds=>
     rw[hd] at hx
     simp only at hx
     obtain⟨⟨c1,c2,c3⟩,hx2⟩:=hx
     obtain⟨rfl,_⟩:=Qcl hb hv
     generalize hN:m.ev.toNat=N at *
     have eN:m.ev=(N:Int):=by omega
     rw[eN]
     have hzd:=Qcf E h3
     obtain⟨g1,g2,g3⟩:=QFt hd hzd
     have hkl:ks.length=z.length:=by rw[←(QaW g1).1,g3,QS hzd]
     have hzl:zv.cells.toList.length=z.length:=QS hzd
     have ly:=QaN hl
     intro w hw
     have hr1:=Go.Lib.run_append_nil_zeros (P:=P) w t t' ty e i zv kq kk hu hu' hi h2 N (by omega) (by omega) (by omega) (by omega)
     rw[QA hr1]
     refine⟨⟨rfl,rfl,rfl,fun _=>by first | exact Nat.le_refl _ | exact Nat.le_succ _ | exact Nat.le_add_right _ _⟩,?_⟩
     show Post E h0 L K _ (w.heap.push _)
     have hge:=grownCap_ge w N 0 e
     have e1:Builtin.zeroCells zv.cells N++Builtin.zeroCells zv.cells (grownCap w N 0 e - N)=(LD.vsE ks (List.replicate N (.t ds))++(Builtin.zeroCells zv.cells (grownCap w N 0 e - N)).toList).toArray:=by
      rw[QDR,g3,←QDH (by omega)]
      apply Array.ext'
      simp[Builtin.zeroCells]
     rw[e1,hw]
     have s:=r.st.push (LD.vsE ks (List.replicate N (.t ds))++(Builtin.zeroCells zv.cells (grownCap w N 0 e - N)).toList) e
     have hwt:wtE (List.replicate N (.t ds)) ks:=QBi fun x hx=>by rw[List.eq_of_mem_replicate hx];simp only[wtT];exact g1
     have hli:QI E.rd (List.replicate N (.t ds)) ks:=QvU fun x hx=>by rw[List.eq_of_mem_replicate hx];simp only[Qbz];exact g2
     have s2:=s.rowShut (k:=ks.length) (n:=N) (cap:=grownCap w N 0 e) (by omega) (by rw[Array.length_toList,Qc8,h6,hkl,h5]) (by rw[QbS hwt,List.length_replicate])
     obtain⟨a1,a2,a3⟩:=Rep.addW (E:=E) (th:=th) (t:=q.1) (ks:=ks) (es:=List.replicate N (.t ds)) r.fr r.eh r.nx ly (fun e=>by rw[e] at hkl;simp at hkl;omega) hwt hli (by rw[List.length_replicate];unfold maxL;omega) (by rw[List.length_replicate];exact s2)
     exact⟨_,_,_,a1,a3,a2,hx2⟩
def mkzK (b:Nat)(z:List FV)(n m:Int)(th:TH)(K:FV→TH→Prop):Prop:=match zTy z Vb.ly 0 with
 | some q=>match lyG q.1 with
  | some ks=>match zLD ks z with
   | some ds=>(n=m∧0≤n∧n.toNat * b≤140737488355328∧n.toNat≤4611686018427387904)∧K (.os q.1 th.nx) (th.new (.row q.1 (List.replicate n.toNat (.t ds))))
   | none=>False
  | none=>False
 | none=>False
def xMkz (b:Nat)(z:List FV)(l c:Opd)(fr:Fr)(th:TH)(K:FV→TH→Prop):Prop:=match QpQ fr l with
 | some n=>match QpQ fr c with
  | some m=>mkzK b z n m th K
  | none=>Qtg b z l c fr th K
 | none=>Qtg b z l c fr th K
theorem Qace [Gd]{E:Env}{th:TH}{h0 h:Heap}{L:List HP}(r:Rep E th h0 h L){t e:TypeId}{z:List FV}{i:TypeInfo}(hu:P.underlying t=some (.slice e))(hz:zrO P e=some z)(hi:P.info? e=some i)(hp:0<z.length){n m:Int}
  {K:FV→TH→Prop} (hx:mkzK i.bytes z n m th K):Qmk P t (.int .i64 n) (.int .i64 m) h (Post E h0 L K):=by
 obtain⟨i',zv,h1,h2,h3,h4,h5,h6⟩:=Qe5 hz
 rw[hi] at h1;simp only[Option.some.injEq] at h1;subst h1
 simp only[mkzK] at hx
 cases hq:zTy z Vb.ly 0 with
 | none=>rw[hq] at hx;exact hx.elim
 | some q=>
  rw[hq] at hx
  simp only at hx
  cases hl:lyG q.1 with
  | none=>rw[hl] at hx;exact hx.elim
  | some ks=>
   rw[hl] at hx
   simp only at hx
   cases hd:zLD ks z with
   | none=>rw[hd] at hx;exact hx.elim
   | some ds=>
    rw[hd] at hx
    simp only at hx
    obtain⟨⟨rfl,c0,c1,c2⟩,hx2⟩:=hx
    generalize hN:n.toNat=N at *
    have eN:n=(N:Int):=by omega
    subst eN
    have hzd:=Qcf E h3
    obtain⟨g1,g2,g3⟩:=QFt hd hzd
    have hkl:ks.length=z.length:=by rw[←(QaW g1).1,g3,QS hzd]
    have hzl:zv.cells.toList.length=z.length:=QS hzd
    have ly:=QaN hl
    intro w hw
    have hbb:(i.bytes:Int) * (N:Int)≤281474976710656:=by
     have h4:((i.bytes * N:Nat):Int)≤281474976710656:=by rw[Nat.mul_comm];omega
     rwa [Int.natCast_mul] at h4
    have hr:=run_make (P:=P) w t e i zv hu hi h2 .i64 .i64 N N (by omega) (by omega) hbb (by omega)
    simp only[Int.toNat_natCast] at hr
    rw[QA hr]
    refine⟨⟨rfl,rfl,rfl,fun _=>by first | exact Nat.le_refl _ | exact Nat.le_succ _ | exact Nat.le_add_right _ _⟩,?_⟩
    show Post E h0 L K _ (w.heap.push _)
    rw[hw,QoL]
    have e1:(List.range (N * i.size)).map (fun j=>zv.cells[j % zv.cells.size]!)=LD.vsE ks (List.replicate N (.t ds))++[]:=by
     rw[QDR,g3,←QDH (by omega)]
     simp[h6]
    rw[e1]
    have s:=r.st.push (LD.vsE ks (List.replicate N (.t ds))++[]) e
    have hwt:wtE (List.replicate N (.t ds)) ks:=QBi fun x hx=>by rw[List.eq_of_mem_replicate hx];simp only[wtT];exact g1
    have hli:QI E.rd (List.replicate N (.t ds)) ks:=QvU fun x hx=>by rw[List.eq_of_mem_replicate hx];simp only[Qbz];exact g2
    have s2:=s.rowShut (k:=ks.length) (n:=N) (cap:=N) (Nat.le_refl _) (by simp) (by rw[QbS hwt,List.length_replicate])
    obtain⟨a1,a2,a3⟩:=Rep.addW (E:=E) (th:=th) (t:=q.1) (ks:=ks) (es:=List.replicate N (.t ds)) r.fr r.eh r.nx ly (fun e=>by rw[e] at hkl;simp at hkl;omega) hwt hli (by rw[List.length_replicate];unfold maxL;omega) (by rw[List.length_replicate];exact s2)
    exact⟨_,_,_,a1,a3,a2,hx2⟩
def dlE (k:Str):List LD→List LD
 | []=>[]
 | e::r=>if keyE e=k then r else e::dlE k r
def dlM (k:Str):List (Str×Value)→List (Str×Value)
 | []=>[]
 | p::r=>if p.1=k then r else p::dlM k r
theorem QaaK (k:Str)(ag:Bool)(ks:List CK):∀es:List LD,dlM k (es.map (entM ag ks))=(dlE k es).map (entM ag ks)
 | []=>rfl
 | e::r=>by
  show (if keyE e=k then r.map (entM ag ks) else entM ag ks e::dlM k (r.map (entM ag ks)))=_
  unfold dlE
  split
  ·rfl
  ·rw[List.map_cons,QaaK k ag ks r]
theorem QaaL (k:Str):∀es:List LD,(dlE k es).Sublist es
 | []=>.refl _
 | e::r=>by
  unfold dlE
  split
  ·exact .cons _ (.refl _)
  ·exact .cons_cons _ (QaaL k r)
def dlS (k:Str):List (Str×Value)→List Nat→List Nat
 | p::r,b::st=>if p.1=k then st else b::dlS k r st
 | _,_=>[]
theorem QaaJ (k:Str):∀m:List (Str×Value),(dlM k m).Sublist m
 | []=>.refl _
 | e::r=>by
  unfold dlM
  split
  ·exact .cons _ (.refl _)
  ·exact .cons_cons _ (QaaJ k r)
theorem QaaI (k:Str):∀(m:List (Str×Value))(st:List Nat),m.length=st.length→(dlS k m st).Sublist st∧(dlM k m).length=(dlS k m st).length
 | [],[],_=>⟨.refl _,rfl⟩
 | p::r,b::st,h=>by
  have h':r.length=st.length:=by simpa using h
  unfold dlS dlM
  split
  ·exact⟨.cons _ (.refl _),h'⟩
  ·obtain⟨h1,h2⟩:=QaaI k r st h'
   exact⟨.cons_cons _ h1,by simp[h2]⟩
 | [],_::_,h=>by simp at h
 | _::_,[],h=>by simp at h
theorem QaaG (k:Str):∀(m:List (Str×Value))(st:List Nat)(i:Nat){j:Nat}{x:Value},m.length=st.length→lookI m k i=some (j,x)→i≤j∧Go.Sh.ents (dlM k m) (dlS k m st)=(Go.Sh.ents m st).eraseIdx (j - i)
 | [],_,_,_,_,_,h=>by simp[lookI] at h
 | (k',x')::m,b::st,i,j,x,hl,h=>by
  unfold lookI at h
  unfold dlM dlS
  simp only at h ⊢
  split at h
  ·rename_i hk
   simp only[Option.some.injEq,Prod.mk.injEq] at h
   obtain⟨rfl,rfl⟩:=h
   rw[if_pos hk,if_pos hk,Nat.sub_self]
   exact⟨Nat.le_refl _,rfl⟩
  ·rename_i hk
   obtain⟨h1,h2⟩:=QaaG k m st (i+1) (by simpa using hl) h
   rw[if_neg hk,if_neg hk]
   refine⟨by omega,?_⟩
   show (⟨str k',x',b⟩:MapEntry)::Go.Sh.ents (dlM k m) (dlS k m st)=(⟨str k',x',b⟩::Go.Sh.ents m st:List MapEntry).eraseIdx (j - i)
   rw[h2,show j - i=(j - (i+1))+1 by omega,List.eraseIdx_cons_succ]
 | _::_,[],_,_,_,hl,_=>by simp at hl
theorem QaaH (k:Str):∀(m:List (Str×Value))(st:List Nat)(i:Nat),m.length=st.length→lookI m k i=none→dlM k m=m∧dlS k m st=st
 | [],[],_,_,_=>⟨rfl,rfl⟩
 | (k',x')::m,b::st,i,hl,h=>by
  unfold lookI at h
  unfold dlM dlS
  simp only at h ⊢
  split at h
  ·cases h
  ·rename_i hk
   obtain⟨h1,h2⟩:=QaaH k m st (i+1) (by simpa using hl) h
   rw[if_neg hk,if_neg hk,h1,h2]
   exact⟨rfl,rfl⟩
 | _::_,[],_,hl,_=>by simp at hl
 | [],_::_,_,hl,_=>by simp at hl
theorem QabC [Gd]{t t' ty kt et:TypeId}(hu:P.underlying t=some (.map kt et))(hk:P.underlying kt=some .string){h0 h:Heap}{v:Value}{m:List (Str×Value)}{st:List Nat}{c:Nat}{k:Str}{L:List HP}{K:Value→Heap→Prop}
  (s:St h0 h (Go.Sh.MapS v m st c::L)) (g:∀h',St h0 h' (Go.Sh.MapO v (dlM k m)::L)→K undef h'):QD5 P #[t,t'] ty #[v,str k] h K:=by
 haveI:Und P t (.map kt et):=⟨hu⟩
 haveI:Und P kt .string:=⟨hk⟩
 intro w hw
 obtain⟨_,S0,⟨hok,r,rfl,hSr,hb⟩,_,_⟩:=id s
 have hbw:w.heap[r]?=some (.map (Go.Sh.ents m st).toArray c):=by rw[hw];exact hb
 have h1:=Qno (P:=P) (kt:=kt) k m st hok.len w
 obtain⟨d1,d2⟩:=QaaI k m st hok.len
 have hok':Go.Sh.Qga (dlM k m) (dlS k m st) c:=⟨d2,(((QaaJ k m).map (·.1)).nodup) hok.keys,d1.nodup hok.born,fun b hb=>hok.lt b (d1.subset hb)⟩
 have stepTo:St h0 (setB h r (.map (Go.Sh.ents (dlM k m) (dlS k m st)).toArray c)) (Go.Sh.MapO (.map (some r)) (dlM k m)::L):=by
  refine St.toMapO (st:=dlS k m st) (c:=c) (St.step s fun S' hA' hS'=>?_)
  obtain⟨_,r',hr',hSr',hb'⟩:=hA'
  simp only[Value.map.injEq,Option.some.injEq] at hr'
  subst hr'
  exact⟨by rw[QeJ];exact Nat.le_refl _,fun i _ hi=>Qda (fun e=>hi (e ▸ hSr')),S',⟨hok',r,rfl,hSr',Qe6 (lt_of_some hb')⟩,fun i hi=>.inl hi⟩
 have hset:=Qf1 (P:=P) (o':=.map (Go.Sh.ents (dlM k m) (dlS k m st)).toArray c) hbw (by simp)
 rw[hw] at hset
 have hrun:(Builtin.delete_ #[t,t'] ty #[.map (some r),str k]).run P w=.ok (.tuple #[]) { w with heap:=setB h r (.map (Go.Sh.ents (dlM k m) (dlS k m st)).toArray c) }:=by
  unfold Builtin.delete_
  cases hf:lookI m k 0 with
  | some p=>
   obtain⟨j,x0⟩:=p
   obtain⟨_,he⟩:=QaaG k m st 0 hok.len hf
   have he':(Go.Sh.ents m st).eraseIdx j=Go.Sh.ents (dlM k m) (dlS k m st):=by
    rw[he,Nat.sub_zero]
   simp[Und.run (P:=P) (t:=t),Qay (P:=P) hbw (by simp),QgR (P:=P) (kt:=kt) _ 9999 k,h1,hf,he',hset]
  | none=>
   obtain⟨e1,e2⟩:=QaaH k m st 0 hok.len hf
   rw[e1,e2] at hset ⊢
   simp[Und.run (P:=P) (t:=t),Qay (P:=P) hbw (by simp),QgR (P:=P) (kt:=kt) _ 9999 k,h1,hf,hset]
 rw[QA hrun]
 exact⟨⟨rfl,rfl,rfl,fun _=>Nat.le_refl _⟩,g _ stepTo⟩
def dlmO (d:KD)(i:Nat)(o:TO)(k:FV)(th:TH)(K:FV→TH→Prop):Prop:=match o with
 | .mp t ag es=>match d with
  | .s=>match keyO k with
   | some q=>K undF (th.set i (.mp t ag (dlE q es)))
   | none=>False
  | _=>False
 | _=>False
def dlmX (d:KD)(x k:FV)(th:TH)(K:FV→TH→Prop):Prop:=match x with
 | .map i=>match th.t.get i with
  | some o=>dlmO d i o k th K
  | none=>False
 | _=>False
theorem Qach [Gd]{E:Env}{th:TH}{h0 h:Heap}{L:List HP}(r:Rep E th h0 h L){t t' ty kt et:TypeId}{d:KD}(hu:P.underlying t=some (.map kt et))(hd:kdO P kt=some d){x k:FV}{a b:Value}
  (ha:den E x=some a) (hb:den E k=some b) {K:FV→TH→Prop} (hx:dlmX d x k th K):QD5 P #[t,t'] ty #[a,b] h (Post E h0 L K):=by
 cases x<;>try (exact hx.elim)
 rename_i i
 simp only[dlmX] at hx
 cases hg:th.t.get i with
 | none=>rw[hg] at hx;exact hx.elim
 | some o=>
  rw[hg] at hx
  cases o<;>try (exact hx.elim)
  rename_i tt ag es
  simp only[dlmO] at hx
  cases d<;>try (exact hx.elim)
  simp only at hx
  cases hq:keyO k with
  | none=>rw[hq] at hx;exact hx.elim
  | some q=>
   rw[hq] at hx
   have eb:=QHx hq hb
   subst eb
   obtain⟨ad,ks,hw,s⟩:=r.toldP hg
   obtain⟨st,c,s⟩:=s.mapO
   obtain⟨a',ha',rfl⟩:=QeF ha
   have ea:a'=ad:=by have:=hw.p;rw[ha'] at this;simpa using this
   subst ea
   refine QabC hu (Qr2 hd) s fun h' s'=>?_
   rw[QaaK] at s'
   have sub:=QaaL q es
   have hw2:MpIs E i tt ag (dlE q es) a' ks:=⟨hw.p,hw.ly,hw.one,QBi fun e he=>Qti hw.wt (sub.subset he),QvU fun e he=>Qnz hw.li (sub.subset he),Nat.le_trans sub.length_le hw.len⟩
   have r2:=Rep.put (o':=.mp tt ag (dlE q es)) hg (s'.imp fun S hS=>⟨(a',ks),hw2,hS⟩) r.fr r.eh
   exact Post.same (x:=undF) (Qhv E) r2 hx
end Go.Va
