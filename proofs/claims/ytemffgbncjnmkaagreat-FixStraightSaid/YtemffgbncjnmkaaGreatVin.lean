import Derived.Test.YtemffgbncjnmkaaGreatVi
set_option linter.unusedVariables false
set_option linter.unusedSectionVars false
set_option linter.unusedSimpArgs false
noncomputable section
namespace Go.Va
open Go Go.Sh
variable [Vb]
def obH:FV→Prop
 | .obl c _=>c.ev=true
 | .alt n l=>0≤n.ev∧n.ev<Int.ofNat l.length
 | _=>True
def strip:FV→FV
 | .obl _ y=>y
 | .alt n l=>l.getD n.ev.toNat .nilp
 | x=>x
theorem QGL {E:Env}{x:FV}{v:Value}(h:den E x=some v):strip x=x:=by
 cases x<;>first | rfl | (simp only[den] at h;cases h)
def leaf:CK→LD→FV
 | .i k,d=>.sy k (.o d.i) (loK k) (hiK k)
 | .b,d=>.sb (.o d.bo)
 | .s,d=>.sstr d.st
 | .p t,d=>.dp t d
 | .l t,d=>.ds t d
 | .r _,_=>.nilp
theorem Qg2 {E:Env}{k:CK}{d:LD}(h:Fz E d k):den E (leaf k d)=some (LD.v k d):=by
 cases k with
 | i k=>
  have h1:=h.1
  cases d<;>simp only[wt] at h1
  simp only[leaf,den]
  exact if_pos h1
 | b=>rfl
 | s=>
  have h1:=h.1
  cases d<;>simp only[wt] at h1
  simp only[leaf,den]
  exact if_pos h1
 | p t=>simp only[leaf,den];exact if_pos h
 | l t=>simp only[leaf,den];exact if_pos h
 | r t=>rfl
theorem QvV (k:CK)(d:LD):oneF (leaf k d)=true:=by cases k<;>rfl
def lvs (d:LD):List CK→Nat→List FV
 | [],_=>[]
 | k::ks,j=>leaf k (d.f j)::lvs d ks j.succ
def lyG (t:Nat):Option (List CK):=hd? (Qaz t Vb.ly)
theorem QaN {t:Nat}{ks:List CK}(h:lyG t=some ks):Vb.ly[t]?=some ks:=QeW h
def ldK (ks:List CK)(k:Nat)(agg:Bool)(d:LD)(o:Nat):Option FV:=match agg with
  | true=>match Qbb k (Qaz o ks) with
   | some l=>some (.agg (lvs d l o))
   | none=>none
  | false=>match hd? (Qaz o ks) with
   | some c=>some (leaf c (d.f o))
   | none=>none
def ldN (k:Nat)(agg:Bool)(t:Nat)(d:LD)(o:Nat):Option FV:=match lyG t with
 | some ks=>ldK ks k agg d o
 | none=>none
theorem QKr {E:Env}{d:LD}{t:Nat}{ks:List CK}(h:Fz E d (.p t))(hi:d.is=true)(hl:Vb.ly[t]?=some ks):∃a cs,d=.p a cs∧wtL cs ks∧Q5 E.rd cs ks∧E.rd a (LD.vs ks cs):=by
 obtain⟨h1,h2⟩:=h
 cases d<;>simp only[wt,LD.is] at h1 hi<;>try (cases hi;done)
 rename_i a cs
 simp only[lies] at h2
 rw[hl] at h1 h2
 exact⟨a,cs,rfl,h1,h2.2,h2.1⟩
theorem QCp {R:Addr→List Value→Prop}:∀ {cs:List LD}{ks:List CK}{o:Nat}{k:CK},wtL cs ks→Q5 R cs ks→ks[o]?=some k→∃c,cs[o]?=some c∧wt c k∧lies R c k∧(LD.vs ks cs)[o]?=some (LD.v k c)
 | [],[],o,k,_,_,h=>by simp at h
 | c::cs,[],o,k,h,_,_=>by simp only[wtL] at h
 | [],k'::ks,o,k,h,_,_=>by simp only[wtL] at h
 | c::cs,k'::ks,0,k,h,hl,e=>by
  simp only[List.getElem?_cons_zero,Option.some.injEq] at e;subst e
  simp only[wtL,Q5] at h hl
  exact⟨c,rfl,h.1,hl.1,rfl⟩
 | c::cs,k'::ks,o+1,k,h,hl,e=>by
  simp only[List.getElem?_cons_succ] at e
  simp only[wtL,Q5] at h hl
  obtain⟨x,h1,h2,h3,h4⟩:=QCp h.2 hl.2 e
  exact⟨x,h1,h2,h3,h4⟩
theorem QaW:∀ {cs:List LD}{ks:List CK},wtL cs ks→(LD.vs ks cs).length=ks.length∧cs.length=ks.length
 | [],[],_=>⟨rfl,rfl⟩
 | c::cs,[],h=>by simp only[wtL] at h
 | [],k'::ks,h=>by simp only[wtL] at h
 | c::cs,k::ks,h=>by
  simp only[wtL] at h
  have:=QaW h.2
  exact⟨by simp[LD.vs,this.1],by simp[this.2]⟩
theorem QtB {E:Env}{d:LD}{cs:List LD}{ks:List CK}(hd:d.cs=cs)(h1:wtL cs ks)(h2:Q5 E.rd cs ks):∀(l:List CK)(o:Nat),(∀j k,l[j]?=some k→ks[o+j]?=some k) →
  ∃vs,denL E (lvs d l o)=some vs∧(lvs d l o).all oneF=true∧vs.length=l.length∧∀j v,vs[j]?=some v→(LD.vs ks cs)[o+j]?=some v
 | [],o,_=>⟨[],rfl,rfl,rfl,fun j v h=>by simp at h⟩
 | k::l,o,h=>by
  obtain⟨c,g1,g2,g3,g4⟩:=QCp h1 h2 (h 0 k rfl)
  obtain⟨vs,e1,e2,e3,e4⟩:=QtB hd h1 h2 l (o+1) fun j k' hj=>by
   have:=h (j+1) k' (by simpa using hj)
   rw[←this];congr 1;omega
  have hf:d.f o=c:=by
   have:cs[o]?=some c:=g1
   simp[LD.f,hd,List.getD,this]
  refine⟨LD.v k c::vs,?_,?_,by simp[e3],fun j v hj=>?_⟩
  ·simp only[lvs]
   rw[hf]
   exact Qau (Qg2 ⟨g2,g3⟩) e1
  ·simp only[lvs,List.all_cons,QvV,Bool.true_and];exact e2
  ·cases j with
   | zero=>simp only[List.getElem?_cons_zero,Option.some.injEq] at hj;subst hj;exact g4
   | succ j=>
    simp only[List.getElem?_cons_succ] at hj
    have:=e4 j v hj
    rw[←this];congr 1;omega
variable {P:Program}
theorem add_zero (a:Addr):a.add 0=a:=by
 obtain⟨b,o,f⟩:=a
 cases f<;>simp[Addr.add]
theorem QGq {E:Env}{h:Heap}{t:TypeId}{k:Nat}{b:Bool}(hk:szO P t=some k)(hb:agO P t=some b)(hk0:0<k){a:Addr}{d:LD}{o:Nat}{y:FV}{ks:List CK}(w1:wtL d.cs ks)(w2:Q5 E.rd d.cs ks)(w3:Rd h (.pointer (some a)) (LD.vs ks d.cs))
  (hx:ldK ks k b d o=some y):Qnx P t (.pointer (some (a.add o))) (Eq h) fun v=>den E y=some v:=by
 unfold ldK at hx
 have hp:Value.pointer (some (a.add o))=padd (.pointer (some a)) o:=rfl
 rw[hp]
 have hr:∀h',h=h'→Rd h' (.pointer (some a)) (LD.vs ks d.cs):=fun h' e=>e ▸ w3
 cases b with
 | true=>
  simp only at hx
  cases ht:Qbb k (Qaz o ks) with
  | none=>rw[ht] at hx;cases hx
  | some l=>
   rw[ht] at hx
   simp only[Option.some.injEq] at hx
   subst hx
   obtain⟨h5,h6⟩:=Qcd ht
   rw[Qbo] at h5 h6
   haveI:=Qjr hb
   haveI:=QbA hk
   obtain⟨e1,_⟩:=QaW w1
   have hlk:o+k≤ks.length:=by rw[List.length_drop] at h6;omega
   refine QF1 hr ⟨a,rfl⟩ (by rw[e1];exact hlk) ?_
   obtain⟨vs,g1,g2,g3,g4⟩:=QtB (E:=E) (d:=d) (cs:=d.cs) rfl w1 w2 l o fun j c hj=>by
    rw[h5,List.getElem?_take] at hj
    split at hj
    ·rw[List.getElem?_drop] at hj;exact hj
    ·cases hj
   have:((LD.vs ks d.cs).drop o).take k=vs:=by
    have hlen:l.length=k:=by rw[h5];simp;omega
    apply List.ext_getElem?
    intro j
    by_cases hj:j<k
    ·have hj':j<vs.length:=by omega
     have h7:vs[j]?=some vs[j]:=List.getElem?_eq_getElem hj'
     rw[List.getElem?_take,if_pos hj,List.getElem?_drop,g4 j _ h7,h7]
    ·rw[List.getElem?_take,if_neg hj]
     symm
     exact List.getElem?_eq_none (by omega)
   rw[this]
   simp only[den,g1]
   rw[if_pos g2]
 | false=>
  simp only at hx
  cases hh:hd? (Qaz o ks) with
  | none=>rw[hh] at hx;cases hx
  | some c=>
   rw[hh] at hx
   simp only[Option.some.injEq] at hx;subst hx
   haveI:=Qjr hb
   obtain⟨x,g1,g2,g3,g4⟩:=QCp w1 w2 (QeW hh)
   have hf:d.f o=x:=by
    have:d.cs[o]?=some x:=g1
    simp[LD.f,List.getD,this]
   rw[hf]
   exact QF2 hr g4 (Qg2 ⟨g2,g3⟩)
theorem QGp {E:Env}{th:TH}{h0 h:Heap}{L:List HP}(r:Rep E th h0 h L){t:TypeId}{k:Nat}{b:Bool}(hk:szO P t=some k)(hb:agO P t=some b)(hk0:0<k){n:Nat}{d:LD}{o:Nat}{y:FV}{v:Value}(hv:den E (.dn n d o)=some v)
  (hx:ldN k b n d o=some y):Qnx P t v (Eq h) fun v=>den E y=some v:=by
 obtain⟨f1,f2,rfl⟩:=QxX hv
 unfold ldN at hx
 cases hl:lyG n with
 | none=>rw[hl] at hx;cases hx
 | some ks=>
  rw[hl] at hx
  obtain⟨a,cs,rfl,w1,w2,w3⟩:=QKr f1 f2 (QaN hl)
  exact QGq (d:=.p a cs) hk hb hk0 w1 w2 (w3 h r.fz) hx
theorem QbS {ks:List CK}:∀ {es:List LD},wtE es ks→(LD.vsE ks es).length=es.length * ks.length
 | [],_=>by simp[LD.vsE]
 | e::es,h=>by
  simp only[wtE] at h
  have h1:=QbS h.2
  have h2:=h.1
  cases e<;>simp only[wtT] at h2
  have h3:=(QaW h2).1
  simp only[LD.vsE,List.flatMap_cons,List.length_append,List.length_cons] at h1 ⊢
  rw[h1]
  show (LD.vs ks _).length+_=_
  rw[show ∀c,(LD.t c).cs=c from fun _=>rfl,h3,Nat.succ_mul];omega
theorem QxG {R:Addr→List Value→Prop}{ks:List CK}:∀ {es:List LD}{n:Nat},wtE es ks→QI R es ks→n<es.length→∃cs,es[n]?=some (.t cs)∧wtL cs ks∧Q5 R cs ks∧((LD.vsE ks es).drop (n * ks.length)).take ks.length=LD.vs ks cs
 | [],n,_,_,h=>by simp at h
 | e::es,0,h1,h2,_=>by
  simp only[wtE,QI] at h1 h2
  have h3:=h1.1
  have h4:=h2.1
  cases e<;>simp only[wtT] at h3
  simp only[Qbz] at h4
  refine⟨_,rfl,h3,h4,?_⟩
  have h5:=(QaW h3).1
  simp only[LD.vsE,List.flatMap_cons,Nat.zero_mul,List.drop_zero]
  rw[show ∀c,(LD.t c).cs=c from fun _=>rfl,List.take_append_of_le_length (by omega),List.take_of_length_le (by omega)]
 | e::es,n+1,h1,h2,h=>by
  simp only[wtE,QI] at h1 h2
  obtain⟨cs,g1,g2,g3,g4⟩:=QxG (n:=n) h1.2 h2.2 (by simpa using h)
  refine⟨cs,by simpa using g1,g2,g3,?_⟩
  have h3:=h1.1
  cases e<;>simp only[wtT] at h3
  have h5:=(QaW h3).1
  simp only[LD.vsE,List.flatMap_cons]
  rw[show ∀c,(LD.t c).cs=c from fun _=>rfl,Nat.succ_mul,Nat.add_comm,←List.drop_drop,List.drop_append_of_le_length (by omega),List.drop_of_length_le (Nat.le_of_eq h5),List.nil_append]
  exact g4
theorem QCo {E:Env}{d:LD}{t:Nat}{ks:List CK}(h:Fz E d (.l t))(hn:0<d.len)(hl:Vb.ly[t]?=some ks):∃a c es,d=.l a c es∧wtE es ks∧QI E.rd es ks∧E.rd a (LD.vsE ks es)∧es.length≤c∧es.length≤maxL:=by
 obtain⟨h1,h2⟩:=h
 cases d<;>simp only[wt,LD.len,LD.es,List.length_nil,Nat.lt_irrefl] at h1 hn
 rename_i a c es
 simp only[lies] at h2
 rw[hl] at h1 h2
 exact⟨a,c,es,rfl,h1.2.2.2,h2.2,h2.1,h1.1,h1.2.1⟩
theorem QKs {E:Env}{d:LD}{t:Nat}(h:Fz E d (.l t)):d.len≤maxL:=by
 obtain⟨h1,h2⟩:=h
 cases d<;>simp only[wt,LD.len,LD.es,List.length_nil] at h1 ⊢<;>try (exact Nat.zero_le _)
 cases hl:Vb.ly[t]? with
 | none=>rw[hl] at h1;exact h1.elim
 | some ks=>rw[hl] at h1;exact h1.2.1
theorem QwG {E:Env}{a:Addr}{l:List Value}(h:E.rd a l)(n k:Nat):E.rd (a.add n) ((l.drop n).take k):=fun g hg=>((h g hg).drop n).take k
theorem QLr {E:Env}{d:LD}{t:Nat}{ks:List CK}{n:Int}(h:Fz E d (.l t))(hl:Vb.ly[t]?=some ks)(h0:0≤n)(h1:n<d.len):Fz E (d.at ks.length n) (.p t):=by
 obtain⟨a,c,es,rfl,w1,w2,w3,_⟩:=QCo h (by omega) hl
 have hlt:n.toNat<es.length:=by
  have:n<(es.length:Int):=h1
  omega
 obtain⟨cs,g1,g2,g3,g4⟩:=QxG w1 w2 hlt
 have e:(LD.l a c es).at ks.length n=.p (a.add (n.toNat * ks.length)) cs:=by
  simp only[LD.at,LD.ad,LD.es,List.getD,g1]
  rfl
 rw[e]
 refine⟨?_,?_⟩
 ·simp only[wt];rw[hl];exact g2
 ·simp only[lies];rw[hl]
  refine⟨?_,g3⟩
  have:=QwG w3 (n.toNat * ks.length) ks.length
  rw[g4] at this;exact this
def inC (n:SE)(lo:Int)(len:Nat):SC:=bif ile (.ofNat 0) lo then .lt n (.o (.ofNat len)) else .and (.le (.c (.ofNat 0)) n) (.lt n (.o (.ofNat len)))
theorem QCm {n:SE}{lo:Int}{len:Nat}(h:(inC n lo len).ev=true)(hl:lo≤n.ev):0≤n.ev∧n.ev<len:=by
 unfold inC at h
 cases hb:ile (.ofNat 0) lo with
 | true=>
  rw[hb] at h
  have h1:=Qbc hb
  have h2:=of_decide_eq_true h
  have e:(Int.ofNat 0:Int)=0:=rfl
  exact⟨by omega,h2⟩
 | false=>
  rw[hb] at h
  simp only[cond_false,SC.ev,Bool.and_eq_true] at h
  exact⟨of_decide_eq_true h.1,of_decide_eq_true h.2⟩
def altP (id k:Nat):Nat→Nat→List FV
 | _,0=>[]
 | off,n+1=>.ptr id off::altP id k (off+k) n
theorem QwC (id k:Nat):∀(n off:Nat),(altP id k off n).length=n
 | 0,_=>rfl
 | n+1,off=>by simp[altP,QwC id k n]
theorem QwD (id k:Nat):∀(n off j:Nat),j<n→(altP id k off n).getD j .nilp=.ptr id (off+j * k)
 | 0,_,j,h=>by omega
 | n+1,off,0,_=>by simp[altP]
 | n+1,off,j+1,h=>by
  simp only[altP,List.getD_cons_succ]
  rw[QwD id k n (off+k) j (by omega),Nat.succ_mul]
  congr 1;omega
def QFh (th:Tr TO)(k:Nat)(x i:FV):Option FV:=match x with
 | .sl id off _ len _=>match zbn i with
  | some (_,n,_,_)=>some (.alt n (altP id k off len))
  | none=>none
 | .os t id=>match th.get id with
  | some (.row t' es)=>match zbn i with
   | some (_,n,lo,_)=>match lyG t with
    | some ks=>bif Nat.beq t t'&&Nat.beq k ks.length then some (.obl (inC n lo es.length) (.oe t id n.ev 0)) else none
    | none=>none
   | none=>none
  | _=>none
 | .ds t d=>match zbn i with
  | some (_,n,lo,_)=>match lyG t with
   | some ks=>bif Nat.beq k ks.length then some (.obl (inC n lo d.len) (.dn t (d.at k n.ev) 0)) else none
   | none=>none
  | none=>none
 | _=>none
def byteAt (s:Str)(n:Int):Int:=.ofNat (s.getD n.toNat 0).toNat
def strV:FV→Option Str
 | .str l=>bif Q0 l&&Nat.ble l.length 1000000 then some (l.map UInt8.ofNat) else none
 | .sstr s=>some s
 | .sx l=>bif Nat.ble l.length 1000000 then some (l.map sbU) else none
 | _=>none
theorem QgQ {E:Env}{x:FV}{s:Str}{v:Value}(h:strV x=some s)(hd:den E x=some v):v=str s∧s.length≤maxL:=by
 have big:∀n,Nat.ble n 1000000=true→n≤maxL:=fun n h=>by
  have:=Qag h
  have e:maxL=9223372036854775807:=by unfold maxL;rfl
  omega
 cases x<;>simp only[strV] at h<;>try (cases h;done)
 ·simp only[Option.some.injEq] at h;subst h;exact⟨(Qjh hd).2,(Qjh hd).1⟩
 ·rename_i l
  cases hb:Nat.ble l.length 1000000 with
  | false=>rw[hb] at h;cases h
  | true=>rw[hb] at h;simp only[cond_true,Option.some.injEq] at h;subst h;exact⟨(QmO hd).2,by rw[List.length_map];exact big _ hb⟩
 ·rename_i l
  obtain⟨h1,h2⟩:=Qcr hd
  cases hb:Nat.ble l.length 1000000 with
  | false=>rw[h1,hb] at h;cases h
  | true=>rw[h1,hb] at h;simp only[Bool.and_self,cond_true,Option.some.injEq] at h;subst h;exact⟨h2,by rw[List.length_map];exact big _ hb⟩
def idxN (x i:FV):Option FV:=match strV x with
 | some s=>match zbn i with
  | some (_,n,lo,_)=>some (.obl (inC n lo s.length) (.sy .u8 (.o (byteAt s n.ev)) (.ofNat 0) (.ofNat 255)))
  | none=>none
 | none=>none
def Qxo:Int:=.ofNat maxL
def binN (op:BinOp)(x y:FV):Option FV:=match strV x with
 | some a=>match strV y with
  | some b=>match op with
   | .add=>some (.obl (.le (.o (.ofNat (a.length+b.length))) (.c Qxo)) (.sstr (a++b)))
   | .eql=>some (.sb (.sq a b))
   | .neq=>some (.sb (.no (.sq a b)))
   | .lss=>some (.sb (.o (Op.bytesLess a b)))
   | .leq=>some (.sb (.o (Op.bytesLess a b||decide (a=b))))
   | .gtr=>some (.sb (.o (!(Op.bytesLess a b||decide (a=b)))))
   | .geq=>some (.sb (.o (!(Op.bytesLess a b))))
   | _=>none
  | none=>none
 | none=>match zbn x with
  | some (k,a,la,ha)=>match zbn y with
   | some (k',b,_,_)=>bif keq k k' then (match op with
    | .quo=>some (.obl (.no (.eq b (.c (.ofNat 0)))) (wrZ k (.quo a b)))
    | .rem=>some (.obl (.no (.eq b (.c (.ofNat 0)))) (.sy k (.rem a b) (bif ile (.ofNat 0) la then .ofNat 0 else la) (bif ile (.ofNat 0) ha then ha else .ofNat 0)))
    | _=>none) else none
   | none=>none
  | none=>none
theorem QG9 (a b:Int):(0≤a→0≤a.tmod b∧a.tmod b≤a)∧(a≤0→a≤a.tmod b∧a.tmod b≤0):=by
 have pos:∀m n:Nat,((m % n:Nat):Int)≤m:=fun m n=>Int.ofNat_le.2 (Nat.mod_le _ _)
 have key:∀m:Nat,0≤(m:Int).tmod b∧(m:Int).tmod b≤m:=fun m=>by
  rcases Int.eq_nat_or_neg b with⟨n,rfl | rfl⟩
  ·rw[←Int.ofNat_tmod];exact⟨Int.natCast_nonneg _,pos m n⟩
  ·rw[Int.tmod_neg,←Int.ofNat_tmod];exact⟨Int.natCast_nonneg _,pos m n⟩
 refine⟨fun h=>?_,fun h=>?_⟩
 ·obtain⟨m,rfl⟩:=Int.eq_ofNat_of_zero_le h;exact key m
 ·obtain⟨m,hm⟩:=Int.eq_ofNat_of_zero_le (show 0≤-a by omega)
  have e:a=-(m:Int):=by omega
  subst e
  rw[Int.neg_tmod]
  have:=key m
  omega
theorem QFK {E:Env}(c:SC):den E (.sb c)=some (.bool c.ev):=rfl
theorem QJE {E:Env}{op:BinOp}{t:TypeId}{x y:Operand}{a b:FV}{u v:Value}{r:FV}(hu:den E a=some u)(hv:den E b=some v)(h:binN op a b=some r)(ho:obH r) :
  oBin P op t x y u v fun w=>den E (strip r)=some w:=by
 unfold binN at h
 cases ha:strV a with
 | some s1=>
  cases hb:strV b with
  | none=>rw[ha,hb] at h;cases h
  | some s2=>
   rw[ha,hb] at h
   simp only at h
   have e1:=(QgQ ha hu).1
   have e2:=(QgQ hb hv).1
   subst e1 e2
   have e3:∀a b:List UInt8,(a == b)=decide (a=b):=fun a b=>by rw[Bool.eq_iff_iff];simp
   cases op<;>simp only[Option.some.injEq] at h<;>try (cases h;done)
   case add=>
    subst h
    have h1:(s1.length+s2.length:Nat)≤maxL:=by
     have:=of_decide_eq_true ho
     simp only[SE.ev,Qxo] at this
     exact Int.ofNat_le.1 this
    refine (QcD (v:=str (s1++s2)) fun w=>?_).2 ?_
    ·have h2:¬(((s1.length+s2.length:Nat):Int) > IntKind.i64.max):=by
      have:IntKind.i64.max=9223372036854775807:=by decide
      have e:maxL=9223372036854775807:=by unfold maxL;rfl
      omega
     have hs:∀l:List UInt8,(⟨l.toArray⟩:ByteArray).size=l.length:=fun l=>List.size_toArray
     simp only[Op.stringOp,hs,h2,if_false]
     have:((⟨s1.toArray⟩:ByteArray)++⟨s2.toArray⟩)=⟨(s1++s2).toArray⟩:=by
      apply ByteArray.ext
      simp[ByteArray.data_append]
     rw[this]
     rfl
    ·simp only[strip,den]
     rw[if_pos (by simpa using h1)]
   case eql=>subst h;rw[QhW];rfl
   case neq=>subst h;rw[QhV];simp only[strip,QFK,SC.ev,decide_not]
   case lss=>subst h;exact (QcD fun w=>by simp only[Op.stringOp,toList_mk];rfl).2 rfl
   case leq=>subst h;exact (QcD fun w=>by simp only[Op.stringOp,toList_mk,e3];rfl).2 rfl
   case gtr=>subst h;exact (QcD fun w=>by simp only[Op.stringOp,toList_mk,e3];rfl).2 rfl
   case geq=>subst h;exact (QcD fun w=>by simp only[Op.stringOp,toList_mk];rfl).2 rfl
 | none=>
  rw[ha] at h
  simp only at h
  cases hx:zbn a with
  | none=>rw[hx] at h;cases h
  | some p=>
   obtain⟨k,n,la,ua⟩:=p
   cases hy:zbn b with
   | none=>rw[hx,hy] at h;cases h
   | some q=>
    obtain⟨k',m,lb,ub⟩:=q
    rw[hx,hy] at h
    simp only at h
    cases hk:keq k k' with
    | false=>rw[hk] at h;cases h
    | true=>
     have:=QdB hk;subst this
     rw[hk,cond_true] at h
     obtain⟨rfl,g1⟩:=Qcl hx hu
     obtain⟨rfl,g2⟩:=Qcl hy hv
     cases op<;>simp only[Option.some.injEq] at h<;>try (cases h;done)
     case quo=>
      subst h
      have hn:m.ev≠0:=by
       intro e
       simp only[obH,SC.ev,SE.ev,e] at ho
       exact absurd ho (by decide)
      rw[QpU hn]
      exact Qtk
     case rem=>
      subst h
      have hn:m.ev≠0:=by
       intro e
       simp only[obH,SC.ev,SE.ev,e] at ho
       exact absurd ho (by decide)
      rw[QvR hn]
      simp only[strip,den]
      refine if_pos ?_
      obtain⟨t1,t2⟩:=QG9 n.ev m.ev
      have e0:(Int.ofNat 0:Int)=0:=rfl
      have e:SE.ev (.rem n m)=n.ev.tmod m.ev:=rfl
      rw[e]
      cases h1:ile (.ofNat 0) la with
      | true=>
       have h1:=Qbc h1
       have t1:=t1 (by omega)
       cases h2:ile (.ofNat 0) ua with
       | true=>simp only[cond_true];omega
       | false=>
        exfalso
        have:¬(Int.ofNat 0≤ua):=fun hh=>by simp only[ile,Qd5] at h2;simp at h2;omega
        omega
      | false=>
       simp only[cond_false]
       cases h2:ile (.ofNat 0) ua with
       | true=>
        have h2:=Qbc h2
        simp only[cond_true]
        rcases Int.le_total 0 n.ev with h3 | h3
        ·have:=t1 h3
         have:¬(Int.ofNat 0≤la):=fun hh=>by simp only[ile,Qd5] at h1;simp at h1;omega
         omega
        ·have:=t2 h3;omega
       | false=>
        simp only[cond_false]
        have:¬(Int.ofNat 0≤ua):=fun hh=>by simp only[ile,Qd5] at h2;simp at h2;omega
        have:=t2 (by omega);omega
theorem QI6 {E:Env}{t:TypeId}(hu':P.underlying t=some .string){a b:FV}{u v:Value}{r:FV}(hu:den E a=some u)(hv:den E b=some v)(h:idxN a b=some r)(ho:obH r) :
  QrX P t u v fun w=>den E (strip r)=some w:=by
 unfold idxN at h
 cases ha:strV a with
 | none=>rw[ha] at h;cases h
 | some s=>
  cases hy:zbn b with
  | none=>rw[ha,hy] at h;cases h
  | some q=>
   obtain⟨k,n,lo,hi⟩:=q
   rw[ha,hy] at h
   simp only[Option.some.injEq] at h;subst h
   have e1:=(QgQ ha hu).1
   subst e1
   obtain⟨rfl,g1,g2⟩:=Qcl hy hv
   obtain⟨h1,h2⟩:=QCm ho g1
   haveI:Und P t .string:=⟨hu'⟩
   have hlt:n.ev.toNat<s.length:=by omega
   have h3:s[n.ev.toNat]?=some s[n.ev.toNat]:=List.getElem?_eq_getElem hlt
   refine (QpT h1 h3).2 ?_
   simp only[strip,den]
   have e2:byteAt s n.ev=(s[n.ev.toNat].toNat:Int):=by
    simp only[byteAt,List.getD,h3,Option.getD_some];rfl
   have h4:=s[n.ev.toNat].toNat_lt
   rw[SE.ev,e2]
   have e0:(Int.ofNat 0:Int)=0:=rfl
   have e5:(Int.ofNat 255:Int)=255:=rfl
   exact if_pos (by omega)
theorem QEd {t e:TypeId}(hu':P.underlying t=some (.slice e)){k:Nat}(hk:szO P e=some k){a:Addr}{len c:Nat}{ik:IntKind}{n:Int}(h0:0≤n)(h1:n<len)(w:World) :
  (Instr.indexAt t (.slice (some a) len c) (.int ik n)).run P w=.ok (.pointer (some (a.add (n.toNat * k)))) w:=by
 haveI is:=QbA hk
 simp only[Instr.indexAt,asIntOf,pure_bind]
 rw[Sem.run_bind,run_underlying hu',Result.andThen_ok]
 have hs:=is.run w
 have hu2:=run_underlying hu' w
 simp[hu2,h0,h1,hs]
theorem Rep.row {E:Env}{th:TH}{h0 h:Heap}{L:List HP}(r:Rep E th h0 h L){i t:Nat}{es:List LD}(hg:th.t.get i=some (.row t es)) :
  ∃a v ks,Qju E i t es a v ks∧IsSl v es.length∧Rd h (Qc1 v) (LD.vsE ks es)∧(0<es.length→∃b c,v=.slice (some b) es.length c):=by
 obtain⟨a,v,ks,hw,s⟩:=r.toldW hg
 obtain⟨h1,h2,h3⟩:=s.row
 refine⟨a,v,ks,hw,h1,h3,fun hp=>?_⟩
 obtain⟨b,c,post,hv,_⟩:=s.rowOpen hp
 exact⟨b,c,hv⟩
theorem QHy {E:Env}{th:TH}{h0 h:Heap}{L:List HP}(rr:Rep E th h0 h L){t e:TypeId}(hu':P.underlying t=some (.slice e)){k:Nat}(hk:szO P e=some k){a b:FV}{u v:Value}{r:FV}(hu:den E a=some u)(hv:den E b=some v)(h:QFh th.t k a b=some r)(ho:obH r) :
  oIdx P t u v fun w=>den E (strip r)=some w:=by
 cases a<;>simp only[QFh] at h<;>try (cases h;done)
 case sl id off offz len cap=>
  cases hy:zbn b with
  | none=>rw[hy] at h;cases h
  | some q=>
   obtain⟨ik,n,lo,hi⟩:=q
   rw[hy] at h
   simp only[Option.some.injEq] at h;subst h
   obtain⟨rfl,g1,g2⟩:=Qcl hy hv
   obtain⟨h1,h2⟩:=ho
   rw[QwC] at h2
   have h2:n.ev<(len:Int):=h2
   obtain⟨ad,c,hp,hvv⟩:=Qy5 hu (by omega)
   have hd:den E (strip (.alt n (altP id k off len)))=some (.pointer (some ((ad.add off).add (n.ev.toNat * k)))):=by
    simp only[strip]
    rw[QwD id k len off _ (by omega)]
    simp only[den,hp,add_add]
   exact⟨_,fun w=>QA (by rw[hvv];exact QEd hu' hk h1 h2 w),hd⟩
 case os tt id=>
  cases hg:th.t.get id with
  | none=>rw[hg] at h;cases h
  | some ob=>
   rw[hg] at h
   cases ob<;>try (cases h;done)
   rename_i t' es
   simp only at h
   cases hy:zbn b with
   | none=>rw[hy] at h;cases h
   | some q=>
    obtain⟨ik,n,lo,hi⟩:=q
    rw[hy] at h
    simp only at h
    cases hl:lyG tt with
    | none=>rw[hl] at h;cases h
    | some ks=>
     rw[hl] at h
     simp only at h
     cases hb:Nat.beq tt t'&&Nat.beq k ks.length with
     | false=>rw[hb] at h;cases h
     | true=>
      rw[hb] at h
      simp only[cond_true,Option.some.injEq] at h;subst h
      simp only[Bool.and_eq_true] at hb
      have e1:=Qm hb.1
      have e2:=Qm hb.2
      subst e1 e2
      obtain⟨rfl,g1,g2⟩:=Qcl hy hv
      obtain⟨h1,h2⟩:=QCm ho g1
      obtain⟨a,v,ks',hw,hsl,hrd,hne⟩:=rr.row hg
      obtain⟨bb,c,rfl⟩:=hne (by omega)
      obtain⟨_,hs,_⟩:=Qe4 hu
      have hu2:u=.slice (some bb) es.length c:=hs.symm.trans hw.s
      subst hu2
      have hz:szT tt=ks.length:=by simp[szT,QaN hl]
      have hd:den E (.oe tt id n.ev 0)=some (.pointer (some (bb.add (n.ev.toNat * ks.length)))):=by
       simp only[den,hw.p,hw.s]
       rw[if_pos ⟨h1,h2⟩,hz,Nat.add_zero]
      exact⟨_,fun w=>QA (QEd hu' hk h1 h2 w),hd⟩
 rename_i tt d
 cases hy:zbn b with
 | none=>rw[hy] at h;cases h
 | some q=>
  obtain⟨ik,n,lo,hi⟩:=q
  rw[hy] at h
  simp only at h
  cases hl:lyG tt with
  | none=>rw[hl] at h;cases h
  | some ks=>
   rw[hl] at h
   simp only at h
   cases hb:Nat.beq k ks.length with
   | false=>rw[hb] at h;cases h
   | true=>
    rw[hb] at h
    simp only[cond_true,Option.some.injEq] at h;subst h
    have ek:=Qm hb;subst ek
    obtain⟨f1,rfl⟩:=QgG hu
    obtain⟨rfl,g1,g2⟩:=Qcl hy hv
    obtain⟨h1,h2⟩:=QCm ho g1
    have hat:=QLr f1 (QaN hl) h1 h2
    obtain⟨ad,c,es,rfl,w1,w2,w3,w4,w5⟩:=QCo f1 (by omega) (QaN hl)
    haveI is:=QbA hk
    have hd:den E (.dn tt ((LD.l ad c es).at ks.length n.ev) 0)=some (.pointer (some (ad.add (n.ev.toNat * ks.length)))):=by
     simp only[den]
     rw[if_pos ⟨hat,rfl⟩]
     simp only[LD.at,LD.ad,add_zero]
    have hlt:n.ev<(es.length:Int):=h2
    refine⟨.pointer (some (ad.add (n.ev.toNat * ks.length))),fun w=>QA ?_,hd⟩
    simp only[LD.v,Instr.indexAt,asIntOf,pure_bind]
    rw[Sem.run_bind,run_underlying hu',Result.andThen_ok]
    have hs:=is.run w
    have hu2:=run_underlying hu' w
    have e1:(0:Int)≤n.ev:=h1
    simp[hu2,e1,hlt,hs]
def nsC (neg:Bool)(d:LD):SC:=match neg with
  | true=>.o d.is
  | false=>.no (.o d.is)
def bEq (neg:Bool):BinOp:=match neg with
  | true=>.neq
  | false=>.eql
def eqbN (kd:EqK)(neg:Bool)(x y:FV):Option FV:=(fun r:LD→Option FV=>match kd with
 | .p=>match x with
  | .dp _ d=>match y with
   | .nilp=>r d
   | _=>none
  | .nilp=>match y with
   | .dp _ d=>r d
   | _=>none
  | _=>none
 | .s=>match x with
  | .ds _ d=>match y with
   | .nsl=>r d
   | _=>none
  | .nsl=>match y with
   | .ds _ d=>r d
   | _=>none
  | _=>none
 | _=>none) fun d=>some (.sb (nsC neg d))
def env1 (a:Addr):Env:=⟨fun _=>some a,fun _=>0,fun _=>false,#[],[],fun _=>.pointer none⟩
def ofP:LD→FV
 | .p _ _=>.ptr 0 0
 | _=>.nilp
def ofS:LD→FV
 | .l _ c es=>.sl 0 0 0 es.length (.lit c)
 | _=>.nsl
theorem QD1 (d:LD)(t:Nat):den (env1 d.ad) (ofP d)=some (LD.v (.p t) d):=by
 cases d<;>simp[ofP,den,env1,LD.v,LD.ad,add_zero]
theorem QD0 (d:LD)(t:Nat):den (env1 d.ad) (ofS d)=some (LD.v (.l t) d):=by
 cases d<;>simp[ofS,den,env1,LD.v,LD.ad,add_zero]
theorem QJh {E:Env}{neg:Bool}{t:TypeId}{d:TypeDesc}{kd:EqK}{x y:Operand}{a b:FV}{u v:Value}{r:FV}(hd:P.underlying t=some d)(he:eqT d=some kd)(hu:den E a=some u)(hv:den E b=some v)(h:eqbN kd neg a b=some r) :
  oBin P (bEq neg) t x y u v fun w=>den E r=some w:=by
 have fin:∀(q:LD) (F:Env) (a' b':FV),den F a'=some u→den F b'=some v→eqbF kd a' b'=some (!q.is)→some (FV.sb (nsC neg q))=some r →
   oBin P (bEq neg) t x y u v fun w=>den E r=some w:=fun q F a' b' h1 h2 h3 h4=>by
  obtain⟨w,g1,g2⟩:=QGH (neg:=neg) (x:=x) (y:=y) hd he h1 h2 h3
  simp only[Option.some.injEq] at h4;subst h4
  refine⟨w,g1,?_⟩
  rw[g2]
  cases neg<;>simp[QFK,SC.ev,nsC]
 have wp:∀ {q:LD}{n:Nat},Fz E q (.p n)→q.is=true→∃a cs,q=.p a cs:=fun {q n} h hi=>by
  have h1:=h.1
  cases q<;>simp only[wt,LD.is] at h1 hi<;>first | (cases hi;done) | exact⟨_,_,rfl⟩
 have ws:∀ {q:LD}{n:Nat},Fz E q (.l n)→q.is=true→∃a c es,q=.l a c es:=fun {q n} h hi=>by
  have h1:=h.1
  cases q<;>simp only[wt,LD.is] at h1 hi<;>first | (cases hi;done) | exact⟨_,_,_,rfl⟩
 have ep:∀ {q:LD}{n:Nat},Fz E q (.p n)→eqbF .p (ofP q) .nilp=some (!q.is)∧eqbF .p .nilp (ofP q)=some (!q.is):=fun {q n} h=>by
  cases hi:q.is with
  | true=>obtain⟨a,cs,rfl⟩:=wp h hi;exact⟨rfl,rfl⟩
  | false=>cases q<;>first | exact⟨rfl,rfl⟩ | (cases hi;done)
 have es:∀ {q:LD}{n:Nat},Fz E q (.l n)→eqbF .s (ofS q) .nsl=some (!q.is)∧eqbF .s .nsl (ofS q)=some (!q.is):=fun {q n} h=>by
  cases hi:q.is with
  | true=>obtain⟨a,c,e,rfl⟩:=ws h hi;exact⟨rfl,rfl⟩
  | false=>cases q<;>first | exact⟨rfl,rfl⟩ | (cases hi;done)
 unfold eqbN at h
 cases kd<;>simp only at h<;>try (cases h;done)
 ·cases a<;>simp only at h<;>try (cases h;done)
  ·cases b<;>simp only at h<;>try (cases h;done)
   rename_i n q
   simp only[den,Option.some.injEq] at hu
   obtain⟨f,rfl⟩:=QsN hv
   exact fin q (env1 q.ad) .nilp (ofP q) (by simp only[den,hu]) (QD1 q n) (ep f).2 h
  ·cases b<;>simp only at h<;>try (cases h;done)
   rename_i n q
   simp only[den,Option.some.injEq] at hv
   obtain⟨f,rfl⟩:=QsN hu
   exact fin q (env1 q.ad) (ofP q) .nilp (QD1 q n) (by simp only[den,hv]) (ep f).1 h
 ·cases a<;>simp only at h<;>try (cases h;done)
  ·cases b<;>simp only at h<;>try (cases h;done)
   rename_i n q
   simp only[den,Option.some.injEq] at hu
   obtain⟨f,rfl⟩:=QgG hv
   exact fin q (env1 q.ad) .nsl (ofS q) (by simp only[den,hu]) (QD0 q n) (es f).2 h
  ·cases b<;>simp only at h<;>try (cases h;done)
   rename_i n q
   simp only[den,Option.some.injEq] at hv
   obtain⟨f,rfl⟩:=QgG hu
   exact fin q (env1 q.ad) (ofS q) .nsl (QD0 q n) (by simp only[den,hv]) (es f).1 h
def bdN (fr:Fr):Option Opd→Option (Option SE)
 | none=>some none
 | some o=>match evO fr o with
  | some v=>match zbn v with
   | some (_,n,_,_)=>some (some n)
   | none=>none
  | none=>none
def bdC (len:Nat):Option SE→Option SE→SC
 | none,none=>.o true
 | some a,none=>.and (.le (.c (.ofNat 0)) a) (.le a (.o (.ofNat len)))
 | none,some b=>.and (.le (.c (.ofNat 0)) b) (.le b (.o (.ofNat len)))
 | some a,some b=>.and (.le (.c (.ofNat 0)) a) (.and (.le a b) (.le b (.o (.ofNat len))))
def bdS (s:Str):Option SE→Option SE→Str
 | none,none=>s
 | some a,none=>s.drop a.ev.toNat
 | none,some b=>s.take b.ev.toNat
 | some a,some b=>(s.take b.ev.toNat).drop a.ev.toNat
def slcN (x:FV)(a b:Option SE):Option FV:=match strV x with
 | some s=>some (.obl (bdC s.length a b) (.sstr (bdS s a b)))
 | none=>none
def toN:Option SE→Option Nat
 | none=>none
 | some n=>some n.ev.toNat
theorem Qpf {E:Env}{fr:Fr}{ρ:Operand→Value}(hρ:AgO E fr ρ){x:Option Operand}{z:Option Opd}{r:Option SE}(hc:c1O x=some z)(hx:bdN fr z=some r)(h0:∀n,r=some n→0≤n.ev):OI (toN r) (x.map ρ):=by
 cases x with
 | none=>
  simp only[c1O,Option.some.injEq] at hc;subst hc
  simp only[bdN,Option.some.injEq] at hx;subst hx
  rfl
 | some x=>
  simp only[c1O] at hc
  cases ha:c1 x with
  | none=>rw[ha] at hc;cases hc
  | some a=>
   rw[ha] at hc;simp only[Option.some.injEq] at hc;subst hc
   simp only[bdN] at hx
   cases hv:evO fr a with
   | none=>rw[hv] at hx;cases hx
   | some v=>
    rw[hv] at hx
    simp only at hx
    cases hz:zbn v with
    | none=>rw[hz] at hx;cases hx
    | some q=>
     obtain⟨k,n,lo,hi⟩:=q
     rw[hz] at hx
     simp only[Option.some.injEq] at hx;subst hx
     have h1:=h0 n rfl
     obtain⟨h2,_⟩:=Qcl hz (hρ x a v ha hv)
     refine⟨k,?_⟩
     simp only[Option.map_some,h2]
     congr 2
     omega
theorem QlQ {a b:SE}(h:(SC.le a b).ev=true):a.ev≤b.ev:=of_decide_eq_true h
theorem Qpg {a b:SC}(h:(SC.and a b).ev=true):a.ev=true∧b.ev=true:=by simpa only [SC.ev,Bool.and_eq_true] using h
theorem QC4 {len:Nat}{a b:Option SE}(h:(bdC len a b).ev=true):(∀n,a=some n→0≤n.ev)∧(∀n,b=some n→0≤n.ev)∧gD (toN b) len≤len∧gD (toN a) 0≤gD (toN b) len:=by
 have no:∀n:SE,(none:Option SE)=some n→0≤n.ev:=fun n h=>by cases h
 have ys:∀ {m:SE},0≤m.ev→∀n:SE,some m=some n→0≤n.ev:=fun h0 n h=>by cases h;exact h0
 have e0:(Int.ofNat 0:Int)=0:=rfl
 have e1:(Int.ofNat len:Int)=(len:Int):=rfl
 cases a with
 | none=>cases b with
  | none=>exact⟨no,no,Nat.le_refl _,Nat.zero_le _⟩
  | some b=>
   obtain⟨h1,h2⟩:=Qpg h
   have h1:Int.ofNat 0≤b.ev:=QlQ h1
   have h2:b.ev≤Int.ofNat len:=QlQ h2
   refine⟨no,ys (by omega),?_,?_⟩<;>simp only[toN,Qdg,QeC]<;>omega
 | some a=>cases b with
  | none=>
   obtain⟨h1,h2⟩:=Qpg h
   have h1:Int.ofNat 0≤a.ev:=QlQ h1
   have h2:a.ev≤Int.ofNat len:=QlQ h2
   refine⟨ys (by omega),no,?_,?_⟩<;>simp only[toN,Qdg,QeC]<;>omega
  | some b=>
   obtain⟨h1,h2⟩:=Qpg h
   obtain⟨h2,h3⟩:=Qpg h2
   have h1:Int.ofNat 0≤a.ev:=QlQ h1
   have h2:a.ev≤b.ev:=QlQ h2
   have h3:b.ev≤Int.ofNat len:=QlQ h3
   refine⟨ys (by omega),ys (by omega),?_,?_⟩<;>simp only[toN,Qdg,QeC]<;>omega
theorem QGU (s:Str)(a b:Option SE):bdS s a b=(s.take (gD (toN b) s.length)).drop (gD (toN a) 0):=by
 cases a<;>cases b<;>simp[bdS,toN,QeC,Qdg]
theorem QIH {E:Env}{t:TypeId}(hu':P.underlying t=some .string){fr:Fr}{ρ:Operand→Value}(hρ:AgO E fr ρ){lo hi:Option Operand}{lo' hi':Option Opd}{a b:Option SE}(h1:c1O lo=some lo')(h2:c1O hi=some hi')(ha:bdN fr lo'=some a)(hb:bdN fr hi'=some b)
  {x r:FV}{v:Value} (hv:den E x=some v) (h:slcN x a b=some r) (ho:obH r):QfD P t v (lo.map ρ) (hi.map ρ) none fun w=>den E (strip r)=some w:=by
 unfold slcN at h
 cases hs:strV x with
 | none=>rw[hs] at h;cases h
 | some s=>
  rw[hs] at h
  simp only[Option.some.injEq] at h;subst h
  obtain⟨rfl,hl⟩:=QgQ hs hv
  obtain⟨g1,g2,g3,g4⟩:=QC4 ho
  refine⟨_,fun w=>QA (Qyp hu' (Qpf hρ h1 ha g1) (Qpf hρ h2 hb g2) g3 g4 w),?_⟩
  rw[←QGU]
  simp only[strip,den]
  refine if_pos ?_
  rw[QGU]
  simp only[List.length_drop,List.length_take]
  omega
def shrN (x y:FV):Option FV:=match zbn x with
 | some (k,n,lo,hi)=>match y with
  | .int _ b=>match b with
   | .ofNat m=>some (.sy k (.div n (.c (2 ^ (Nat.min m k.bits)))) (lo / 2 ^ (Nat.min m k.bits)) (hi / 2 ^ (Nat.min m k.bits)))
   | _=>none
  | _=>none
 | none=>none
def binY (op:BinOp)(x y:FV):Option FV:=match op with
 | .shr=>shrN x y
 | op=>binN op x y
theorem QJC {E:Env}{op:BinOp}{t:TypeId}{x y:Operand}{a b:FV}{u v:Value}{r:FV}(hu:den E a=some u)(hv:den E b=some v)(h:binY op a b=some r)(ho:obH r) :
  oBin P op t x y u v fun w=>den E (strip r)=some w:=by
 by_cases ho':op=.shr
 ·subst ho'
  simp only[binY,shrN] at h
  cases hx:zbn a with
  | none=>rw[hx] at h;cases h
  | some p=>
   obtain⟨k,n,lo,hi⟩:=p
   rw[hx] at h
   simp only at h
   cases b<;>try (cases h;done)
   rename_i k' b
   cases b with
   | negSucc m=>cases h
   | ofNat m=>
    simp only[Option.some.injEq] at h;subst h
    obtain⟨rfl,g1,g2⟩:=Qcl hx hu
    simp only[den,Option.some.injEq] at hv;subst hv
    have hp:(0:Int)<2 ^ (Nat.min m k.bits):=Int.pow_pos (by decide)
    refine Sp.of (v:=.int k (n.ev / 2 ^ (Nat.min m k.bits))) (fun w=>QA ?_) ?_
    ·have h0:¬(Int.ofNat m<0):=by simp
     have h1:(Int.ofNat m).toNat=m:=rfl
     simp only[eqGuard,binOp,Op.shift,if_neg h0,h1]
     show Result.ok _ _=Result.ok _ _
     congr 2
     exact Int.fdiv_eq_ediv_of_nonneg _ (Int.le_of_lt hp)
    ·simp only[strip,den,SE.ev]
     exact if_pos ⟨Int.ediv_le_ediv hp g1,Int.ediv_le_ediv hp g2⟩
 ·have e:binY op a b=binN op a b:=by unfold binY;split<;>first | rfl | exact absurd rfl ho'
  rw[e] at h
  exact QJE hu hv h ho
def QA4 (k:Nat)(ad:Addr)(es:List LD)(lo hi mx:Nat):LD:=.l (bif Nat.beq mx lo then ad else ad.add (lo * k)) (mx - lo) ((es.take hi).drop lo)
def LD.sub (d:LD)(k:Nat)(a b c:Option Nat):LD:=match d with
 | .l ad cap es=>QA4 k ad es (gD a 0) (gD b es.length) (gD c cap)
 | d=>d
def sbC (len:Nat)(a b c:Option SE):SC:=match c with
 | none=>bdC len a b
 | some m=>match b with
  | none=>.o false
  | some b=>.and (bdC len a (some b)) (.and (.le b m) (.le m (.o (.ofNat len))))
def slcD (k:Nat)(x:FV)(a b c:Option SE):Option FV:=match x with
 | .ds t d=>match lyG t with
  | some ks=>bif Nat.beq k ks.length then some (.obl (sbC d.len a b c) (.ds t (d.sub k (toN a) (toN b) (toN c)))) else none
  | none=>none
 | _=>none
theorem QJ7 {len:Nat}{a b c:Option SE}(h:(sbC len a b c).ev=true):(∀n,a=some n→0≤n.ev)∧(∀n,b=some n→0≤n.ev)∧(∀n,c=some n→0≤n.ev)∧(c=none∨b≠none) ∧
  gD (toN b) len≤len∧gD (toN a) 0≤gD (toN b) len∧(c=none∨gD (toN b) len≤gD (toN c) 0∧gD (toN c) 0≤len):=by
 cases c with
 | none=>
  obtain⟨g1,g2,g3,g4⟩:=QC4 h
  exact⟨g1,g2,fun n h=>(by cases h),.inl rfl,g3,g4,.inl rfl⟩
 | some m=>
  cases b with
  | none=>simp only[sbC,SC.ev] at h;cases h
  | some b=>
   obtain⟨h1,h2⟩:=Qpg h
   obtain⟨h2,h3⟩:=Qpg h2
   obtain⟨g1,g2,g3,g4⟩:=QC4 h1
   have h2:b.ev≤m.ev:=QlQ h2
   have h3:m.ev≤Int.ofNat len:=QlQ h3
   have h4:=g2 b rfl
   have e1:(Int.ofNat len:Int)=(len:Int):=rfl
   refine⟨g1,g2,fun n h=>(by cases h;omega),.inr (by simp),g3,g4,.inr ?_⟩
   simp only[toN,Qdg]
   omega
theorem QBs {a:Option SE}:toN a=none↔a=none:=by cases a<;>simp[toN]
theorem Qi5 {ks:List CK}:∀ {es:List LD}(n:Nat),wtE es ks→wtE (es.take n) ks
 | [],n,_=>by simp[wtE]
 | e::es,0,_=>by simp[wtE]
 | e::es,n+1,h=>by simp only[wtE,List.take_succ_cons] at h ⊢;exact⟨h.1,Qi5 n h.2⟩
theorem QBj {ks:List CK}:∀ {es:List LD}(n:Nat),wtE es ks→wtE (es.drop n) ks
 | [],n,_=>by simp[wtE]
 | e::es,0,h=>by simpa using h
 | e::es,n+1,h=>by simp only[wtE,List.drop_succ_cons] at h ⊢;exact QBj n h.2
theorem QpY {R:Addr→List Value→Prop}{ks:List CK}:∀ {es:List LD}(n:Nat),QI R es ks→QI R (es.take n) ks
 | [],n,_=>by simp[QI]
 | e::es,0,_=>by simp[QI]
 | e::es,n+1,h=>by simp only[QI,List.take_succ_cons] at h ⊢;exact⟨h.1,QpY n h.2⟩
theorem Qxs {R:Addr→List Value→Prop}{ks:List CK}:∀ {es:List LD}(n:Nat),QI R es ks→QI R (es.drop n) ks
 | [],n,_=>by simp[QI]
 | e::es,0,h=>by simpa using h
 | e::es,n+1,h=>by simp only[QI,List.drop_succ_cons] at h ⊢;exact Qxs n h.2
theorem QDP {ks:List CK}{es:List LD}(w:wtE es ks)(lo hi:Nat):LD.vsE ks ((es.take hi).drop lo)=(((LD.vsE ks es).take (hi * ks.length)).drop (lo * ks.length)):=by
 have app:∀a b:List LD,LD.vsE ks (a++b)=LD.vsE ks a++LD.vsE ks b:=fun a b=>by simp[LD.vsE]
 have sp:∀(es:List LD) (n:Nat),LD.vsE ks es=LD.vsE ks (es.take n)++LD.vsE ks (es.drop n):=fun es n=>by rw[←app,List.take_append_drop]
 have tk:∀ {es:List LD} (n:Nat),wtE es ks→LD.vsE ks (es.take n)=(LD.vsE ks es).take (n * ks.length):=fun {es} n h=>by
  by_cases hn:n≤es.length
  ·have h1:=QbS (Qi5 n h)
   rw[List.length_take,Nat.min_eq_left hn] at h1
   rw[sp es n]
   exact (List.take_left' h1).symm
  ·rw[List.take_of_length_le (by omega),List.take_of_length_le]
   rw[QbS h];exact Nat.mul_le_mul_right _ (by omega)
 have dp:∀ {es:List LD} (n:Nat),wtE es ks→LD.vsE ks (es.drop n)=(LD.vsE ks es).drop (n * ks.length):=fun {es} n h=>by
  by_cases hn:n≤es.length
  ·have h1:=QbS (Qi5 n h)
   rw[List.length_take,Nat.min_eq_left hn] at h1
   rw[sp es n]
   exact (List.drop_left' h1).symm
  ·rw[List.drop_of_length_le (by omega),List.drop_of_length_le]
   ·rfl
   ·rw[QbS h];exact Nat.mul_le_mul_right _ (by omega)
 rw[dp lo (Qi5 hi w),tk hi w]
theorem QII {E:Env}{t e:TypeId}(hu':P.underlying t=some (.slice e)){k:Nat}(hk:szO P e=some k){fr:Fr}{ρ:Operand→Value}(hρ:AgO E fr ρ){lo hi mx:Option Operand}{lo' hi' mx':Option Opd}{a b c:Option SE}
  (h1:c1O lo=some lo') (h2:c1O hi=some hi') (h3:c1O mx=some mx') (ha:bdN fr lo'=some a) (hb:bdN fr hi'=some b) (hc:bdN fr mx'=some c)
  {x r:FV}{v:Value} (hv:den E x=some v) (h:slcD k x a b c=some r) (ho:obH r):QfD P t v (lo.map ρ) (hi.map ρ) (mx.map ρ) fun w=>den E (strip r)=some w:=by
 cases x<;>try (cases h;done)
 rename_i n d
 simp only[slcD] at h
 cases hl:lyG n with
 | none=>rw[hl] at h;cases h
 | some ks=>
  rw[hl] at h
  simp only at h
  cases hkb:Nat.beq k ks.length with
  | false=>rw[hkb] at h;cases h
  | true=>
   rw[hkb] at h
   simp only[cond_true,Option.some.injEq] at h;subst h
   have ek:=Qm hkb;subst ek
   obtain⟨f,rfl⟩:=QgG hv
   obtain⟨g1,g2,g3,g4,g5,g6,g7⟩:=QJ7 ho
   have key:∃ad len cap,LD.v (.l n) d=.slice ad len cap∧gD (toN c) cap≤cap∧gD (toN b) len≤gD (toN c) cap∧gD (toN a) 0≤gD (toN b) len∧den E (.ds n (d.sub ks.length (toN a) (toN b) (toN c)))=some (sliced ad (gD (toN a) 0) (gD (toN b) len) (gD (toN c) cap) ks.length):=by
    obtain⟨f1,f2⟩:=f
    cases d<;>simp only[wt] at f1
    ·simp only[LD.len,LD.es,List.length_nil] at g5 g6 g7
     have e1:gD (toN b) 0=0:=by omega
     have e2:gD (toN a) 0=0:=by omega
     have e3:gD (toN c) 0=0:=by
      rcases g7 with h | h
      ·subst h;rfl
      ·omega
     refine⟨none,0,0,rfl,by omega,by omega,by omega,?_⟩
     rw[e1,e2,e3]
     have hz:Fz E .nul (.l n):=⟨by simp only[wt],by simp only[lies]⟩
     simp only[LD.sub,den]
     exact if_pos hz
    ·rename_i ad cap es
     have f1':=f1
     have f2':=f2
     simp only[lies] at f2'
     rw[QaN hl] at f1' f2'
     obtain⟨w1,w2,w3,w4⟩:=f1'
     simp only[LD.len,LD.es] at g5 g6 g7
     have hcc:gD (toN c) cap≤cap∧gD (toN b) es.length≤gD (toN c) cap:=by
      cases c with
      | none=>show cap≤cap∧gD (toN b) es.length≤cap;omega
      | some m=>
       have g7:gD (toN b) es.length≤m.ev.toNat∧m.ev.toNat≤es.length:=by
        rcases g7 with h | h
        ·cases h
        ·exact h
       show m.ev.toNat≤cap∧gD (toN b) es.length≤m.ev.toNat
       omega
     refine⟨some ad,es.length,cap,rfl,hcc.1,hcc.2,g6,?_⟩
     simp only[LD.sub,QA4]
     generalize gD (toN c) cap=M at *
     generalize gD (toN b) es.length=B at *
     generalize gD (toN a) 0=A at *
     have hlen:((es.take B).drop A).length=B - A:=by simp only[List.length_drop,List.length_take];omega
     simp only[den]
     rw[if_pos]
     ·simp only[LD.v,sliced,hlen]
      by_cases he:M=A
      ·simp[he,bq]
      ·simp[he,bq]
     ·refine⟨?_,?_⟩
      ·simp only[wt];rw[QaN hl]
       exact⟨by rw[hlen];omega,by rw[hlen];omega,w3,QBj _ (Qi5 _ w4)⟩
      ·simp only[lies];rw[QaN hl]
       refine⟨?_,Qxs _ (QpY _ f2'.2)⟩
       rw[QDP w4]
       by_cases he:M=A
       ·have e0:B=A:=by omega
        have:Nat.beq M A=true:=by rw[he];simp
        rw[this,cond_true,e0]
        have:=QwG f2'.1 0 0
        rw[add_zero] at this
        rw[List.drop_eq_nil_of_le (by rw[List.length_take];omega)]
        simpa using this
       ·have:Nat.beq M A=false:=by
         cases hq:Nat.beq M A with
         | false=>rfl
         | true=>exact absurd (Qm hq) he
        rw[this,cond_false]
        have:=QwG f2'.1 (A * ks.length) (B * ks.length - A * ks.length)
        rw[List.drop_take]
        exact this
   obtain⟨ad,len,cap,q1,q2,q3,q4,q5⟩:=key
   have hm:toN c=none∨toN b≠none:=by
    rcases g4 with h | h
    ·exact .inl (QBs.2 h)
    ·exact .inr fun h'=>h (QBs.1 h')
   refine⟨_,fun w=>QA ?_,q5⟩
   rw[q1]
   simp only[Instr.sliceAt]
   rw[Sem.run_bind,run_underlying hu',Result.andThen_ok]
   simp only[Instr.slice]
   rw[Sem.run_bind,run_underlying hu',Result.andThen_ok]
   have hbd:=Qko (P:=P) (b:=true) (len:=len) (cap:=cap) (Qpf hρ h1 ha g1) (Qpf hρ h2 hb g2) (Qpf hρ h3 hc g3) hm q2 (.inr q3) (.inr q4) w
   haveI is:=QbA hk
   simp only
   rw[Sem.run_bind,hbd,Result.andThen_ok]
   simp only
   rw[Sem.run_bind,is.run,Result.andThen_ok]
   rfl
def QH8:FV→Option FV
 | .dp t d=>some (.obl (.o d.is) (.dn t d 0))
 | .dn t d o=>some (.dn t d o)
 | .oe t i k o=>some (.oe t i k o)
 | _=>none
def QIh (off:Nat):FV→Option FV
 | .dp t d=>some (.obl (.o d.is) (.dn t d off))
 | .dn t d o=>some (.dn t d (o+off))
 | .oe t i k o=>some (.oe t i k (o+off))
 | _=>none
def ldNN (th:Tr TO)(k:Nat)(agg:Bool):FV→Option FV
 | .oe t i j o=>match th.get i with
  | some (.row t' es)=>match lyG t with
   | some ks=>bif Nat.beq t t' then ldK ks k agg (es.getD j.toNat .nul) o else none
   | none=>none
  | _=>none
 | .dp t d=>match ldN k agg t d 0 with
  | some r=>some (.obl (.o d.is) r)
  | none=>none
 | .dn t d o=>ldN k agg t d o
 | _=>none
def iadrA (n k:Nat)(x i:FV):Option FV:=match x with
 | .ptr id off=>match zbn i with
  | some (_,m,_,_)=>some (.alt m (altP id k off n))
  | none=>none
 | _=>none
def QU (k:Str):List LD→Option LD
 | []=>none
 | e::r=>if keyE e=k then some e else QU k r
def upE (k:Str)(x:LD):List LD→List LD
 | []=>[x]
 | e::r=>if keyE e=k then x::r else e::upE k x r
def valE (ag:Bool)(ks:List CK)(e:LD):FV:=match ag with
 | true=>.agg (lvs e ks 1)
 | false=>match lvs e ks 1 with
  | x::_=>x
  | []=>.nili
theorem QzH {k:Str}:∀ {es:List LD}{e:LD},QU k es=some e→e∈es∧keyE e=k
 | [],e,h=>by cases h
 | x::r,e,h=>by
  unfold QU at h
  split at h
  ·rename_i hk
   simp only[Option.some.injEq] at h;subst h
   exact⟨.head _,hk⟩
  ·obtain⟨h1,h2⟩:=QzH h
   exact⟨.tail _ h1,h2⟩
theorem Qp4:∀ {es:List LD}{e:LD},(es.map keyE).Nodup→e∈es→QU (keyE e) es=some e
 | x::r,e,h,hm=>by
  rw[List.map_cons,List.nodup_cons] at h
  unfold QU
  rcases List.mem_cons.1 hm with rfl | hm
  ·rw[if_pos rfl]
  ·rw[if_neg (fun e':keyE x=keyE e=>h.1 (by rw[e'];exact List.mem_map.2 ⟨e,hm,rfl⟩))]
   exact Qp4 h.2 hm
theorem QvT (k:Str)(ag:Bool)(ks:List CK):∀es:List LD,Go.Sh.look (es.map (entM ag ks)) k=(QU k es).map fun e=>(entM ag ks e).2
 | []=>rfl
 | e::r=>by
  show (if keyE e=k then some (entM ag ks e).2 else Go.Sh.look (r.map (entM ag ks)) k)=_
  unfold QU
  split
  ·rfl
  ·exact QvT k ag ks r
theorem QDS (k:Str)(ag:Bool)(ks:List CK)(x:LD)(hx:keyE x=k):∀es:List LD,Go.Sh.ups (es.map (entM ag ks)) k (entM ag ks x).2=(upE k x es).map (entM ag ks)
 | []=>by
  show [(k,(entM ag ks x).2)]=[entM ag ks x]
  rw[←hx];rfl
 | e::r=>by
  show (if keyE e=k then (k,(entM ag ks x).2)::r.map (entM ag ks) else entM ag ks e::Go.Sh.ups (r.map (entM ag ks)) k (entM ag ks x).2)=_
  unfold upE
  split
  ·rw[List.map_cons,←hx];rfl
  ·rw[List.map_cons,QDS k ag ks x hx r]
theorem QFz {k:Str}{x:LD}{ks:List CK}(hx:wtT x ks):∀ {es:List LD},wtE es ks→wtE (upE k x es) ks
 | [],_=>by simp only[upE,wtE];exact⟨hx,trivial⟩
 | e::r,h=>by
  simp only[wtE] at h
  unfold upE
  split
  ·simp only[wtE];exact⟨hx,h.2⟩
  ·simp only[wtE];exact⟨h.1,QFz hx h.2⟩
theorem QFA {R:Addr→List Value→Prop}{k:Str}{x:LD}{ks:List CK}(hx:Qbz R x ks):∀ {es:List LD},QI R es ks→QI R (upE k x es) ks
 | [],_=>by simp only[upE,QI];exact⟨hx,trivial⟩
 | e::r,h=>by
  simp only[QI] at h
  unfold upE
  split
  ·simp only[QI];exact⟨hx,h.2⟩
  ·simp only[QI];exact⟨h.1,QFA hx h.2⟩
theorem Qi6 (k:Str)(x:LD):∀es:List LD,(upE k x es).length≤es.length+1
 | []=>Nat.le_refl _
 | e::r=>by
  unfold upE
  split
  ·simp
  ·have:=Qi6 k x r
   simp only[List.length_cons];omega
theorem Qti {ks:List CK}:∀ {es:List LD}{e:LD},wtE es ks→e∈es→wtT e ks
 | x::r,e,h,hm=>by
  simp only[wtE] at h
  rcases List.mem_cons.1 hm with rfl | hm
  ·exact h.1
  ·exact Qti h.2 hm
theorem Qnz {R:Addr→List Value→Prop}{ks:List CK}:∀ {es:List LD}{e:LD},QI R es ks→e∈es→Qbz R e ks
 | x::r,e,h,hm=>by
  simp only[QI] at h
  rcases List.mem_cons.1 hm with rfl | hm
  ·exact h.1
  ·exact Qnz h.2 hm
theorem QBi {ks:List CK}:∀ {es:List LD},(∀e∈es,wtT e ks)→wtE es ks
 | [],_=>trivial
 | x::r,h=>by simp only[wtE];exact⟨h _ (.head _),QBi fun e he=>h e (.tail _ he)⟩
theorem QvU {R:Addr→List Value→Prop}{ks:List CK}:∀ {es:List LD},(∀e∈es,Qbz R e ks)→QI R es ks
 | [],_=>trivial
 | x::r,h=>by simp only[QI];exact⟨h _ (.head _),QvU fun e he=>h e (.tail _ he)⟩
theorem Qvi {E:Env}{ag:Bool}{ks:List CK}{e:LD}(h1:wtT e (.s::ks))(h2:Qbz E.rd e (.s::ks))(one:ag=false→ks.length=1):den E (valE ag ks e)=some (entM ag ks e).2∧den E (.sstr (keyE e))=some (str (keyE e)):=by
 cases e<;>simp only[wtT] at h1
 rename_i cs
 simp only[Qbz] at h2
 obtain⟨vs,g1,g2,g3,g4⟩:=QtB (E:=E) (d:=.t cs) (cs:=cs) rfl h1 h2 ks 1 (fun j k hj=>by rw[Nat.add_comm];exact hj)
 cases cs with
 | nil=>simp only[wtL] at h1
 | cons d r=>
  simp only[wtL] at h1
  have e1:vs=LD.vs ks r:=by
   refine List.ext_getElem? fun j=>?_
   cases hj:vs[j]? with
   | some v=>
    have:=g4 j v hj
    rw[Nat.add_comm] at this
    exact this.symm
   | none=>
    have h3:=(QaW h1.2).1
    rw[List.getElem?_eq_none_iff] at hj
    exact (List.getElem?_eq_none_iff.2 (by rw[h3,←g3];exact hj)).symm
  have e2:(entM ag ks (.t (d::r))).2=mvV ag vs:=by rw[e1];rfl
  refine⟨?_,?_⟩
  ·rw[e2]
   cases ag with
   | true=>
    show den E (.agg (lvs (.t (d::r)) ks 1))=_
    simp only[den,g1,g2,if_true];rfl
   | false=>
    have:=one rfl
    show den E (match lvs (.t (d::r)) ks 1 with | x::_=>x | []=>.nili)=_
    cases hl:lvs (.t (d::r)) ks 1 with
    | nil=>
     rw[hl] at g1
     simp only[denL,Option.some.injEq] at g1
     rw[←g1] at g3
     simp at g3;omega
    | cons x l=>
     rw[hl] at g1
     obtain⟨u,us,k1,k2,rfl⟩:=QR g1
     exact k1
  ·have:wt d .s:=h1.1
   cases d<;>simp only[wt] at this
   simp only[den]
   exact if_pos this
def mpO:TO→Option (Nat×Bool×List LD)
 | .mp t ag es=>some (t,ag,es)
 | .mf t ag es=>some (t,ag,es)
 | _=>none
theorem Rep.rdP {E:Env}{th:TH}{h0 h:Heap}{L:List HP}(r:Rep E th h0 h L){i t:Nat}{o:TO}{ag:Bool}{es:List LD}(hg:th.t.get i=some o)(ho:mpO o=some (t,ag,es)) :
  ∃a ks st c,MpIs E i t ag es a ks∧Go.Sh.RdM h (.map (some a.block)) (es.map (entM ag ks)) st c:=by
 cases o<;>simp only[mpO] at ho<;>try (cases ho;done)
 ·simp only[Option.some.injEq,Prod.mk.injEq] at ho
  obtain⟨rfl,rfl,rfl⟩:=ho
  obtain⟨a,ks,h1,s⟩:=r.toldP hg
  obtain⟨st,c,s⟩:=s.mapO
  exact⟨a,ks,st,c,h1,s.mapRd⟩
 ·simp only[Option.some.injEq,Prod.mk.injEq] at ho
  obtain⟨rfl,rfl,rfl⟩:=ho
  obtain⟨a,ks,h1,st,c,h2,h3⟩:=r.toldF hg
  exact⟨a,ks,st,c,h1,h2,a.block,rfl,r.fz.2 _ h3⟩
def QIi:TO→Option FV
 | .im _ t ag _ cur=>match cur with
  | some e=>match lyG t with
   | some ks=>match ks with
    | .s::ks=>some (.tup [.sstr (keyE e),valE ag ks e])
    | _=>none
   | none=>none
  | none=>none
 | _=>none
def entN (th:Tr TO):FV→Option FV
 | .ptr j o=>match o with
  | 0=>match th.get j with
   | some o=>QIi o
   | none=>none
  | _=>none
 | _=>none
def QFc (th:Tr TO):FV→Option FV
 | .map i=>match th.get i with
  | some o=>match mpO o with
   | some p=>some (.sy .i64 (.o (.ofNat p.2.2.length)) (.ofNat 0) Qxo)
   | none=>none
  | none=>none
 | _=>none
theorem QJj {P:Program}{E:Env}{th:TH}{h0 h:Heap}{L:List HP}(r:Rep E th h0 h L){x y:FV}{v:Value}(hv:den E x=some v)(hx:entN th.t x=some y):QrY P v (Eq h) fun v=>den E (strip y)=some v:=by
 cases x<;>simp only[entN] at hx<;>try (cases hx;done)
 rename_i j o
 cases o with
 | succ o=>cases hx
 | zero=>
  simp only at hx
  cases hg:th.t.get j with
  | none=>rw[hg] at hx;cases hx
  | some ob=>
   rw[hg] at hx
   cases ob<;>simp only[QIi] at hx<;>try (cases hx;done)
   rename_i i t ag rest cur
   cases cur with
   | none=>cases hx
   | some e=>
    simp only at hx
    cases hl:lyG t with
    | none=>rw[hl] at hx;cases hx
    | some ks=>
     rw[hl] at hx
     simp only at hx
     split at hx<;>try (cases hx;done)
     rename_i ks
     simp only[Option.some.injEq] at hx;subst hx
     have ly:=QaN hl
     obtain⟨z,hw,s⟩:=r.toldIm hg
     obtain⟨ia,ma,ks',m,st,c,dn⟩:=z
     simp only at hw s
     have ek:ks'=ks:=by have:=hw.ly;rw[ly] at this;simpa using this.symm
     subst ek
     have hr:Go.Sh.RdM h (.map (some ma.block)) m st c:=⟨hw.ok,ma.block,rfl,r.fz.2 _ hw.z⟩
     obtain⟨ia',hp,hv⟩:=Qca hv
     have ei:ia'=ia:=by have:=hw.p;rw[hp] at this;simpa using this
     subst ei
     rw[add_zero] at hv
     subst hv
     obtain⟨c1,c2,c3,l,rfl⟩:=hw.cur e rfl
     obtain⟨d1,d2⟩:=Qvi (E:=E) c1 c2 hw.one
     refine QE5 s hr rfl c3 ?_
     show den E (.tup [.sstr (keyE e),valE ag ks' e])=_
     simp only[den,denL] at d2 ⊢
     simp only[d1,d2]
theorem QHv {P:Program}{E:Env}{th:TH}{h0 h:Heap}{L:List HP}(r:Rep E th h0 h L){t ty kt et:TypeId}(hu:P.underlying t=some (.map kt et)){x y:FV}{v:Value}(hv:den E x=some v)(hx:QFc th.t x=some y):QpS P #[t] ty v (Eq h) fun v=>den E (strip y)=some v:=by
 haveI:Und P t (.map kt et):=⟨hu⟩
 cases x<;>simp only[QFc] at hx<;>try (cases hx;done)
 rename_i i
 cases hg:th.t.get i with
 | none=>rw[hg] at hx;cases hx
 | some o=>
  rw[hg] at hx
  simp only at hx
  cases ho:mpO o with
  | none=>rw[ho] at hx;cases hx
  | some p=>
   rw[ho] at hx
   simp only[Option.some.injEq] at hx;subst hx
   obtain⟨t2,ag,es⟩:=p
   obtain⟨a,ks,st,c,hw,hr⟩:=r.rdP hg ho
   obtain⟨a',ha,rfl⟩:=QeF hv
   rw[hw.p] at ha;simp only[Option.some.injEq] at ha;subst ha
   refine oLenM_rd (fun h' e=>by subst e;exact⟨st,c,hr⟩) ?_
   rw[List.length_map]
   simp only[strip,den]
   exact if_pos ⟨Int.natCast_nonneg _,Int.ofNat_le.2 hw.len⟩
def lenN (th:Tr TO):FV→Option FV
 | .os t i=>match th.get i with
  | some (.row t' es)=>some (.sy .i64 (.o (.ofNat es.length)) (.ofNat 0) Qxo)
  | _=>none
 | .ds t d=>some (.sy .i64 (.o (.ofNat d.len)) (.ofNat 0) Qxo)
 | _=>none
def evZ (fr:Fr)(th:Tr TO)(m:MOp):Option FV:=match m with
 | .nilc x=>o1 fr x QH8
 | .fadr off x=>o1 fr x (QIh off)
 | .ld k agg x=>o1 fr x (ldNN th k agg)
 | .iadr k x i=>o2 fr x i (QFh th k)
 | .iadrA n k x i=>o2 fr x i (iadrA n k)
 | .idxS x i=>o2 fr x i idxN
 | .bin op x y=>o2 fr x y (binY op)
 | .slc k x lo hi mx=>match bdN fr lo with
  | some a=>match bdN fr hi with
   | some b=>match bdN fr mx with
    | some c=>o1 fr x fun x=>slcD k x a b c
    | none=>none
   | none=>none
  | none=>none
 | .eqb kd neg x y=>o2 fr x y (eqbN kd neg)
 | .slcS x lo hi=>match bdN fr lo with
  | some a=>match bdN fr hi with
   | some b=>o1 fr x fun x=>slcN x a b
   | none=>none
  | none=>none
 | .lenS x=>o1 fr x (lenN th)
 | .lenM x=>o1 fr x (QFc th)
 | .ent x=>o1 fr x (entN th)
 | _=>none
def evQ (fr:Fr)(th:Tr TO)(m:MOp):Option FV:=match evQ0 fr th m with
 | some x=>some x
 | none=>evZ fr th m
theorem QFm {E:Env}{t:Nat}{d:LD}{v:Value}(h:den E (.dp t d)=some v)(hi:d.is=true)(o:Nat):Fz E d (.p t)∧v=.pointer (some d.ad)∧den E (.dn t d o)=some (.pointer (some (d.ad.add o))):=by
 obtain⟨f,rfl⟩:=QsN h
 refine⟨f,?_,by simp only[den];rw[if_pos ⟨f,hi⟩]⟩
 have h1:=f.1
 cases d<;>simp only[wt,LD.is] at h1 hi<;>first | (cases hi;done) | rfl
theorem QKx {E:Env}{th:TH}{h0 h:Heap}{L:List HP}{ρ:Operand→Value}{fr:Fr}{o:Oper}{m:MOp}{x:FV}(r:Rep E th h0 h L)(hρ:AgO E fr ρ)(hc:cop P o=some m)(hx:evZ fr th.t m=some x)(ho:obH x) :
  Sq P (Eq h) (execOp ρ o) fun v=>den E (strip x)=some v:=by
 have Q:opQ P ρ o (Eq h) (fun v=>den E (strip x)=some v)→Sq P (Eq h) (execOp ρ o) fun v=>den E (strip x)=some v:=Qnu
 have bad:evZ fr th.t m=none→Sq P (Eq h) (execOp ρ o) fun v=>den E (strip x)=some v:=fun e=>by rw[e] at hx;cases hx
 obtain⟨dst,op,type,pos,after,guard⟩:=o
 cases op<;>simp only[cop] at hc<;>try (cases hc;done)
 case nilCheck y=>
  refine Q ?_
  obtain⟨y',h1,hc⟩:=bind_some hc
  simp only[Option.some.injEq] at hc;subst hc
  obtain⟨v,h4,h5⟩:=Qat hx
  have h6:=hρ y y' v h1 h4
  show oNil P (ρ y) _
  cases v<;>simp only[QH8] at h5<;>try (cases h5;done)
  ·simp only[Option.some.injEq] at h5;subst h5
   obtain⟨f,e,g⟩:=QFm h6 ho 0
   rw[e]
   refine QpR.2 ?_
   rw[add_zero] at g;exact g
  ·simp only[Option.some.injEq] at h5;subst h5
   obtain⟨_,_,e⟩:=QxX h6
   rw[e]
   refine QpR.2 ?_
   rw[←e];exact h6
  ·simp only[Option.some.injEq] at h5;subst h5
   obtain⟨_,_,_,_,_,_,_,_,e⟩:=Qo6 h6
   rw[e]
   refine QpR.2 ?_
   rw[←e];exact h6
 case binOp op t y z yt=>
  refine Q ?_
  obtain⟨d,hd,hc⟩:=bind_some hc
  obtain⟨y',h1,hc⟩:=bind_some hc
  obtain⟨z',h2,hc⟩:=bind_some hc
  show oBin P op t y z (ρ y) (ρ z) _
  by_cases hn:numT d=true
  ·rw[if_pos hn] at hc;simp only[Option.some.injEq] at hc;subst hc
   obtain⟨v,w,h3,h4,h5⟩:=QdI hx
   exact QJC (hρ y y' v h1 h3) (hρ z z' w h2 h4) h5 ho
  ·rw[if_neg hn] at hc
   by_cases hst:stT d=true
   ·rw[if_pos hst] at hc
    exfalso
    split at hc
    ·cases hc
    ·obtain⟨e,he,hc⟩:=bind_some hc
     cases op<;>simp only at hc<;>try (cases hc;done)
     all_goals (simp only[Option.some.injEq] at hc;subst hc;simp[evZ] at hx)
   rw[if_neg hst] at hc
   obtain⟨kd,hk,hc⟩:=bind_some hc
   have sx:∀ {neg:Bool}{a b:FV}{r:FV},eqbN kd neg a b=some r→strip r=r:=fun {neg a b r} h=>by
    unfold eqbN at h
    cases kd<;>cases a<;>cases b<;>simp only at h<;>first | (cases h;done) | (simp only[Option.some.injEq] at h;subst h;rfl)
   have fin:∀neg:Bool,m=.eqb kd neg y' z'→oBin P (bEq neg) t y z (ρ y) (ρ z) fun v=>den E (strip x)=some v:=fun neg hm=>by
    subst hm
    obtain⟨v,w,h3,h4,h5⟩:=QdI hx
    rw[sx h5]
    exact QJh hd hk (hρ y y' v h1 h3) (hρ z z' w h2 h4) h5
   cases op<;>simp only at hc<;>try (cases hc;done)
   ·simp only[Option.some.injEq] at hc;exact fin false hc.symm
   ·simp only[Option.some.injEq] at hc;exact fin true hc.symm
 case slice t y lo hi mx=>
  refine Q ?_
  obtain⟨y',h1,hc⟩:=bind_some hc
  obtain⟨lo',h2,hc⟩:=bind_some hc
  obtain⟨hi',h3,hc⟩:=bind_some hc
  obtain⟨mx',h4,hc⟩:=bind_some hc
  have eo:∀z:Option Operand,oarr ρ z=z.map ρ:=fun z=>by cases z<;>rfl
  show QfD P t (ρ y) (oarr ρ lo) (oarr ρ hi) (oarr ρ mx) _
  rw[eo,eo,eo]
  cases hu:P.underlying t with
  | none=>rw[hu] at hc;cases hc
  | some d=>
   rw[hu] at hc
   cases d<;>try (cases hc;done)
   case string=>
    cases mx' with
    | some _=>cases hc
    | none=>
     simp only[Option.some.injEq] at hc;subst hc
     have hmx:mx=none:=by
      cases mx with
      | none=>rfl
      | some z=>simp only[c1O] at h4;cases hz:c1 z<;>rw[hz] at h4<;>simp at h4
     subst hmx
     simp only[evZ] at hx
     cases ha:bdN fr lo' with
     | none=>rw[ha] at hx;cases hx
     | some a=>
      cases hb:bdN fr hi' with
      | none=>rw[ha,hb] at hx;cases hx
      | some b=>
       rw[ha,hb] at hx
       obtain⟨v,h5,h6⟩:=Qat hx
       exact QIH hu hρ h2 h3 ha hb (hρ y y' v h1 h5) h6 ho
   case slice e=>
    obtain⟨k,hk,hc⟩:=bind_some hc
    simp only[Option.some.injEq] at hc;subst hc
    simp only[evZ] at hx
    cases ha:bdN fr lo' with
    | none=>rw[ha] at hx;cases hx
    | some a=>
     cases hb:bdN fr hi' with
     | none=>rw[ha,hb] at hx;cases hx
     | some b=>
      cases hmx:bdN fr mx' with
      | none=>rw[ha,hb,hmx] at hx;cases hx
      | some c=>
       rw[ha,hb,hmx] at hx
       obtain⟨v,h5,h6⟩:=Qat hx
       exact QII hu hk hρ h2 h3 h4 ha hb hmx (hρ y y' v h1 h5) h6 ho
   all_goals (exfalso;obtain⟨k,hk,hc⟩:=bind_some hc;simp only[Option.some.injEq] at hc;subst hc;simp[evZ] at hx)
 case fieldAddr t y i=>
  refine Q ?_
  obtain⟨y',h1,hc⟩:=bind_some hc
  cases hu:P.underlying t with
  | none=>rw[hu] at hc;cases hc
  | some d=>
   rw[hu] at hc
   cases d<;>try (cases hc;done)
   rename_i fs
   obtain⟨f,hf,hc⟩:=bind_some hc
   obtain⟨k,hk,hc⟩:=bind_some hc
   by_cases hk0:0<k
   ·rw[if_pos hk0] at hc;simp only[Option.some.injEq] at hc;subst hc
    obtain⟨v,h5,h6⟩:=Qat hx
    have h7:=hρ y y' v h1 h5
    haveI is:=QbA hk
    have run:∀(a:Addr) (w:World),(Instr.fieldAt t (.pointer (some a)) i).run P w=.ok (.pointer (some (a.add f.offset))) w:=fun a w=>by
     simp only[Instr.fieldAt]
     rw[Sem.run_bind,run_underlying hu,Result.andThen_ok]
     simp only[hf,Instr.sureAddr,pure_bind,fieldPlace]
     have hs:=is.run w
     simp[hs,show k≠0 from by omega]
    cases v<;>simp only[QIh] at h6<;>try (cases h6;done)
    ·simp only[Option.some.injEq] at h6;subst h6
     obtain⟨g,e,g2⟩:=QFm h7 ho f.offset
     refine⟨_,fun w _=>QA ?_,g2⟩
     rw[e];exact run _ w
    ·rename_i n d o
     simp only[Option.some.injEq] at h6;subst h6
     obtain⟨g1,g2,e⟩:=QxX h7
     refine⟨_,fun w _=>QA (by rw[e];exact run _ w),?_⟩
     simp only[strip,den]
     rw[if_pos ⟨g1,g2⟩,add_add]
    ·rename_i n i j o
     simp only[Option.some.injEq] at h6;subst h6
     obtain⟨b,a,len,c,g1,g2,g3,g4,e⟩:=Qo6 h7
     refine⟨_,fun w _=>QA (by rw[e];exact run _ w),?_⟩
     simp only[strip,den,g1,g2]
     rw[if_pos ⟨g3,g4⟩,add_add,Nat.add_assoc]
   ·rw[if_neg hk0] at hc;cases hc
 case indexAddr t y i=>
  refine Q ?_
  obtain⟨y',h1,hc⟩:=bind_some hc
  obtain⟨i',h2,hc⟩:=bind_some hc
  show oIdx P t (ρ y) (ρ i) _
  cases hu:P.underlying t with
  | none=>rw[hu] at hc;cases hc
  | some d=>
   rw[hu] at hc
   cases d<;>try (cases hc;done)
   case slice e=>
    obtain⟨k,hk,hc⟩:=bind_some hc
    simp only[Option.some.injEq] at hc;subst hc
    obtain⟨v,u,h3,h4,h5⟩:=QdI hx
    exact QHy r hu hk (hρ y y' v h1 h3) (hρ i i' u h2 h4) h5 ho
   case array len e=>
    obtain⟨k,hk,hc⟩:=bind_some hc
    simp only[Option.some.injEq] at hc;subst hc
    obtain⟨v,u,h3,h4,h5⟩:=QdI hx
    have h6:=hρ y y' v h1 h3
    have h7:=hρ i i' u h2 h4
    cases v<;>simp only[iadrA] at h5<;>try (cases h5;done)
    rename_i id off
    cases hy:zbn u with
    | none=>rw[hy] at h5;cases h5
    | some q=>
     obtain⟨ik,n,lo,hi⟩:=q
     rw[hy] at h5
     simp only[Option.some.injEq] at h5;subst h5
     obtain⟨e7,g1,g2⟩:=Qcl hy h7
     obtain⟨h1,h2⟩:=ho
     rw[QwC] at h2
     have h2:n.ev<(len:Int):=h2
     obtain⟨a,hp,hv⟩:=Qca h6
     haveI is:=QbA hk
     have hd:den E (strip (.alt n (altP id k off len)))=some (.pointer (some ((a.add off).add (n.ev.toNat * k)))):=by
      simp only[strip]
      rw[QwD id k len off _ (by omega)]
      simp only[den,hp,add_add]
     refine⟨_,fun w=>QA ?_,hd⟩
     rw[hv,e7]
     simp only[Instr.indexAt,asIntOf,pure_bind]
     rw[Sem.run_bind,run_underlying hu,Result.andThen_ok]
     have hs:=is.run w
     have hu':=run_underlying hu w
     simp[hu',Instr.sureAddr,hs,h1,h2]
 case index t y i=>
  refine Q ?_
  obtain⟨y',h1,hc⟩:=bind_some hc
  obtain⟨i',h2,hc⟩:=bind_some hc
  show QrX P t (ρ y) (ρ i) _
  cases hu:P.underlying t with
  | none=>rw[hu] at hc;cases hc
  | some d=>
   rw[hu] at hc
   cases d<;>try (cases hc;done)
   case array len e=>
    exfalso
    obtain⟨k,hk,hc⟩:=bind_some hc
    obtain⟨ab,hab,hc⟩:=bind_some hc
    simp only[Option.some.injEq] at hc;subst hc
    simp[evZ] at hx
   simp only[Option.some.injEq] at hc;subst hc
   obtain⟨v,u,h3,h4,h5⟩:=QdI hx
   exact QI6 hu (hρ y y' v h1 h3) (hρ i i' u h2 h4) h5 ho
 case load t y=>
  refine Q ?_
  obtain⟨y',h1,hc⟩:=bind_some hc
  obtain⟨b,hb,hc⟩:=bind_some hc
  obtain⟨k,hk,hc⟩:=bind_some hc
  by_cases hk0:0<k
  ·rw[if_pos hk0] at hc;simp only[Option.some.injEq] at hc;subst hc
   obtain⟨v,h5,h6⟩:=Qat hx
   have h7:=hρ y y' v h1 h5
   have stK:∀ {ks:List CK}{d:LD}{q:Nat}{y:FV},ldK ks k b d q=some y→strip y=y:=fun {ks d q y} h=>by
    unfold ldK at h
    cases b with
    | true=>
     simp only at h
     cases ht:Qbb k (Qaz q ks) with
     | none=>rw[ht] at h;cases h
     | some l=>rw[ht] at h;simp only[Option.some.injEq] at h;subst h;rfl
    | false=>
     simp only at h
     cases ht:hd? (Qaz q ks) with
     | none=>rw[ht] at h;cases h
     | some l=>rw[ht] at h;simp only[Option.some.injEq] at h;subst h;cases l<;>rfl
   have st:∀ {n:Nat}{d:LD}{q:Nat}{y:FV},ldN k b n d q=some y→strip y=y:=fun {n d q y} h=>by
    unfold ldN at h
    cases hl:lyG n with
    | none=>rw[hl] at h;cases h
    | some ks=>rw[hl] at h;exact stK h
   show Qnx P t (ρ y) (Eq h) _
   cases v<;>simp only[ldNN] at h6<;>try (cases h6;done)
   ·rename_i n d
    cases hl:ldN k b n d 0 with
    | none=>rw[hl] at h6;cases h6
    | some y2=>
     rw[hl] at h6;simp only[Option.some.injEq] at h6;subst h6
     obtain⟨g,e,g2⟩:=QFm h7 ho 0
     have:=QGp r hk hb hk0 g2 hl
     rw[add_zero,←e] at this
     exact this
   ·rename_i n d q
    have:=QGp r hk hb hk0 h7 h6
    rw[st h6];exact this
   ·rename_i tt id j q
    cases hg:th.t.get id with
    | none=>rw[hg] at h6;cases h6
    | some ob=>
     rw[hg] at h6
     cases ob<;>try (cases h6;done)
     rename_i t' es
     simp only at h6
     cases hl:lyG tt with
     | none=>rw[hl] at h6;cases h6
     | some ks=>
      rw[hl] at h6
      simp only at h6
      cases hb2:Nat.beq tt t' with
      | false=>rw[hb2] at h6;cases h6
      | true=>
       rw[hb2,cond_true] at h6
       have e1:=Qm hb2
       subst e1
       obtain⟨a,v,ks',hw,hsl,hrd,hne⟩:=r.row hg
       have ek:ks'=ks:=by have:=hw.ly;rw[QaN hl] at this;simpa using this.symm
       subst ek
       obtain⟨b0,a1,len,c,g1,g2,g3,g4,e⟩:=Qo6 h7
       have ev:v=.slice (some a1) len c:=hw.s.symm.trans g2
       subst ev
       have el:len=es.length:=by obtain⟨_,_,h⟩:=hsl;simp only[Value.slice.injEq] at h;exact h.2.1
       subst el
       obtain⟨cs,q1,q2,q3,q4⟩:=QxG (n:=j.toNat) hw.wt hw.li (by omega)
       have hz:szT tt=ks'.length:=by simp[szT,hw.ly]
       have hge:es.getD j.toNat .nul=.t cs:=by simp[List.getD,q1]
       rw[hge] at h6
       have rd:=(hrd.drop (j.toNat * ks'.length)).take ks'.length
       rw[q4] at rd
       rw[e,hz,←add_add,stK h6]
       exact QGq (d:=.t cs) hk hb hk0 q2 q3 rd h6
  ·rw[if_neg hk0] at hc;cases hc
 case call c=>
  obtain⟨callee,args,ats⟩:=c
  cases callee<;>simp only at hc<;>try (exfalso;obtain⟨_,_,hc⟩:=bind_some hc;obtain⟨_,_,hc⟩:=bind_some hc;simp only[Option.some.injEq] at hc;subst hc;simp[evZ] at hx;done)
  case builtin b=>
   refine Q ?_
   cases b<;>simp only at hc<;>try (cases hc;done)
   case append=>
    exfalso
    split at hc
    ·obtain⟨_,_,hc⟩:=bind_some hc
     obtain⟨_,_,hc⟩:=bind_some hc
     split at hc
     ·obtain⟨_,_,hc⟩:=bind_some hc
      obtain⟨_,_,hc⟩:=bind_some hc
      split at hc
      ·simp only[Option.some.injEq] at hc;subst hc;simp[evZ] at hx
      ·split at hc
       ·split at hc
        ·simp only[Option.some.injEq] at hc;subst hc;simp[evZ] at hx
        ·cases hc
       ·cases hc
     ·cases hc
    ·cases hc
   case len=>
    obtain⟨al⟩:=args
    obtain⟨tl⟩:=ats
    match al,tl,hc with
    | [y],[t],hc=>
     simp only at hc
     obtain⟨y',h1,hc⟩:=bind_some hc
     cases hu:P.underlying t with
     | none=>rw[hu] at hc;cases hc
     | some d=>
      rw[hu] at hc
      show (bif isMap P ((#[t]:Array TypeId).getD 0 0) then QpS P #[t] type (ρ y) (Eq h) _ else oLen P #[t] type (ρ y) _)
      cases d<;>try (cases hc;done)
      case slice e=>
       simp only[Option.some.injEq] at hc;subst hc
       have hm:isMap P ((#[t]:Array TypeId).getD 0 0)=false:=by
        have:(#[t]:Array TypeId).getD 0 0=t:=rfl
        rw[this]
        unfold isMap
        rw[hu]
       rw[hm,cond_false]
       obtain⟨v,h5,h6⟩:=Qat hx
       have h7:=hρ y y' v h1 h5
       haveI:Und P t (.slice e):=⟨hu⟩
       cases v<;>simp only[lenN] at h6<;>try (cases h6;done)
       case os tt id=>
        cases hg:th.t.get id with
        | none=>rw[hg] at h6;cases h6
        | some ob=>
         rw[hg] at h6
         cases ob<;>try (cases h6;done)
         rename_i t' es
         simp only[Option.some.injEq] at h6;subst h6
         obtain⟨a,v,ks',hw,hsl,hrd,hne⟩:=r.row hg
         obtain⟨_,hs,_⟩:=Qe4 h7
         rw[←hs,hw.s]
         refine (Qtw hsl).2 ?_
         simp only[strip,den]
         exact if_pos ⟨Int.natCast_nonneg _,Int.ofNat_le.2 hw.len⟩
       rename_i n d
       simp only[Option.some.injEq] at h6;subst h6
       obtain⟨f,hv⟩:=QgG h7
       rw[hv]
       have hsl:IsSl (LD.v (.l n) d) d.len:=by
        have h1:=f.1
        cases d<;>simp only[wt] at h1<;>exact⟨_,_,rfl⟩
       refine (Qtw hsl).2 ?_
       simp only[strip,den]
       exact if_pos ⟨Int.natCast_nonneg _,Int.ofNat_le.2 (QKs f)⟩
      case map kt et=>
       simp only[Option.some.injEq] at hc;subst hc
       have hm:isMap P ((#[t]:Array TypeId).getD 0 0)=true:=by
        have:(#[t]:Array TypeId).getD 0 0=t:=rfl
        rw[this]
        unfold isMap
        rw[hu]
       rw[hm,cond_true]
       obtain⟨v,h5,h6⟩:=Qat hx
       exact QHv r hu (hρ y y' v h1 h5) h6
      all_goals (simp only[Option.some.injEq] at hc;subst hc;simp[evZ] at hx)
   all_goals (exfalso;repeat' (split at hc);all_goals first | (cases hc;done) | (obtain⟨_,_,hc⟩:=bind_some hc;first | (simp only[Option.some.injEq] at hc;subst hc;simp[evZ] at hx;done) | (obtain⟨_,_,hc⟩:=bind_some hc;simp only[Option.some.injEq] at hc;subst hc;simp[evZ] at hx;done) | (split at hc<;>first | (cases hc;done) | (simp only[Option.some.injEq] at hc;subst hc;simp[evZ] at hx;done))))
 case move y=>
  exfalso
  obtain⟨_,_,hc⟩:=bind_some hc
  simp only[Option.some.injEq] at hc;subst hc;simp[evZ] at hx
 case assign y=>
  exfalso
  obtain⟨_,_,hc⟩:=bind_some hc
  simp only[Option.some.injEq] at hc;subst hc;simp[evZ] at hx
 case pick c a b=>
  exfalso
  obtain⟨_,_,hc⟩:=bind_some hc
  obtain⟨_,_,hc⟩:=bind_some hc
  obtain⟨_,_,hc⟩:=bind_some hc
  simp only[Option.some.injEq] at hc;subst hc;simp[evZ] at hx
 case unOp op t y=>
  exfalso
  obtain⟨_,_,hc⟩:=bind_some hc
  cases op<;>simp only at hc<;>first | (cases hc;done) | (simp only[Option.some.injEq] at hc;subst hc;simp[evZ] at hx)
 case convert s d y=>
  exfalso
  obtain⟨_,_,hc⟩:=bind_some hc
  split at hc
  ·simp only[Option.some.injEq] at hc;subst hc;simp[evZ] at hx
  ·cases hc
 case typeAssert y xt a ok=>
  exfalso
  obtain⟨_,_,hc⟩:=bind_some hc
  obtain⟨_,_,hc⟩:=bind_some hc
  split at hc
  ·cases hc
  ·cases ok with
   | false=>cases hc
   | true=>simp only[Option.some.injEq] at hc;subst hc;simp[evZ] at hx
 case makeInterface t y=>
  exfalso
  obtain⟨_,_,hc⟩:=bind_some hc
  obtain⟨_,_,hc⟩:=bind_some hc
  split at hc
  ·cases hc
  ·simp only[Option.some.injEq] at hc;subst hc;simp[evZ] at hx
 case makeFunc f a b=>
  exfalso
  obtain⟨_,_,hc⟩:=bind_some hc
  obtain⟨_,_,hc⟩:=bind_some hc
  simp only[Option.some.injEq] at hc;subst hc;simp[evZ] at hx
 case field t y i=>
  exfalso
  obtain⟨_,_,hc⟩:=bind_some hc
  split at hc
  ·obtain⟨_,_,hc⟩:=bind_some hc
   obtain⟨_,_,hc⟩:=bind_some hc
   obtain⟨_,_,hc⟩:=bind_some hc
   simp only[Option.some.injEq] at hc;subst hc;simp[evZ] at hx
  ·cases hc
 case extract y i=>
  exfalso
  obtain⟨_,_,hc⟩:=bind_some hc
  simp only[Option.some.injEq] at hc;subst hc;simp[evZ] at hx
 case build t ps=>
  exfalso
  obtain⟨_,_,hc⟩:=bind_some hc
  split at hc
  ·obtain⟨_,_,hc⟩:=bind_some hc
   obtain⟨_,_,hc⟩:=bind_some hc
   obtain⟨_,_,hc⟩:=bind_some hc
   simp only[Option.some.injEq] at hc;subst hc;simp[evZ] at hx
  ·obtain⟨_,_,hc⟩:=bind_some hc
   obtain⟨_,_,hc⟩:=bind_some hc
   simp only[Option.some.injEq] at hc;subst hc;simp[evZ] at hx
  ·cases hc
 case lookup t y i ok=>
  exfalso
  obtain⟨_,_,hc⟩:=bind_some hc
  obtain⟨_,_,hc⟩:=bind_some hc
  split at hc
  ·obtain⟨_,_,hc⟩:=bind_some hc
   obtain⟨_,_,hc⟩:=bind_some hc
   simp only[Option.some.injEq] at hc;subst hc;simp[evZ] at hx
  ·cases hc
 case makeMap t rr=>
  exfalso
  obtain⟨_,_,hc⟩:=bind_some hc
  split at hc
  ·obtain⟨_,_,hc⟩:=bind_some hc
   simp only[Option.some.injEq] at hc;subst hc;simp[evZ] at hx
  ·cases hc
 case mapUpdate t m k v=>
  exfalso
  obtain⟨_,_,hc⟩:=bind_some hc
  obtain⟨_,_,hc⟩:=bind_some hc
  obtain⟨_,_,hc⟩:=bind_some hc
  split at hc
  ·obtain⟨_,_,hc⟩:=bind_some hc
   simp only[Option.some.injEq] at hc;subst hc;simp[evZ] at hx
  ·cases hc
 case alloc t=>exfalso;obtain⟨_,_,hc⟩:=bind_some hc;simp only[Option.some.injEq] at hc;subst hc;simp[evZ] at hx
 case box t y=>exfalso;obtain⟨_,_,hc⟩:=bind_some hc;simp only[Option.some.injEq] at hc;subst hc;simp[evZ] at hx
 case range t y=>
  exfalso
  obtain⟨_,_,hc⟩:=bind_some hc
  split at hc
  ·simp only[Option.some.injEq] at hc;subst hc;simp[evZ] at hx
  ·cases hc
 case next y b=>
  exfalso
  obtain⟨_,_,hc⟩:=bind_some hc
  cases b
  ·simp only[Option.some.injEq] at hc;subst hc;simp[evZ] at hx
  ·cases hc
 case entry y=>
  refine Q ?_
  obtain⟨y',h1,hc⟩:=bind_some hc
  simp only[Option.some.injEq] at hc;subst hc
  obtain⟨v,h4,h5⟩:=Qat hx
  show QrY P (ρ y) (Eq h) _
  exact QJj r (hρ y y' v h1 h4) h5
 case store t a v=>
  exfalso
  obtain⟨_,_,hc⟩:=bind_some hc
  obtain⟨_,_,hc⟩:=bind_some hc
  obtain⟨_,_,hc⟩:=bind_some hc
  simp only[Option.some.injEq] at hc;subst hc;simp[evZ] at hx
 case buildSlice t n ps=>
  exfalso
  obtain⟨_,_,hc⟩:=bind_some hc
  split at hc
  ·obtain⟨_,_,hc⟩:=bind_some hc
   split at hc
   ·simp only[Option.some.injEq] at hc;subst hc;simp[evZ] at hx
   ·split at hc
    ·simp only[Option.some.injEq] at hc;subst hc;simp[evZ] at hx
    ·cases hc
  ·cases hc
 case makeSlice t l c=>
  exfalso
  obtain⟨_,_,hc⟩:=bind_some hc
  obtain⟨_,_,hc⟩:=bind_some hc
  split at hc
  ·obtain⟨_,_,hc⟩:=bind_some hc
   obtain⟨_,_,hc⟩:=bind_some hc
   split at hc
   ·simp only[Option.some.injEq] at hc;subst hc;simp[evZ] at hx
   ·cases hc
  ·cases hc
theorem QKB {E:Env}{th:TH}{h0 h:Heap}{L:List HP}{ρ:Operand→Value}{fr:Fr}{o:Oper}{m:MOp}{x:FV}(r:Rep E th h0 h L)(hρ:AgO E fr ρ)(hc:cop P o=some m)(hx:evQ fr th.t m=some x)(ho:obH x) :
  Sq P (Eq h) (execOp ρ o) fun v=>den E (strip x)=some v:=by
 unfold evQ at hx
 cases h1:evQ0 fr th.t m with
 | none=>rw[h1] at hx;exact QKx r hρ hc hx ho
 | some y=>
  rw[h1] at hx;simp only[Option.some.injEq] at hx;subst hx
  obtain⟨v,g1,g2⟩:=QJf r hρ hc h1
  exact⟨v,g1,by rw[QGL g2];exact g2⟩
end Go.Va
