import Derived.Test.YtmdppkbekmpopaaGreatVxs
import Derived.Laws.BytesString
set_option linter.unusedVariables false
set_option linter.unusedSimpArgs false
set_option linter.unusedSectionVars false
noncomputable section
namespace Go.Va
open Go Go.Sh
variable [Vb]
variable {P:Program}
def copX (P:Program)(o:Oper):Option XOp:=match o.op with
 | .call c=>match c.callee with
  | .builtin .copy=>match c.args.toList,c.argTypes.toList with
   | [d,s],[t,t']=>(c1 d).bind fun d=>(c1 s).bind fun s=>match P.underlying t with
    | some (.slice e)=>(szO P e).bind fun k=>match P.underlying t' with
     | some (.slice _)=>if 0<k then some (.cpy k d s) else none
     | some .string=>if k=1 then some (.cpy 1 d s) else none
     | _=>none
    | _=>none
   | _,_=>none
  | .builtin .clear=>match c.args.toList,c.argTypes.toList with
   | [x],[t]=>(c1 x).bind fun x=>match P.underlying t with
    | some (.map _ _)=>some (.clm x)
    | _=>none
   | _,_=>none
  | .builtin .append=>match c.args.toList,c.argTypes.toList with
   | [s,x],[t,t']=>(c1 s).bind fun s=>(c1 x).bind fun x=>match P.underlying t with
    | some (.slice e)=>(zrO P e).bind fun z=>(P.info? e).bind fun i=>match P.underlying t' with
     | some .string=>if z.length=1 then some (.aps i.bytes s x) else none
     | some (.int _)=>if 0<z.length then some (.apo z.length i.bytes z s x) else none
     | _=>none
    | _=>none
   | _,_=>none
  | .builtin .delete=>match c.args.toList,c.argTypes.toList with
   | [x,k],[t,_]=>(c1 x).bind fun x=>(c1 k).bind fun k=>match P.underlying t with
    | some (.map kt _)=>(kdO P kt).bind fun d=>some (.dlm d x k)
    | _=>none
   | _,_=>none
  | _=>none
 | .convert s d x=>(c1 x).bind fun x=>match P.underlying s,P.underlying d with
  | some (.slice e),some .string=>match P.underlying e with
   | some (.int .u8)=>some (.cvs x)
   | _=>none
  | _,_=>none
 | .mapUpdate t m k v=>(c1 m).bind fun m=>(c1 k).bind fun k=>(c1 v).bind fun v=>match P.underlying t with
  | some (.map kt _)=>(kdO P kt).bind fun d=>some (.mum d m k v)
  | _=>none
 | .insert t m k v=>(c1 m).bind fun m=>(c1 k).bind fun k=>(c1 v).bind fun v=>match P.underlying t with
  | some (.map kt _)=>(kdO P kt).bind fun d=>some (.mum d m k v)
  | _=>none
 | .range t x=>(c1 x).bind fun x=>match P.underlying t with
  | some (.map _ _)=>some (.rgm x)
  | _=>none
 | .next x s=>(c1 x).bind fun x=>match s with
  | true=>none
  | false=>some (.nxm x)
 | _=>none
def copA (P:Program)(o:Oper):Option MOp:=match copX P o with
 | some x=>some (.xx x)
 | none=>match cop P o with
  | some (.xx _)=>none
  | r=>r
variable {m:MOp}{o:Oper}
theorem Qqe (hc:copA P o=some m)(hn:∀x,m≠.xx x):cop P o=some m:=by
 unfold copA at hc
 split at hc
 ·simp only[sj] at hc;exact absurd hc.symm (hn _)
 ·split at hc
  ·cases hc
  ·exact hc
variable {x:XOp}
theorem QHI (hc:copA P o=some (.xx x)):copX P o=some x:=by
 unfold copA at hc
 split at hc
 ·rename_i y hy
  simp only[sj,MOp.xx.injEq] at hc;rw[hy,hc]
 ·split at hc
  ·cases hc
  ·rename_i hn
   exact absurd hc (hn x)
def strC (l:List Nat):List FV:=l.map fun n=>.int .u8 (.ofNat n)
def QQf:List FV→Option (List Nat)
 | []=>some []
 | x::r=>match x with
  | .int k n=>match n with
   | .ofNat m=>bif keq k .u8&&Nat.blt m 256 then match QQf r with
     | some l=>some (m::l)
     | none=>none
    else none
   | _=>none
  | _=>none
def xCvs (x:Opd)(fr:Fr)(th:TH)(K:FV→TH→Prop):Prop:=match evO fr x with
 | some x=>match x with
  | .os t i=>match th.t.get i with
   | some (.row t2 es)=>match lyG t2 with
    | some ks=>match ks with
     | [.i .u8]=>K (.sstr (es.map fun e=>UInt8.ofNat (e.f 0).i.toNat)) th
     | _=>False
    | none=>False
   | _=>False
  | x=>match appC th.t 1 x with
   | some p=>match QQf p.2 with
    | some l=>K (.str l) th
    | none=>False
   | none=>False
 | none=>False
def strE (s:Str):List LD:=s.map fun b=>.t [.n (Int.ofNat b.toNat)]
def xAps (b:Nat)(s x:Opd)(fr:Fr)(th:TH)(K:FV→TH→Prop):Prop:=match evO fr s with
 | some s=>match evO fr x with
  | some x=>match x with
   | .str l=>appX th 1 b s l.length (strC l) K
   | .sstr q=>match s with
    | .os t i=>match lyG t with
     | some ks=>match ks with
      | [.i .u8]=>apR b t i q.length (strE q) th K
      | _=>False
     | none=>False
    | _=>False
   | _=>False
  | none=>False
 | none=>False
def xMum (d:KD)(x k v:Opd)(fr:Fr)(th:TH)(K:FV→TH→Prop):Prop:=match evO fr x with
 | some x=>match evO fr k with
  | some k=>match evO fr v with
   | some v=>mumX d x k v th K
   | none=>False
  | none=>False
 | none=>False
def xDlm (d:KD)(x k:Opd)(fr:Fr)(th:TH)(K:FV→TH→Prop):Prop:=match evO fr x with
 | some x=>match evO fr k with
  | some k=>dlmX d x k th K
  | none=>False
 | none=>False
def xRgm (x:Opd)(fr:Fr)(th:TH)(K:FV→TH→Prop):Prop:=match evO fr x with
 | some x=>rngF x th K
 | none=>False
def xNxm (x:Opd)(fr:Fr)(th:TH)(K:FV→TH→Prop):Prop:=match evO fr x with
 | some x=>nxtF x th K
 | none=>False
def xLkm (d:KD)(z:FV)(ok:Bool)(x k:Opd)(fr:Fr)(th:TH)(K:FV→TH→Prop):Prop:=match evO fr x with
 | some x=>match evO fr k with
  | some k=>lkmX d z ok x k th K
  | none=>False
 | none=>False
def evXX (fr:Fr)(th:TH)(x:XOp)(K:FV→TH→Prop):Prop:=match x with
 | .cpy k d s=>False
 | .clm x=>False
 | .cvs x=>xCvs x fr th K
 | .aps b s x=>xAps b s x fr th K
 | .mum d x k v=>xMum d x k v fr th K
 | .rgm x=>xRgm x fr th K
 | .nxm x=>xNxm x fr th K
 | .dlm d x k=>xDlm d x k fr th K
 | .apo k b z s n=>xApo k b z s n fr th K
def evXA (cl:FV→List FV→TH→(FV→TH→Prop)→Prop)(fr:Fr)(th:TH)(m:MOp)(K:FV→TH→Prop):Prop:=match m with
 | .xx x=>evXX fr th x K
 | .lkp d z ok x k=>xLkm d z ok x k fr th K
 | .slc k x lo hi mx=>xSlo k x lo hi mx fr th K
 | m=>evX cl fr th m K
theorem QVX {l:List Nat}(h:Q0 l=true):∀n∈l,n<256:=fun n hn=>QaQ (List.all_eq_true.1 h n hn)
theorem QUF {E:Env}:∀ {l:List Nat},Q0 l=true→denL E (strC l)=some ((l.map UInt8.ofNat).map fun b=>Value.int .u8 b.toNat)∧(strC l).all oneF=true
 | [],_=>⟨rfl,rfl⟩
 | n::l,h=>by
  have h0:=QVX h n (.head _)
  have h1:Q0 l=true:=by simp only[Q0,List.all_cons,Bool.and_eq_true] at h;exact h.2
  obtain⟨e1,e2⟩:=QUF (E:=E) h1
  have hn:((UInt8.ofNat n).toNat:Int)=Int.ofNat n:=by simp[Nat.mod_eq_of_lt h0]
  refine⟨Qau ?_ e1,?_⟩
  ·simp only[den];rw[hn]
  ·show (oneF _&&(strC l).all oneF)=true
   rw[e2];rfl
theorem QWg (s:Str):(⟨s.toArray⟩:ByteArray).size=s.length:=List.size_toArray
theorem QWp (h:Heap)(s:Str):Sr0 P h 1 s.length (str s) (s.map fun b=>Value.int .u8 b.toNat):=by
 refine⟨fun w=>?_,fun n hn w _=>?_,by simp,fun y hy=>?_⟩
 ·simp[Builtin.lenOf,str,QWg]
 ·have e:(⟨s.toArray⟩:ByteArray).extract 0 n=⟨(s.take n).toArray⟩:=by
   apply ByteArray.ext
   simp[ByteArray.data_extract,List.extract_eq_take_drop]
  simp[Builtin.firstCells,str,e,List.map_take]
 ·obtain⟨b,_,rfl⟩:=List.mem_map.1 hy;rfl
variable {tx:TypeId}
theorem QUG (hx:P.underlying tx=some .string)(h:Heap)(s:Str):Sr P tx h 1 s.length (str s) (s.map fun b=>Value.int .u8 b.toNat):=⟨.inr hx,QWp h s⟩
theorem QUb {E:Env}:∀ {xs:List FV}{l:List Nat}{us:List Value},QQf xs=some l→denL E xs=some us→us=l.map (fun n:Nat=>Value.int .u8 (n:Int))∧Q0 l=true
 | [],l,us,h,hd=>by
  simp only[QQf,sj] at h;subst h
  simp only[denL,sj] at hd;subst hd
  exact⟨rfl,rfl⟩
 | x::r,l,us,h,hd=>by
  cases x<;>simp only[QQf] at h<;>try (cases h;done)
  rename_i k n
  cases n<;>simp only at h<;>try (cases h;done)
  rename_i m
  cases hb:keq k .u8&&Nat.blt m 256 with
  | false=>rw[hb] at h;cases h
  | true=>
   rw[hb] at h
   simp only[cond_true] at h
   cases hr:QQf r with
   | none=>rw[hr] at h;cases h
   | some l'=>
    rw[hr] at h;cases sJ h
    obtain⟨v,us',h1,h2,rfl⟩:=QR hd
    obtain⟨e1,e2⟩:=QUb hr h2
    simp only[Bool.and_eq_true] at hb
    have:=QdB hb.1;subst this
    simp only[den,sj] at h1;subst h1 e1
    refine⟨rfl,?_⟩
    simp only[Q0,List.all_cons,Bool.and_eq_true]
    exact⟨hb.2,e2⟩
theorem QTA:∀(ns:List Int) (s:Str),ns.foldl (fun (r:ByteArray) n=>r.push (UInt8.ofNat n.toNat)) ⟨s.toArray⟩=⟨(s++ns.map fun n=>UInt8.ofNat n.toNat).toArray⟩
 | [],s=>by simp
 | n::ns,s=>by
  rw[List.foldl_cons]
  have:(⟨s.toArray⟩:ByteArray).push (UInt8.ofNat n.toNat)=⟨(s++[UInt8.ofNat n.toNat]).toArray⟩:=by
   apply ByteArray.ext
   simp[ByteArray.push]
  rw[this,QTA ns]
  simp
variable {h:Heap}{w:World}
theorem QTQ {m:Nat}{u:Value}{ns:List Int}{us:List Value}(hu:us=ns.map (Value.int .u8))(hsl:IsSl u m)(hlen:us.length=m * 1)(hr:Rd h (Qc1 u) us)(hw:w.heap=h):(Conv.bytesToString u).run P w=.ok (str (ns.map fun n=>UInt8.ofNat n.toNat)) w:=by
 obtain⟨xa,xc,rfl⟩:=hsl
 have hfin:=QTA ns []
 cases xa with
 | none=>
  have hus:us=[]:=by
   rcases hr with h | ⟨_,_,hp,_⟩
   ·exact h
   ·simp[Qc1] at hp
  have:ns=[]:=by
   cases ns with
   | nil=>rfl
   | cons _ _=>rw[hus] at hu;cases hu
  subst this
  rfl
 | some a=>
  have hl:=run_firstCells_some (P:=P) w 1 m a m xc us hlen fun j y hy=>by rw[Qee,hw];exact Qtr hr j y hy
  simp only[Builtin.firstCells,Nat.mul_one] at hl
  have:=run_bytesToString (P:=P) w a m xc ns (by rw[hl,hu])
  rw[this]
  have e:(ByteArray.empty:ByteArray)=⟨([]:Str).toArray⟩:=rfl
  rw[e,hfin]
  rfl
theorem QTj:∀ {es:List LD},wtE es [.i .u8]→LD.vsE [.i .u8] es=(es.map fun e=>(e.f 0).i).map (Value.int .u8)
 | [],_=>rfl
 | e::es,h=>by
  simp only[wtE] at h
  obtain⟨h1,h2⟩:=h
  cases e<;>simp only[wtT] at h1
  rename_i cs
  match cs,h1 with
  | [x],h1=>
   simp only[wtL] at h1
   have ih:=QTj h2
   simp only[LD.vsE,List.flatMap_cons,List.map_cons] at ih ⊢
   rw[ih]
   rfl
  | [],h1=>simp only[wtL] at h1
  | _::_::_,h1=>simp only[wtL] at h1;exact h1.2.elim
variable {d e s:TypeId}{v:Value}
theorem QTc (hs:P.underlying s=some (.slice e))(he:P.underlying e=some (.int .u8))(hd:P.underlying d=some .string){m:Nat}(hsl:IsSl v m):(convert s d v).run P w=(Conv.bytesToString v).run P w:=by
 obtain⟨a,c,rfl⟩:=hsl
 unfold convert
 simp[run_underlying hs,run_underlying hd,run_underlying he]
variable {E:Env}{K:FV→TH→Prop}{L:List HP}{fr:Fr}{h0:Heap}{th:TH}{x':Opd}
theorem QWx [Gd](r:Rep E th h0 h L)(hs:P.underlying s=some (.slice e))(he:P.underlying e=some (.int .u8))(hd:P.underlying d=some .string){x:FV}(hv':evO fr x'=some x)(hv:den E x=some v)
  (hx:xCvs x' fr th K):QF6 P s d v h (Post E h0 L K):=by
 unfold xCvs at hx
 rw[hv'] at hx
 simp only at hx
 have told:(match appC th.t 1 x with
   | some p=>match QQf p.2 with
    | some l=>K (.str l) th
    | none=>False
   | none=>False)→QF6 P s d v h (Post E h0 L K):=fun hx=>by
  cases ha:appC th.t 1 x with
  | none=>rw[ha] at hx;exact hx.elim
  | some p=>
   obtain⟨m,xs⟩:=p
   rw[ha] at hx
   simp only at hx
   cases hb:QQf xs with
   | none=>rw[hb] at hx;exact hx.elim
   | some l=>
    rw[hb] at hx
    obtain⟨us,A⟩:=QEy r hv ha
    obtain⟨e1,e2⟩:=QUb hb A.den
    intro w hw
    have hr:=QTQ (P:=P) (w:=w) (ns:=l.map fun n:Nat=>(n:Int)) (by rw[e1,List.map_map];rfl) A.sl A.len A.rd hw
    rw[←QTc hs he hd A.sl] at hr
    rw[QA hr]
    refine⟨Qx.refl w,?_⟩
    rw[hw]
    refine Post.same ?_ r hx
    simp only[den]
    rw[if_pos e2,List.map_map]
    rfl
 cases x<;>try (exact told hx)
 case os t i=>
  simp only at hx
  cases hg:th.t.get i with
  | none=>rw[hg] at hx;exact hx.elim
  | some ob=>
   rw[hg] at hx
   cases ob<;>try (exact hx.elim)
   rename_i t2 es
   simp only at hx
   cases hl:lyG t2 with
   | none=>rw[hl] at hx;exact hx.elim
   | some ks=>
    rw[hl] at hx
    simp only at hx
    split at hx
    ·obtain⟨a,v1,ks',hw,hsl,hrd,_⟩:=r.row hg
     have ek:ks'=[.i .u8]:=by have:=hw.ly;rw[QaN hl] at this;simpa using this.symm
     subst ek
     obtain⟨_,hs1,_⟩:=Qe4 hv
     have ev:v1=v:=hw.s.symm.trans hs1
     subst ev
     intro w hw'
     have hr:=QTQ (P:=P) (w:=w) (ns:=es.map fun e=>(e.f 0).i) (QTj hw.wt) hsl (by rw[QbS hw.wt];rfl) hrd hw'
     rw[←QTc hs he hd hsl] at hr
     rw[QA hr]
     refine⟨Qx.refl w,?_⟩
     rw[hw']
     refine Post.same ?_ r hx
     simp only[den]
     rw[if_pos (by rw[List.length_map];exact hw.len),List.map_map]
     rfl
    ·exact hx.elim
theorem QN8 (s:Str):(strE s).length=s.length:=by simp[strE]
theorem QSo:∀s:Str,wtE (strE s) [.i .u8]
 | []=>by simp[strE,wtE]
 | b::s=>by
  have h:=QSo s
  simp only[strE] at h
  simp only[strE,List.map_cons,wtE,wtT,wtL,wt,loK,hiK]
  have hb:b.toNat<256:=b.toNat_lt
  exact⟨⟨⟨Int.natCast_nonneg _,by show (b.toNat:Int)≤255;omega⟩,trivial⟩,h⟩
theorem QTP [Vb] (R:Addr→List Value→Prop):∀s:Str,QI R (strE s) [.i .u8]
 | []=>by simp[strE,QI]
 | b::s=>by
  have h:=QTP R s
  simp only[strE] at h
  simp only[strE,List.map_cons,QI,Qbz,Q5,lies]
  exact⟨⟨trivial,trivial⟩,h⟩
theorem QVz (s:Str):LD.vsE [.i .u8] (strE s)=s.map fun b=>Value.int .u8 b.toNat:=by
 rw[QTj (QSo s),strE,List.map_map,List.map_map]
 rfl
variable {k:Nat}{t ty:TypeId}
theorem QUO [Gd]{b:Nat}{z:Value} [Und P t (.slice e)] [u:Inf P e k b z]{x:Value}{n m:Nat}{cs xs:List Value}{K:Value→Heap→Prop}
  (s:St h0 h (Row k v n cs::L)) (hz:z.cells.size=k) (hk0:0<k) (A:Sr P tx h k m x xs)
  (hb:(n+m) * b≤140737488355328) (hb2:n+m≤4611686018427387904)
  (g:∀v' h',St h0 h' (Row k v' (n+m) (cs++xs)::L)→K v' h'):QbY P #[t,tx] ty #[v,x] h K:=by
 intro w hw
 obtain⟨i,hi,hk,hbb,hzz⟩:=u.info
 have hl:=A.s.len
 have h1:=A.s.one
 have hlo:=A.s.lenO w
 have hf:=A.s.fst w hw
 have hcs:=s.row.2.1
 obtain⟨he,S,⟨_,hown⟩,hS,hL⟩:=id s
 by_cases hroom:∃a cap post,v=.slice (some a) n cap∧n+m≤cap∧post.length=(cap - n) * k∧(Qap (.pointer (some a)) (cs++post)).own h S
 ·obtain⟨a,cap,post,rfl,hfit,hpost,hc⟩:=hroom
  have hxp:xs.length≤post.length:=by
   rw[hl,hpost];exact Nat.mul_le_mul_right _ om
  obtain⟨bb,o,T,l,hp,hbk,hSb,hrun,hown'⟩:=Qap.set (P:=P) hc (fun b hb=>(hS b hb).2) cs.length xs (by simp;omega) h1
  have ha:a.add (n * k)=⟨bb,o,none⟩:=by
   rw[hcs] at hp
   simpa [padd] using hp
  have hr1:(Builtin.append_ #[t,tx] ty #[.slice (some a) n cap,x]).run P w=.ok (.slice (some a) (n+m) cap) { w with heap:=setB h bb (.cells (setAt l.toList o xs).toArray T (0,0)) }:=by
   have h2:=hrun w hw
   rcases A.kind with⟨e',hk'⟩ | hk'<;>simp[Builtin.append_,run_underlying (Und.eq (P:=P) (t:=t)),run_underlying hk',sizeOf,typeInfo,hi,hk,hlo,hfit,hf,ha,h2]
  rw[QA hr1]
  refine⟨⟨rfl,rfl,rfl,fun _=>by first | exact nr | exact Nat.le_succ _ | exact Nat.le_add_right _ _⟩,g _ _ ?_⟩
  have hst:St h0 (setB h bb (.cells (setAt l.toList o xs).toArray T (0,0))) (Qap (.pointer (some a)) (setAt (cs++post) cs.length xs)::L):=by
   refine St.step (A:=Qap (.pointer (some a)) (cs++post)) ⟨he,S,hc,hS,hL⟩ fun S' hA' hS'=>?_
   obtain⟨b',o',T',l',hp',hb',hSb',_,hown2⟩:=Qap.set (P:=P) hA' (fun b hb=>(hS' b hb).2) cs.length xs (by simp;omega) h1
   rw[hp] at hp'
   simp only[Value.pointer.injEq,sj,Addr.mk.injEq,and_true] at hp'
   obtain⟨rfl,rfl⟩:=hp'
   rw[hbk] at hb'
   simp only[sj,Obj.cells.injEq,and_true] at hb'
   obtain⟨rfl,rfl⟩:=hb'
   exact⟨by rw[QeJ];exact nr,fun i _ hi=>Qda (fun e=>hi (e ▸ hSb')),S',hown2,fun i hi=>.inl hi⟩
  rw[QhK xs cs post hxp] at hst
  exact hst.rowShut hfit (by rw[List.length_drop,hpost,hl,←Nat.sub_mul];congr 1;omega) (by rw[List.length_append,hcs,hl,Nat.add_mul])
 ·have hmain:(v=.slice none 0 0∧n=0)∨∃a cap post,v=.slice (some a) n cap∧cap<n+m∧n≤cap∧(Qap (.pointer (some a)) (cs++post)).own h S:=by
   rcases hown with h | ⟨a,cap,post,h1,h2,h3,h4⟩
   ·exact .inl h
   ·refine .inr ⟨a,cap,post,h1,?_,h2,h4⟩
    rcases Nat.lt_or_ge cap (n+m) with h | h
    ·exact h
    ·exact absurd ⟨a,cap,post,h1,h,h3,h4⟩ hroom
  have grown:∀w':World,Qx w w'→∀cap,n+m≤cap→w'.heap=w.heap.push (.cells ((cs++xs).toArray++Builtin.zeroCells z.cells (cap - (n+m))) e) →
    (Builtin.append_ #[t,tx] ty #[v,x]).run P w=.ok (.slice (some ⟨w.heap.size,0,none⟩) (n+m) cap) w'→Qd9 P K w ((nv (Builtin.append_ #[t,tx] ty #[v,x])).run P w):=by
   intro w' hs cap hcap hh hrun
   rw[QA hrun]
   refine⟨hs,?_⟩
   rw[hh,hw]
   refine g _ _ ?_
   have s0:=s.drop.push (cs++xs++(Builtin.zeroCells z.cells (cap - (n+m))).toList) e
   have e1:(cs++xs++(Builtin.zeroCells z.cells (cap - (n+m))).toList).toArray=(cs++xs).toArray++Builtin.zeroCells z.cells (cap - (n+m)):=by
    apply Array.ext';simp
   rw[e1] at s0
   exact s0.rowShut hcap (by rw[Array.length_toList,Qc8,hz]) (by rw[List.length_append,hcs,hl,Nat.add_mul])
  rcases hmain with⟨rfl,rfl⟩ | ⟨a,cap,post,rfl,hgrow,hcap,hc⟩
  ·have hcs0:cs=[]:=by simpa using hcs
   subst hcs0
   rcases Nat.eq_zero_or_pos m with rfl | hm
   ·have:xs=[]:=by simpa using hl
    subst this
    have hr1:(Builtin.append_ #[t,tx] ty #[.slice none 0 0,x]).run P w=.ok (.slice none 0 0) w:=by
     rcases A.kind with⟨e',hk'⟩ | hk'<;>simp[Builtin.append_,run_underlying (Und.eq (P:=P) (t:=t)),run_underlying hk',sizeOf,typeInfo,hi,hk,hlo,hf]
    rw[QA hr1]
    exact⟨⟨rfl,rfl,rfl,fun _=>by first | exact nr | exact Nat.le_succ _ | exact Nat.le_add_right _ _⟩,by rw[hw];exact g _ _ s⟩
   ·have hr1:=run_append_grow_src (P:=P) w t tx ty e i z Und.eq hi hzz none 0 0 [] (run_firstCells_none w.drew i.size 0 0 0) x m xs (by rw[hk];exact A.src hw) om om (growslice_fits (old:=0) om (by rw[hbb];exact hb))
    refine grown _ ?_ _ (grownCap_ge w (0+m) 0 e) ?_ hr1
    ·exact⟨rfl,rfl,rfl,fun _=>by first | exact nr | exact Nat.le_succ _ | exact Nat.le_add_right _ _⟩
    ·rfl
  ·have holds:∀j y,cs[j]?=some y→w.drew.cell? (a.add j)=some y:=fun j y hy=>by
    show w.cell? _=_
    have hrd:=(Qap.rd hc).take cs.length
    rw[List.take_left] at hrd
    obtain⟨a',ha',hcc⟩:=hrd.at hy
    simp only[padd,Value.pointer.injEq,sj] at ha'
    rw[Qee,hw,ha'];exact hcc
   have hr1:=run_append_grow_src (P:=P) w t tx ty e i z Und.eq hi hzz (some a) n cap cs (run_firstCells_some w.drew i.size n a n cap cs (by rw[hk];exact hcs) holds) x m xs (by rw[hk];exact A.src hw) hgrow om (growslice_fits hgrow (by rw[hbb];exact hb))
   refine grown _ ?_ _ (grownCap_ge w (n+m) cap e) ?_ hr1
   ·exact⟨rfl,rfl,rfl,fun _=>by first | exact nr | exact Nat.le_succ _ | exact Nat.le_add_right _ _⟩
   ·rfl
variable {i:TypeInfo}{z:List FV}
theorem QVJ [Gd](r:Rep E th h0 h L)(hu:P.underlying t=some (.slice e))(htx:P.underlying tx=some .string)(hz:zrO P e=some z)(hi:P.info? e=some i)(hz1:z.length=1){tt id:Nat}{q:Str}(ly:Vb.ly[tt]?=some [.i .u8])(hs:den E (.os tt id)=some v)
  (hx:apR i.bytes tt id q.length (strE q) th K):QbY P #[t,tx] ty #[v,str q] h (Post E h0 L K):=by
 obtain⟨i',zv,inf,g1,g3,g4,g6⟩:=QIl hz
 rw[hi] at g1;cases sJ g1
 haveI:Und P t (.slice e):=⟨hu⟩
 unfold apR at hx
 cases hg:th.t.get id with
 | none=>rw[hg] at hx;exact hx.elim
 | some ob=>
  rw[hg] at hx
  cases ob<;>try (exact hx.elim)
  rename_i t2 es
  simp only at hx
  obtain⟨hb2,⟨c4,c5⟩,c66⟩:=Q1 hx
  have e2:=Qm hb2
  subst e2
  obtain⟨a,v1,ks',hw,s0⟩:=r.toldW hg
  have ek':ks'=[.i .u8]:=by have:=hw.ly;rw[ly] at this;simpa using this.symm
  subst ek'
  obtain⟨_,hs1,_⟩:=Qe4 hs
  have ev:v1=v:=hw.s.symm.trans hs1
  subst ev
  have A:=QUG (P:=P) htx h q
  rw[←QVz] at A
  have ek:z.length=[CK.i IntKind.u8].length:=hz1
  rw[←ek] at s0
  rw[←hz1] at A
  refine QUO s0 g6 om A c4 c5 fun v' h' s'=>?_
  have e:maxL=9223372036854775807:=by unfold maxL;rfl
  rw[←Qps,show es.length+q.length=(es++strE q).length by rw[List.length_append,QN8],ek] at s'
  have rdel:=r.del hg
  obtain⟨a1,a2,a3⟩:=Rep.addW (E:=E) (th:=th.del id) (t:=tt) (ks:=[.i .u8]) r.fr r.eh rdel.nx ly hw.ne (QlN hw.wt (QSo q)) (Qh6 hw.li (QTP _ q)) (by rw[List.length_append,QN8];omega) s'
  exact⟨_,_,_,a1,a3,a2,c66⟩
variable {ρ:Operand→Value}
theorem QWy [Gd](r:Rep E th h0 h L)(hρ:AgO E fr ρ)(hu:P.underlying t=some (.slice e))(htx:P.underlying tx=some .string)(hz:zrO P e=some z)(hi:P.info? e=some i)(hz1:z.length=1)
  {s x:Operand}{s':Opd} (h1:c1 s=some s') (h2:c1 x=some x') (hx:xAps i.bytes s' x' fr th K):QbY P #[t,tx] ty #[ρ s,ρ x] h (Post E h0 L K):=by
 unfold xAps at hx
 cases hsv:evO fr s' with
 | none=>rw[hsv] at hx;exact hx.elim
 | some sv=>
  cases hxv:evO fr x' with
  | none=>rw[hsv,hxv] at hx;exact hx.elim
  | some xv=>
   rw[hsv,hxv] at hx
   simp only at hx
   have hds:=hρ s s' sv h1 hsv
   have hdx:=hρ x x' xv h2 hxv
   obtain⟨i',zv,g1,g2,g3,g4,g5,g6⟩:=Qe5 hz
   rw[hi] at g1;cases sJ g1
   cases xv<;>try (exact hx.elim)
   case str l=>
    obtain⟨hl,e⟩:=Qcr hdx
    obtain⟨e1,e2⟩:=QUF (E:=E) hl
    have A:=QUG (P:=P) htx h (l.map UInt8.ofNat)
    rw[List.length_map] at A
    rw[e]
    exact QJI r hu hi g2 (by rw[←g5,hz1]) (by rw[g6,←g5,hz1]) om hds (A:=⟨A,e1,e2⟩) hx
   case sstr q=>
    obtain⟨_,e⟩:=Qjh hdx
    rw[e]
    cases sv<;>try (exact hx.elim)
    case os tt id=>
     simp only at hx
     cases hly:lyG tt with
     | none=>rw[hly] at hx;exact hx.elim
     | some ks=>
      rw[hly] at hx
      simp only at hx
      split at hx
      ·exact QVJ r hu htx hz hi hz1 (QaN hly) hds hx
      ·exact hx.elim
theorem QJb [Gd](r:Rep E th h0 h L)(hρ:AgO E fr ρ)(hc:copX P o=some x)(hx:evXX fr th x K):Sx P (execOp ρ o) h (Post E h0 L K):=by
 have X:opX P ρ o h (Post E h0 L K)→Sx P (execOp ρ o) h (Post E h0 L K):=QrR
 obtain⟨dst,op,type,pos,after,guard⟩:=o
 unfold copX at hc
 simp only at hc
 split at hc
 ·rename_i c
  obtain⟨cal,args,ats⟩:=c
  simp only at hc
  split at hc
  ·split at hc
   ·rename_i d s t t' ha hat
    obtain⟨d',h1,hc⟩:=bS hc
    obtain⟨s',h2,hc⟩:=bS hc
    have eargs:args=#[d,s]:=by simpa using congrArg List.toArray ha
    have eats:ats=#[t,t']:=by simpa using congrArg List.toArray hat
    subst eargs eats
    split at hc
    ·rename_i e hu
     obtain⟨k,hk,hc⟩:=bS hc
     split at hc
     ·rename_i e' hu'
      split at hc
      ·cases sJ hc
       refine X ?_
       show QE6 P #[t,t'] type #[ρ d,ρ s] h _
       exact False.elim hx
      ·cases hc
     ·rename_i hu'
      split at hc
      ·rename_i hk1
       subst hk1
       cases sJ hc
       refine X ?_
       show QE6 P #[t,t'] type #[ρ d,ρ s] h _
       exact False.elim hx
      ·cases hc
     ·cases hc
    ·cases hc
   ·cases hc
  ·split at hc
   ·rename_i y t ha hat
    obtain⟨y',h1,hc⟩:=bS hc
    have eargs:args=#[y]:=by simpa using congrArg List.toArray ha
    have eats:ats=#[t]:=by simpa using congrArg List.toArray hat
    subst eargs eats
    split at hc
    ·rename_i kt et hu
     cases sJ hc
     refine X ?_
     show QF7 P #[t] type #[ρ y] h _
     exact False.elim hx
    ·cases hc
   ·cases hc
  ·split at hc
   ·rename_i s y t t' ha hat
    obtain⟨s',h1,hc⟩:=bS hc
    obtain⟨y',h2,hc⟩:=bS hc
    have eargs:args=#[s,y]:=by simpa using congrArg List.toArray ha
    have eats:ats=#[t,t']:=by simpa using congrArg List.toArray hat
    subst eargs eats
    split at hc
    ·rename_i e hu
     obtain⟨z,hz,hc⟩:=bS hc
     obtain⟨i,hi,hc⟩:=bS hc
     split at hc
     ·rename_i hu'
      split at hc
      ·rename_i hz1
       cases sJ hc
       refine X ?_
       show QbY P #[t,t'] type #[ρ s,ρ y] h _
       exact QWy r hρ hu hu' hz hi hz1 h1 h2 hx
      ·cases hc
     ·rename_i kk hu'
      split at hc
      ·rename_i hzp
       cases sJ hc
       refine X ?_
       show QbY P #[t,t'] type #[ρ s,ρ y] h _
       simp only[evXX,xApo] at hx
       cases hn:evN fr y' with
       | some n=>
        rw[hn] at hx
        simp only[xApc] at hx
        cases hsv:evO fr s' with
        | none=>rw[hsv] at hx;exact hx.elim
        | some sv=>
         rw[hsv] at hx
         cases sv<;>try (exact hx.elim)
         simp only at hx
         rw[hn] at hx
         obtain⟨hb,hx⟩:=Q1 hx
         simp only[Bool.and_eq_true] at hb
         have hs:=hρ s s' _ h1 hsv
         simp only[den,sj] at hs
         rw[←hs,Qst hρ h2 hn]
         exact QGV r hu hu' hz hi hzp (QaQ hb.1.1) (Qag hb.1.2) (Qag hb.2) hx
       | none=>
        rw[hn] at hx
        simp only at hx
        cases hsv:evO fr s' with
        | none=>rw[hsv] at hx;exact hx.elim
        | some sv=>
         rw[hsv] at hx
         cases sv<;>try (exact hx.elim)
         simp only at hx
         have hs:=hρ s s' _ h1 hsv
         simp only[den,sj] at hs
         cases hnv:evO fr y' with
         | none=>rw[hnv] at hx;exact hx.elim
         | some nv=>
          rw[hnv] at hx
          rw[←hs]
          exact QKS r hu hu' hz hi hzp (hρ y y' nv h2 hnv) hx
      ·cases hc
     ·cases hc
    ·cases hc
   ·cases hc
  ·split at hc
   ·rename_i y k t t' ha hat
    obtain⟨y',h1,hc⟩:=bS hc
    obtain⟨k',h2,hc⟩:=bS hc
    have eargs:args=#[y,k]:=by simpa using congrArg List.toArray ha
    have eats:ats=#[t,t']:=by simpa using congrArg List.toArray hat
    subst eargs eats
    split at hc
    ·rename_i kt et hu
     obtain⟨d,hd,hc⟩:=bS hc
     cases sJ hc
     refine X ?_
     show QD5 P #[t,t'] type #[ρ y,ρ k] h _
     simp only[evXX,xDlm] at hx
     cases ha:evO fr y' with
     | none=>rw[ha] at hx;exact hx.elim
     | some av=>
      cases hb:evO fr k' with
      | none=>rw[ha,hb] at hx;exact hx.elim
      | some bv=>
       rw[ha,hb] at hx
       exact QWw r hu hd (hρ y y' av h1 ha) (hρ k k' bv h2 hb) hx
    ·cases hc
   ·cases hc
  ·cases hc
 ·rename_i s d y
  obtain⟨y',h1,hc⟩:=bS hc
  split at hc
  ·rename_i e hs hd
   split at hc
   ·rename_i he
    cases sJ hc
    refine X ?_
    show QF6 P s d (ρ y) h _
    simp only[evXX] at hx
    cases hv:evO fr y' with
    | none=>simp only[xCvs,hv] at hx
    | some v=>exact QWx r hs he hd hv (hρ y y' v h1 hv) hx
   ·cases hc
  ·cases hc
 ·rename_i t m k v
  refine X ?_
  obtain⟨m',h1,hc⟩:=bS hc
  obtain⟨k',h2,hc⟩:=bS hc
  obtain⟨v',h3,hc⟩:=bS hc
  split at hc
  ·rename_i kt et hu
   obtain⟨d,hd,hc⟩:=bS hc
   cases sJ hc
   simp only[evXX,xMum] at hx
   cases ha:evO fr m' with
   | none=>rw[ha] at hx;exact hx.elim
   | some av=>
    cases hb:evO fr k' with
    | none=>rw[ha,hb] at hx;exact hx.elim
    | some bv=>
     cases hcv:evO fr v' with
     | none=>rw[ha,hb,hcv] at hx;exact hx.elim
     | some cv=>
      rw[ha,hb,hcv] at hx
      exact QGc r hu hd (hρ m m' av h1 ha) (hρ k k' bv h2 hb) (hρ v v' cv h3 hcv) hx
  ·cases hc
 ·rename_i t m k v
  refine X ?_
  obtain⟨m',h1,hc⟩:=bS hc
  obtain⟨k',h2,hc⟩:=bS hc
  obtain⟨v',h3,hc⟩:=bS hc
  split at hc
  ·rename_i kt et hu
   obtain⟨d,hd,hc⟩:=bS hc
   cases sJ hc
   simp only[evXX,xMum] at hx
   cases ha:evO fr m' with
   | none=>rw[ha] at hx;exact hx.elim
   | some av=>
    cases hb:evO fr k' with
    | none=>rw[ha,hb] at hx;exact hx.elim
    | some bv=>
     cases hcv:evO fr v' with
     | none=>rw[ha,hb,hcv] at hx;exact hx.elim
     | some cv=>
      rw[ha,hb,hcv] at hx
      exact QGc r hu hd (hρ m m' av h1 ha) (hρ k k' bv h2 hb) (hρ v v' cv h3 hcv) hx
  ·cases hc
 ·rename_i t y
  refine X ?_
  obtain⟨y',h1,hc⟩:=bS hc
  split at hc
  ·rename_i kt et hu
   cases sJ hc
   simp only[evXX,xRgm] at hx
   cases hv:evO fr y' with
   | none=>rw[hv] at hx;exact hx.elim
   | some v=>rw[hv] at hx;exact QFN r hu (hρ y y' v h1 hv) hx
  ·cases hc
 ·rename_i y s
  refine X ?_
  obtain⟨y',h1,hc⟩:=bS hc
  cases s with
  | true=>cases hc
  | false=>
   cases sJ hc
   simp only[evXX,xNxm] at hx
   cases hv:evO fr y' with
   | none=>rw[hv] at hx;exact hx.elim
   | some v=>rw[hv] at hx;exact QF9 r (hρ y y' v h1 hv) hx
 ·cases hc
def QLf:MOp→Bool
 | .lkp _ _ _ _ _=>true
 | _=>false
theorem QJt (hc:cop P o=some m)(he:QLf m=true):∃t a b ok,o.op=.lookup t a b ok:=by
 obtain⟨dst,op,type,pos,after,guard⟩:=o
 cases op<;>simp only[cop] at hc<;>try (cases hc;done)
 case move y=>
  exfalso
  obtain⟨_,_,hc⟩:=bS hc
  cases sJ hc;cases he
 case assign y=>
  exfalso
  obtain⟨_,_,hc⟩:=bS hc
  cases sJ hc;cases he
 case pick c a b=>
  exfalso
  obtain⟨_,_,hc⟩:=bS hc
  obtain⟨_,_,hc⟩:=bS hc
  obtain⟨_,_,hc⟩:=bS hc
  cases sJ hc;cases he
 case nilCheck y=>
  exfalso
  obtain⟨_,_,hc⟩:=bS hc
  cases sJ hc;cases he
 case binOp op t y z yt=>
  exfalso
  obtain⟨_,_,hc⟩:=bS hc
  obtain⟨_,_,hc⟩:=bS hc
  obtain⟨_,_,hc⟩:=bS hc
  split at hc
  ·cases sJ hc;cases he
  ·split at hc
   ·split at hc
    ·cases hc
    ·obtain⟨_,_,hc⟩:=bS hc
     cases op<;>simp only at hc<;>first | (cases hc;done) | (cases sJ hc;cases he)
   ·obtain⟨_,_,hc⟩:=bS hc
    cases op<;>simp only at hc<;>first | (cases hc;done) | (cases sJ hc;cases he)
 case unOp op t y=>
  exfalso
  obtain⟨_,_,hc⟩:=bS hc
  cases op<;>simp only at hc<;>first | (cases hc;done) | (cases sJ hc;cases he)
 case convert s d y=>
  exfalso
  obtain⟨_,_,hc⟩:=bS hc
  split at hc
  ·cases sJ hc;cases he
  ·cases hc
 case typeAssert y xt a ok=>
  exfalso
  obtain⟨_,_,hc⟩:=bS hc
  obtain⟨_,_,hc⟩:=bS hc
  split at hc
  ·cases hc
  ·cases ok with
   | false=>cases hc
   | true=>cases sJ hc;cases he
 case makeInterface t y=>
  exfalso
  obtain⟨_,_,hc⟩:=bS hc
  obtain⟨_,_,hc⟩:=bS hc
  split at hc
  ·cases hc
  ·cases sJ hc;cases he
 case makeFunc f a b=>
  exfalso
  obtain⟨_,_,hc⟩:=bS hc
  obtain⟨_,_,hc⟩:=bS hc
  cases sJ hc;cases he
 case slice t y lo hi mx=>
  exfalso
  obtain⟨_,_,hc⟩:=bS hc
  obtain⟨_,_,hc⟩:=bS hc
  obtain⟨_,_,hc⟩:=bS hc
  obtain⟨_,_,hc⟩:=bS hc
  split at hc
  ·obtain⟨_,_,hc⟩:=bS hc
   cases sJ hc;cases he
  ·split at hc
   ·cases sJ hc;cases he
   ·cases hc
  ·obtain⟨_,_,hc⟩:=bS hc
   cases sJ hc;cases he
  ·cases hc
 case fieldAddr t y i=>
  exfalso
  obtain⟨_,_,hc⟩:=bS hc
  split at hc
  ·obtain⟨_,_,hc⟩:=bS hc
   obtain⟨_,_,hc⟩:=bS hc
   split at hc
   ·cases sJ hc;cases he
   ·cases hc
  ·cases hc
 case field t y i=>
  exfalso
  obtain⟨_,_,hc⟩:=bS hc
  split at hc
  ·obtain⟨_,_,hc⟩:=bS hc
   obtain⟨_,_,hc⟩:=bS hc
   obtain⟨_,_,hc⟩:=bS hc
   cases sJ hc;cases he
  ·cases hc
 case indexAddr t y i=>
  exfalso
  obtain⟨_,_,hc⟩:=bS hc
  obtain⟨_,_,hc⟩:=bS hc
  split at hc
  ·obtain⟨_,_,hc⟩:=bS hc
   cases sJ hc;cases he
  ·obtain⟨_,_,hc⟩:=bS hc
   cases sJ hc;cases he
  ·cases hc
 case index t y i=>
  exfalso
  obtain⟨_,_,hc⟩:=bS hc
  obtain⟨_,_,hc⟩:=bS hc
  split at hc
  ·cases sJ hc;cases he
  ·obtain⟨_,_,hc⟩:=bS hc
   obtain⟨_,_,hc⟩:=bS hc
   cases sJ hc;cases he
  ·cases hc
 case extract y i=>
  exfalso
  obtain⟨_,_,hc⟩:=bS hc
  cases sJ hc;cases he
 case build t ps=>
  exfalso
  obtain⟨_,_,hc⟩:=bS hc
  split at hc
  ·obtain⟨_,_,hc⟩:=bS hc
   obtain⟨_,_,hc⟩:=bS hc
   obtain⟨_,_,hc⟩:=bS hc
   cases sJ hc;cases he
  ·obtain⟨_,_,hc⟩:=bS hc
   obtain⟨_,_,hc⟩:=bS hc
   cases sJ hc;cases he
  ·cases hc
 case load t y=>
  exfalso
  obtain⟨_,_,hc⟩:=bS hc
  obtain⟨_,_,hc⟩:=bS hc
  obtain⟨_,_,hc⟩:=bS hc
  split at hc
  ·cases sJ hc;cases he
  ·cases hc
 case lookup t y i ok=>exact⟨t,y,i,ok,rfl⟩
 case makeMap t rr=>
  exfalso
  obtain⟨_,_,hc⟩:=bS hc
  split at hc
  ·obtain⟨_,_,hc⟩:=bS hc
   cases sJ hc;cases he
  ·cases hc
 case mapUpdate t m k v=>
  exfalso
  obtain⟨_,_,hc⟩:=bS hc
  obtain⟨_,_,hc⟩:=bS hc
  obtain⟨_,_,hc⟩:=bS hc
  split at hc
  ·obtain⟨_,_,hc⟩:=bS hc
   cases sJ hc;cases he
  ·cases hc
 case alloc t=>
  exfalso
  obtain⟨_,_,hc⟩:=bS hc
  cases sJ hc;cases he
 case box t y=>
  exfalso
  obtain⟨_,_,hc⟩:=bS hc
  cases sJ hc;cases he
 case range t y=>
  exfalso
  obtain⟨_,_,hc⟩:=bS hc
  split at hc
  ·cases sJ hc;cases he
  ·cases hc
 case next y b=>
  exfalso
  obtain⟨_,_,hc⟩:=bS hc
  cases b
  ·cases sJ hc;cases he
  ·cases hc
 case entry y=>
  exfalso
  obtain⟨_,_,hc⟩:=bS hc
  cases sJ hc;cases he
 case buildSlice t n ps=>
  exfalso
  obtain⟨_,_,hc⟩:=bS hc
  split at hc
  ·obtain⟨_,_,hc⟩:=bS hc
   split at hc
   ·cases sJ hc;cases he
   ·split at hc
    ·cases sJ hc;cases he
    ·cases hc
  ·cases hc
 case makeSlice t l c=>
  exfalso
  obtain⟨_,_,hc⟩:=bS hc
  obtain⟨_,_,hc⟩:=bS hc
  split at hc
  ·obtain⟨_,_,hc⟩:=bS hc
   obtain⟨_,_,hc⟩:=bS hc
   split at hc
   ·cases sJ hc;cases he
   ·cases hc
  ·cases hc
 case store t a v=>
  exfalso
  obtain⟨_,_,hc⟩:=bS hc
  obtain⟨_,_,hc⟩:=bS hc
  obtain⟨_,_,hc⟩:=bS hc
  cases sJ hc;cases he
 case call c=>
  obtain⟨callee,args,ats⟩:=c
  cases callee<;>simp only at hc<;>try (exfalso;obtain⟨_,_,hc⟩:=bS hc;obtain⟨_,_,hc⟩:=bS hc;cases sJ hc;cases he;done)
  rename_i b
  cases b<;>simp only at hc<;>try (cases hc;done)
  case append=>
   exfalso
   split at hc
   ·obtain⟨_,_,hc⟩:=bS hc
    obtain⟨_,_,hc⟩:=bS hc
    split at hc
    ·obtain⟨_,_,hc⟩:=bS hc
     obtain⟨_,_,hc⟩:=bS hc
     split at hc
     ·cases sJ hc;cases he
     ·split at hc
      ·split at hc
       ·cases sJ hc;cases he
       ·cases hc
      ·cases hc
    ·cases hc
   ·cases hc
  case len=>
   exfalso
   split at hc
   ·obtain⟨_,_,hc⟩:=bS hc
    split at hc
    ·cases sJ hc;cases he
    ·cases sJ hc;cases he
    ·cases sJ hc;cases he
    ·cases hc
   ·cases hc
  case cap=>
   exfalso
   split at hc
   ·obtain⟨_,_,hc⟩:=bS hc
    split at hc
    ·cases sJ hc;cases he
    ·cases hc
   ·cases hc
  case min=>
   exfalso
   split at hc
   ·obtain⟨_,_,hc⟩:=bS hc
    obtain⟨_,_,hc⟩:=bS hc
    cases sJ hc;cases he
   ·cases hc
  case max=>
   exfalso
   split at hc
   ·obtain⟨_,_,hc⟩:=bS hc
    obtain⟨_,_,hc⟩:=bS hc
    cases sJ hc;cases he
   ·cases hc
def QLe:MOp→Bool
 | .slc _ _ _ _ _=>true
 | _=>false
theorem QJs (hc:cop P o=some m)(he:QLe m=true):∃t y lo hi mx,o.op=.slice t y lo hi mx:=by
 obtain⟨dst,op,type,pos,after,guard⟩:=o
 cases op<;>simp only[cop] at hc<;>try (cases hc;done)
 case move y=>
  exfalso
  obtain⟨_,_,hc⟩:=bS hc
  cases sJ hc;cases he
 case assign y=>
  exfalso
  obtain⟨_,_,hc⟩:=bS hc
  cases sJ hc;cases he
 case pick c a b=>
  exfalso
  obtain⟨_,_,hc⟩:=bS hc
  obtain⟨_,_,hc⟩:=bS hc
  obtain⟨_,_,hc⟩:=bS hc
  cases sJ hc;cases he
 case nilCheck y=>
  exfalso
  obtain⟨_,_,hc⟩:=bS hc
  cases sJ hc;cases he
 case binOp op t y z yt=>
  exfalso
  obtain⟨_,_,hc⟩:=bS hc
  obtain⟨_,_,hc⟩:=bS hc
  obtain⟨_,_,hc⟩:=bS hc
  split at hc
  ·cases sJ hc;cases he
  ·split at hc
   ·split at hc
    ·cases hc
    ·obtain⟨_,_,hc⟩:=bS hc
     cases op<;>simp only at hc<;>first | (cases hc;done) | (cases sJ hc;cases he)
   ·obtain⟨_,_,hc⟩:=bS hc
    cases op<;>simp only at hc<;>first | (cases hc;done) | (cases sJ hc;cases he)
 case unOp op t y=>
  exfalso
  obtain⟨_,_,hc⟩:=bS hc
  cases op<;>simp only at hc<;>first | (cases hc;done) | (cases sJ hc;cases he)
 case convert s d y=>
  exfalso
  obtain⟨_,_,hc⟩:=bS hc
  split at hc
  ·cases sJ hc;cases he
  ·cases hc
 case typeAssert y xt a ok=>
  exfalso
  obtain⟨_,_,hc⟩:=bS hc
  obtain⟨_,_,hc⟩:=bS hc
  split at hc
  ·cases hc
  ·cases ok with
   | false=>cases hc
   | true=>cases sJ hc;cases he
 case makeInterface t y=>
  exfalso
  obtain⟨_,_,hc⟩:=bS hc
  obtain⟨_,_,hc⟩:=bS hc
  split at hc
  ·cases hc
  ·cases sJ hc;cases he
 case makeFunc f a b=>
  exfalso
  obtain⟨_,_,hc⟩:=bS hc
  obtain⟨_,_,hc⟩:=bS hc
  cases sJ hc;cases he
 case slice t y lo hi mx=>exact⟨t,y,lo,hi,mx,rfl⟩
 case fieldAddr t y i=>
  exfalso
  obtain⟨_,_,hc⟩:=bS hc
  split at hc
  ·obtain⟨_,_,hc⟩:=bS hc
   obtain⟨_,_,hc⟩:=bS hc
   split at hc
   ·cases sJ hc;cases he
   ·cases hc
  ·cases hc
 case field t y i=>
  exfalso
  obtain⟨_,_,hc⟩:=bS hc
  split at hc
  ·obtain⟨_,_,hc⟩:=bS hc
   obtain⟨_,_,hc⟩:=bS hc
   obtain⟨_,_,hc⟩:=bS hc
   cases sJ hc;cases he
  ·cases hc
 case indexAddr t y i=>
  exfalso
  obtain⟨_,_,hc⟩:=bS hc
  obtain⟨_,_,hc⟩:=bS hc
  split at hc
  ·obtain⟨_,_,hc⟩:=bS hc
   cases sJ hc;cases he
  ·obtain⟨_,_,hc⟩:=bS hc
   cases sJ hc;cases he
  ·cases hc
 case index t y i=>
  exfalso
  obtain⟨_,_,hc⟩:=bS hc
  obtain⟨_,_,hc⟩:=bS hc
  split at hc
  ·cases sJ hc;cases he
  ·obtain⟨_,_,hc⟩:=bS hc
   obtain⟨_,_,hc⟩:=bS hc
   cases sJ hc;cases he
  ·cases hc
 case extract y i=>
  exfalso
  obtain⟨_,_,hc⟩:=bS hc
  cases sJ hc;cases he
 case build t ps=>
  exfalso
  obtain⟨_,_,hc⟩:=bS hc
  split at hc
  ·obtain⟨_,_,hc⟩:=bS hc
   obtain⟨_,_,hc⟩:=bS hc
   obtain⟨_,_,hc⟩:=bS hc
   cases sJ hc;cases he
  ·obtain⟨_,_,hc⟩:=bS hc
   obtain⟨_,_,hc⟩:=bS hc
   cases sJ hc;cases he
  ·cases hc
 case load t y=>
  exfalso
  obtain⟨_,_,hc⟩:=bS hc
  obtain⟨_,_,hc⟩:=bS hc
  obtain⟨_,_,hc⟩:=bS hc
  split at hc
  ·cases sJ hc;cases he
  ·cases hc
 case lookup t y i ok=>
  exfalso
  obtain⟨_,_,hc⟩:=bS hc
  obtain⟨_,_,hc⟩:=bS hc
  split at hc
  ·obtain⟨_,_,hc⟩:=bS hc
   obtain⟨_,_,hc⟩:=bS hc
   cases sJ hc;cases he
  ·cases hc
 case makeMap t rr=>
  exfalso
  obtain⟨_,_,hc⟩:=bS hc
  split at hc
  ·obtain⟨_,_,hc⟩:=bS hc
   cases sJ hc;cases he
  ·cases hc
 case mapUpdate t m k v=>
  exfalso
  obtain⟨_,_,hc⟩:=bS hc
  obtain⟨_,_,hc⟩:=bS hc
  obtain⟨_,_,hc⟩:=bS hc
  split at hc
  ·obtain⟨_,_,hc⟩:=bS hc
   cases sJ hc;cases he
  ·cases hc
 case alloc t=>
  exfalso
  obtain⟨_,_,hc⟩:=bS hc
  cases sJ hc;cases he
 case box t y=>
  exfalso
  obtain⟨_,_,hc⟩:=bS hc
  cases sJ hc;cases he
 case range t y=>
  exfalso
  obtain⟨_,_,hc⟩:=bS hc
  split at hc
  ·cases sJ hc;cases he
  ·cases hc
 case next y b=>
  exfalso
  obtain⟨_,_,hc⟩:=bS hc
  cases b
  ·cases sJ hc;cases he
  ·cases hc
 case entry y=>
  exfalso
  obtain⟨_,_,hc⟩:=bS hc
  cases sJ hc;cases he
 case buildSlice t n ps=>
  exfalso
  obtain⟨_,_,hc⟩:=bS hc
  split at hc
  ·obtain⟨_,_,hc⟩:=bS hc
   split at hc
   ·cases sJ hc;cases he
   ·split at hc
    ·cases sJ hc;cases he
    ·cases hc
  ·cases hc
 case makeSlice t l c=>
  exfalso
  obtain⟨_,_,hc⟩:=bS hc
  obtain⟨_,_,hc⟩:=bS hc
  split at hc
  ·obtain⟨_,_,hc⟩:=bS hc
   obtain⟨_,_,hc⟩:=bS hc
   split at hc
   ·cases sJ hc;cases he
   ·cases hc
  ·cases hc
 case store t a v=>
  exfalso
  obtain⟨_,_,hc⟩:=bS hc
  obtain⟨_,_,hc⟩:=bS hc
  obtain⟨_,_,hc⟩:=bS hc
  cases sJ hc;cases he
 case call c=>
  obtain⟨callee,args,ats⟩:=c
  cases callee<;>simp only at hc<;>try (exfalso;obtain⟨_,_,hc⟩:=bS hc;obtain⟨_,_,hc⟩:=bS hc;cases sJ hc;cases he;done)
  rename_i b
  cases b<;>simp only at hc<;>try (cases hc;done)
  case append=>
   exfalso
   split at hc
   ·obtain⟨_,_,hc⟩:=bS hc
    obtain⟨_,_,hc⟩:=bS hc
    split at hc
    ·obtain⟨_,_,hc⟩:=bS hc
     obtain⟨_,_,hc⟩:=bS hc
     split at hc
     ·cases sJ hc;cases he
     ·split at hc
      ·split at hc
       ·cases sJ hc;cases he
       ·cases hc
      ·cases hc
    ·cases hc
   ·cases hc
  case len=>
   exfalso
   split at hc
   ·obtain⟨_,_,hc⟩:=bS hc
    split at hc
    ·cases sJ hc;cases he
    ·cases sJ hc;cases he
    ·cases sJ hc;cases he
    ·cases hc
   ·cases hc
  case cap=>
   exfalso
   split at hc
   ·obtain⟨_,_,hc⟩:=bS hc
    split at hc
    ·cases sJ hc;cases he
    ·cases hc
   ·cases hc
  case min=>
   exfalso
   split at hc
   ·obtain⟨_,_,hc⟩:=bS hc
    obtain⟨_,_,hc⟩:=bS hc
    cases sJ hc;cases he
   ·cases hc
  case max=>
   exfalso
   split at hc
   ·obtain⟨_,_,hc⟩:=bS hc
    obtain⟨_,_,hc⟩:=bS hc
    cases sJ hc;cases he
   ·cases hc
theorem QJq {x:Opd}{lo hi mx:Option Opd}(hc:cop P o=some (.slc k x lo hi mx)):∃t e y lo' hi' mx',o.op=.slice t y lo' hi' mx'∧c1 y=some x∧c1O lo'=some lo∧c1O hi'=some hi∧c1O mx'=some mx∧P.underlying t=some (.slice e)∧szO P e=some k:=by
 obtain⟨t,y,lo',hi',mx',ho⟩:=QJs hc rfl
 obtain⟨dst,op,type,pos,after,guard⟩:=o
 simp only at ho
 subst ho
 simp only[cop] at hc
 obtain⟨_,h1,hc⟩:=bS hc
 obtain⟨_,h2,hc⟩:=bS hc
 obtain⟨_,h3,hc⟩:=bS hc
 obtain⟨_,h4,hc⟩:=bS hc
 split at hc
 ·rename_i e hu
  obtain⟨k',h5,hc⟩:=bS hc
  simp only[sj,MOp.slc.injEq] at hc
  obtain⟨rfl,rfl,rfl,rfl,rfl⟩:=hc
  exact⟨t,e,y,lo',hi',mx',rfl,h1,h2,h3,h4,hu,h5⟩
 ·split at hc
  ·cases hc
  ·cases hc
 ·obtain⟨_,_,hc⟩:=bS hc
  cases hc
 ·cases hc
theorem QJr {d:KD}{z:FV}{ok:Bool}{x k:Opd}(hc:cop P o=some (.lkp d z ok x k)):∃t a b kt et,o.op=.lookup t a b ok∧c1 a=some x∧c1 b=some k∧P.underlying t=some (.map kt et)∧kdO P kt=some d∧zvO P et=some z:=by
 obtain⟨t,a,b,ok',ho⟩:=QJt hc rfl
 obtain⟨dst,op,type,pos,after,guard⟩:=o
 simp only at ho
 subst ho
 simp only[cop] at hc
 obtain⟨a',h1,hc⟩:=bS hc
 obtain⟨b',h2,hc⟩:=bS hc
 split at hc
 ·rename_i kt et hu
  obtain⟨d',h3,hc⟩:=bS hc
  obtain⟨z',h4,hc⟩:=bS hc
  simp only[sj,MOp.lkp.injEq] at hc
  obtain⟨rfl,rfl,rfl,rfl,rfl⟩:=hc
  exact⟨t,a,b,kt,et,rfl,h1,h2,hu,h3,h4⟩
 ·cases hc
theorem QtH [Gd]{cl:FV→List FV→TH→(FV→TH→Prop)→Prop}(hcl:ClOk P cl)(r:Rep E th h0 h L)(hρ:AgO E fr ρ)(hc:copA P o=some m)(hx:evXA cl fr th m K):Sx P (execOp ρ o) h (Post E h0 L K):=by
 cases m with
 | xx x=>exact QJb r hρ (QHI hc) hx
 | slc k x lo hi mx=>
  obtain⟨t,e,y,lo',hi',mx',ho,h1,h2,h3,h4,hu,hk⟩:=QJq (Qqe hc fun _ h=>by cases h)
  simp only[evXA,xSlo] at hx
  cases lo with
  | some _=>exact hx.elim
  | none=>
   cases mx with
   | some _=>exact hx.elim
   | none=>
    simp only at hx
    cases hb:bdN fr hi with
    | none=>rw[hb] at hx;exact hx.elim
    | some q=>
     rw[hb] at hx
     cases q with
     | none=>exact hx.elim
     | some n=>
      simp only at hx
      cases hv:evO fr x with
      | none=>rw[hv] at hx;exact hx.elim
      | some v=>
       rw[hv] at hx
       cases v<;>try (exact hx.elim)
       rename_i tt i
       simp only at hx
       have el:lo'=none:=by
        cases lo' with
        | none=>rfl
        | some z=>simp only[c1O] at h2;cases hz:c1 z<;>rw[hz] at h2<;>simp at h2
       have em:mx'=none:=by
        cases mx' with
        | none=>rfl
        | some z=>simp only[c1O] at h4;cases hz:c1 z<;>rw[hz] at h4<;>simp at h4
       subst el em
       have key:=QJ4 r hu hk (hρ y x _ h1 hv) (w:=hi'.map ρ) (fun h0=>Qpf hρ h3 hb fun m hm=>by cases sJ hm;exact h0) hx
       obtain⟨dst,op,type,pos,after,guard⟩:=o
       simp only at ho
       subst ho
       have eo:∀z:Option Operand,oarr ρ z=z.map ρ:=fun z=>by cases z<;>rfl
       have k2:QfD P t (ρ y) (oarr ρ none) (oarr ρ hi') (oarr ρ none) fun v=>Post E h0 L K v h:=by
        rw[eo,eo];exact key
       have k3:Sq P (Eq h) (execOp ρ ⟨dst,.slice t y none hi' none,type,pos,after,guard⟩) fun v=>Post E h0 L K v h:=Qnu (show QfD P t (ρ y) (oarr ρ none) (oarr ρ hi') (oarr ρ none) _ from k2)
       exact Sq.toX k3 fun _ hv=>hv
 | lkp d z ok x k=>
  obtain⟨t,a,b,kt,et,ho,h1,h2,hu,hd,hz⟩:=QJr (Qqe hc fun _ h=>by cases h)
  simp only[evXA,xLkm] at hx
  cases ha:evO fr x with
  | none=>rw[ha] at hx;exact hx.elim
  | some av=>
   cases hb:evO fr k with
   | none=>rw[ha,hb] at hx;exact hx.elim
   | some bv=>
    rw[ha,hb] at hx
    have key:=QKl r hu hd hz (hρ a x av h1 ha) (hρ b k bv h2 hb) hx
    obtain⟨dst,op,type,pos,after,guard⟩:=o
    simp only at ho
    subst ho
    exact key
 | _=>exact QKy hcl r hρ (Qqe hc fun _ h=>by cases h) hx
theorem QJe {x:FV}(r:Rep E th h0 h L)(hρ:AgO E fr ρ)(hc:copA P o=some m)(hx:evQ fr th.t m=some x)(ho:obH x):Sq P (Eq h) (execOp ρ o) fun v=>den E (strip x)=some v:=by
 refine QKB r hρ (Qqe hc fun x h=>?_) hx ho
 subst h
 simp[evQ,evQ0,evZ] at hx
end Go.Va
