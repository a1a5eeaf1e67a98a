import Derived.Test.YtemffgbncjnmkaaGreatVxs
import Derived.Laws.BytesString
set_option linter.unusedVariables false
set_option linter.unusedSectionVars false
set_option linter.unusedSimpArgs false
noncomputable section
namespace Go.Va
open Go Go.Sh
variable [Vb]
variable {P:Program}
def isT:Opd→Bool
 | .t _=>true
 | _=>false
def copX (P:Program)(o:Oper):Option XOp:=match o.op with
 | .call c=>match c.callee with
  | .builtin .copy=>match c.args.toList,c.argTypes.toList with
   | [d,s],[t,t']=>(c1 d).bind fun d=>(c1 s).bind fun s=>match P.underlying t with
    | some (.slice e)=>(szO P e).bind fun k=>match P.underlying t' with
     | some (.slice _)=>if 0<k then some (.cpy k d s) else none
     | some .string=>if k=1 then some (.cpy 1 d s) else none
     | _=>none
    | _=>none
   | _,_=>none
  | .builtin .clear=>match c.args.toList,c.argTypes.toList with
   | [x],[t]=>(c1 x).bind fun x=>match P.underlying t with
    | some (.map _ _)=>some (.clm x)
    | _=>none
   | _,_=>none
  | .builtin .append=>match c.args.toList,c.argTypes.toList with
   | [s,x],[t,t']=>(c1 s).bind fun s=>(c1 x).bind fun x=>match P.underlying t with
    | some (.slice e)=>(zrO P e).bind fun z=>(P.info? e).bind fun i=>match P.underlying t' with
     | some .string=>if z.length=1 then some (.aps i.bytes s x) else none
     | some (.int _)=>if 0<z.length then some (.apo z.length i.bytes z s x) else none
     | _=>none
    | _=>none
   | _,_=>none
  | .builtin .delete=>match c.args.toList,c.argTypes.toList with
   | [x,k],[t,_]=>(c1 x).bind fun x=>(c1 k).bind fun k=>match P.underlying t with
    | some (.map kt _)=>(kdO P kt).bind fun d=>some (.dlm d x k)
    | _=>none
   | _,_=>none
  | _=>none
 | .convert s d x=>(c1 x).bind fun x=>match P.underlying s,P.underlying d with
  | some (.slice e),some .string=>match P.underlying e with
   | some (.int .u8)=>some (.cvs x)
   | _=>none
  | _,_=>none
 | .mapUpdate t m k v=>(c1 m).bind fun m=>(c1 k).bind fun k=>(c1 v).bind fun v=>match P.underlying t with
  | some (.map kt _)=>(kdO P kt).bind fun d=>some (.mum d m k v)
  | _=>none
 | .insert t m k v=>(c1 m).bind fun m=>(c1 k).bind fun k=>(c1 v).bind fun v=>match P.underlying t with
  | some (.map kt _)=>(kdO P kt).bind fun d=>some (.mum d m k v)
  | _=>none
 | .range t x=>(c1 x).bind fun x=>match P.underlying t with
  | some (.map _ _)=>some (.rgm x)
  | _=>none
 | .next x s=>(c1 x).bind fun x=>match s with
  | true=>none
  | false=>some (.nxm x)
 | .makeSlice t l c=>(c1 l).bind fun l'=>(c1 c).bind fun c'=>match P.underlying t with
  | some (.slice e)=>(zrO P e).bind fun z=>(P.info? e).bind fun i=>if 0<z.length∧isT l'=true then some (.mkz z.length i.bytes z l' c') else none
  | _=>none
 | _=>none
def copA (P:Program)(o:Oper):Option MOp:=match copX P o with
 | some x=>some (.xx x)
 | none=>match cop P o with
  | some (.xx _)=>none
  | r=>r
theorem Qqe {o:Oper}{m:MOp}(hc:copA P o=some m)(hn:∀x,m≠.xx x):cop P o=some m:=by
 unfold copA at hc
 split at hc
 ·simp only[Option.some.injEq] at hc;exact absurd hc.symm (hn _)
 ·split at hc
  ·cases hc
  ·exact hc
theorem QHI {o:Oper}{x:XOp}(hc:copA P o=some (.xx x)):copX P o=some x:=by
 unfold copA at hc
 split at hc
 ·rename_i y hy
  simp only[Option.some.injEq,MOp.xx.injEq] at hc;rw[hy,hc]
 ·split at hc
  ·cases hc
  ·rename_i hn
   exact absurd hc (hn x)
def strC (l:List Nat):List FV:=l.map fun n=>.int .u8 (.ofNat n)
def srcC (th:Tr TO)(k:Nat)(v:FV):Option (Nat×List FV):=match v with
 | .str l=>bif Nat.beq k 1 then some (l.length,strC l) else none
 | v=>appC th k v
def xCpy (k:Nat)(d s:Opd)(fr:Fr)(th:TH)(K:FV→TH→Prop):Prop:=match evO fr d with
 | some d=>match evO fr s with
  | some s=>match srcC th.t k s with
   | some p=>match d with
    | .nsl=>K (.int .i64 (.ofNat 0)) th
    | .sl i off _ len _=>match len with
     | 0=>K (.int .i64 (.ofNat 0)) th
     | len=>match th.t.get i with
      | some (.cells cs kk)=>match Qbb (Nat.min p.1 len * k) p.2 with
       | some xs=>match splO xs off cs with
        | some cs'=>K (.int .i64 (.ofNat (Nat.min p.1 len))) (th.set i (.cells cs' kk))
        | none=>False
       | none=>False
      | _=>False
    | _=>False
   | none=>False
  | none=>False
 | none=>False
def clmK (x:FV)(th:TH)(K:FV→TH→Prop):Prop:=match x with
 | .nilm=>K undF th
 | .map i=>match th.t.get i with
  | some (.map d m)=>K undF (th.set i (.map (.o (Nat.add d.u m.length) d.b) []))
  | _=>False
 | _=>False
def xClm (x:Opd)(fr:Fr)(th:TH)(K:FV→TH→Prop):Prop:=match evO fr x with
 | some x=>clmK x th K
 | none=>False
def QY9:List FV→Option (List Nat)
 | []=>some []
 | x::r=>match x with
  | .int k n=>match n with
   | .ofNat m=>bif keq k .u8&&Nat.blt m 256 then match QY9 r with
     | some l=>some (m::l)
     | none=>none
    else none
   | _=>none
  | _=>none
def xCvs (x:Opd)(fr:Fr)(th:TH)(K:FV→TH→Prop):Prop:=match evO fr x with
 | some x=>match x with
  | .ds t d=>match lyG t with
   | some ks=>match ks with
    | [.i .u8]=>K (.sstr (d.es.map fun e=>UInt8.ofNat (e.f 0).i.toNat)) th
    | _=>False
   | none=>False
  | .os t i=>match th.t.get i with
   | some (.row t2 es)=>match lyG t2 with
    | some ks=>match ks with
     | [.i .u8]=>K (.sstr (es.map fun e=>UInt8.ofNat (e.f 0).i.toNat)) th
     | _=>False
    | none=>False
   | _=>False
  | x=>match appC th.t 1 x with
   | some p=>match QY9 p.2 with
    | some l=>K (.str l) th
    | none=>False
   | none=>False
 | none=>False
def strE (s:Str):List LD:=s.map fun b=>.t [.n (Int.ofNat b.toNat)]
def xAps (b:Nat)(s x:Opd)(fr:Fr)(th:TH)(K:FV→TH→Prop):Prop:=match evO fr s with
 | some s=>match evO fr x with
  | some x=>match x with
   | .str l=>match s with
    | .os t i=>match lyG t with
     | some ks=>match ks with
      | [.i .u8]=>apR b t i l.length (strE (l.map UInt8.ofNat)) th K
      | _=>False
     | none=>False
    | s=>appX th 1 b s l.length (strC l) K
   | .sstr q=>match s with
    | .os t i=>match lyG t with
     | some ks=>match ks with
      | [.i .u8]=>apR b t i q.length (strE q) th K
      | _=>False
     | none=>False
    | .sl i off offz len cap=>match off with
     | 0=>match offz with
      | 0=>match lyG 0 with
       | some ks=>match ks with
        | [.i .u8]=>apT2 1 b 0 i len cap (strE q) th K
        | _=>False
       | none=>False
      | _=>False
     | _=>False
    | _=>False
   | _=>False
  | none=>False
 | none=>False
def xMum (d:KD)(x k v:Opd)(fr:Fr)(th:TH)(K:FV→TH→Prop):Prop:=match evO fr x with
 | some x=>match evO fr k with
  | some k=>match evO fr v with
   | some v=>mumX d x k v th K
   | none=>False
  | none=>False
 | none=>False
def xDlm (d:KD)(x k:Opd)(fr:Fr)(th:TH)(K:FV→TH→Prop):Prop:=match evO fr x with
 | some x=>match evO fr k with
  | some k=>dlmX d x k th K
  | none=>False
 | none=>False
def xRgm (x:Opd)(fr:Fr)(th:TH)(K:FV→TH→Prop):Prop:=match evO fr x with
 | some x=>rgmX x th K
 | none=>False
def xNxm (x:Opd)(fr:Fr)(th:TH)(K:FV→TH→Prop):Prop:=match evO fr x with
 | some x=>nxmX x th K
 | none=>False
def xLkm (d:KD)(z:FV)(ok:Bool)(x k:Opd)(fr:Fr)(th:TH)(K:FV→TH→Prop):Prop:=match evO fr x with
 | some x=>match evO fr k with
  | some k=>lkmX d z ok x k th K
  | none=>False
 | none=>False
def evXX (fr:Fr)(th:TH)(x:XOp)(K:FV→TH→Prop):Prop:=match x with
 | .cpy k d s=>xCpy k d s fr th K
 | .clm x=>xClm x fr th K
 | .cvs x=>xCvs x fr th K
 | .aps b s x=>xAps b s x fr th K
 | .mum d x k v=>xMum d x k v fr th K
 | .rgm x=>xRgm x fr th K
 | .nxm x=>xNxm x fr th K
 | .dlm d x k=>xDlm d x k fr th K
 | .apo k b z s n=>xApo k b z s n fr th K
 | .mkz _ b z l c=>xMkz b z l c fr th K
def evXA (cl:FV→List FV→TH→(FV→TH→Prop)→Prop)(fr:Fr)(th:TH)(m:MOp)(K:FV→TH→Prop):Prop:=match m with
 | .xx x=>evXX fr th x K
 | .lkp d z ok x k=>xLkm d z ok x k fr th K
 | .slc k x lo hi mx=>xSlo k x lo hi mx fr th K
 | m=>evX cl fr th m K
theorem Qabb {l:List Nat}(h:Q0 l=true):∀n∈l,n<256:=fun n hn=>QaQ (List.all_eq_true.1 h n hn)
theorem Q5G {E:Env}:∀ {l:List Nat},Q0 l=true→denL E (strC l)=some ((l.map UInt8.ofNat).map fun b=>Value.int .u8 b.toNat)∧(strC l).all oneF=true
 | [],_=>⟨rfl,rfl⟩
 | n::l,h=>by
  have h0:=Qabb h n (.head _)
  have h1:Q0 l=true:=by simp only[Q0,List.all_cons,Bool.and_eq_true] at h;exact h.2
  obtain⟨e1,e2⟩:=Q5G (E:=E) h1
  have hn:((UInt8.ofNat n).toNat:Int)=Int.ofNat n:=by simp[Nat.mod_eq_of_lt h0]
  refine⟨Qau ?_ e1,?_⟩
  ·simp only[den];rw[hn]
  ·show (oneF _&&(strC l).all oneF)=true
   rw[e2];rfl
theorem QabA (s:Str):(⟨s.toArray⟩:ByteArray).size=s.length:=List.size_toArray
theorem QaaD (h:Heap)(s:Str):Sr0 P h 1 s.length (str s) (s.map fun b=>Value.int .u8 b.toNat):=by
 refine⟨fun w=>?_,fun n hn w _=>?_,by simp,fun y hy=>?_⟩
 ·simp[Builtin.lenOf,str,QabA]
 ·have e:(⟨s.toArray⟩:ByteArray).extract 0 n=⟨(s.take n).toArray⟩:=by
   apply ByteArray.ext
   simp[ByteArray.data_extract,List.extract_eq_take_drop]
  simp[Builtin.firstCells,str,e,List.map_take]
 ·obtain⟨b,_,rfl⟩:=List.mem_map.1 hy;rfl
theorem Q87 {tx:TypeId}(hx:P.underlying tx=some .string)(h:Heap)(s:Str):Sr P tx h 1 s.length (str s) (s.map fun b=>Value.int .u8 b.toNat):=⟨.inr hx,QaaD h s⟩
theorem QabT {E:Env}{th:TH}{h0 h:Heap}{L:List HP}(r:Rep E th h0 h L){k m:Nat}{x:FV}{u:Value}{xs:List FV}(hu:den E x=some u)(hx:srcC th.t k x=some (m,xs)):∃us,Sr0 P h k m u us∧denL E xs=some us∧xs.all oneF=true:=by
 have sl:appC th.t k x=some (m,xs)→∃us,Sr0 P h k m u us∧denL E xs=some us∧xs.all oneF=true:=fun hx=>by
  obtain⟨us,A⟩:=QEy r hu hx
  exact⟨us,A.sr,A.den,A.one⟩
 cases x<;>try (exact sl hx)
 rename_i l
 simp only[srcC] at hx
 cases hb:Nat.beq k 1 with
 | false=>rw[hb] at hx;cases hx
 | true=>
  rw[hb] at hx
  simp only[cond_true,Option.some.injEq,Prod.mk.injEq] at hx
  obtain⟨rfl,rfl⟩:=hx
  have:=Qm hb;subst this
  obtain⟨hl,rfl⟩:=Qcr hu
  obtain⟨e1,e2⟩:=Q5G (E:=E) hl
  have:=QaaD (P:=P) h (l.map UInt8.ofNat)
  rw[List.length_map] at this
  exact⟨_,this,e1,e2⟩
theorem Q3e {w:World}{h:Heap}{t tx e ty:TypeId}{k:Nat}(hu:P.underlying t=some (.slice e))(hk:szO P e=some k){m:Nat}{u:Value}{us:List Value}(A:Sr0 P h k m u us)(hw:w.heap=h){base:Option Addr}{len cap:Nat}{w':World}
  (hst:∀cells:List Value,cells=us.take (Nat.min m len * k)→(match base with | some a=>storeCells a cells | none=>pure ():Sem Unit).run P w=.ok () w') :
  (Builtin.copy_ #[t,tx] ty #[.slice base len cap,u]).run P w=.ok (.int .i64 (Nat.min m len:Nat)) w':=by
 have is:=(QbA hk).run (w:=w)
 have hlo:=A.lenO w
 have hs:=hst _ rfl
 have hcut:=A.cut (Nat.min m len) (Nat.min_le_left _ _) w hw
 unfold Builtin.copy_
 cases base with
 | none=>
  simp only[Sem.run,pure] at hs
  simp[run_underlying hu,hlo,is,hcut,goInt]
  injection hs
 | some a=>
  simp only at hs
  simp[run_underlying hu,hlo,is,hcut,goInt,hs]
theorem QaaZ {E:Env}{n:Nat}{xs l:List FV}{us:List Value}(h:Qbb n xs=some l)(hd:denL E xs=some us):denL E l=some (us.take n)∧n≤us.length∧l=xs.take n:=by
 obtain⟨h1,h2⟩:=Qcd h
 have:=QfV n hd
 rw[←h1] at this
 exact⟨this,by rw[QS hd];exact h2,h1⟩
theorem Qabq [Gd]{E:Env}{th:TH}{h0 h:Heap}{L:List HP}(r:Rep E th h0 h L){ρ:Operand→Value}{fr:Fr}(hρ:AgO E fr ρ){t tx e ty:TypeId}{k:Nat}(hu:P.underlying t=some (.slice e))(hk:szO P e=some k)
  {d s:Operand}{d' s':Opd} (h1:c1 d=some d') (h2:c1 s=some s')
  {K:FV→TH→Prop} (hx:xCpy k d' s' fr th K):QE6 P #[t,tx] ty #[ρ d,ρ s] h (Post E h0 L K):=by
 unfold xCpy at hx
 cases hd:evO fr d' with
 | none=>rw[hd] at hx;exact hx.elim
 | some dv=>
  cases hs:evO fr s' with
  | none=>rw[hd,hs] at hx;exact hx.elim
  | some sv=>
   rw[hd,hs] at hx
   simp only at hx
   have hdd:=hρ d d' dv h1 hd
   have hds:=hρ s s' sv h2 hs
   cases hsrc:srcC th.t k sv with
   | none=>rw[hsrc] at hx;exact hx.elim
   | some p=>
    obtain⟨m,xs⟩:=p
    rw[hsrc] at hx
    obtain⟨us,A,hxd,hxo⟩:=QabT (P:=P) r hds hsrc
    have none_:∀base cap,ρ d=.slice base 0 cap→K (.int .i64 (.ofNat 0)) th→QE6 P #[t,tx] ty #[ρ d,ρ s] h (Post E h0 L K):=fun base cap e hk' w hw=>by
     rw[e]
     have hr:=Q3e (P:=P) (tx:=tx) (ty:=ty) (base:=base) (len:=0) (cap:=cap) (w':=w) hu hk A hw (fun cells hc=>by
      have:cells=[]:=by rw[hc,show m.min 0=0 from Nat.min_zero m,Nat.zero_mul];rfl
      subst this
      cases base<;>rfl)
     rw[QA hr]
     refine⟨Qx.refl w,?_⟩
     rw[hw,show m.min 0=0 from Nat.min_zero m]
     exact Post.same (x:=.int .i64 (.ofNat 0)) rfl r hk'
    cases dv<;>try (exact hx.elim)
    case nsl=>
     simp only[den,Option.some.injEq] at hdd
     exact none_ _ _ hdd.symm hx
    case sl id off offz len cap=>
     cases len with
     | zero=>
      obtain⟨a,c,_,e,_⟩:=QeE hdd
      exact none_ _ _ e hx
     | succ len=>
      generalize hM:len+1=M at *
      have hx:(match th.t.get id with
       | some (.cells cs kk)=>match Qbb (Nat.min m M * k) xs with
        | some xs=>match splO xs off cs with
         | some cs'=>K (.int .i64 (.ofNat (Nat.min m M))) (th.set id (.cells cs' kk))
         | none=>False
        | none=>False
       | _=>False):=by subst hM;exact hx
      obtain⟨a,c,hp,e⟩:=Qy5 hdd (by omega)
      cases hg:th.t.get id with
      | none=>rw[hg] at hx;exact hx.elim
      | some o=>
       rw[hg] at hx
       rcases o with⟨cs,kk⟩ | ⟨d',m'⟩ | ⟨ii,cc,bb⟩ | ⟨rr⟩
       case row=>exact hx.elim
       case mp=>exact hx.elim
       case mf=>exact hx.elim
       case im=>exact hx.elim
       ·simp only at hx
        cases htk:Qbb (Nat.min m M * k) xs with
        | none=>rw[htk] at hx;exact hx.elim
        | some xs'=>
         rw[htk] at hx
         simp only at hx
         obtain⟨q1,q2,q3⟩:=QaaZ htk hxd
         cases hsp:splO xs' off cs with
         | none=>rw[hsp] at hx;exact hx.elim
         | some cs'=>
          rw[hsp] at hx
          simp only at hx
          obtain⟨p1,p2⟩:=Qhd hsp
          obtain⟨a',vs,post,hc,s⟩:=r.told hg
          have hpa:=hc.1
          rw[hp] at hpa;simp only[Option.some.injEq] at hpa;subst hpa
          intro w hw
          rw[e]
          have hone:∀y∈us.take (Nat.min m M * k),one y=true:=fun y hy=>A.one y (List.mem_of_mem_take hy)
          have hvl:=QS hc.2.1
          have hxl:(us.take (Nat.min m M * k)).length=xs'.length:=QS q1
          obtain⟨_,S,hA,hS,_⟩:=_root_.id s
          obtain⟨bb,o,T,l,hpp,hbk,hSb,hrun,hown⟩:=Qap.set (P:=P) hA (fun b hb=>(hS b hb).2) off (us.take (Nat.min m M * k)) (by rw[List.length_append];omega) hone
          have ha:a.add off=⟨bb,o,none⟩:=by simpa [padd] using hpp
          have hr:=Q3e (P:=P) (tx:=tx) (ty:=ty) (base:=some (a.add off)) (len:=M) (cap:=c) (w':={ w with heap:=setB h bb (.cells (setAt l.toList o (us.take (Nat.min m M * k))).toArray T (0,0)) }) hu hk A hw (fun cells hcl=>by
           subst hcl
           simp only[ha]
           exact hrun w hw)
          rw[QA hr]
          refine⟨⟨rfl,rfl,rfl,fun _=>Nat.le_refl _⟩,?_⟩
          have s2:St h0 (setB h bb (.cells (setAt l.toList o (us.take (Nat.min m M * k))).toArray T (0,0))) (Qap (.pointer (some a)) (setAt (vs++post) off (us.take (Nat.min m M * k)))::((th.t.del id).all.map (part E)++(FzP E.z::L))):=by
           refine St.step s fun S' hA' hS'=>?_
           obtain⟨b',o',T',l',hp',hb',hSb',_,hown2⟩:=Qap.set (P:=P) hA' (fun b hb=>(hS' b hb).2) off (us.take (Nat.min m M * k)) (by rw[List.length_append];omega) hone
           rw[hpp] at hp'
           simp only[Value.pointer.injEq,Option.some.injEq,Addr.mk.injEq,and_true] at hp'
           obtain⟨rfl,rfl⟩:=hp'
           rw[hbk] at hb'
           simp only[Option.some.injEq,Obj.cells.injEq,and_true] at hb'
           obtain⟨rfl,rfl⟩:=hb'
           exact⟨by rw[QeJ];exact Nat.le_refl _,fun i _ hi=>Qda (fun e=>hi (e ▸ hSb')),S',hown2,fun i hi=>.inl hi⟩
          rw[QpC _ _ _ _ (by omega)] at s2
          refine Post.same rfl (r.store hg (hc.put (vs':=setAt vs off (us.take (Nat.min m M * k))) (by rw[p1];exact Qhw off hc.2.1 q1) (by rw[p1];refine Ql9 hc.2.2.1 ?_;rw[q3,←List.drop_zero (l:=xs)];exact QmX hxo _ _) (Qfy _ _ _)) s2) hx
       ·exact hx.elim
       ·exact hx.elim
       ·exact hx.elim
theorem Qacj [Gd]{E:Env}{th:TH}{h0 h:Heap}{L:List HP}(r:Rep E th h0 h L){t kt et ty:TypeId}(hu:P.underlying t=some (.map kt et)){x:FV}{v:Value}(hv:den E x=some v){K:FV→TH→Prop}
  (hx:clmK x th K):QF7 P #[t] ty #[v] h (Post E h0 L K):=by
 unfold clmK at hx
 cases x<;>try (exact hx.elim)
 case nilm=>
  simp only[den,Option.some.injEq] at hv;subst hv
  intro w hw
  have hr:(Builtin.clear_ #[t] ty #[.map none]).run P w=.ok undef w:=by
   simp[Builtin.clear_,run_underlying hu,undef]
  rw[QA hr]
  exact⟨Qx.refl w,by rw[hw];exact Post.same (Qhv E) r hx⟩
 case map i=>
  simp only at hx
  cases hg:th.t.get i with
  | none=>rw[hg] at hx;exact hx.elim
  | some o=>
   rw[hg] at hx
   rcases o with⟨cs,kk⟩ | ⟨d,m⟩ | ⟨ii,cc,bb⟩ | ⟨rr⟩
   case row=>exact hx.elim
   case mp=>exact hx.elim
   case mf=>exact hx.elim
   case im=>exact hx.elim
   ·exact hx.elim
   ·obtain⟨ad,hp,rfl⟩:=QeF hv
    obtain⟨ad',l,g1,g2,s⟩:=r.toldM hg
    rw[hp] at g1;simp only[Option.some.injEq] at g1;subst g1
    obtain⟨_,S,⟨hok,q,e,hSq,hb⟩,hS,_⟩:=id s
    simp only[Value.map.injEq,Option.some.injEq] at e
    subst e
    intro w hw
    have hgm:=Qay (P:=P) (w:=w) (by rw[hw];exact hb) (by simp)
    have hset:=Qf1 (P:=P) (w:=w) (o':=.map #[] (d.u+l.length)) (by rw[hw];exact hb) (by simp)
    have hr:(Builtin.clear_ #[t] ty #[.map (some ad.block)]).run P w=.ok undef { w with heap:=setB w.heap ad.block (.map #[] (d.u+l.length)) }:=by
     unfold Builtin.clear_
     simp[run_underlying hu,hgm,hset,undef]
    rw[QA hr]
    refine⟨⟨rfl,rfl,rfl,fun _=>Nat.le_refl _⟩,?_⟩
    rw[hw]
    have s2:St h0 (setB h ad.block (.map #[] (d.u+l.length))) (MapU (.o (Nat.add d.u m.length) d.b) (.map (some ad.block)) []::((th.t.del i).all.map (part E)++(FzP E.z::L))):=by
     refine St.step s fun S' hA' hS'=>?_
     obtain⟨hok',q',e',hSq',hb'⟩:=hA'
     simp only[Value.map.injEq,Option.some.injEq] at e'
     subst e'
     refine⟨by rw[QeJ];exact Nat.le_refl _,fun b _ hb=>Qda (fun e=>hb (e ▸ hSq')),S',⟨⟨rfl,by simp,by simp,by simp⟩,ad.block,rfl,hSq',?_⟩,fun b hb=>.inl hb⟩
     rw[Qe6 (lt_of_some hb')]
     simp[Mk.ents,KD.u,QmP g2]
    have s3:St h0 (setB h ad.block (.map #[] (d.u+l.length))) (part E (i,.map (.o (Nat.add d.u m.length) d.b) [])::((th.t.del i).all.map (part E)++(FzP E.z::L))):=s2.imp fun S ho=>⟨(ad,[]),⟨hp,rfl⟩,ho⟩
    exact Post.same (Qhv E) (Rep.put hg s3 r.fr r.eh) hx
   ·exact hx.elim
   ·exact hx.elim
theorem Q7V {E:Env}:∀ {xs:List FV}{l:List Nat}{us:List Value},QY9 xs=some l→denL E xs=some us→us=l.map (fun n:Nat=>Value.int .u8 (n:Int))∧Q0 l=true
 | [],l,us,h,hd=>by
  simp only[QY9,Option.some.injEq] at h;subst h
  simp only[denL,Option.some.injEq] at hd;subst hd
  exact⟨rfl,rfl⟩
 | x::r,l,us,h,hd=>by
  cases x<;>simp only[QY9] at h<;>try (cases h;done)
  rename_i k n
  cases n<;>simp only at h<;>try (cases h;done)
  rename_i m
  cases hb:keq k .u8&&Nat.blt m 256 with
  | false=>rw[hb] at h;cases h
  | true=>
   rw[hb] at h
   simp only[cond_true] at h
   cases hr:QY9 r with
   | none=>rw[hr] at h;cases h
   | some l'=>
    rw[hr] at h;simp only[Option.some.injEq] at h;subst h
    obtain⟨v,us',h1,h2,rfl⟩:=QR hd
    obtain⟨e1,e2⟩:=Q7V hr h2
    simp only[Bool.and_eq_true] at hb
    have:=QdB hb.1;subst this
    simp only[den,Option.some.injEq] at h1;subst h1 e1
    refine⟨rfl,?_⟩
    simp only[Q0,List.all_cons,Bool.and_eq_true]
    exact⟨hb.2,e2⟩
theorem Q6v:∀(ns:List Int)(s:Str),ns.foldl (fun (r:ByteArray) n=>r.push (UInt8.ofNat n.toNat)) ⟨s.toArray⟩=⟨(s++ns.map fun n=>UInt8.ofNat n.toNat).toArray⟩
 | [],s=>by simp
 | n::ns,s=>by
  rw[List.foldl_cons]
  have:(⟨s.toArray⟩:ByteArray).push (UInt8.ofNat n.toNat)=⟨(s++[UInt8.ofNat n.toNat]).toArray⟩:=by
   apply ByteArray.ext
   simp[ByteArray.push]
  rw[this,Q6v ns]
  simp
theorem Q7f {w:World}{h:Heap}{m:Nat}{u:Value}{ns:List Int}{us:List Value}(hu:us=ns.map (Value.int .u8))(hsl:IsSl u m)(hlen:us.length=m * 1)(hr:Rd h (Qc1 u) us)(hw:w.heap=h):(Conv.bytesToString u).run P w=.ok (str (ns.map fun n=>UInt8.ofNat n.toNat)) w:=by
 obtain⟨xa,xc,rfl⟩:=hsl
 have hfin:=Q6v ns []
 cases xa with
 | none=>
  have hus:us=[]:=by
   rcases hr with h | ⟨_,_,hp,_⟩
   ·exact h
   ·simp[Qc1] at hp
  have:ns=[]:=by
   cases ns with
   | nil=>rfl
   | cons _ _=>rw[hus] at hu;cases hu
  subst this
  rfl
 | some a=>
  have hl:=run_firstCells_some (P:=P) w 1 m a m xc us hlen fun j y hy=>by rw[Qee,hw];exact Qtr hr j y hy
  simp only[Builtin.firstCells,Nat.mul_one] at hl
  have:=run_bytesToString (P:=P) w a m xc ns (by rw[hl,hu])
  rw[this]
  have e:(ByteArray.empty:ByteArray)=⟨([]:Str).toArray⟩:=rfl
  rw[e,hfin]
  rfl
theorem Q52:∀ {es:List LD},wtE es [.i .u8]→LD.vsE [.i .u8] es=(es.map fun e=>(e.f 0).i).map (Value.int .u8)
 | [],_=>rfl
 | e::es,h=>by
  simp only[wtE] at h
  obtain⟨h1,h2⟩:=h
  cases e<;>simp only[wtT] at h1
  rename_i cs
  match cs,h1 with
  | [x],h1=>
   simp only[wtL] at h1
   have ih:=Q52 h2
   simp only[LD.vsE,List.flatMap_cons,List.map_cons] at ih ⊢
   rw[ih]
   rfl
  | [],h1=>simp only[wtL] at h1
  | _::_::_,h1=>simp only[wtL] at h1;exact h1.2.elim
theorem Q5S {s d e:TypeId}(hs:P.underlying s=some (.slice e))(he:P.underlying e=some (.int .u8))(hd:P.underlying d=some .string){v:Value}{m:Nat}(hsl:IsSl v m){w:World}:(convert s d v).run P w=(Conv.bytesToString v).run P w:=by
 obtain⟨a,c,rfl⟩:=hsl
 unfold convert
 simp[run_underlying hs,run_underlying hd,run_underlying he]
theorem Qaci [Gd]{E:Env}{th:TH}{h0 h:Heap}{L:List HP}(r:Rep E th h0 h L){s d e:TypeId}(hs:P.underlying s=some (.slice e))(he:P.underlying e=some (.int .u8))(hd:P.underlying d=some .string){fr:Fr}{x':Opd}{x:FV}{v:Value}(hv':evO fr x'=some x)(hv:den E x=some v){K:FV→TH→Prop}
  (hx:xCvs x' fr th K):QF6 P s d v h (Post E h0 L K):=by
 unfold xCvs at hx
 rw[hv'] at hx
 simp only at hx
 have told:(match appC th.t 1 x with
   | some p=>match QY9 p.2 with
    | some l=>K (.str l) th
    | none=>False
   | none=>False)→QF6 P s d v h (Post E h0 L K):=fun hx=>by
  cases ha:appC th.t 1 x with
  | none=>rw[ha] at hx;exact hx.elim
  | some p=>
   obtain⟨m,xs⟩:=p
   rw[ha] at hx
   simp only at hx
   cases hb:QY9 xs with
   | none=>rw[hb] at hx;exact hx.elim
   | some l=>
    rw[hb] at hx
    obtain⟨us,A⟩:=QEy r hv ha
    obtain⟨e1,e2⟩:=Q7V hb A.den
    intro w hw
    have hr:=Q7f (P:=P) (w:=w) (ns:=l.map fun n:Nat=>(n:Int)) (by rw[e1,List.map_map];rfl) A.sl A.len A.rd hw
    rw[←Q5S hs he hd A.sl] at hr
    rw[QA hr]
    refine⟨Qx.refl w,?_⟩
    rw[hw]
    refine Post.same ?_ r hx
    simp only[den]
    rw[if_pos e2,List.map_map]
    rfl
 cases x<;>try (exact told hx)
 case ds t dd=>
  simp only at hx
  cases hl:lyG t with
  | none=>rw[hl] at hx;exact hx.elim
  | some ks=>
   rw[hl] at hx
   simp only at hx
   split at hx
   ·have ly:=QaN hl
    obtain⟨f,rfl⟩:=QgG hv
    obtain⟨f1,f2⟩:=f
    intro w hw
    have key:∃m,IsSl (LD.v (.l t) dd) m∧(LD.vsE [.i .u8] dd.es).length=m * 1∧Rd h (Qc1 (LD.v (.l t) dd)) (LD.vsE [.i .u8] dd.es)∧wtE dd.es [.i .u8]∧dd.es.length≤maxL:=by
     rcases dd with x1 | x1 | x1 | _ | ⟨x1,x2⟩ | ⟨ad,cap,es⟩ | x1<;>simp only[wt] at f1
     ·exact⟨0,⟨_,_,rfl⟩,rfl,.nil _ _,by simp only[LD.es,wtE],by simp[LD.es]⟩
     ·simp only[lies] at f2
      rw[ly] at f1 f2
      exact⟨es.length,⟨_,_,rfl⟩,by rw[LD.es,QbS f1.2.2.2];rfl,f2.1 h r.fz,f1.2.2.2,f1.2.1⟩
    obtain⟨m,q1,q2,q3,q4,q5⟩:=key
    have hr:=Q7f (P:=P) (w:=w) (ns:=dd.es.map fun e=>(e.f 0).i) (Q52 q4) q1 q2 q3 hw
    rw[←Q5S hs he hd q1] at hr
    rw[QA hr]
    refine⟨Qx.refl w,?_⟩
    rw[hw]
    refine Post.same ?_ r hx
    simp only[den]
    rw[if_pos (by rw[List.length_map];exact q5),List.map_map]
    rfl
   ·exact hx.elim
 case os t i=>
  simp only at hx
  cases hg:th.t.get i with
  | none=>rw[hg] at hx;exact hx.elim
  | some ob=>
   rw[hg] at hx
   cases ob<;>try (exact hx.elim)
   rename_i t2 es
   simp only at hx
   cases hl:lyG t2 with
   | none=>rw[hl] at hx;exact hx.elim
   | some ks=>
    rw[hl] at hx
    simp only at hx
    split at hx
    ·obtain⟨a,v1,ks',hw,hsl,hrd,_⟩:=r.row hg
     have ek:ks'=[.i .u8]:=by have:=hw.ly;rw[QaN hl] at this;simpa using this.symm
     subst ek
     obtain⟨_,hs1,_⟩:=Qe4 hv
     have ev:v1=v:=hw.s.symm.trans hs1
     subst ev
     intro w hw'
     have hr:=Q7f (P:=P) (w:=w) (ns:=es.map fun e=>(e.f 0).i) (Q52 hw.wt) hsl (by rw[QbS hw.wt];rfl) hrd hw'
     rw[←Q5S hs he hd hsl] at hr
     rw[QA hr]
     refine⟨Qx.refl w,?_⟩
     rw[hw']
     refine Post.same ?_ r hx
     simp only[den]
     rw[if_pos (by rw[List.length_map];exact hw.len),List.map_map]
     rfl
    ·exact hx.elim
theorem QXv (s:Str):(strE s).length=s.length:=by simp[strE]
theorem Q4o:∀s:Str,wtE (strE s) [.i .u8]
 | []=>by simp[strE,wtE]
 | b::s=>by
  have h:=Q4o s
  simp only[strE] at h
  simp only[strE,List.map_cons,wtE,wtT,wtL,wt,loK,hiK]
  have hb:b.toNat<256:=b.toNat_lt
  exact⟨⟨⟨Int.natCast_nonneg _,by show (b.toNat:Int)≤255;omega⟩,trivial⟩,h⟩
theorem Q7e [Vb] (R:Addr→List Value→Prop):∀s:Str,QI R (strE s) [.i .u8]
 | []=>by simp[strE,QI]
 | b::s=>by
  have h:=Q7e R s
  simp only[strE] at h
  simp only[strE,List.map_cons,QI,Qbz,Q5,lies]
  exact⟨⟨trivial,trivial⟩,h⟩
theorem QaaC (s:Str):LD.vsE [.i .u8] (strE s)=s.map fun b=>Value.int .u8 b.toNat:=by
 rw[Q52 (Q4o s),strE,List.map_map,List.map_map]
 rfl
theorem Q9c [Gd]{t tx e ty:TypeId}{k b:Nat}{z:Value} [Und P t (.slice e)] [u:Inf P e k b z]{h0 h:Heap}{v x:Value}{n m:Nat}{cs xs:List Value}{L:List HP}{K:Value→Heap→Prop}
  (s:St h0 h (Row k v n cs::L)) (hz:z.cells.size=k) (hk0:0<k) (A:Sr P tx h k m x xs)
  (hb:(n+m) * b≤140737488355328) (hb2:n+m≤4611686018427387904)
  (g:∀v' h',St h0 h' (Row k v' (n+m) (cs++xs)::L)→K v' h'):QbY P #[t,tx] ty #[v,x] h K:=by
 intro w hw
 obtain⟨i,hi,hk,hbb,hzz⟩:=u.info
 have hl:=A.s.len
 have h1:=A.s.one
 have hlo:=A.s.lenO w
 have hf:=A.s.fst w hw
 have hcs:=s.row.2.1
 obtain⟨he,S,⟨_,hown⟩,hS,hL⟩:=id s
 by_cases hroom:∃a cap post,v=.slice (some a) n cap∧n+m≤cap∧post.length=(cap - n) * k∧(Qap (.pointer (some a)) (cs++post)).own h S
 ·obtain⟨a,cap,post,rfl,hfit,hpost,hc⟩:=hroom
  have hxp:xs.length≤post.length:=by
   rw[hl,hpost];exact Nat.mul_le_mul_right _ (by omega)
  obtain⟨bb,o,T,l,hp,hbk,hSb,hrun,hown'⟩:=Qap.set (P:=P) hc (fun b hb=>(hS b hb).2) cs.length xs (by simp;omega) h1
  have ha:a.add (n * k)=⟨bb,o,none⟩:=by
   rw[hcs] at hp
   simpa [padd] using hp
  have hr1:(Builtin.append_ #[t,tx] ty #[.slice (some a) n cap,x]).run P w=.ok (.slice (some a) (n+m) cap) { w with heap:=setB h bb (.cells (setAt l.toList o xs).toArray T (0,0)) }:=by
   have h2:=hrun w hw
   rcases A.kind with⟨e',hk'⟩ | hk'<;>simp[Builtin.append_,run_underlying (Und.eq (P:=P) (t:=t)),run_underlying hk',sizeOf,typeInfo,hi,hk,hlo,hfit,hf,ha,h2]
  rw[QA hr1]
  refine⟨⟨rfl,rfl,rfl,fun _=>by first | exact Nat.le_refl _ | exact Nat.le_succ _ | exact Nat.le_add_right _ _⟩,g _ _ ?_⟩
  have hst:St h0 (setB h bb (.cells (setAt l.toList o xs).toArray T (0,0))) (Qap (.pointer (some a)) (setAt (cs++post) cs.length xs)::L):=by
   refine St.step (A:=Qap (.pointer (some a)) (cs++post)) ⟨he,S,hc,hS,hL⟩ fun S' hA' hS'=>?_
   obtain⟨b',o',T',l',hp',hb',hSb',_,hown2⟩:=Qap.set (P:=P) hA' (fun b hb=>(hS' b hb).2) cs.length xs (by simp;omega) h1
   rw[hp] at hp'
   simp only[Value.pointer.injEq,Option.some.injEq,Addr.mk.injEq,and_true] at hp'
   obtain⟨rfl,rfl⟩:=hp'
   rw[hbk] at hb'
   simp only[Option.some.injEq,Obj.cells.injEq,and_true] at hb'
   obtain⟨rfl,rfl⟩:=hb'
   exact⟨by rw[QeJ];exact Nat.le_refl _,fun i _ hi=>Qda (fun e=>hi (e ▸ hSb')),S',hown2,fun i hi=>.inl hi⟩
  rw[QhK xs cs post hxp] at hst
  exact hst.rowShut hfit (by rw[List.length_drop,hpost,hl,←Nat.sub_mul];congr 1;omega) (by rw[List.length_append,hcs,hl,Nat.add_mul])
 ·have hmain:(v=.slice none 0 0∧n=0)∨∃a cap post,v=.slice (some a) n cap∧cap<n+m∧n≤cap∧(Qap (.pointer (some a)) (cs++post)).own h S:=by
   rcases hown with h | ⟨a,cap,post,h1,h2,h3,h4⟩
   ·exact .inl h
   ·refine .inr ⟨a,cap,post,h1,?_,h2,h4⟩
    rcases Nat.lt_or_ge cap (n+m) with h | h
    ·exact h
    ·exact absurd ⟨a,cap,post,h1,h,h3,h4⟩ hroom
  have grown:∀w':World,Qx w w'→∀cap,n+m≤cap→w'.heap=w.heap.push (.cells ((cs++xs).toArray++Builtin.zeroCells z.cells (cap - (n+m))) e) →
    (Builtin.append_ #[t,tx] ty #[v,x]).run P w=.ok (.slice (some ⟨w.heap.size,0,none⟩) (n+m) cap) w'→Qd9 P K w ((nv (Builtin.append_ #[t,tx] ty #[v,x])).run P w):=by
   intro w' hs cap hcap hh hrun
   rw[QA hrun]
   refine⟨hs,?_⟩
   rw[hh,hw]
   refine g _ _ ?_
   have s0:=s.drop.push (cs++xs++(Builtin.zeroCells z.cells (cap - (n+m))).toList) e
   have e1:(cs++xs++(Builtin.zeroCells z.cells (cap - (n+m))).toList).toArray=(cs++xs).toArray++Builtin.zeroCells z.cells (cap - (n+m)):=by
    apply Array.ext';simp
   rw[e1] at s0
   exact s0.rowShut hcap (by rw[Array.length_toList,Qc8,hz]) (by rw[List.length_append,hcs,hl,Nat.add_mul])
  rcases hmain with⟨rfl,rfl⟩ | ⟨a,cap,post,rfl,hgrow,hcap,hc⟩
  ·have hcs0:cs=[]:=by simpa using hcs
   subst hcs0
   rcases Nat.eq_zero_or_pos m with rfl | hm
   ·have:xs=[]:=by simpa using hl
    subst this
    have hr1:(Builtin.append_ #[t,tx] ty #[.slice none 0 0,x]).run P w=.ok (.slice none 0 0) w:=by
     rcases A.kind with⟨e',hk'⟩ | hk'<;>simp[Builtin.append_,run_underlying (Und.eq (P:=P) (t:=t)),run_underlying hk',sizeOf,typeInfo,hi,hk,hlo,hf]
    rw[QA hr1]
    exact⟨⟨rfl,rfl,rfl,fun _=>by first | exact Nat.le_refl _ | exact Nat.le_succ _ | exact Nat.le_add_right _ _⟩,by rw[hw];exact g _ _ s⟩
   ·have hr1:=run_append_grow_src (P:=P) w t tx ty e i z Und.eq hi hzz none 0 0 [] (run_firstCells_none w.drew i.size 0 0 0) x m xs (by rw[hk];exact A.src hw) (by omega) (by omega) (growslice_fits (old:=0) (by omega) (by rw[hbb];exact hb))
    refine grown _ ?_ _ (grownCap_ge w (0+m) 0 e) ?_ hr1
    ·exact⟨rfl,rfl,rfl,fun _=>by first | exact Nat.le_refl _ | exact Nat.le_succ _ | exact Nat.le_add_right _ _⟩
    ·rfl
  ·have holds:∀j y,cs[j]?=some y→w.drew.cell? (a.add j)=some y:=fun j y hy=>by
    show w.cell? _=_
    have hrd:=(Qap.rd hc).take cs.length
    rw[List.take_left] at hrd
    obtain⟨a',ha',hcc⟩:=hrd.at hy
    simp only[padd,Value.pointer.injEq,Option.some.injEq] at ha'
    rw[Qee,hw,ha'];exact hcc
   have hr1:=run_append_grow_src (P:=P) w t tx ty e i z Und.eq hi hzz (some a) n cap cs (run_firstCells_some w.drew i.size n a n cap cs (by rw[hk];exact hcs) holds) x m xs (by rw[hk];exact A.src hw) hgrow (by omega) (growslice_fits hgrow (by rw[hbb];exact hb))
   refine grown _ ?_ _ (grownCap_ge w (n+m) cap e) ?_ hr1
   ·exact⟨rfl,rfl,rfl,fun _=>by first | exact Nat.le_refl _ | exact Nat.le_succ _ | exact Nat.le_add_right _ _⟩
   ·rfl
theorem QaaM [Gd]{E:Env}{th:TH}{h0 h:Heap}{L:List HP}{t tx e ty:TypeId}{z:List FV}{i:TypeInfo}(r:Rep E th h0 h L)(hu:P.underlying t=some (.slice e))(htx:P.underlying tx=some .string)(hz:zrO P e=some z)(hi:P.info? e=some i)(hz1:z.length=1){tt id:Nat}{v:Value}{q:Str}(ly:Vb.ly[tt]?=some [.i .u8])(hs:den E (.os tt id)=some v)
  {K:FV→TH→Prop} (hx:apR i.bytes tt id q.length (strE q) th K):QbY P #[t,tx] ty #[v,str q] h (Post E h0 L K):=by
 obtain⟨i',zv,inf,g1,g3,g4,g6⟩:=QIl hz
 rw[hi] at g1;simp only[Option.some.injEq] at g1;subst g1
 haveI:Und P t (.slice e):=⟨hu⟩
 unfold apR at hx
 cases hg:th.t.get id with
 | none=>rw[hg] at hx;exact hx.elim
 | some ob=>
  rw[hg] at hx
  cases ob<;>try (exact hx.elim)
  rename_i t2 es
  simp only at hx
  obtain⟨hb2,⟨c4,c5⟩,c66⟩:=Q1 hx
  have e2:=Qm hb2
  subst e2
  obtain⟨a,v1,ks',hw,s0⟩:=r.toldW hg
  have ek':ks'=[.i .u8]:=by have:=hw.ly;rw[ly] at this;simpa using this.symm
  subst ek'
  obtain⟨_,hs1,_⟩:=Qe4 hs
  have ev:v1=v:=hw.s.symm.trans hs1
  subst ev
  have A:=Q87 (P:=P) htx h q
  rw[←QaaC] at A
  have ek:z.length=[CK.i IntKind.u8].length:=hz1
  rw[←ek] at s0
  rw[←hz1] at A
  refine Q9c s0 g6 (by omega) A c4 c5 fun v' h' s'=>?_
  have e:maxL=9223372036854775807:=by unfold maxL;rfl
  rw[←Qps,show es.length+q.length=(es++strE q).length by rw[List.length_append,QXv],ek] at s'
  have rdel:=r.del hg
  obtain⟨a1,a2,a3⟩:=Rep.addW (E:=E) (th:=th.del id) (t:=tt) (ks:=[.i .u8]) r.fr r.eh rdel.nx ly hw.ne (QlN hw.wt (Q4o q)) (Qh6 hw.li (Q7e _ q)) (by rw[List.length_append,QXv];omega) s'
  exact⟨_,_,_,a1,a3,a2,c66⟩
theorem Qab6 [Gd]{E:Env}{th:TH}{h0 h:Heap}{L:List HP}{t tx e ty:TypeId}{z:List FV}{i:TypeInfo}(r:Rep E th h0 h L)(hu:P.underlying t=some (.slice e))(htx:P.underlying tx=some .string)(hz:zrO P e=some z)(hi:P.info? e=some i)(hz1:z.length=1){tt id len:Nat}{cap:FCap}{v:Value}{q:Str}(hl:lyG tt=some [.i .u8])(hs:den E (.sl id 0 0 len cap)=some v)
  {K:FV→TH→Prop} (hx:apT2 1 i.bytes tt id len cap (strE q) th K):QbY P #[t,tx] ty #[v,str q] h (Post E h0 L K):=by
 obtain⟨i',zv,inf,g1,g3,g4,g6⟩:=QIl hz
 rw[hi] at g1;simp only[Option.some.injEq] at g1;subst g1
 haveI:Und P t (.slice e):=⟨hu⟩
 have ly:=QaN hl
 have ek:z.length=[CK.i IntKind.u8].length:=hz1
 have e:maxL=9223372036854775807:=by unfold maxL;rfl
 unfold apT2 at hx
 cases hg:th.t.get id with
 | none=>rw[hg] at hx;exact hx.elim
 | some ob=>
  rw[hg] at hx
  cases ob<;>try (exact hx.elim)
  rename_i cs kk
  simp only[hl] at hx
  obtain⟨hcap,c6⟩:=Q1 hx
  obtain⟨a,vs,post,hc,_⟩:=r.told hg
  obtain⟨z2,es0,th2,g1,g2,g3,g4,g5,gl,g7,⟨g8,g9⟩,g10⟩:=QoW (QgB fzD) len cs _ _ c6 E h0 h _ vs (r.out hg) hc.2.1
  have s1:=g3.st.perm (List.perm_middle.symm.trans (List.Perm.append_left _ (.swap _ _ _))).symm
  obtain⟨y,s1⟩:=s1.ex
  obtain⟨hy,s1⟩:=s1.pure
  have ea:y.1=a:=by have:=hy.1;rw[hc.1] at this;simpa using this.symm
  have ev:y.2.1=vs:=by have:=hy.2.1;rw[hc.2.1] at this;simpa using this.symm
  rw[ea,ev] at s1
  have hlen:=QS hc.2.1
  have hv:∃c,len≤c∧v=.slice (some a) len c∧vs.length+y.2.2.length=c * [CK.i IntKind.u8].length:=by
   obtain⟨x',c,hp,hu',hcc⟩:=QeE hs
   rw[hc.1] at hp;simp only[Option.some.injEq] at hp;subst hp
   cases cap with
   | lit c'=>
    simp only at hcc hu'
    subst hcc
    simp only[capT,Bool.and_eq_true] at hcap
    have k0:=Qm hcap.1
    have k1:=Qm hcap.2.1
    have k2:=Qag hcap.2.2
    have hp0:=(hy.2.2.2.1 k0).1
    exact⟨c,k2,by rw[hu',add_zero],by rw[hp0,List.length_nil,hlen,k1];rfl⟩
   | hid j=>
    simp only at hcc hu'
    simp only[capT,Bool.and_eq_true] at hcap
    have k0:=Qm hcap.1
    have k1:=Qm hcap.2.1
    subst k0
    have kn:kk≠0:=by rw[k1];omega
    have hp0:=hy.2.2.2.2 kn
    rw[ev,k1] at hp0
    obtain⟨hle,hce⟩:=hcc
    refine⟨c,by omega,?_,?_⟩
    ·rw[hu']
     have:(if E.c id=0 then 0 else 0)=0:=by split<;>rfl
     rw[this,add_zero]
    ·rw[hp0,hce,Nat.sub_zero];rfl
  obtain⟨c,v1,rfl,v3⟩:=hv
  have v4:len * [CK.i IntKind.u8].length≤vs.length:=by
   have:=QbS g5
   rw[g7,List.length_take,g4] at this
   omega
  have hsplit:vs++y.2.2=LD.vsE [.i .u8] es0++(vs.drop (len * [CK.i IntKind.u8].length)++y.2.2):=by rw[g7,←List.append_assoc,List.take_append_drop]
  rw[hsplit] at s1
  have s2:=s1.rowShut (k:=[CK.i IntKind.u8].length) (n:=len) (cap:=c) v1 (by rw[List.length_append,List.length_drop,Nat.sub_mul];omega) (by rw[QbS g5,g4])
  have A:=Q87 (P:=P) htx h q
  rw[←QaaC] at A
  rw[←hz1] at A
  rw[←ek] at s2
  rw[QXv] at g8 g9
  refine Q9c s2 g6 (by omega) A g8 g9 fun v' h' s'=>?_
  have le2:=Env.le_wz (E:=E) g1
  rw[←Qps,ek,show len+q.length=(es0++strE q).length by rw[List.length_append,QXv,g4]] at s'
  obtain⟨a1,a2,a3⟩:=Rep.addW (E:=E.wz z2) (th:=th2) (t:=tt) (ks:=[.i .u8]) g3.fr g3.eh g3.nx ly (by simp) (QlN g5 (Q4o q)) (Qh6 gl (Q7e _ q)) (by rw[List.length_append,QXv,g4];omega) s'
  exact⟨_,_,_,le2.trans a1,a3,a2,g10⟩
theorem Qack [Gd]{E:Env}{th:TH}{h0 h:Heap}{L:List HP}(r:Rep E th h0 h L){ρ:Operand→Value}{fr:Fr}(hρ:AgO E fr ρ){t tx e ty:TypeId}{z:List FV}{i:TypeInfo}(hu:P.underlying t=some (.slice e))(htx:P.underlying tx=some .string)(hz:zrO P e=some z)(hi:P.info? e=some i)(hz1:z.length=1)
  {s x:Operand}{s' x':Opd} (h1:c1 s=some s') (h2:c1 x=some x') {K:FV→TH→Prop} (hx:xAps i.bytes s' x' fr th K):QbY P #[t,tx] ty #[ρ s,ρ x] h (Post E h0 L K):=by
 unfold xAps at hx
 cases hsv:evO fr s' with
 | none=>rw[hsv] at hx;exact hx.elim
 | some sv=>
  cases hxv:evO fr x' with
  | none=>rw[hsv,hxv] at hx;exact hx.elim
  | some xv=>
   rw[hsv,hxv] at hx
   simp only at hx
   have hds:=hρ s s' sv h1 hsv
   have hdx:=hρ x x' xv h2 hxv
   obtain⟨i',zv,g1,g2,g3,g4,g5,g6⟩:=Qe5 hz
   rw[hi] at g1;simp only[Option.some.injEq] at g1;subst g1
   cases xv<;>try (exact hx.elim)
   case str l=>
    obtain⟨hl,e⟩:=Qcr hdx
    have known:appX th 1 i.bytes sv l.length (strC l) K→QbY P #[t,tx] ty #[ρ s,ρ x] h (Post E h0 L K):=fun hx=>by
     obtain⟨e1,e2⟩:=Q5G (E:=E) hl
     have A:=Q87 (P:=P) htx h (l.map UInt8.ofNat)
     rw[List.length_map] at A
     rw[e]
     exact QJI r hu hi g2 (by rw[←g5,hz1]) (by rw[g6,←g5,hz1]) (by omega) hds (A:=⟨A,e1,e2⟩) hx
    cases sv<;>try (exact known hx)
    rename_i tt id
    simp only at hx
    cases hly:lyG tt with
    | none=>rw[hly] at hx;exact hx.elim
    | some ks=>
     rw[hly] at hx
     simp only at hx
     split at hx
     ·rw[e]
      have hx':apR i.bytes tt id (l.map UInt8.ofNat).length (strE (l.map UInt8.ofNat)) th K:=by rw[List.length_map];exact hx
      exact QaaM r hu htx hz hi hz1 (QaN hly) hds hx'
     ·exact hx.elim
   case sstr q=>
    obtain⟨_,e⟩:=Qjh hdx
    rw[e]
    cases sv<;>try (exact hx.elim)
    case os tt id=>
     simp only at hx
     cases hly:lyG tt with
     | none=>rw[hly] at hx;exact hx.elim
     | some ks=>
      rw[hly] at hx
      simp only at hx
      split at hx
      ·exact QaaM r hu htx hz hi hz1 (QaN hly) hds hx
      ·exact hx.elim
    case sl id off offz len cap=>
     cases off with
     | succ o=>exact hx.elim
     | zero=>
      cases offz with
      | succ o=>exact hx.elim
      | zero=>
       simp only at hx
       cases hly:lyG 0 with
       | none=>rw[hly] at hx;exact hx.elim
       | some ks=>
        rw[hly] at hx
        simp only at hx
        split at hx
        ·exact Qab6 r hu htx hz hi hz1 hly hds hx
        ·exact hx.elim
theorem QJb [Gd]{E:Env}{th:TH}{h0 h:Heap}{L:List HP}{ρ:Operand→Value}{fr:Fr}{o:Oper}{x:XOp}{K:FV→TH→Prop}(r:Rep E th h0 h L)(hρ:AgO E fr ρ)(hc:copX P o=some x)(hx:evXX fr th x K):Sx P (execOp ρ o) h (Post E h0 L K):=by
 have X:opX P ρ o h (Post E h0 L K)→Sx P (execOp ρ o) h (Post E h0 L K):=QrR
 obtain⟨dst,op,type,pos,after,guard⟩:=o
 unfold copX at hc
 simp only at hc
 split at hc
 ·rename_i c
  obtain⟨cal,args,ats⟩:=c
  simp only at hc
  split at hc
  ·split at hc
   ·rename_i d s t t' ha hat
    obtain⟨d',h1,hc⟩:=bind_some hc
    obtain⟨s',h2,hc⟩:=bind_some hc
    have eargs:args=#[d,s]:=by simpa using congrArg List.toArray ha
    have eats:ats=#[t,t']:=by simpa using congrArg List.toArray hat
    subst eargs eats
    split at hc
    ·rename_i e hu
     obtain⟨k,hk,hc⟩:=bind_some hc
     split at hc
     ·rename_i e' hu'
      split at hc
      ·simp only[Option.some.injEq] at hc;subst hc
       refine X ?_
       show QE6 P #[t,t'] type #[ρ d,ρ s] h _
       exact Qabq r hρ hu hk h1 h2 hx
      ·cases hc
     ·rename_i hu'
      split at hc
      ·rename_i hk1
       subst hk1
       simp only[Option.some.injEq] at hc;subst hc
       refine X ?_
       show QE6 P #[t,t'] type #[ρ d,ρ s] h _
       exact Qabq r hρ hu hk h1 h2 hx
      ·cases hc
     ·cases hc
    ·cases hc
   ·cases hc
  ·split at hc
   ·rename_i y t ha hat
    obtain⟨y',h1,hc⟩:=bind_some hc
    have eargs:args=#[y]:=by simpa using congrArg List.toArray ha
    have eats:ats=#[t]:=by simpa using congrArg List.toArray hat
    subst eargs eats
    split at hc
    ·rename_i kt et hu
     simp only[Option.some.injEq] at hc;subst hc
     refine X ?_
     show QF7 P #[t] type #[ρ y] h _
     simp only[evXX,xClm] at hx
     cases hv:evO fr y' with
     | none=>rw[hv] at hx;exact hx.elim
     | some v=>
      rw[hv] at hx
      exact Qacj r hu (hρ y y' v h1 hv) hx
    ·cases hc
   ·cases hc
  ·split at hc
   ·rename_i s y t t' ha hat
    obtain⟨s',h1,hc⟩:=bind_some hc
    obtain⟨y',h2,hc⟩:=bind_some hc
    have eargs:args=#[s,y]:=by simpa using congrArg List.toArray ha
    have eats:ats=#[t,t']:=by simpa using congrArg List.toArray hat
    subst eargs eats
    split at hc
    ·rename_i e hu
     obtain⟨z,hz,hc⟩:=bind_some hc
     obtain⟨i,hi,hc⟩:=bind_some hc
     split at hc
     ·rename_i hu'
      split at hc
      ·rename_i hz1
       simp only[Option.some.injEq] at hc;subst hc
       refine X ?_
       show QbY P #[t,t'] type #[ρ s,ρ y] h _
       exact Qack r hρ hu hu' hz hi hz1 h1 h2 hx
      ·cases hc
     ·rename_i kk hu'
      split at hc
      ·rename_i hzp
       simp only[Option.some.injEq] at hc;subst hc
       refine X ?_
       show QbY P #[t,t'] type #[ρ s,ρ y] h _
       simp only[evXX,xApo] at hx
       cases hn:evN fr y' with
       | some n=>
        rw[hn] at hx
        simp only[xApc] at hx
        cases hsv:evO fr s' with
        | none=>rw[hsv] at hx;exact hx.elim
        | some sv=>
         rw[hsv] at hx
         cases sv<;>try (exact hx.elim)
         simp only at hx
         rw[hn] at hx
         obtain⟨hb,hx⟩:=Q1 hx
         simp only[Bool.and_eq_true] at hb
         have hs:=hρ s s' _ h1 hsv
         simp only[den,Option.some.injEq] at hs
         rw[←hs,Qst hρ h2 hn]
         exact QGV r hu hu' hz hi hzp (QaQ hb.1.1) (Qag hb.1.2) (Qag hb.2) hx
       | none=>
        rw[hn] at hx
        simp only at hx
        cases hsv:evO fr s' with
        | none=>rw[hsv] at hx;exact hx.elim
        | some sv=>
         rw[hsv] at hx
         cases sv<;>try (exact hx.elim)
         simp only at hx
         have hs:=hρ s s' _ h1 hsv
         simp only[den,Option.some.injEq] at hs
         cases hnv:evO fr y' with
         | none=>rw[hnv] at hx;exact hx.elim
         | some nv=>
          rw[hnv] at hx
          rw[←hs]
          exact QKS r hu hu' hz hi hzp (hρ y y' nv h2 hnv) hx
      ·cases hc
     ·cases hc
    ·cases hc
   ·cases hc
  ·split at hc
   ·rename_i y k t t' ha hat
    obtain⟨y',h1,hc⟩:=bind_some hc
    obtain⟨k',h2,hc⟩:=bind_some hc
    have eargs:args=#[y,k]:=by simpa using congrArg List.toArray ha
    have eats:ats=#[t,t']:=by simpa using congrArg List.toArray hat
    subst eargs eats
    split at hc
    ·rename_i kt et hu
     obtain⟨d,hd,hc⟩:=bind_some hc
     simp only[Option.some.injEq] at hc;subst hc
     refine X ?_
     show QD5 P #[t,t'] type #[ρ y,ρ k] h _
     simp only[evXX,xDlm] at hx
     cases ha:evO fr y' with
     | none=>rw[ha] at hx;exact hx.elim
     | some av=>
      cases hb:evO fr k' with
      | none=>rw[ha,hb] at hx;exact hx.elim
      | some bv=>
       rw[ha,hb] at hx
       exact Qach r hu hd (hρ y y' av h1 ha) (hρ k k' bv h2 hb) hx
    ·cases hc
   ·cases hc
  ·cases hc
 ·rename_i s d y
  obtain⟨y',h1,hc⟩:=bind_some hc
  split at hc
  ·rename_i e hs hd
   split at hc
   ·rename_i he
    simp only[Option.some.injEq] at hc;subst hc
    refine X ?_
    show QF6 P s d (ρ y) h _
    simp only[evXX] at hx
    cases hv:evO fr y' with
    | none=>simp only[xCvs,hv] at hx
    | some v=>exact Qaci r hs he hd hv (hρ y y' v h1 hv) hx
   ·cases hc
  ·cases hc
 ·rename_i t m k v
  refine X ?_
  obtain⟨m',h1,hc⟩:=bind_some hc
  obtain⟨k',h2,hc⟩:=bind_some hc
  obtain⟨v',h3,hc⟩:=bind_some hc
  split at hc
  ·rename_i kt et hu
   obtain⟨d,hd,hc⟩:=bind_some hc
   simp only[Option.some.injEq] at hc;subst hc
   simp only[evXX,xMum] at hx
   cases ha:evO fr m' with
   | none=>rw[ha] at hx;exact hx.elim
   | some av=>
    cases hb:evO fr k' with
    | none=>rw[ha,hb] at hx;exact hx.elim
    | some bv=>
     cases hcv:evO fr v' with
     | none=>rw[ha,hb,hcv] at hx;exact hx.elim
     | some cv=>
      rw[ha,hb,hcv] at hx
      exact QGc r hu hd (hρ m m' av h1 ha) (hρ k k' bv h2 hb) (hρ v v' cv h3 hcv) hx
  ·cases hc
 ·rename_i t m k v
  refine X ?_
  obtain⟨m',h1,hc⟩:=bind_some hc
  obtain⟨k',h2,hc⟩:=bind_some hc
  obtain⟨v',h3,hc⟩:=bind_some hc
  split at hc
  ·rename_i kt et hu
   obtain⟨d,hd,hc⟩:=bind_some hc
   simp only[Option.some.injEq] at hc;subst hc
   simp only[evXX,xMum] at hx
   cases ha:evO fr m' with
   | none=>rw[ha] at hx;exact hx.elim
   | some av=>
    cases hb:evO fr k' with
    | none=>rw[ha,hb] at hx;exact hx.elim
    | some bv=>
     cases hcv:evO fr v' with
     | none=>rw[ha,hb,hcv] at hx;exact hx.elim
     | some cv=>
      rw[ha,hb,hcv] at hx
      exact QGc r hu hd (hρ m m' av h1 ha) (hρ k k' bv h2 hb) (hρ v v' cv h3 hcv) hx
  ·cases hc
 ·rename_i t y
  refine X ?_
  obtain⟨y',h1,hc⟩:=bind_some hc
  split at hc
  ·rename_i kt et hu
   simp only[Option.some.injEq] at hc;subst hc
   simp only[evXX,xRgm] at hx
   cases hv:evO fr y' with
   | none=>rw[hv] at hx;exact hx.elim
   | some v=>rw[hv] at hx;exact QKa r hu (hρ y y' v h1 hv) hx
  ·cases hc
 ·rename_i y s
  refine X ?_
  obtain⟨y',h1,hc⟩:=bind_some hc
  cases s with
  | true=>cases hc
  | false=>
   simp only[Option.some.injEq] at hc;subst hc
   simp only[evXX,xNxm] at hx
   cases hv:evO fr y' with
   | none=>rw[hv] at hx;exact hx.elim
   | some v=>rw[hv] at hx;exact QKe r (hρ y y' v h1 hv) hx
 ·rename_i t l c
  refine X ?_
  obtain⟨l',h1,hc⟩:=bind_some hc
  obtain⟨c',h2,hc⟩:=bind_some hc
  split at hc
  ·rename_i e hu
   obtain⟨z,hz,hc⟩:=bind_some hc
   obtain⟨i,hi,hc⟩:=bind_some hc
   split at hc
   ·rename_i hcond
    simp only[Option.some.injEq] at hc;subst hc
    simp only[evXX,xMkz] at hx
    have lits:Qtg i.bytes z l' c' fr th K→Qmk P t (ρ l) (ρ c) h (Post E h0 L K):=fun hx=>by
     unfold Qtg at hx
     cases hl:evN fr l' with
     | none=>rw[hl] at hx;exact hx.elim
     | some ln=>
      cases hcn:evN fr c' with
      | none=>rw[hl,hcn] at hx;exact hx.elim
      | some cn=>
       rw[hl,hcn] at hx
       obtain⟨hb,hx⟩:=Q1 hx
       simp only[Bool.and_eq_true] at hb
       rw[Qst hρ h1 hl,Qst hρ h2 hcn]
       exact QKh r hu hz hi hcond.1 (Qag hb.1.1) (Qag hb.1.2) (Qag hb.2) hx
    show Qmk P t (ρ l) (ρ c) h _
    cases ho:QpQ fr l' with
    | none=>rw[ho] at hx;exact lits hx
    | some n=>
     rw[ho] at hx
     simp only at hx
     cases ho2:QpQ fr c' with
     | none=>rw[ho2] at hx;exact lits hx
     | some m=>
      rw[ho2] at hx
      rw[QHn hρ h1 ho,QHn hρ h2 ho2]
      exact Qace r hu hz hi hcond.1 hx
   ·cases hc
  ·cases hc
 ·cases hc
def QLf:MOp→Bool
 | .lkp _ _ _ _ _=>true
 | _=>false
theorem QJt {o:Oper}{m:MOp}(hc:cop P o=some m)(he:QLf m=true):∃t a b ok,o.op=.lookup t a b ok:=by
 obtain⟨dst,op,type,pos,after,guard⟩:=o
 cases op<;>simp only[cop] at hc<;>try (cases hc;done)
 case move y=>
  exfalso
  obtain⟨_,_,hc⟩:=bind_some hc
  simp only[Option.some.injEq] at hc;subst hc;cases he
 case assign y=>
  exfalso
  obtain⟨_,_,hc⟩:=bind_some hc
  simp only[Option.some.injEq] at hc;subst hc;cases he
 case pick c a b=>
  exfalso
  obtain⟨_,_,hc⟩:=bind_some hc
  obtain⟨_,_,hc⟩:=bind_some hc
  obtain⟨_,_,hc⟩:=bind_some hc
  simp only[Option.some.injEq] at hc;subst hc;cases he
 case nilCheck y=>
  exfalso
  obtain⟨_,_,hc⟩:=bind_some hc
  simp only[Option.some.injEq] at hc;subst hc;cases he
 case binOp op t y z yt=>
  exfalso
  obtain⟨_,_,hc⟩:=bind_some hc
  obtain⟨_,_,hc⟩:=bind_some hc
  obtain⟨_,_,hc⟩:=bind_some hc
  split at hc
  ·simp only[Option.some.injEq] at hc;subst hc;cases he
  ·split at hc
   ·split at hc
    ·cases hc
    ·obtain⟨_,_,hc⟩:=bind_some hc
     cases op<;>simp only at hc<;>first | (cases hc;done) | (simp only[Option.some.injEq] at hc;subst hc;cases he)
   ·obtain⟨_,_,hc⟩:=bind_some hc
    cases op<;>simp only at hc<;>first | (cases hc;done) | (simp only[Option.some.injEq] at hc;subst hc;cases he)
 case unOp op t y=>
  exfalso
  obtain⟨_,_,hc⟩:=bind_some hc
  cases op<;>simp only at hc<;>first | (cases hc;done) | (simp only[Option.some.injEq] at hc;subst hc;cases he)
 case convert s d y=>
  exfalso
  obtain⟨_,_,hc⟩:=bind_some hc
  split at hc
  ·simp only[Option.some.injEq] at hc;subst hc;cases he
  ·cases hc
 case typeAssert y xt a ok=>
  exfalso
  obtain⟨_,_,hc⟩:=bind_some hc
  obtain⟨_,_,hc⟩:=bind_some hc
  split at hc
  ·cases hc
  ·cases ok with
   | false=>cases hc
   | true=>simp only[Option.some.injEq] at hc;subst hc;cases he
 case makeInterface t y=>
  exfalso
  obtain⟨_,_,hc⟩:=bind_some hc
  obtain⟨_,_,hc⟩:=bind_some hc
  split at hc
  ·cases hc
  ·simp only[Option.some.injEq] at hc;subst hc;cases he
 case makeFunc f a b=>
  exfalso
  obtain⟨_,_,hc⟩:=bind_some hc
  obtain⟨_,_,hc⟩:=bind_some hc
  simp only[Option.some.injEq] at hc;subst hc;cases he
 case slice t y lo hi mx=>
  exfalso
  obtain⟨_,_,hc⟩:=bind_some hc
  obtain⟨_,_,hc⟩:=bind_some hc
  obtain⟨_,_,hc⟩:=bind_some hc
  obtain⟨_,_,hc⟩:=bind_some hc
  split at hc
  ·obtain⟨_,_,hc⟩:=bind_some hc
   simp only[Option.some.injEq] at hc;subst hc;cases he
  ·split at hc
   ·simp only[Option.some.injEq] at hc;subst hc;cases he
   ·cases hc
  ·obtain⟨_,_,hc⟩:=bind_some hc
   simp only[Option.some.injEq] at hc;subst hc;cases he
  ·cases hc
 case fieldAddr t y i=>
  exfalso
  obtain⟨_,_,hc⟩:=bind_some hc
  split at hc
  ·obtain⟨_,_,hc⟩:=bind_some hc
   obtain⟨_,_,hc⟩:=bind_some hc
   split at hc
   ·simp only[Option.some.injEq] at hc;subst hc;cases he
   ·cases hc
  ·cases hc
 case field t y i=>
  exfalso
  obtain⟨_,_,hc⟩:=bind_some hc
  split at hc
  ·obtain⟨_,_,hc⟩:=bind_some hc
   obtain⟨_,_,hc⟩:=bind_some hc
   obtain⟨_,_,hc⟩:=bind_some hc
   simp only[Option.some.injEq] at hc;subst hc;cases he
  ·cases hc
 case indexAddr t y i=>
  exfalso
  obtain⟨_,_,hc⟩:=bind_some hc
  obtain⟨_,_,hc⟩:=bind_some hc
  split at hc
  ·obtain⟨_,_,hc⟩:=bind_some hc
   simp only[Option.some.injEq] at hc;subst hc;cases he
  ·obtain⟨_,_,hc⟩:=bind_some hc
   simp only[Option.some.injEq] at hc;subst hc;cases he
  ·cases hc
 case index t y i=>
  exfalso
  obtain⟨_,_,hc⟩:=bind_some hc
  obtain⟨_,_,hc⟩:=bind_some hc
  split at hc
  ·simp only[Option.some.injEq] at hc;subst hc;cases he
  ·obtain⟨_,_,hc⟩:=bind_some hc
   obtain⟨_,_,hc⟩:=bind_some hc
   simp only[Option.some.injEq] at hc;subst hc;cases he
  ·cases hc
 case extract y i=>
  exfalso
  obtain⟨_,_,hc⟩:=bind_some hc
  simp only[Option.some.injEq] at hc;subst hc;cases he
 case build t ps=>
  exfalso
  obtain⟨_,_,hc⟩:=bind_some hc
  split at hc
  ·obtain⟨_,_,hc⟩:=bind_some hc
   obtain⟨_,_,hc⟩:=bind_some hc
   obtain⟨_,_,hc⟩:=bind_some hc
   simp only[Option.some.injEq] at hc;subst hc;cases he
  ·obtain⟨_,_,hc⟩:=bind_some hc
   obtain⟨_,_,hc⟩:=bind_some hc
   simp only[Option.some.injEq] at hc;subst hc;cases he
  ·cases hc
 case load t y=>
  exfalso
  obtain⟨_,_,hc⟩:=bind_some hc
  obtain⟨_,_,hc⟩:=bind_some hc
  obtain⟨_,_,hc⟩:=bind_some hc
  split at hc
  ·simp only[Option.some.injEq] at hc;subst hc;cases he
  ·cases hc
 case lookup t y i ok=>exact⟨t,y,i,ok,rfl⟩
 case makeMap t rr=>
  exfalso
  obtain⟨_,_,hc⟩:=bind_some hc
  split at hc
  ·obtain⟨_,_,hc⟩:=bind_some hc
   simp only[Option.some.injEq] at hc;subst hc;cases he
  ·cases hc
 case mapUpdate t m k v=>
  exfalso
  obtain⟨_,_,hc⟩:=bind_some hc
  obtain⟨_,_,hc⟩:=bind_some hc
  obtain⟨_,_,hc⟩:=bind_some hc
  split at hc
  ·obtain⟨_,_,hc⟩:=bind_some hc
   simp only[Option.some.injEq] at hc;subst hc;cases he
  ·cases hc
 case alloc t=>
  exfalso
  obtain⟨_,_,hc⟩:=bind_some hc
  simp only[Option.some.injEq] at hc;subst hc;cases he
 case box t y=>
  exfalso
  obtain⟨_,_,hc⟩:=bind_some hc
  simp only[Option.some.injEq] at hc;subst hc;cases he
 case range t y=>
  exfalso
  obtain⟨_,_,hc⟩:=bind_some hc
  split at hc
  ·simp only[Option.some.injEq] at hc;subst hc;cases he
  ·cases hc
 case next y b=>
  exfalso
  obtain⟨_,_,hc⟩:=bind_some hc
  cases b
  ·simp only[Option.some.injEq] at hc;subst hc;cases he
  ·cases hc
 case entry y=>
  exfalso
  obtain⟨_,_,hc⟩:=bind_some hc
  simp only[Option.some.injEq] at hc;subst hc;cases he
 case buildSlice t n ps=>
  exfalso
  obtain⟨_,_,hc⟩:=bind_some hc
  split at hc
  ·obtain⟨_,_,hc⟩:=bind_some hc
   split at hc
   ·simp only[Option.some.injEq] at hc;subst hc;cases he
   ·split at hc
    ·simp only[Option.some.injEq] at hc;subst hc;cases he
    ·cases hc
  ·cases hc
 case makeSlice t l c=>
  exfalso
  obtain⟨_,_,hc⟩:=bind_some hc
  obtain⟨_,_,hc⟩:=bind_some hc
  split at hc
  ·obtain⟨_,_,hc⟩:=bind_some hc
   obtain⟨_,_,hc⟩:=bind_some hc
   split at hc
   ·simp only[Option.some.injEq] at hc;subst hc;cases he
   ·cases hc
  ·cases hc
 case store t a v=>
  exfalso
  obtain⟨_,_,hc⟩:=bind_some hc
  obtain⟨_,_,hc⟩:=bind_some hc
  obtain⟨_,_,hc⟩:=bind_some hc
  simp only[Option.some.injEq] at hc;subst hc;cases he
 case call c=>
  obtain⟨callee,args,ats⟩:=c
  cases callee<;>simp only at hc<;>try (exfalso;obtain⟨_,_,hc⟩:=bind_some hc;obtain⟨_,_,hc⟩:=bind_some hc;simp only[Option.some.injEq] at hc;subst hc;cases he;done)
  rename_i b
  cases b<;>simp only at hc<;>try (cases hc;done)
  case append=>
   exfalso
   split at hc
   ·obtain⟨_,_,hc⟩:=bind_some hc
    obtain⟨_,_,hc⟩:=bind_some hc
    split at hc
    ·obtain⟨_,_,hc⟩:=bind_some hc
     obtain⟨_,_,hc⟩:=bind_some hc
     split at hc
     ·simp only[Option.some.injEq] at hc;subst hc;cases he
     ·split at hc
      ·split at hc
       ·simp only[Option.some.injEq] at hc;subst hc;cases he
       ·cases hc
      ·cases hc
    ·cases hc
   ·cases hc
  case len=>
   exfalso
   split at hc
   ·obtain⟨_,_,hc⟩:=bind_some hc
    split at hc
    ·simp only[Option.some.injEq] at hc;subst hc;cases he
    ·simp only[Option.some.injEq] at hc;subst hc;cases he
    ·simp only[Option.some.injEq] at hc;subst hc;cases he
    ·cases hc
   ·cases hc
  case cap=>
   exfalso
   split at hc
   ·obtain⟨_,_,hc⟩:=bind_some hc
    split at hc
    ·simp only[Option.some.injEq] at hc;subst hc;cases he
    ·cases hc
   ·cases hc
  case min=>
   exfalso
   split at hc
   ·obtain⟨_,_,hc⟩:=bind_some hc
    obtain⟨_,_,hc⟩:=bind_some hc
    simp only[Option.some.injEq] at hc;subst hc;cases he
   ·cases hc
  case max=>
   exfalso
   split at hc
   ·obtain⟨_,_,hc⟩:=bind_some hc
    obtain⟨_,_,hc⟩:=bind_some hc
    simp only[Option.some.injEq] at hc;subst hc;cases he
   ·cases hc
def QLe:MOp→Bool
 | .slc _ _ _ _ _=>true
 | _=>false
theorem QJs {o:Oper}{m:MOp}(hc:cop P o=some m)(he:QLe m=true):∃t y lo hi mx,o.op=.slice t y lo hi mx:=by
 obtain⟨dst,op,type,pos,after,guard⟩:=o
 cases op<;>simp only[cop] at hc<;>try (cases hc;done)
 case move y=>
  exfalso
  obtain⟨_,_,hc⟩:=bind_some hc
  simp only[Option.some.injEq] at hc;subst hc;cases he
 case assign y=>
  exfalso
  obtain⟨_,_,hc⟩:=bind_some hc
  simp only[Option.some.injEq] at hc;subst hc;cases he
 case pick c a b=>
  exfalso
  obtain⟨_,_,hc⟩:=bind_some hc
  obtain⟨_,_,hc⟩:=bind_some hc
  obtain⟨_,_,hc⟩:=bind_some hc
  simp only[Option.some.injEq] at hc;subst hc;cases he
 case nilCheck y=>
  exfalso
  obtain⟨_,_,hc⟩:=bind_some hc
  simp only[Option.some.injEq] at hc;subst hc;cases he
 case binOp op t y z yt=>
  exfalso
  obtain⟨_,_,hc⟩:=bind_some hc
  obtain⟨_,_,hc⟩:=bind_some hc
  obtain⟨_,_,hc⟩:=bind_some hc
  split at hc
  ·simp only[Option.some.injEq] at hc;subst hc;cases he
  ·split at hc
   ·split at hc
    ·cases hc
    ·obtain⟨_,_,hc⟩:=bind_some hc
     cases op<;>simp only at hc<;>first | (cases hc;done) | (simp only[Option.some.injEq] at hc;subst hc;cases he)
   ·obtain⟨_,_,hc⟩:=bind_some hc
    cases op<;>simp only at hc<;>first | (cases hc;done) | (simp only[Option.some.injEq] at hc;subst hc;cases he)
 case unOp op t y=>
  exfalso
  obtain⟨_,_,hc⟩:=bind_some hc
  cases op<;>simp only at hc<;>first | (cases hc;done) | (simp only[Option.some.injEq] at hc;subst hc;cases he)
 case convert s d y=>
  exfalso
  obtain⟨_,_,hc⟩:=bind_some hc
  split at hc
  ·simp only[Option.some.injEq] at hc;subst hc;cases he
  ·cases hc
 case typeAssert y xt a ok=>
  exfalso
  obtain⟨_,_,hc⟩:=bind_some hc
  obtain⟨_,_,hc⟩:=bind_some hc
  split at hc
  ·cases hc
  ·cases ok with
   | false=>cases hc
   | true=>simp only[Option.some.injEq] at hc;subst hc;cases he
 case makeInterface t y=>
  exfalso
  obtain⟨_,_,hc⟩:=bind_some hc
  obtain⟨_,_,hc⟩:=bind_some hc
  split at hc
  ·cases hc
  ·simp only[Option.some.injEq] at hc;subst hc;cases he
 case makeFunc f a b=>
  exfalso
  obtain⟨_,_,hc⟩:=bind_some hc
  obtain⟨_,_,hc⟩:=bind_some hc
  simp only[Option.some.injEq] at hc;subst hc;cases he
 case slice t y lo hi mx=>exact⟨t,y,lo,hi,mx,rfl⟩
 case fieldAddr t y i=>
  exfalso
  obtain⟨_,_,hc⟩:=bind_some hc
  split at hc
  ·obtain⟨_,_,hc⟩:=bind_some hc
   obtain⟨_,_,hc⟩:=bind_some hc
   split at hc
   ·simp only[Option.some.injEq] at hc;subst hc;cases he
   ·cases hc
  ·cases hc
 case field t y i=>
  exfalso
  obtain⟨_,_,hc⟩:=bind_some hc
  split at hc
  ·obtain⟨_,_,hc⟩:=bind_some hc
   obtain⟨_,_,hc⟩:=bind_some hc
   obtain⟨_,_,hc⟩:=bind_some hc
   simp only[Option.some.injEq] at hc;subst hc;cases he
  ·cases hc
 case indexAddr t y i=>
  exfalso
  obtain⟨_,_,hc⟩:=bind_some hc
  obtain⟨_,_,hc⟩:=bind_some hc
  split at hc
  ·obtain⟨_,_,hc⟩:=bind_some hc
   simp only[Option.some.injEq] at hc;subst hc;cases he
  ·obtain⟨_,_,hc⟩:=bind_some hc
   simp only[Option.some.injEq] at hc;subst hc;cases he
  ·cases hc
 case index t y i=>
  exfalso
  obtain⟨_,_,hc⟩:=bind_some hc
  obtain⟨_,_,hc⟩:=bind_some hc
  split at hc
  ·simp only[Option.some.injEq] at hc;subst hc;cases he
  ·obtain⟨_,_,hc⟩:=bind_some hc
   obtain⟨_,_,hc⟩:=bind_some hc
   simp only[Option.some.injEq] at hc;subst hc;cases he
  ·cases hc
 case extract y i=>
  exfalso
  obtain⟨_,_,hc⟩:=bind_some hc
  simp only[Option.some.injEq] at hc;subst hc;cases he
 case build t ps=>
  exfalso
  obtain⟨_,_,hc⟩:=bind_some hc
  split at hc
  ·obtain⟨_,_,hc⟩:=bind_some hc
   obtain⟨_,_,hc⟩:=bind_some hc
   obtain⟨_,_,hc⟩:=bind_some hc
   simp only[Option.some.injEq] at hc;subst hc;cases he
  ·obtain⟨_,_,hc⟩:=bind_some hc
   obtain⟨_,_,hc⟩:=bind_some hc
   simp only[Option.some.injEq] at hc;subst hc;cases he
  ·cases hc
 case load t y=>
  exfalso
  obtain⟨_,_,hc⟩:=bind_some hc
  obtain⟨_,_,hc⟩:=bind_some hc
  obtain⟨_,_,hc⟩:=bind_some hc
  split at hc
  ·simp only[Option.some.injEq] at hc;subst hc;cases he
  ·cases hc
 case lookup t y i ok=>
  exfalso
  obtain⟨_,_,hc⟩:=bind_some hc
  obtain⟨_,_,hc⟩:=bind_some hc
  split at hc
  ·obtain⟨_,_,hc⟩:=bind_some hc
   obtain⟨_,_,hc⟩:=bind_some hc
   simp only[Option.some.injEq] at hc;subst hc;cases he
  ·cases hc
 case makeMap t rr=>
  exfalso
  obtain⟨_,_,hc⟩:=bind_some hc
  split at hc
  ·obtain⟨_,_,hc⟩:=bind_some hc
   simp only[Option.some.injEq] at hc;subst hc;cases he
  ·cases hc
 case mapUpdate t m k v=>
  exfalso
  obtain⟨_,_,hc⟩:=bind_some hc
  obtain⟨_,_,hc⟩:=bind_some hc
  obtain⟨_,_,hc⟩:=bind_some hc
  split at hc
  ·obtain⟨_,_,hc⟩:=bind_some hc
   simp only[Option.some.injEq] at hc;subst hc;cases he
  ·cases hc
 case alloc t=>
  exfalso
  obtain⟨_,_,hc⟩:=bind_some hc
  simp only[Option.some.injEq] at hc;subst hc;cases he
 case box t y=>
  exfalso
  obtain⟨_,_,hc⟩:=bind_some hc
  simp only[Option.some.injEq] at hc;subst hc;cases he
 case range t y=>
  exfalso
  obtain⟨_,_,hc⟩:=bind_some hc
  split at hc
  ·simp only[Option.some.injEq] at hc;subst hc;cases he
  ·cases hc
 case next y b=>
  exfalso
  obtain⟨_,_,hc⟩:=bind_some hc
  cases b
  ·simp only[Option.some.injEq] at hc;subst hc;cases he
  ·cases hc
 case entry y=>
  exfalso
  obtain⟨_,_,hc⟩:=bind_some hc
  simp only[Option.some.injEq] at hc;subst hc;cases he
 case buildSlice t n ps=>
  exfalso
  obtain⟨_,_,hc⟩:=bind_some hc
  split at hc
  ·obtain⟨_,_,hc⟩:=bind_some hc
   split at hc
   ·simp only[Option.some.injEq] at hc;subst hc;cases he
   ·split at hc
    ·simp only[Option.some.injEq] at hc;subst hc;cases he
    ·cases hc
  ·cases hc
 case makeSlice t l c=>
  exfalso
  obtain⟨_,_,hc⟩:=bind_some hc
  obtain⟨_,_,hc⟩:=bind_some hc
  split at hc
  ·obtain⟨_,_,hc⟩:=bind_some hc
   obtain⟨_,_,hc⟩:=bind_some hc
   split at hc
   ·simp only[Option.some.injEq] at hc;subst hc;cases he
   ·cases hc
  ·cases hc
 case store t a v=>
  exfalso
  obtain⟨_,_,hc⟩:=bind_some hc
  obtain⟨_,_,hc⟩:=bind_some hc
  obtain⟨_,_,hc⟩:=bind_some hc
  simp only[Option.some.injEq] at hc;subst hc;cases he
 case call c=>
  obtain⟨callee,args,ats⟩:=c
  cases callee<;>simp only at hc<;>try (exfalso;obtain⟨_,_,hc⟩:=bind_some hc;obtain⟨_,_,hc⟩:=bind_some hc;simp only[Option.some.injEq] at hc;subst hc;cases he;done)
  rename_i b
  cases b<;>simp only at hc<;>try (cases hc;done)
  case append=>
   exfalso
   split at hc
   ·obtain⟨_,_,hc⟩:=bind_some hc
    obtain⟨_,_,hc⟩:=bind_some hc
    split at hc
    ·obtain⟨_,_,hc⟩:=bind_some hc
     obtain⟨_,_,hc⟩:=bind_some hc
     split at hc
     ·simp only[Option.some.injEq] at hc;subst hc;cases he
     ·split at hc
      ·split at hc
       ·simp only[Option.some.injEq] at hc;subst hc;cases he
       ·cases hc
      ·cases hc
    ·cases hc
   ·cases hc
  case len=>
   exfalso
   split at hc
   ·obtain⟨_,_,hc⟩:=bind_some hc
    split at hc
    ·simp only[Option.some.injEq] at hc;subst hc;cases he
    ·simp only[Option.some.injEq] at hc;subst hc;cases he
    ·simp only[Option.some.injEq] at hc;subst hc;cases he
    ·cases hc
   ·cases hc
  case cap=>
   exfalso
   split at hc
   ·obtain⟨_,_,hc⟩:=bind_some hc
    split at hc
    ·simp only[Option.some.injEq] at hc;subst hc;cases he
    ·cases hc
   ·cases hc
  case min=>
   exfalso
   split at hc
   ·obtain⟨_,_,hc⟩:=bind_some hc
    obtain⟨_,_,hc⟩:=bind_some hc
    simp only[Option.some.injEq] at hc;subst hc;cases he
   ·cases hc
  case max=>
   exfalso
   split at hc
   ·obtain⟨_,_,hc⟩:=bind_some hc
    obtain⟨_,_,hc⟩:=bind_some hc
    simp only[Option.some.injEq] at hc;subst hc;cases he
   ·cases hc
theorem QJq {o:Oper}{k:Nat}{x:Opd}{lo hi mx:Option Opd}(hc:cop P o=some (.slc k x lo hi mx)):∃t e y lo' hi' mx',o.op=.slice t y lo' hi' mx'∧c1 y=some x∧c1O lo'=some lo∧c1O hi'=some hi∧c1O mx'=some mx∧P.underlying t=some (.slice e)∧szO P e=some k:=by
 obtain⟨t,y,lo',hi',mx',ho⟩:=QJs hc rfl
 obtain⟨dst,op,type,pos,after,guard⟩:=o
 simp only at ho
 subst ho
 simp only[cop] at hc
 obtain⟨_,h1,hc⟩:=bind_some hc
 obtain⟨_,h2,hc⟩:=bind_some hc
 obtain⟨_,h3,hc⟩:=bind_some hc
 obtain⟨_,h4,hc⟩:=bind_some hc
 split at hc
 ·rename_i e hu
  obtain⟨k',h5,hc⟩:=bind_some hc
  simp only[Option.some.injEq,MOp.slc.injEq] at hc
  obtain⟨rfl,rfl,rfl,rfl,rfl⟩:=hc
  exact⟨t,e,y,lo',hi',mx',rfl,h1,h2,h3,h4,hu,h5⟩
 ·split at hc
  ·cases hc
  ·cases hc
 ·obtain⟨_,_,hc⟩:=bind_some hc
  cases hc
 ·cases hc
theorem QJr {o:Oper}{d:KD}{z:FV}{ok:Bool}{x k:Opd}(hc:cop P o=some (.lkp d z ok x k)):∃t a b kt et,o.op=.lookup t a b ok∧c1 a=some x∧c1 b=some k∧P.underlying t=some (.map kt et)∧kdO P kt=some d∧zvO P et=some z:=by
 obtain⟨t,a,b,ok',ho⟩:=QJt hc rfl
 obtain⟨dst,op,type,pos,after,guard⟩:=o
 simp only at ho
 subst ho
 simp only[cop] at hc
 obtain⟨a',h1,hc⟩:=bind_some hc
 obtain⟨b',h2,hc⟩:=bind_some hc
 split at hc
 ·rename_i kt et hu
  obtain⟨d',h3,hc⟩:=bind_some hc
  obtain⟨z',h4,hc⟩:=bind_some hc
  simp only[Option.some.injEq,MOp.lkp.injEq] at hc
  obtain⟨rfl,rfl,rfl,rfl,rfl⟩:=hc
  exact⟨t,a,b,kt,et,rfl,h1,h2,hu,h3,h4⟩
 ·cases hc
theorem QtH [Gd]{cl:FV→List FV→TH→(FV→TH→Prop)→Prop}(hcl:ClOk P cl){E:Env}{th:TH}{h0 h:Heap}{L:List HP}{ρ:Operand→Value}{fr:Fr}{o:Oper}{m:MOp}{K:FV→TH→Prop}(r:Rep E th h0 h L)(hρ:AgO E fr ρ)(hc:copA P o=some m)(hx:evXA cl fr th m K):Sx P (execOp ρ o) h (Post E h0 L K):=by
 cases m with
 | xx x=>exact QJb r hρ (QHI hc) hx
 | slc k x lo hi mx=>
  obtain⟨t,e,y,lo',hi',mx',ho,h1,h2,h3,h4,hu,hk⟩:=QJq (Qqe hc fun _ h=>by cases h)
  simp only[evXA,xSlo] at hx
  cases lo with
  | some _=>exact hx.elim
  | none=>
   cases mx with
   | some _=>exact hx.elim
   | none=>
    simp only at hx
    cases hb:bdN fr hi with
    | none=>rw[hb] at hx;exact hx.elim
    | some q=>
     rw[hb] at hx
     cases q with
     | none=>exact hx.elim
     | some n=>
      simp only at hx
      cases hv:evO fr x with
      | none=>rw[hv] at hx;exact hx.elim
      | some v=>
       rw[hv] at hx
       cases v<;>try (exact hx.elim)
       rename_i tt i
       simp only at hx
       have el:lo'=none:=by
        cases lo' with
        | none=>rfl
        | some z=>simp only[c1O] at h2;cases hz:c1 z<;>rw[hz] at h2<;>simp at h2
       have em:mx'=none:=by
        cases mx' with
        | none=>rfl
        | some z=>simp only[c1O] at h4;cases hz:c1 z<;>rw[hz] at h4<;>simp at h4
       subst el em
       have key:=QJ4 r hu hk (hρ y x _ h1 hv) (w:=hi'.map ρ) (fun h0=>Qpf hρ h3 hb fun m hm=>by simp only[Option.some.injEq] at hm;subst hm;exact h0) hx
       obtain⟨dst,op,type,pos,after,guard⟩:=o
       simp only at ho
       subst ho
       have eo:∀z:Option Operand,oarr ρ z=z.map ρ:=fun z=>by cases z<;>rfl
       have k2:QfD P t (ρ y) (oarr ρ none) (oarr ρ hi') (oarr ρ none) fun v=>Post E h0 L K v h:=by
        rw[eo,eo];exact key
       have k3:Sq P (Eq h) (execOp ρ ⟨dst,.slice t y none hi' none,type,pos,after,guard⟩) fun v=>Post E h0 L K v h:=Qnu (show QfD P t (ρ y) (oarr ρ none) (oarr ρ hi') (oarr ρ none) _ from k2)
       exact Sq.toX k3 fun _ hv=>hv
 | lkp d z ok x k=>
  obtain⟨t,a,b,kt,et,ho,h1,h2,hu,hd,hz⟩:=QJr (Qqe hc fun _ h=>by cases h)
  simp only[evXA,xLkm] at hx
  cases ha:evO fr x with
  | none=>rw[ha] at hx;exact hx.elim
  | some av=>
   cases hb:evO fr k with
   | none=>rw[ha,hb] at hx;exact hx.elim
   | some bv=>
    rw[ha,hb] at hx
    have key:=QKl r hu hd hz (hρ a x av h1 ha) (hρ b k bv h2 hb) hx
    obtain⟨dst,op,type,pos,after,guard⟩:=o
    simp only at ho
    subst ho
    exact key
 | _=>exact QKy hcl r hρ (Qqe hc fun _ h=>by cases h) hx
theorem QJe {E:Env}{th:TH}{h0 h:Heap}{L:List HP}{ρ:Operand→Value}{fr:Fr}{o:Oper}{m:MOp}{x:FV}(r:Rep E th h0 h L)(hρ:AgO E fr ρ)(hc:copA P o=some m)(hx:evQ fr th.t m=some x)(ho:obH x):Sq P (Eq h) (execOp ρ o) fun v=>den E (strip x)=some v:=by
 refine QKB r hρ (Qqe hc fun x h=>?_) hx ho
 subst h
 simp[evQ,evQ0,evZ] at hx
end Go.Va
